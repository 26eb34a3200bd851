/-
  PLAIN: which registers matter: the least table that is closed.
-/
import Derived.Test.YtglgmmoomlnghaaDfP
import Derived.Test.YtglgmmoomlnghaaBoO
set_option linter.unusedSimpArgs false
set_option linter.unusedVariables false
namespace Go.Proofs.Ytglgmmoomlnghaa
open Go Go.Hs

def bGet (T : List (List Bool)) (i n : Nat) : Bool := (bAt T i).getD n false
def bSet (T : List (List Bool)) (i n : Nat) : List (List Bool) := T.set i ((bAt T i).set n true)
structure Shp (d : Df) (T : List (List Bool)) : Prop where
  len : T.length = d.sts.length
  row : ∀ i,i < d.sts.length → ((bAt T i).length : Int) = (stAt d.sts i).regs
def Fst (d : Df) (T : List (List Bool)) : Prop := ∀ i,i < d.sts.length → ∀ t,t < (stAt d.sts i).acc.length → 0 ≤ (stAt d.sts i).acc.getD t 0 → bGet T i ((stAt d.sts i).acc.getD t 0).toNat = true
/-- At one place of one edge nothing lacks. -/
def CloAt (d : Df) (T : List (List Bool)) (i c k : Nat) : Prop := 0 ≤ (edAt (stAt d.sts i).eds c).src.getD k 0 → bGet T (edAt (stAt d.sts i).eds c).to.toNat k = true → bGet T i ((edAt (stAt d.sts i).eds c).src.getD k 0).toNat = true
def Clo (d : Df) (T : List (List Bool)) : Prop := ∀ i,i < d.sts.length → ∀ c,c < (stAt d.sts i).eds.length → ∀ k,k < (edAt (stAt d.sts i).eds c).src.length → CloAt d T i c k
def Leq (T M : List (List Bool)) : Prop := ∀ i n,bGet T i n = true → bGet M i n = true
structure Inv (d : Df) (T : List (List Bool)) : Prop where
  shp : Shp d T
  fst : Fst d T
  leq : ∀ M,Fst d M → Clo d M → Leq T M
structure Live (d : Df) (T : List (List Bool)) : Prop where
  inv : Inv d T
  clo : Clo d T
theorem bAt_set {T : List (List Bool)} {i j : Nat} {r : List Bool} (h : i < T.length) : bAt (T.set i r) j = if j = i then r else bAt T j := by
  unfold bAt
  simp only [List.getD_eq_getElem?_getD,List.getElem?_set]
  by_cases e : i = j
  · subst e;simp [h]
  · have : ¬ j = i := fun h => e h.symm
    simp [e,this]
theorem bGet_set {T : List (List Bool)} {i n j m : Nat} (h : i < T.length) (hn : n < (bAt T i).length) : bGet (bSet T i n) j m = if j = i ∧ m = n then true else bGet T j m := by
  unfold bGet bSet
  rw [bAt_set h]
  by_cases e : j = i
  · subst e
    rw [if_pos rfl]
    by_cases e2 : m = n
    · subst e2
      rw [if_pos ⟨rfl,rfl⟩,List.getD_eq_getElem?_getD,List.getElem?_set_self hn];rfl
    · rw [if_neg (fun h => e2 h.2),List.getD_eq_getElem?_getD,List.getElem?_set_ne (fun h => e2 h.symm),← List.getD_eq_getElem?_getD]
  · rw [if_neg e,if_neg (fun h => e h.1)]
theorem length_bSet {T : List (List Bool)} {i n : Nat} : (bSet T i n).length = T.length := by simp [bSet]
theorem row_bSet {T : List (List Bool)} {i n j : Nat} (h : i < T.length) : (bAt (bSet T i n) j).length = (bAt T j).length := by
  unfold bSet
  rw [bAt_set h]
  split
  · rename_i e;subst e;simp
  · rfl
theorem Shp.set {d : Df} {T : List (List Bool)} {i n : Nat} (h : Shp d T) (hi : i < d.sts.length) : Shp d (bSet T i n) :=
  ⟨by rw [length_bSet];exact h.len,fun j hj => by rw [row_bSet (by rw [h.len];exact hi)];exact h.row j hj⟩
/-- One register more, that must be. -/
theorem Inv.set {d : Df} {T : List (List Bool)} {i c k : Nat} (h : Inv d T) (hi : i < d.sts.length) (hc : c < (stAt d.sts i).eds.length) (hk : k < (edAt (stAt d.sts i).eds c).src.length) (h0 : 0 ≤ (edAt (stAt d.sts i).eds c).src.getD k 0) (hn : (edAt (stAt d.sts i).eds c).src.getD k 0 < (stAt d.sts i).regs) (ht : bGet T (edAt (stAt d.sts i).eds c).to.toNat k = true) :
    Inv d (bSet T i ((edAt (stAt d.sts i).eds c).src.getD k 0).toNat) := by
  have hl : i < T.length := by rw [h.shp.len];exact hi
  have hr := h.shp.row i hi
  have hn2 : ((edAt (stAt d.sts i).eds c).src.getD k 0).toNat < (bAt T i).length := by omega
  refine ⟨h.shp.set hi,fun j hj t h1 h2 => ?_,fun M f1 f2 j m hm => ?_⟩
  · rw [bGet_set hl hn2]
    split
    · rfl
    · exact h.fst j hj t h1 h2
  · rw [bGet_set hl hn2] at hm
    split at hm
    · rename_i e
      rw [e.1,e.2]
      exact f2 i hi c hc k hk h0 (h.leq M f1 f2 _ _ ht)
    · exact h.leq M f1 f2 j m hm
/-! How many registers are not known to matter. -/
/-! The names of those that matter. -/
def namesN (r : List Bool) : Nat → Nat
  | 0 => 0
  | n + 1 => namesN r n + if r.getD n false = true then 1 else 0
end Go.Proofs.Ytglgmmoomlnghaa
