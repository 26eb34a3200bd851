/-
  tree.Right; (*tree.grower).step.
-/
import Derived.Test.YtfldmpmaifjcbaaTree3
set_option linter.unusedSimpArgs false
set_option linter.unusedVariables false
namespace Go.Proofs.Ytfldmpmaifjcbaa
open Go Go.Hs
def opI (op : List Nat) : List Int := op.reverse.map fun n : Nat => (n : Int)
theorem length_opI {op : List Nat} : (opI op).length = op.length := by simp [opI]
theorem opI_nil : opI [] = [] := rfl
theorem opI_cons {j : Nat} {op : List Nat} : opI (j :: op) = opI op ++ [(j : Int)] := by simp [opI]
theorem getOpN {j k : Nat} {op : List Nat} (h : k = op.length) : (opI (j :: op)).getD k 0 = j := by
  subst h
  rw [opI_cons,List.getD_eq_getElem?_getD,List.getElem?_append_right (by rw [length_opI];omega),length_opI,Nat.sub_self]
  rfl
theorem opI_snoc {j : Nat} {op : List Nat} : kRows .i64 (opI op) ++ [[.im (.int .i64 (j : Int))]] = kRows .i64 (opI (j :: op)) := by rw [kRows_snoc,opI_cons]
theorem opI_snoc2 {j : Nat} {op : List Nat} : opI op ++ [(j : Int)] = opI (j :: op) := opI_cons.symm
theorem opI_take2 {j k : Nat} {op : List Nat} (h : k = op.length) : (opI (j :: op)).take k = opI op := by
  subst h
  rw [opI_cons,List.take_left' length_opI]
theorem opI_take {j k : Nat} {op : List Nat} (h : k = op.length) : (kRows .i64 (opI (j :: op))).take k = kRows .i64 (opI op) := by
  subst h
  rw [kRows_take,opI_cons,List.take_left' length_opI]
theorem opI_takeF {k : Nat} {op : List Nat} (h : op.length ≤ k) : (opI op).take k = opI op := List.take_of_length_le (by rw [length_opI];exact h)
theorem takeFull {α : Type} {l : List α} {k : Nat} (h : l.length ≤ k) : l.take k = l := List.take_of_length_le h
theorem enTake {l : List En} {k : Nat} (h : l.length ≤ k) : (enRows l).take k = enRows l := List.take_of_length_le (by rw [length_enRows];exact h)
theorem enSnoc {l : List En} {a b c d : Int} : enRows l ++ [[.im (.int .i64 a),.im (.int .i64 b),.im (.int .i64 c),.im (.int .i64 d)]] = enRows (l ++ [⟨a,b,c,d⟩]) := by simp [enRows,En.cs]
theorem enSet3 {l : List En} {i : Nat} {x : Int} : (enRows l).set i (splice ((enRows l).getD i []) 3 [.im (.int .i64 x)]) = enRows (l.set i ⟨(enAt l i).d,(enAt l i).n,(enAt l i).f,x⟩) := by
  by_cases h : i < l.length
  · have e : (enRows l).getD i [] = (enAt l i).cs := by simp [enRows,enAt,h]
    rw [e]
    simp [splice,enRows,List.map_set,En.cs]
  · rw [List.set_eq_of_length_le (by rw [length_enRows];omega),List.set_eq_of_length_le (by omega)]

theorem getE1set {z : AC} {l : List En} {i : Nat} {e : En} (h : i < l.length) : getC z (enRows (l.set i e)) i 1 = .im (.int .i64 e.n) := by
  rw [getE1 (by rw [List.length_set];exact h)]
  unfold enAt
  simp [List.getD_eq_getElem?_getD,h]
def tRight (l : List Tm) (w : List Int) (t : List En) : Bool := rightF l && ((nxF w t 0 1 ((l.length : Int) - 1) 0).2.1 && ((nxF w t 0 1 ((l.length : Int) - 1) 0).1.t == (w.length : Int)) && (nodeF l w t l.length (nxF w t 0 1 ((l.length : Int) - 1) 0).1 (nxF w t 0 1 ((l.length : Int) - 1) 0).2.2).1 && (((nodeF l w t l.length (nxF w t 0 1 ((l.length : Int) - 1) 0).1 (nxF w t 0 1 ((l.length : Int) - 1) 0).2.2).2 : Int) == (t.length : Int)))

attribute [local go_sem] AV.isS ck length_tRows wrap_in En.cs length_enRows getE0 getE1 getE2 getE3 getER dltT dltF eqT eqF beT beF length_opI getOpN enSnoc enSet3 Int.tdiv_eq_ediv_of_nonneg Int.tmod_eq_emod_of_nonneg opI_snoc opI_take opI_nil opI_snoc2 opI_take2 takeFull getE1set enTake opI_takeF

def stepF (s fr : Int) (out : List En) (op : List Nat) : Bool × List En × List Nat :=
  if s < 0 ∨ (op = [] ∧ out ≠ []) then (false,out,op)
  else if s % 2 = 0 then (true,out ++ [⟨((op.length + 1 : Nat) : Int),s / 2,fr,0⟩],out.length :: op)
  else match op with
    | [] => (false,out,[])
    | j :: op => ((enAt out j).n == s / 2,out.set j ⟨(enAt out j).d,(enAt out j).n,(enAt out j).f,fr⟩,op)

theorem step_le {s fr : Int} {out : List En} {op : List Nat} (h : ∀ j ∈ op,j < out.length) : ∀ j ∈ (stepF s fr out op).2.2,j < (stepF s fr out op).2.1.length := by
  unfold stepF
  split
  · exact h
  · split
    · intro j hj
      simp only [List.length_append,List.length_cons,List.length_nil] at hj ⊢
      cases hj with
      | head => omega
      | tail _ hj => have := h j hj;omega
    · cases op with
      | nil => intro j hj;cases hj
      | cons x op => intro j hj;simp only [List.length_set];exact h j (List.mem_cons_of_mem _ hj)

end Go.Proofs.Ytfldmpmaifjcbaa
