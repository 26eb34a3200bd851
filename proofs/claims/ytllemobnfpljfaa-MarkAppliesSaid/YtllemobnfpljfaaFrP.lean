/-
  PLAIN: rows of numbers, each nil or owned; what opens and closes in a list of entries.
-/
import Derived.Test.YtllemobnfpljfaaTree5
set_option linter.unusedSimpArgs false
set_option linter.unusedVariables false
namespace Go.Proofs.Ytllemobnfpljfaa
open Go Go.Hs

abbrev RO := Option (Blk × List Int)
def roV (o : RO) : List Int := (o.map (·.2)).getD []
def rV (R : List RO) : List (List Int) := R.map roV
def roAt (R : List RO) (i : Nat) : RO := R.getD i none
theorem splice1 {x y : AC} : splice [x] 0 [y] = [y] := rfl
def addO (o : List (List Int)) (i : Nat) (v : Int) : List (List Int) := o.set i (o.getD i [] ++ [v])
/-- Rows have no more than c numbers. -/
def RB (o : List (List Int)) (c : Nat) : Prop := ∀ i, (o.getD i []).length ≤ c
theorem RB.at {R : List RO} {c : Nat} (h : RB (rV R) c) (i : Nat) : (roV (roAt R i)).length ≤ c := by
  have := h i
  by_cases hi : i < R.length
  · rwa [show (rV R).getD i [] = roV (roAt R i) by unfold rV roAt; simp [List.getD_eq_getElem?_getD, hi]] at this
  · rw [show roAt R i = none by unfold roAt; rw [List.getD_eq_getElem?_getD, List.getElem?_eq_none (by omega)]; rfl]
    exact Nat.zero_le _
theorem RB.add {o : List (List Int)} {c : Nat} (h : RB o c) (i : Nat) (v : Int) : RB (addO o i v) (c + 1) := by
  intro j
  unfold addO
  by_cases e : i = j
  · subst e
    by_cases hl : i < o.length
    · rw [List.getD_eq_getElem?_getD, List.getElem?_set_self hl]
      have := h i
      simp only [Option.getD_some, List.length_append, List.length_cons, List.length_nil]; omega
    · rw [List.set_eq_of_length_le (by omega)]; have := h i; omega
  · rw [List.getD_eq_getElem?_getD, List.getElem?_set_ne e, ← List.getD_eq_getElem?_getD]; have := h j; omega
theorem RB.mono {o : List (List Int)} {c d : Nat} (h : RB o c) (hd : c ≤ d) : RB o d := fun i => Nat.le_trans (h i) hd
/-- An entry that lies in bytes. -/
structure ELie (n : Nat) (x : En) : Prop where
  d : 1 ≤ x.d
  n0 : 0 ≤ x.n
  n1 : x.n ≤ 1000000
  f0 : 0 ≤ x.f
  ft : x.f ≤ x.t
  t1 : x.t < n

end Go.Proofs.Ytllemobnfpljfaa
