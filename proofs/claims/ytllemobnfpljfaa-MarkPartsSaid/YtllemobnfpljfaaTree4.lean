/-
  Parts of a proof, side by side.
-/
import Derived.Test.YtllemobnfpljfaaTree2
/-
  tree.checker.node, tree.Right.
-/
set_option linter.unusedSimpArgs false
set_option linter.unusedVariables false
namespace Go.Proofs.Ytllemobnfpljfaa
open Go Go.Hs


theorem getE1o {z : AC} {l : List En} {i j : Nat} (h : l.length ≤ i) : getC z (enRows l) i j = z := by
  unfold getC
  simp [enRows, List.getD_eq_getElem?_getD, h]
def stOf (t : Tm) : St := ⟨t.s0, t.s1, t.s2, t.s3⟩
end Go.Proofs.Ytllemobnfpljfaa

/-
  tree.Right; (*tree.grower).step.
-/
set_option linter.unusedSimpArgs false
set_option linter.unusedVariables false
namespace Go.Proofs.Ytllemobnfpljfaa
open Go Go.Hs


def stepF (s fr : Int) (out : List En) (op : List Nat) : Bool × List En × List Nat :=
  if s < 0 ∨ (op = [] ∧ out ≠ []) then (false, out, op)
  else if s % 2 = 0 then (true, out ++ [⟨((op.length + 1 : Nat) : Int), s / 2, fr, 0⟩], out.length :: op)
  else match op with
    | [] => (false, out, [])
    | j :: op => ((enAt out j).n == s / 2, out.set j ⟨(enAt out j).d, (enAt out j).n, (enAt out j).f, fr⟩, op)

theorem step_le {s fr : Int} {out : List En} {op : List Nat} (h : ∀ j ∈ op, j < out.length) : ∀ j ∈ (stepF s fr out op).2.2, j < (stepF s fr out op).2.1.length := by
  unfold stepF
  split
  · exact h
  · split
    · intro j hj
      simp only [List.length_append, List.length_cons, List.length_nil] at hj ⊢
      cases hj with
      | head => omega
      | tail _ hj => have := h j hj; omega
    · cases op with
      | nil => intro j hj; cases hj
      | cons x op => intro j hj; simp only [List.length_set]; exact h j (List.mem_cons_of_mem _ hj)

end Go.Proofs.Ytllemobnfpljfaa
