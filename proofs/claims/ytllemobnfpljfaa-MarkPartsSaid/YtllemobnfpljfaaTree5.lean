/-
  tree.Of.
-/
import Derived.Test.YtllemobnfpljfaaTree4
set_option linter.unusedSimpArgs false
set_option linter.unusedVariables false
namespace Go.Proofs.Ytllemobnfpljfaa
open Go Go.Hs


def rRows (m : List (List Int)) : List (List AC) := m.map fun r => [.sl 1 (kRows .i64 r)]
def rAt (m : List (List Int)) (i : Nat) : List Int := m.getD i []
theorem length_rRows {m : List (List Int)} : (rRows m).length = m.length := by simp [rRows]
theorem getRowT {z : AC} {m : List (List Int)} {i : Nat} (h : i < m.length) : getC z (rRows m) i 0 = .sl 1 (kRows .i64 (rAt m i)) := by
  unfold getC rAt
  simp [rRows, List.getD_eq_getElem?_getD, h]
def in64 (x : Int) : Prop := -9223372036854775808 ≤ x ∧ x ≤ 9223372036854775807

/-- What holds of the entries and of what is open, with k steps to come. -/
structure OI (out : List En) (op : List Nat) (k : Nat) : Prop where
  o1 : out.length + k ≤ 10000
  o2 : op.length ≤ out.length
  o3 : ∀ j ∈ op, j < out.length
theorem step_len {s fr : Int} {out : List En} {op : List Nat} : (stepF s fr out op).2.1.length ≤ out.length + 1 ∧ (op.length ≤ out.length → (stepF s fr out op).2.2.length ≤ (stepF s fr out op).2.1.length) := by
  unfold stepF
  split
  · exact ⟨by simp, fun h => h⟩
  · split
    · simp
    · cases op with
      | nil => simp
      | cons j op => simp; omega
theorem OI.step {out : List En} {op : List Nat} {k : Nat} (h : OI out op (k + 1)) (s fr : Int) : OI (stepF s fr out op).2.1 (stepF s fr out op).2.2 k := by
  have a := step_len (s := s) (fr := fr) (out := out) (op := op)
  have b := h.o1
  exact ⟨by omega, a.2 h.o2, step_le h.o3⟩
theorem iAt_mem {f : List Int} {i : Nat} (h : i < f.length) : f.getD i 0 ∈ f := by
  rw [List.getD_eq_getElem?_getD, List.getElem?_eq_getElem h]; exact List.getElem_mem _

end Go.Proofs.Ytllemobnfpljfaa
