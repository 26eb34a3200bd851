/-
  term.Up, Deep; the document's Up, Deep.
-/
import Derived.Test.YtfldmpmaifjcbaaTermP
set_option linter.unusedSimpArgs false
namespace Go.Proofs.Ytfldmpmaifjcbaa
open Go Go.Hs


theorem upF_not {l : List Tm} (h : rightF l = false) : upF l = [] := by rw [upF, h]; rfl
theorem node_in {l : List Tm} {o : List Int} (h : Term l o) {i : Nat} (hi : i < l.length) : -1 ≤ (tAt l i).a ∧ (tAt l i).a < i ∧ -1 ≤ (tAt l i).b ∧ (tAt l i).b < i := by
  rcases h.node i hi with ⟨h1, h2, h3, h4⟩ | ⟨h1, c, d, h2, h3, h4, h5, h6⟩ | ⟨h1, d, h2, h3, h4, h5⟩
  · omega
  · have := h.low d; omega
  · omega

/-! Deep. -/
def deepS (up : List Int) : Nat → List Int
  | 0 => List.replicate up.length 0
  | r + 1 => (deepS up r).set (up.length - (r + 1)) (1 + (if 0 ≤ up.getD (up.length - (r + 1)) 0 then (deepS up r).getD (up.getD (up.length - (r + 1)) 0).toNat 0 else 0))
def deepF (l : List Tm) : List Int := deepS (upF l) (upF l).length

theorem deepS_length {up : List Int} : ∀ r, (deepS up r).length = up.length
  | 0 => by simp [deepS]
  | r + 1 => by simp [deepS, deepS_length r]
theorem deepS_le {up : List Int} : ∀ r j, 0 ≤ (deepS up r).getD j 0 ∧ (deepS up r).getD j 0 ≤ r
  | 0, j => by
    simp only [deepS, List.getD_eq_getElem?_getD, List.getElem?_replicate]
    split <;> simp
  | r + 1, j => by
    have ih := deepS_le (up := up) r
    simp only [deepS]
    by_cases e : up.length - (r + 1) = j
    · subst e
      by_cases hl : up.length - (r + 1) < (deepS up r).length
      · rw [getD_set_same hl]
        have := ih (up.getD (up.length - (r + 1)) 0).toNat
        split <;> omega
      · rw [List.set_eq_of_length_le (by omega)]
        have := ih (up.length - (r + 1)); omega
    · rw [getD_set_other e]; have := ih j; omega

theorem upF_in {l : List Tm} {j : Nat} (hj : j < (upF l).length) : -1 ≤ (upF l).getD j 0 ∧ (upF l).getD j 0 < (upF l).length ∧ (upF l).getD j 0 ≠ j := by
  cases hr : rightF l with
  | false => rw [upF_not hr] at hj; simp at hj
  | true =>
    have hl := upF_length (l := l)
    rw [if_pos hr] at hl
    rcases upF_get hr (j := j) (by omega) with ⟨h1, h2⟩ | ⟨p, p1, p2, p3, p4⟩ <;> omega

end Go.Proofs.Ytfldmpmaifjcbaa
