/-
  PLAIN: which of two lists is ahead is an order.
-/
import Derived.Test.YtfldmpmaifjcbaaTree1
set_option linter.unusedSimpArgs false
set_option linter.unusedVariables false
namespace Go.Proofs.Ytfldmpmaifjcbaa
open Go Go.Hs

theorem sg_cases (a b : Int) : (sg a b = -1 ∧ a < b) ∨ (sg a b = 0 ∧ a = b) ∨ (sg a b = 1 ∧ b < a) := by
  unfold sg
  split
  · exact .inl ⟨rfl, by omega⟩
  · split
    · exact .inr (.inr ⟨rfl, by omega⟩)
    · exact .inr (.inl ⟨rfl, by omega⟩)
/-- The order of two entries, told by their numbers. -/
theorem vsF_cases (x y : En) : (vsF x y = -1 ∧ (y.d < x.d ∨ (x.d = y.d ∧ (x.n < y.n ∨ (x.n = y.n ∧ (x.f < y.f ∨ (x.f = y.f ∧ y.t < x.t))))))) ∨
    (vsF x y = 0 ∧ x.d = y.d ∧ x.n = y.n ∧ x.f = y.f ∧ x.t = y.t) ∨
    (vsF x y = 1 ∧ (x.d < y.d ∨ (x.d = y.d ∧ (y.n < x.n ∨ (x.n = y.n ∧ (y.f < x.f ∨ (x.f = y.f ∧ x.t < y.t))))))) := by
  unfold vsF
  rcases sg_cases y.d x.d with ⟨e1, h1⟩ | ⟨e1, h1⟩ | ⟨e1, h1⟩ <;> rw [e1]
  · rw [if_pos (by decide)]; exact .inl ⟨rfl, .inl h1⟩
  · rw [if_neg (by decide)]
    rcases sg_cases x.n y.n with ⟨e2, h2⟩ | ⟨e2, h2⟩ | ⟨e2, h2⟩ <;> rw [e2]
    · rw [if_pos (by decide)]; exact .inl ⟨rfl, .inr ⟨h1.symm, .inl h2⟩⟩
    · rw [if_neg (by decide)]
      rcases sg_cases x.f y.f with ⟨e3, h3⟩ | ⟨e3, h3⟩ | ⟨e3, h3⟩ <;> rw [e3]
      · rw [if_pos (by decide)]; exact .inl ⟨rfl, .inr ⟨h1.symm, .inr ⟨h2, .inl h3⟩⟩⟩
      · rw [if_neg (by decide)]
        rcases sg_cases y.t x.t with ⟨e4, h4⟩ | ⟨e4, h4⟩ | ⟨e4, h4⟩ <;> rw [e4]
        · exact .inl ⟨rfl, .inr ⟨h1.symm, .inr ⟨h2, .inr ⟨h3, h4⟩⟩⟩⟩
        · exact .inr (.inl ⟨rfl, h1.symm, h2, h3, h4.symm⟩)
        · exact .inr (.inr ⟨rfl, .inr ⟨h1.symm, .inr ⟨h2, .inr ⟨h3, h4⟩⟩⟩⟩)
      · rw [if_pos (by decide)]; exact .inr (.inr ⟨rfl, .inr ⟨h1.symm, .inr ⟨h2, .inl h3⟩⟩⟩)
    · rw [if_pos (by decide)]; exact .inr (.inr ⟨rfl, .inr ⟨h1.symm, .inl h2⟩⟩)
  · rw [if_pos (by decide)]; exact .inr (.inr ⟨rfl, .inl h1⟩)
theorem En.ext' {x y : En} (h1 : x.d = y.d) (h2 : x.n = y.n) (h3 : x.f = y.f) (h4 : x.t = y.t) : x = y := by
  cases x; cases y; simp_all
theorem vsF_refl (x : En) : vsF x x = 0 := by
  rcases vsF_cases x x with ⟨e, g⟩ | ⟨e, g⟩ | ⟨e, g⟩ <;> omega
theorem aheadN_s {a b : List En} {i : Nat} : aheadN a b (i + 1) = (match aheadN a b i with | some r => some r | none => if vsF (enAt a i) (enAt b i) ≠ 0 then some (vsF (enAt a i) (enAt b i)) else none) := rfl
theorem aheadN_refl (a : List En) : ∀ N, aheadN a a N = none
  | 0 => rfl
  | N + 1 => by rw [aheadN_s, aheadN_refl a N, vsF_refl]; rfl
theorem aheadN_more {a b : List En} {N : Nat} (h : max a.length b.length ≤ N) : aheadN a b N = aheadN a b (max a.length b.length) := by
  obtain ⟨m, rfl⟩ := Nat.le.dest h
  clear h
  induction m with
  | zero => rfl
  | succ m ih =>
    rw [show max a.length b.length + (m + 1) = max a.length b.length + m + 1 by omega, aheadN_s, ih, enAt_out (l := a) (by omega), enAt_out (l := b) (by omega), vsF_refl]
    cases aheadN a b (max a.length b.length) <;> rfl
theorem aheadF_at' {a b : List En} {N : Nat} (h : max a.length b.length ≤ N) : aheadF a b = (aheadN a b N).getD 0 := by
  rw [aheadN_more h]; rfl

theorem aheadF_refl (a : List En) : aheadF a a = 0 := by
  rw [aheadF_at' (Nat.le_refl _), aheadN_refl]; rfl
end Go.Proofs.Ytfldmpmaifjcbaa
