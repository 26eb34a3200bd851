/-
  PLAIN: which of two lists is ahead is an order.
-/
import Derived.Test.YtfldmpmaifjcbaaTree1
set_option linter.unusedSimpArgs false
set_option linter.unusedVariables false
namespace Go.Proofs.Ytfldmpmaifjcbaa
open Go Go.Hs

theorem sg_cases (a b : Int) : (sg a b = -1 ∧ a < b) ∨ (sg a b = 0 ∧ a = b) ∨ (sg a b = 1 ∧ b < a) := by
  unfold sg
  split
  · exact .inl ⟨rfl, by omega⟩
  · split
    · exact .inr (.inr ⟨rfl, by omega⟩)
    · exact .inr (.inl ⟨rfl, by omega⟩)
/-- The order of two entries, told by their numbers. -/
theorem vsF_cases (x y : En) : (vsF x y = -1 ∧ (y.d < x.d ∨ (x.d = y.d ∧ (x.n < y.n ∨ (x.n = y.n ∧ (x.f < y.f ∨ (x.f = y.f ∧ y.t < x.t))))))) ∨
    (vsF x y = 0 ∧ x.d = y.d ∧ x.n = y.n ∧ x.f = y.f ∧ x.t = y.t) ∨
    (vsF x y = 1 ∧ (x.d < y.d ∨ (x.d = y.d ∧ (y.n < x.n ∨ (x.n = y.n ∧ (y.f < x.f ∨ (x.f = y.f ∧ x.t < y.t))))))) := by
  unfold vsF
  rcases sg_cases y.d x.d with ⟨e1, h1⟩ | ⟨e1, h1⟩ | ⟨e1, h1⟩ <;> rw [e1]
  · rw [if_pos (by decide)]; exact .inl ⟨rfl, .inl h1⟩
  · rw [if_neg (by decide)]
    rcases sg_cases x.n y.n with ⟨e2, h2⟩ | ⟨e2, h2⟩ | ⟨e2, h2⟩ <;> rw [e2]
    · rw [if_pos (by decide)]; exact .inl ⟨rfl, .inr ⟨h1.symm, .inl h2⟩⟩
    · rw [if_neg (by decide)]
      rcases sg_cases x.f y.f with ⟨e3, h3⟩ | ⟨e3, h3⟩ | ⟨e3, h3⟩ <;> rw [e3]
      · rw [if_pos (by decide)]; exact .inl ⟨rfl, .inr ⟨h1.symm, .inr ⟨h2, .inl h3⟩⟩⟩
      · rw [if_neg (by decide)]
        rcases sg_cases y.t x.t with ⟨e4, h4⟩ | ⟨e4, h4⟩ | ⟨e4, h4⟩ <;> rw [e4]
        · exact .inl ⟨rfl, .inr ⟨h1.symm, .inr ⟨h2, .inr ⟨h3, h4⟩⟩⟩⟩
        · exact .inr (.inl ⟨rfl, h1.symm, h2, h3, h4.symm⟩)
        · exact .inr (.inr ⟨rfl, .inr ⟨h1.symm, .inr ⟨h2, .inr ⟨h3, h4⟩⟩⟩⟩)
      · rw [if_pos (by decide)]; exact .inr (.inr ⟨rfl, .inr ⟨h1.symm, .inr ⟨h2, .inl h3⟩⟩⟩)
    · rw [if_pos (by decide)]; exact .inr (.inr ⟨rfl, .inr ⟨h1.symm, .inl h2⟩⟩)
  · rw [if_pos (by decide)]; exact .inr (.inr ⟨rfl, .inl h1⟩)
theorem En.ext' {x y : En} (h1 : x.d = y.d) (h2 : x.n = y.n) (h3 : x.f = y.f) (h4 : x.t = y.t) : x = y := by
  cases x; cases y; simp_all
theorem vsF_anti (x y : En) : vsF y x = - vsF x y := by
  rcases vsF_cases x y with ⟨e, h⟩ | ⟨e, h⟩ | ⟨e, h⟩ <;> rcases vsF_cases y x with ⟨e2, h2⟩ | ⟨e2, h2⟩ | ⟨e2, h2⟩ <;> omega
theorem vsF_zero {x y : En} (h : vsF x y = 0) : x = y := by
  rcases vsF_cases x y with ⟨e, g⟩ | ⟨e, g⟩ | ⟨e, g⟩
  · omega
  · exact En.ext' g.1 g.2.1 g.2.2.1 g.2.2.2
  · omega
theorem vsF_refl (x : En) : vsF x x = 0 := by
  rcases vsF_cases x x with ⟨e, g⟩ | ⟨e, g⟩ | ⟨e, g⟩ <;> omega
theorem vsF_le (x y : En) : vsF x y = -1 ∨ vsF x y = 0 ∨ vsF x y = 1 := by
  rcases vsF_cases x y with ⟨e, g⟩ | ⟨e, g⟩ | ⟨e, g⟩ <;> omega
theorem vsF_trans {x y z : En} (h1 : vsF x y = -1) (h2 : vsF y z = -1) : vsF x z = -1 := by
  rcases vsF_cases x y with ⟨e, g⟩ | ⟨e, g⟩ | ⟨e, g⟩ <;> rcases vsF_cases y z with ⟨e2, g2⟩ | ⟨e2, g2⟩ | ⟨e2, g2⟩ <;> rcases vsF_cases x z with ⟨e3, g3⟩ | ⟨e3, g3⟩ | ⟨e3, g3⟩ <;> omega

theorem aheadN_s {a b : List En} {i : Nat} : aheadN a b (i + 1) = (match aheadN a b i with | some r => some r | none => if vsF (enAt a i) (enAt b i) ≠ 0 then some (vsF (enAt a i) (enAt b i)) else none) := rfl
theorem aheadN_val (a b : List En) : ∀ N, aheadN a b N = some (-1) ∨ aheadN a b N = none ∨ aheadN a b N = some 1
  | 0 => .inr (.inl rfl)
  | N + 1 => by
    rw [aheadN_s]
    rcases aheadN_val a b N with h | h | h <;> rw [h]
    · exact .inl rfl
    · simp only []
      rcases vsF_le (enAt a N) (enAt b N) with e | e | e <;> rw [e]
      · exact .inl rfl
      · exact .inr (.inl rfl)
      · exact .inr (.inr rfl)
    · exact .inr (.inr rfl)
theorem aheadN_anti (a b : List En) : ∀ N, aheadN b a N = (aheadN a b N).map (fun x => -x)
  | 0 => rfl
  | N + 1 => by
    rw [aheadN_s, aheadN_s, aheadN_anti a b N, vsF_anti (enAt a N) (enAt b N)]
    rcases aheadN_val a b N with h | h | h <;> rw [h]
    · rfl
    · simp only [Option.map_none]
      rcases vsF_le (enAt a N) (enAt b N) with e | e | e <;> rw [e] <;> rfl
    · rfl
theorem aheadN_refl (a : List En) : ∀ N, aheadN a a N = none
  | 0 => rfl
  | N + 1 => by rw [aheadN_s, aheadN_refl a N, vsF_refl]; rfl
theorem aheadN_none {a b : List En} : ∀ {N : Nat}, aheadN a b N = none → aheadN a b (N - 1) = none ∧ ∀ i, i < N → enAt a i = enAt b i
  | 0, h => ⟨h, fun i hi => by omega⟩
  | N + 1, h => by
    rw [aheadN_s] at h
    rcases aheadN_val a b N with e | e | e <;> rw [e] at h
    · cases h
    · have ih := aheadN_none e
      simp only [] at h
      have h0 : vsF (enAt a N) (enAt b N) = 0 := by
        rcases vsF_le (enAt a N) (enAt b N) with e | e | e <;> rw [e] at h
        · cases h
        · exact e
        · cases h
      refine ⟨e, fun i hi => ?_⟩
      by_cases hl : i < N
      · exact ih.2 i hl
      · rw [show i = N by omega]; exact vsF_zero h0
    · cases h
theorem aheadN_l {a b c : List En} : ∀ {N : Nat}, (∀ i, i < N → enAt a i = enAt b i) → aheadN a c N = aheadN b c N
  | 0, _ => rfl
  | N + 1, h => by rw [aheadN_s, aheadN_s, aheadN_l (fun i hi => h i (by omega)), h N (by omega)]
theorem aheadN_r {a b c : List En} : ∀ {N : Nat}, (∀ i, i < N → enAt b i = enAt c i) → aheadN a b N = aheadN a c N
  | 0, _ => rfl
  | N + 1, h => by rw [aheadN_s, aheadN_s, aheadN_r (fun i hi => h i (by omega)), h N (by omega)]
theorem aheadN_trans {a b c : List En} : ∀ {N : Nat}, aheadN a b N = some (-1) → aheadN b c N = some (-1) → aheadN a c N = some (-1)
  | 0, h, _ => by cases h
  | N + 1, h1, h2 => by
    rw [aheadN_s] at h1 h2 ⊢
    rcases aheadN_val a b N with e | e | e <;> rcases aheadN_val b c N with g | g | g <;> rw [e] at h1 <;> rw [g] at h2
    · rw [aheadN_trans e g]
    · rw [← aheadN_r (aheadN_none g).2, e]
    · cases h2
    · rw [aheadN_l (aheadN_none e).2, g]
    · rw [aheadN_l (aheadN_none e).2, g]
      simp only [] at h1 h2 ⊢
      have k1 : vsF (enAt a N) (enAt b N) = -1 := by
        rcases vsF_le (enAt a N) (enAt b N) with e | e | e <;> rw [e] at h1
        · exact e
        · cases h1
        · cases h1
      have k2 : vsF (enAt b N) (enAt c N) = -1 := by
        rcases vsF_le (enAt b N) (enAt c N) with e | e | e <;> rw [e] at h2
        · exact e
        · cases h2
        · cases h2
      rw [vsF_trans k1 k2]; rfl
    · cases h2
    · cases h1
    · cases h1
    · cases h1
theorem aheadN_more {a b : List En} {N : Nat} (h : max a.length b.length ≤ N) : aheadN a b N = aheadN a b (max a.length b.length) := by
  obtain ⟨m, rfl⟩ := Nat.le.dest h
  clear h
  induction m with
  | zero => rfl
  | succ m ih =>
    rw [show max a.length b.length + (m + 1) = max a.length b.length + m + 1 by omega, aheadN_s, ih, enAt_out (l := a) (by omega), enAt_out (l := b) (by omega), vsF_refl]
    cases aheadN a b (max a.length b.length) <;> rfl
theorem aheadF_at' {a b : List En} {N : Nat} (h : max a.length b.length ≤ N) : aheadF a b = (aheadN a b N).getD 0 := by
  rw [aheadN_more h]; rfl

theorem aheadF_val (a b : List En) : aheadF a b = -1 ∨ aheadF a b = 0 ∨ aheadF a b = 1 := by
  rw [aheadF_at' (Nat.le_refl _)]
  rcases aheadN_val a b (max a.length b.length) with e | e | e <;> rw [e]
  · exact .inl rfl
  · exact .inr (.inl rfl)
  · exact .inr (.inr rfl)
theorem aheadF_anti (a b : List En) : aheadF b a = - aheadF a b := by
  rw [aheadF_at' (Nat.le_refl _), aheadF_at' (a := a) (b := b) (N := max b.length a.length) (by omega), aheadN_anti a b]
  cases aheadN a b (max b.length a.length) <;> rfl
theorem aheadF_refl (a : List En) : aheadF a a = 0 := by
  rw [aheadF_at' (Nat.le_refl _), aheadN_refl]; rfl
theorem aheadF_trans {a b c : List En} (h1 : aheadF a b = -1) (h2 : aheadF b c = -1) : aheadF a c = -1 := by
  let N := max a.length (max b.length c.length)
  rw [aheadF_at' (N := N) (by omega)] at h1 h2 ⊢
  have k1 : aheadN a b N = some (-1) := by
    rcases aheadN_val a b N with e | e | e <;> rw [e] at h1
    · exact e
    · cases h1
    · cases h1
  have k2 : aheadN b c N = some (-1) := by
    rcases aheadN_val b c N with e | e | e <;> rw [e] at h2
    · exact e
    · cases h2
    · cases h2
  rw [aheadN_trans k1 k2]; rfl
theorem aheadF_same {a b c : List En} (h : aheadF a b = 0) : aheadF b c = aheadF a c := by
  let N := max a.length (max b.length c.length)
  rw [aheadF_at' (N := N) (by omega)] at h
  rw [aheadF_at' (a := b) (N := N) (by omega), aheadF_at' (a := a) (N := N) (by omega)]
  have k : aheadN a b N = none := by
    rcases aheadN_val a b N with e | e | e <;> rw [e] at h
    · cases h
    · exact e
    · cases h
  rw [aheadN_l (aheadN_none k).2]

end Go.Proofs.Ytfldmpmaifjcbaa
