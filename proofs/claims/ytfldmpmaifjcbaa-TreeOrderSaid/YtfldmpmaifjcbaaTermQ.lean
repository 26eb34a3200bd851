/-
  PLAIN: how deep each node lies; how often each node is a part.
-/
import Derived.Test.YtfldmpmaifjcbaaTerm5
set_option linter.unusedSimpArgs false
namespace Go.Proofs.Ytfldmpmaifjcbaa
open Go Go.Hs

theorem deepS_done {up : List Int} (hup : ∀ j, j < up.length → up.getD j 0 = -1 ∨ ((j : Int) < up.getD j 0 ∧ up.getD j 0 < up.length)) : ∀ r, r ≤ up.length → ∀ j, up.length - r ≤ j → j < up.length →
    (deepS up r).getD j 0 = 1 + (if 0 ≤ up.getD j 0 then (deepS up r).getD (up.getD j 0).toNat 0 else 0)
  | 0, _, j, h1, h2 => by omega
  | r + 1, hr, j, h1, h2 => by
    have hlen := deepS_length (up := up) r
    simp only [deepS]
    by_cases e : up.length - (r + 1) = j
    · subst e
      rw [getD_set_same (by omega)]
      rcases hup _ h2 with h | ⟨h3, h4⟩
      · rw [if_neg (by omega), if_neg (by omega)]
      · rw [if_pos (by omega), if_pos (by omega), getD_set_other (by omega)]
    · rw [getD_set_other e, deepS_done hup r (by omega) j (by omega) h2]
      rcases hup j h2 with h | ⟨h3, h4⟩
      · rw [if_neg (by omega), if_neg (by omega)]
      · rw [if_pos (by omega), if_pos (by omega), getD_set_other (by omega)]

theorem deepF_length {l : List Tm} : (deepF l).length = if rightF l then l.length else 0 := by
  rw [deepF, deepS_length, upF_length]

theorem upF_shape {l : List Tm} (hr : rightF l = true) (j : Nat) (hj : j < (upF l).length) : (upF l).getD j 0 = -1 ∨ ((j : Int) < (upF l).getD j 0 ∧ (upF l).getD j 0 < (upF l).length) := by
  have hl := upF_length (l := l)
  rw [if_pos hr] at hl
  rcases upF_get hr (j := j) (by omega) with ⟨_, h⟩ | ⟨p, p1, p2, _, p4⟩
  · exact .inl h
  · exact .inr ⟨by omega, by omega⟩

theorem deep_part {l : List Tm} (hr : rightF l = true) {j p : Nat} (hp : p < l.length) (h : IsPar l j p) : (upF l).getD j 0 = p ∧ (deepF l).getD j 0 = (deepF l).getD p 0 + 1 := by
  have ht := term_of_right hr
  have hjp := h.lt ht.low (ht.node p hp)
  have hl := upF_length (l := l)
  rw [if_pos hr] at hl
  have hu : (upF l).getD j 0 = p := by
    rcases upF_get hr (j := j) (by omega) with ⟨h1, _⟩ | ⟨q, q1, q2, q3, q4⟩
    · omega
    · rw [q4, one_par ht.low ht.node q2 hp q3 h]
  refine ⟨hu, ?_⟩
  have h1 := deepS_done (up := upF l) (upF_shape hr) _ (Nat.le_refl _) j (by omega) (by omega)
  rw [hu, if_pos (by omega)] at h1
  unfold deepF
  rw [h1, Int.toNat_natCast]
  omega

theorem deep_root {l : List Tm} (hr : rightF l = true) : (upF l).getD (l.length - 1) 0 = -1 ∧ (deepF l).getD (l.length - 1) 0 = 1 := by
  have ht := term_of_right hr
  have hpos := ht.pos
  have hl := upF_length (l := l)
  rw [if_pos hr] at hl
  have hu : (upF l).getD (l.length - 1) 0 = -1 := by
    rcases upF_get hr (j := l.length - 1) (by omega) with ⟨_, h⟩ | ⟨q, q1, q2, _⟩
    · exact h
    · omega
  refine ⟨hu, ?_⟩
  have h1 := deepS_done (up := upF l) (upF_shape hr) _ (Nat.le_refl _) (l.length - 1) (by omega) (by omega)
  rw [hu, if_neg (by omega)] at h1
  exact h1

/-! How often each node is a part. -/
def incP (out : List Int) (x : Int) : List Int := if 0 ≤ x then out.set x.toNat (out.getD x.toNat 0 + 1) else out
def heldS (l : List Tm) : Nat → List Int
  | 0 => List.replicate l.length 0
  | i + 1 => incP (incP (heldS l i) (tAt l i).a) (tAt l i).b

theorem incP_length {out : List Int} {x : Int} : (incP out x).length = out.length := by unfold incP; split <;> simp
theorem heldS_length {l : List Tm} : ∀ i, (heldS l i).length = l.length
  | 0 => by simp [heldS]
  | i + 1 => by simp only [heldS, incP_length, heldS_length i]
theorem incP_same {out : List Int} {x : Int} {j : Nat} (h : j < out.length) (hx : x = j) : (incP out x).getD j 0 = out.getD j 0 + 1 := by
  subst hx
  rw [incP, if_pos (by omega)]
  exact getD_set_same h
theorem incP_other {out : List Int} {x : Int} {j : Nat} (hx : x ≠ j) : (incP out x).getD j 0 = out.getD j 0 := by
  unfold incP
  split
  · exact getD_set_other (by omega)
  · rfl

theorem heldS_get {l : List Tm} {o : List Int} (ht : Term l o) {j : Nat} (hj : j < l.length) : ∀ i, i ≤ l.length → ((∀ p, p < i → ¬ IsPar l j p) ∧ (heldS l i).getD j 0 = 0) ∨ ((∃ p, p < i ∧ IsPar l j p) ∧ (heldS l i).getD j 0 = 1)
  | 0, _ => by
    left
    refine ⟨by omega, ?_⟩
    simp only [heldS, List.getD_eq_getElem?_getD, List.getElem?_replicate]
    split <;> rfl
  | i + 1, hi => by
    have hlen := heldS_length (l := l) i
    have hne : (tAt l i).a ≠ (tAt l i).b ∨ (tAt l i).a = -1 := by
      rcases ht.node i (by omega) with ⟨h1, h2, h3, h4⟩ | ⟨h1, c, d, h2, h3, h4, h5, h6⟩ | ⟨h1, d, h2, h3, h4, h5⟩
      · omega
      · have := ht.low d; omega
      · omega
    rcases heldS_get ht hj i (by omega) with ⟨g1, g2⟩ | ⟨⟨p, p1, p2⟩, g2⟩
    · by_cases hp : IsPar l j i
      · right
        refine ⟨⟨i, by omega, hp⟩, ?_⟩
        simp only [heldS]
        unfold IsPar at hp
        by_cases hb : (tAt l i).b = j
        · rw [incP_same (by rw [incP_length]; omega) hb, incP_other (by omega), g2]; rfl
        · rw [incP_other hb, incP_same (by omega) (by omega), g2]; rfl
      · left
        refine ⟨fun p hpi hpp => ?_, ?_⟩
        · by_cases e : p = i
          · subst e; exact hp hpp
          · exact g1 p (by omega) hpp
        · unfold IsPar at hp
          simp only [heldS]
          rw [incP_other (by omega), incP_other (by omega), g2]
    · right
      refine ⟨⟨p, by omega, p2⟩, ?_⟩
      have hp : ¬ IsPar l j i := fun h => by
        have := one_par ht.low ht.node (by omega) (by omega) p2 h
        omega
      unfold IsPar at hp
      simp only [heldS]
      rw [incP_other (by omega), incP_other (by omega), g2]

theorem held_one {l : List Tm} {o : List Int} (ht : Term l o) {j : Nat} (hj : j < l.length - 1) : (heldS l l.length).getD j 0 = 1 := by
  obtain ⟨p, p1, p2, p3⟩ := ht.par hj
  rcases heldS_get ht (j := j) (by omega) l.length (Nat.le_refl _) with ⟨h1, _⟩ | ⟨_, h2⟩
  · exact (h1 p p2 p3).elim
  · exact h2
theorem held_root {l : List Tm} {o : List Int} (ht : Term l o) : (heldS l l.length).getD (l.length - 1) 0 = 0 := by
  have := ht.pos
  rcases heldS_get ht (j := l.length - 1) (by omega) l.length (Nat.le_refl _) with ⟨_, h2⟩ | ⟨⟨p, p1, p2⟩, _⟩
  · exact h2
  · exact (ht.none (Nat.le_refl _) p1 p2).elim

end Go.Proofs.Ytfldmpmaifjcbaa
