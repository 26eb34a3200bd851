/-
  PLAIN: what the theorem of chapter 16 says of places.
-/
import Derived.Test.YtllemobnfpljfaaPlaceP
set_option linter.unusedSimpArgs false
namespace Go.Proofs.Ytllemobnfpljfaa
open Go Go.Hs

theorem isIn_self {l : List Tm} (hr : rightF l = true) {q : Nat} : isIn l q q = true := by
  have := (term_of_right hr).low q
  simp only [isIn, Bool.and_eq_true, decide_eq_true_eq]
  omega
theorem isIn_iff {l : List Tm} {q : Nat} {a : Int} : isIn l q a = true ↔ (lowsF l).getD q 0 ≤ a ∧ a ≤ q := by
  simp only [isIn, Bool.and_eq_true, decide_eq_true_eq]
theorem isIn_not {l : List Tm} {q : Nat} {a : Int} : isIn l q a = false ↔ ¬ ((lowsF l).getD q 0 ≤ a ∧ a ≤ q) := by
  rw [← isIn_iff]; simp
theorem joinN_comm {l : List Tm} {a b : Int} : ∀ n, joinN l a b n = joinN l b a n
  | 0 => rfl
  | n + 1 => by simp only [joinN, joinN_comm n, Bool.and_comm]
theorem joinF2_comm {l : List Tm} {a b : Int} : joinF2 l a b = joinF2 l b a := by
  unfold joinF2
  rw [joinN_comm]
  by_cases h : 0 ≤ a ∧ 0 ≤ b ∧ a < (lowsF l).length ∧ b < (lowsF l).length
  · rw [if_pos h, if_pos ⟨h.2.1, h.1, h.2.2.2, h.2.2.1⟩]
  · rw [if_neg h, if_neg (fun h' => h ⟨h'.2.1, h'.1, h'.2.2.2, h'.2.2.1⟩)]
theorem len_low {l : List Tm} (hr : rightF l = true) : (lowsF l).length = l.length := (term_of_right hr).len
/-- Of two nodes one of which is in the other the join is that. -/
theorem join_in {l : List Tm} (hr : rightF l = true) {a : Int} {q : Nat} (h0 : 0 ≤ a) (hq : q < l.length) (h : isIn l q a = true) : joinF2 l a q = q := by
  have hl := len_low hr
  have ha := isIn_iff.1 h
  rw [joinF2, if_pos (by omega)]
  refine joinN_some _ q hq (by rw [h, isIn_self hr]; rfl) (fun q' hq' => ?_)
  have : isIn l q' (q : Int) = false := isIn_not.2 (by omega)
  rw [this]; simp
/-- Any two nodes have a join; it is the least node that both are in. -/
theorem join_some {l : List Tm} (hr : rightF l = true) {a b : Int} (ha : 0 ≤ a) (hb : 0 ≤ b) (ha2 : a < l.length) (hb2 : b < l.length) :
    ∃ q : Nat, q < l.length ∧ joinF2 l a b = q ∧ isIn l q a = true ∧ isIn l q b = true ∧ ∀ q', q' < q → (isIn l q' a && isIn l q' b) = false := by
  have ht := term_of_right hr
  have hl := len_low hr
  have hpos := ht.pos
  have root : (isIn l (l.length - 1) a && isIn l (l.length - 1) b) = true := by
    have h0 := ht.root
    rw [Bool.and_eq_true, isIn_iff, isIn_iff]
    omega
  have key : ∀ n, n < l.length → (isIn l n a && isIn l n b) = true → ∃ q, q ≤ n ∧ (isIn l q a && isIn l q b) = true ∧ ∀ q', q' < q → (isIn l q' a && isIn l q' b) = false := by
    intro n
    induction n using Nat.strongRecOn with
    | _ n ih =>
      intro hn h
      by_cases hx : ∃ q', q' < n ∧ (isIn l q' a && isIn l q' b) = true
      · obtain ⟨q', h1, h2⟩ := hx
        obtain ⟨q, g1, g2, g3⟩ := ih q' h1 (by omega) h2
        exact ⟨q, by omega, g2, g3⟩
      · exact ⟨n, Nat.le_refl _, h, fun q' hq' => by
          cases hh : (isIn l q' a && isIn l q' b) with
          | false => rfl
          | true => exact absurd ⟨q', hq', hh⟩ hx⟩
  obtain ⟨q, g1, g2, g3⟩ := key _ (by omega) root
  have g2' := g2
  rw [Bool.and_eq_true] at g2'
  exact ⟨q, by omega, by rw [joinF2, if_pos (by omega)]; exact joinN_some _ q (by omega) g2 g3, g2'.1, g2'.2, g3⟩
theorem join_none {l : List Tm} (hr : rightF l = true) {a b : Int} (h : ¬ (0 ≤ a ∧ 0 ≤ b ∧ a < l.length ∧ b < l.length)) : joinF2 l a b = -1 := by
  have hl := len_low hr
  rw [joinF2, if_neg (by omega)]
/-- What two places have in common is a Cat, or an Alt, with the lesser one in its A and the other one in its B. -/
theorem join_pair {l : List Tm} (hr : rightF l = true) {a b : Nat} (hab : a < b) (hb : b < l.length) (kb : (tAt l b).k = 2) :
    ∃ q c d : Nat, q < l.length ∧ joinF2 l a b = q ∧ ((tAt l q).k = 3 ∨ (tAt l q).k = 4) ∧ (tAt l q).a = c ∧ (tAt l q).b = d ∧ c < l.length ∧ d < l.length ∧ isIn l c a = true ∧ isIn l d b = true := by
  have ht := term_of_right hr
  obtain ⟨q, h1, h2, h3, h4, h5⟩ := join_some (l := l) hr (a := a) (b := b) (by omega) (by omega) (by omega) (by omega)
  have h3' := isIn_iff.1 h3
  have h4' := isIn_iff.1 h4
  have hk : (tAt l q).k ≠ 2 := fun hk => by
    rcases ht.node q h1 with ⟨g1, g2, g3, g4⟩ | ⟨g1, _⟩ | ⟨g1, _⟩ <;> omega
  have hbq : b ≠ q := fun e => hk (e ▸ kb)
  rcases ht.node q h1 with ⟨g1, g2, g3, g4⟩ | ⟨g1, c, d, g2, g3, g4, g5, g6⟩ | ⟨g1, d, g2, g3, g4, g5⟩
  · omega
  · refine ⟨q, c, d, h1, h2, g1, g4, g3, ?_, by omega, ?_, ?_⟩
    · have := ht.low d; omega
    · rw [isIn_iff]
      rcases Nat.lt_or_ge c a with h | h
      · exfalso
        have e1 : isIn l d a = true := isIn_iff.2 (by omega)
        have e2 : isIn l d b = true := isIn_iff.2 (by omega)
        have := h5 d (by omega)
        rw [e1, e2] at this; cases this
      · omega
    · rw [isIn_iff]
      rcases Nat.lt_or_ge c b with h | h
      · omega
      · exfalso
        have e1 : isIn l c a = true := isIn_iff.2 (by omega)
        have e2 : isIn l c b = true := isIn_iff.2 (by omega)
        have hcd : c < q := by have := ht.low d; omega
        have := h5 c hcd
        rw [e1, e2] at this; cases this
  · exfalso
    have e1 : isIn l d a = true := isIn_iff.2 (by omega)
    have e2 : isIn l d b = true := isIn_iff.2 (by omega)
    have := h5 d (by omega)
    rw [e1, e2] at this; cases this
/-- What lies in a node lies no less deep. -/
theorem deep_in {l : List Tm} (hr : rightF l = true) {q : Nat} (hq : q < l.length) : ∀ (m a : Nat), q - a = m → isIn l q a = true → (deepF l).getD q 0 ≤ (deepF l).getD a 0 := by
  intro m
  induction m using Nat.strongRecOn with
  | _ m ih =>
    intro a hm h
    have h' := isIn_iff.1 h
    by_cases e : a = q
    · subst e; exact Int.le_refl _
    · rcases upF_get hr (j := a) (by omega) with ⟨g1, g2⟩ | ⟨p, g1, g2, g3, g4⟩
      · omega
      · have hn := up_next hr (isIn_self hr (q := a)) h (by omega) hq g4
        have hd := deep_part hr g2 g3
        have := ih (q - p) (by omega) p rfl (isIn_iff.2 (by omega))
        omega
theorem placesF_get {l : List Tm} (hr : rightF l = true) {p : Nat} (hp : p < (placesF l).length) : ∃ q : Nat, q < l.length ∧ (placesF l).getD p 0 = q ∧ (tAt l q).k = 2 ∧ leavesF l q = p := by
  have e : placesF l = lvsN l l.length := by rw [placesF, if_pos hr]
  rw [e] at hp ⊢
  rw [lvsN_length] at hp
  exact lvsN_get _ p hp
theorem placesF_len {l : List Tm} (hr : rightF l = true) : (placesF l).length = leavesF l l.length := by
  rw [placesF, if_pos hr, lvsN_length]
theorem indexF_get {l : List Tm} (hr : rightF l = true) {i : Nat} (hi : i < l.length) : (indexF l).getD i 0 = if (tAt l i).k = 2 then (leavesF l i : Int) else -1 := by
  rw [indexF, if_pos hr]; exact idxN_get _ _ hi
theorem placesF_at {l : List Tm} (hr : rightF l = true) {i : Nat} (hi : i < l.length) (hk : (tAt l i).k = 2) : leavesF l i < (placesF l).length ∧ (placesF l).getD (leavesF l i) 0 = i := by
  have h1 : leavesF l (i + 1) = leavesF l i + 1 := by simp only [leavesF, if_pos hk]
  have h2 := leaves_mono (l := l) (i := i + 1) (j := l.length) (by omega)
  have hp : leavesF l i < (placesF l).length := by rw [placesF_len hr]; omega
  refine ⟨hp, ?_⟩
  obtain ⟨q, g1, g2, g3, g4⟩ := placesF_get hr hp
  have e1 : leavesF l (q + 1) = leavesF l q + 1 := by simp only [leavesF, if_pos g3]
  have : q = i := by
    rcases Nat.lt_trichotomy q i with h | h | h
    · have := leaves_mono (l := l) (i := q + 1) (j := i) (by omega); omega
    · exact h
    · have := leaves_mono (l := l) (i := i + 1) (j := q) (by omega); omega
  rw [g2, this]
/-- The places in a node stand side by side. -/
theorem under_get {l : List Tm} (hr : rightF l = true) {q : Nat} (hq : q < l.length) : ∃ s n : Nat, underF l q = rngF s n ∧ s + n ≤ (placesF l).length := by
  have hl := len_low hr
  have ht := term_of_right hr
  have hlo := ht.low q
  refine ⟨_, _, by rw [underF, if_pos (by omega)], ?_⟩
  rw [placesF_len hr]
  have h1 := leaves_mono (l := l) (i := ((q : Int) + 1).toNat) (j := l.length) (by omega)
  have h2 := leaves_mono (l := l) (i := ((lowsF l).getD ((q : Int)).toNat 0).toNat) (j := ((q : Int) + 1).toNat) (by rw [Int.toNat_natCast]; omega)
  omega
theorem under_root {l : List Tm} (hr : rightF l = true) : (underF l ((l.length : Int) - 1)).length = (placesF l).length := by
  have hl := len_low hr
  have ht := term_of_right hr
  have h0 := ht.root
  have hpos := ht.pos
  have e1 : ((l.length : Int) - 1).toNat = l.length - 1 := by omega
  have e2 : ((l.length : Int) - 1 + 1).toNat = l.length := by omega
  rw [underF, if_pos (by omega), rngF_length, placesF_len hr, e1, e2, h0]
  simp [leavesF]

end Go.Proofs.Ytllemobnfpljfaa
