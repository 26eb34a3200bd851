/-
  PLAIN: what lies in a parse tree; what opens and closes in it makes it again.
-/
import Derived.Test.YtfldmpmaifjcbaaFrP
set_option linter.unusedSimpArgs false
set_option linter.unusedVariables false
namespace Go.Proofs.Ytfldmpmaifjcbaa
open Go Go.Hs

/-- Entries side by side at depth d + 1, and all in them, from a place to another one; with what opens and closes. -/
inductive Kids (n : Nat) : Int → Int → Int → List En → List (Int × Int) → Prop where
  | nil {d a b : Int} (h : a ≤ b) : Kids n d a b [] []
  | cons {d a b : Int} {x : En} {s1 s2 : List En} {S1 S2 : List (Int × Int)} (hd : x.d = d + 1) (hn : 0 ≤ x.n ∧ x.n < n) (ha : a ≤ x.f) (hf : x.f ≤ x.t) (h1 : Kids n (d + 1) x.f x.t s1 S1) (h2 : Kids n d x.t b s2 S2) :
      Kids n d a b (x :: (s1 ++ s2)) ((x.f, 2 * x.n) :: (S1 ++ (x.t, 2 * x.n + 1) :: S2))
theorem Kids.le {n : Nat} {d a b : Int} {s : List En} {S : List (Int × Int)} (h : Kids n d a b s S) : a ≤ b := by
  induction h with
  | nil h => exact h
  | cons hd hn ha hf h1 h2 i1 i2 => omega
theorem Kids.wk {n : Nat} {d a b c : Int} {s : List En} {S : List (Int × Int)} (h : Kids n d b c s S) (hab : a ≤ b) : Kids n d a c s S := by
  cases h with
  | nil h => exact .nil (by omega)
  | cons hd hn ha hf h1 h2 => exact .cons hd hn (by omega) hf h1 h2
theorem Kids.app {n : Nat} {d a b c : Int} {s s' : List En} {S S' : List (Int × Int)} (h : Kids n d a b s S) (g : Kids n d b c s' S') : Kids n d a c (s ++ s') (S ++ S') := by
  induction h with
  | nil h => exact g.wk h
  | cons hd hn ha hf h1 h2 i1 i2 =>
    have := Kids.cons hd hn ha hf h1 (i2 g)
    simpa [List.append_assoc] using this
theorem Kids.mem {n : Nat} {d a b : Int} {s : List En} {S : List (Int × Int)} (h : Kids n d a b s S) : ∀ x ∈ s, d + 1 ≤ x.d ∧ 0 ≤ x.n ∧ x.n < n ∧ a ≤ x.f ∧ x.f ≤ x.t ∧ x.t ≤ b := by
  induction h with
  | nil h => intro x hx; cases hx
  | @cons d a b y s1 s2 S1 S2 hd hn ha hf h1 h2 i1 i2 =>
    intro x hx
    have l2 := h2.le
    rcases List.mem_cons.1 hx with rfl | hx
    · omega
    · rcases List.mem_append.1 hx with hx | hx
      · have := i1 x hx; omega
      · have := i2 x hx; omega

def seg (t : List En) (i j : Nat) : List En := (t.drop i).take (j - i)
theorem seg_nil {t : List En} {i : Nat} : seg t i i = [] := by simp [seg]
theorem seg_cons {t : List En} {i j : Nat} (h : i < t.length) (hj : i < j) : seg t i j = enAt t i :: seg t (i + 1) j := by
  unfold seg
  rw [List.drop_eq_getElem_cons h, show j - i = (j - (i + 1)) + 1 by omega, List.take_succ_cons]
  congr 1
  unfold enAt
  rw [List.getD_eq_getElem?_getD, List.getElem?_eq_getElem h]; rfl
theorem seg_app {t : List En} {i j k : Nat} (h : i ≤ j) (h2 : j ≤ k) : seg t i k = seg t i j ++ seg t j k := by
  unfold seg
  rw [show k - i = (j - i) + (k - j) by omega, List.take_add, List.drop_drop, show i + (j - i) = j by omega]
theorem seg_all {t : List En} : seg t 0 t.length = t := by simp [seg]

/-- What is known of what goes through a node. -/
def KC (l : List Tm) (w : List Int) (t : List En) (n : Int) (nf : En → Nat → Bool × Nat) : Prop := ∀ (e : En) (i : Nat), EOk l w e → e.n < n → i ≤ t.length → (nf e i).1 = true → i ≤ (nf e i).2 ∧ (nf e i).2 ≤ t.length ∧ ∃ S, Kids l.length e.d e.f e.t (seg t i (nf e i).2) S
theorem kid_kids {l : List Tm} {w : List Int} {t : List En} {n : Int} {nf : En → Nat → Bool × Nat} (N : KC l w t n nf) {e : En} {nd fr : Int} {i : Nat} (h : (kidF nf w t e nd fr i).2.1 = true) (he : 0 ≤ e.d ∧ e.d + 1 + nd ≤ l.length) (h0 : 0 ≤ nd) (h1 : nd < l.length) (hn : nd < n) (hf : 0 ≤ fr) :
    i ≤ (kidF nf w t e nd fr i).2.2 ∧ (kidF nf w t e nd fr i).2.2 ≤ t.length ∧ fr ≤ (kidF nf w t e nd fr i).1 ∧ (kidF nf w t e nd fr i).1 ≤ e.t ∧ ∃ S, Kids l.length e.d fr (kidF nf w t e nd fr i).1 (seg t i (kidF nf w t e nd fr i).2.2) S := by
  unfold kidF at h ⊢
  split at h
  · rename_i h2
    rw [if_pos h2]
    split at h
    · rename_i h3
      rw [if_pos h3]
      obtain ⟨ek, en, ef⟩ := nx_ok (l := l) (w := w) h2.1 (by omega) h0 h1 hf
      have hi : i < t.length := by
        refine Nat.lt_of_not_le fun hh => ?_
        have := h2.1
        rw [nxF, if_neg (by omega)] at this
        cases this
      have ex : nxF w t i (e.d + 1) nd fr = (enAt t i, nxOk w (enAt t i) (e.d + 1) nd fr, i + 1) := by rw [nxF, if_pos hi]
      have ed : (enAt t i).d = e.d + 1 := by
        have := h2.1
        rw [ex] at this
        simp only [nxOk, Bool.and_eq_true, beq_iff_eq, decide_eq_true_eq] at this
        exact this.1.1.1.1
      rw [ex] at ek en ef h2 h3 ⊢
      simp only at ek en ef h2 h3 ⊢
      obtain ⟨g1, g2, S, g3⟩ := N (enAt t i) (i + 1) ek (by omega) (by omega) h3
      refine ⟨by omega, g2, ?_, h2.2, ?_⟩
      · have := ek.2.2.2.2.1; omega
      · rw [seg_cons hi (by omega)]
        obtain ⟨k1, k2, k3, k4, k5, k6⟩ := ek
        have := Kids.cons (n := l.length) (d := e.d) (a := fr) (b := (enAt t i).t) (x := enAt t i) (s2 := []) (S2 := []) ed ⟨k2, k3⟩ (by omega) k5 (by rw [← ed]; exact g3) (.nil (Int.le_refl _))
        rw [List.append_nil] at this
        exact ⟨_, this⟩
    · cases h
  · cases h
theorem row_kids {l : List Tm} {w : List Int} {t : List En} {n : Int} {nf : En → Nat → Bool × Nat} (N : KC l w t n nf) {e : En} {nd : Int} (he : 0 ≤ e.d ∧ e.d + 1 + nd ≤ l.length) (h0 : 0 ≤ nd) (h1 : nd < l.length) (hn : nd < n) :
    ∀ (m : Nat) (a : Int) (i : Nat), 0 ≤ a → a ≤ e.t → i ≤ t.length → (rowF nf w t e nd m a i).1 = true → i ≤ (rowF nf w t e nd m a i).2 ∧ (rowF nf w t e nd m a i).2 ≤ t.length ∧ ∃ S, Kids l.length e.d a e.t (seg t i (rowF nf w t e nd m a i).2) S
  | 0, a, i, ha, hae, hi, _ => by
    rw [rowF]
    exact ⟨Nat.le_refl _, hi, [], by rw [seg_nil]; exact .nil hae⟩
  | m + 1, a, i, ha, hae, hi, h => by
    unfold rowF at h ⊢
    split at h
    · rename_i c1
      rw [if_pos c1]
      split at h
      · rename_i c2
        rw [if_pos c2]
        obtain ⟨g1, g2, g3, g4, S1, g5⟩ := kid_kids N c2.1 he h0 h1 hn ha
        obtain ⟨k1, k2, S2, k3⟩ := row_kids N he h0 h1 hn m _ _ (by omega) g4 g2 h
        refine ⟨by omega, k2, S1 ++ S2, ?_⟩
        rw [seg_app g1 k1]
        exact g5.app k3
      · cases h
    · rename_i c1
      rw [if_neg c1]
      exact ⟨Nat.le_refl _, hi, [], by rw [seg_nil]; exact .nil hae⟩
theorem node_kids {l : List Tm} {w : List Int} {t : List En} (hr : rightF l = true) : ∀ m : Nat, KC l w t m (nodeF l w t m)
  | 0 => fun e i he hn => by have := he.2.1; omega
  | m + 1 => by
    have N := node_kids (w := w) (t := t) hr m
    intro e i he hn hi h
    obtain ⟨⟨d0, d1⟩, n0, n1, f0, f1, f2⟩ := he
    have kd := kidsA (term_of_right hr) (i := e.n.toNat) (by omega)
    have whole : ∀ nd, 0 ≤ nd → nd < e.n → (wholeF (nodeF l w t m) w t e nd i).1 = true → i ≤ (wholeF (nodeF l w t m) w t e nd i).2 ∧ (wholeF (nodeF l w t m) w t e nd i).2 ≤ t.length ∧ ∃ S, Kids l.length e.d e.f e.t (seg t i (wholeF (nodeF l w t m) w t e nd i).2) S := by
      intro nd a0 a1 hw
      simp only [wholeF, Bool.and_eq_true, beq_iff_eq] at hw
      obtain ⟨g1, g2, g3, g4, S1, g5⟩ := kid_kids N hw.1 (by omega) a0 (by omega) (by omega) f0
      rw [hw.2] at g5
      exact ⟨g1, g2, S1, g5⟩
    have here : i ≤ i ∧ i ≤ t.length ∧ ∃ S, Kids l.length e.d e.f e.t (seg t i i) S := ⟨Nat.le_refl _, hi, [], by rw [seg_nil]; exact .nil f1⟩
    by_cases k1 : (tAt l e.n.toNat).k = 1
    · rw [nodeF, if_pos k1] at h ⊢; exact here
    by_cases k2 : (tAt l e.n.toNat).k = 2
    · rw [nodeF, if_neg k1, if_pos k2] at h ⊢; exact here
    by_cases k3 : (tAt l e.n.toNat).k = 3
    · have kd3 := kd.1 (.inl k3)
      rw [nodeF3 k3] at h ⊢
      split at h
      · rename_i c
        rw [if_pos c]
        simp only [Bool.and_eq_true, beq_iff_eq] at h
        obtain ⟨g1, g2, g3, g4, S1, g5⟩ := kid_kids N c (by omega) (by omega) (by omega) (by omega) f0
        obtain ⟨p1, p2, p3, p4, S2, p5⟩ := kid_kids N h.1 (by omega) (by omega) (by omega) (by omega) (by omega)
        rw [h.2] at p5
        refine ⟨by show i ≤ _; omega, p2, S1 ++ S2, ?_⟩
        show Kids _ _ _ _ (seg t i _) _
        rw [seg_app g1 p1]
        exact g5.app p5
      · cases h
    by_cases k4 : (tAt l e.n.toNat).k = 4
    · have kd4 := kd.1 (.inr k4)
      rw [nodeF, if_neg k1, if_neg k2, if_neg k3, if_pos k4] at h ⊢
      split at h
      · rename_i c; rw [if_pos c]; exact whole _ (by omega) (by omega) h
      · rename_i c; rw [if_neg c]; exact whole _ (by omega) (by omega) h
    have kd5 := kd.2 k1 k2 k3 k4
    by_cases k5 : (tAt l e.n.toNat).k = 5
    · rw [nodeF, if_neg k1, if_neg k2, if_neg k3, if_neg k4, if_pos k5] at h ⊢
      exact row_kids N (by omega) (by omega) (by omega) (by omega) _ _ _ f0 f1 hi h
    rw [nodeF, if_neg k1, if_neg k2, if_neg k3, if_neg k4, if_neg k5] at h ⊢
    split at h
    · rename_i c; rw [if_pos c]; exact here
    · rename_i c; rw [if_neg c]; exact whole _ (by omega) (by omega) h

/-- A parse tree: its root, and what lies in it. -/
theorem tree_kids {l : List Tm} {w : List Int} {t : List En} (h : tRight l w t = true) : rightF l = true ∧ ∃ (x : En) (s : List En) (S : List (Int × Int)), t = x :: s ∧ x.d = 1 ∧ 0 ≤ x.n ∧ x.n < l.length ∧ x.f = 0 ∧ x.t = w.length ∧ Kids l.length 1 0 w.length s S := by
  unfold tRight at h
  simp only [Bool.and_eq_true, beq_iff_eq] at h
  obtain ⟨hr, ⟨⟨h1, h2⟩, h3⟩, h4⟩ := h
  have l0 : 0 < l.length := (term_of_right hr).pos
  have h0 : 0 < t.length := by
    refine Nat.lt_of_not_le fun hh => ?_
    rw [nxF, if_neg (by omega)] at h1
    cases h1
  obtain ⟨ek, en, ef⟩ := nx_ok (l := l) (w := w) h1 (by omega) (by omega) (by omega) (by omega)
  have ex : nxF w t 0 1 ((l.length : Int) - 1) 0 = (enAt t 0, nxOk w (enAt t 0) 1 ((l.length : Int) - 1) 0, 1) := by rw [nxF, if_pos h0]
  rw [ex] at h1 h2 h3 h4 ek en ef
  simp only at h1 h2 h3 h4 ek en ef
  simp only [nxOk, Bool.and_eq_true, beq_iff_eq, decide_eq_true_eq] at h1
  obtain ⟨g1, g2, S, g3⟩ := node_kids (w := w) (t := t) hr l.length (enAt t 0) 1 ek (by omega) (by omega) h3
  have e4 : (nodeF l w t l.length (enAt t 0) 1).2 = t.length := by omega
  rw [e4, ef, h2, h1.1.1.1.1] at g3
  refine ⟨hr, enAt t 0, seg t 1 t.length, S, ?_, h1.1.1.1.1, by omega, by omega, ef, h2, g3⟩
  rw [← seg_cons h0 (by omega), seg_all]
theorem tree_ok {l : List Tm} {w : List Int} {t : List En} (h : tRight l w t = true) (hl : l.length ≤ 1000) : ∀ x ∈ t, ELie (w.length + 1) x := by
  obtain ⟨hr, x, s, S, rfl, g1, g2, g3, g4, g5, g6⟩ := tree_kids h
  intro y hy
  rcases List.mem_cons.1 hy with rfl | hy
  · exact ⟨by omega, g2, by omega, by omega, by omega, by omega⟩
  · obtain ⟨a1, a2, a3, a4, a5, a6⟩ := g6.mem y hy
    exact ⟨by omega, a2, by omega, by omega, by omega, by omega⟩

end Go.Proofs.Ytfldmpmaifjcbaa
