/-
  PLAIN: the places of a term: its Leafs, each node's place, the places in a node, the least node that two nodes are in.
-/
import Derived.Test.YtllemobnfpljfaaTermQ
set_option linter.unusedSimpArgs false
namespace Go.Proofs.Ytllemobnfpljfaa
open Go Go.Hs

/-- The Leafs among the first nodes. -/
def lvsN (l : List Tm) : Nat → List Int
  | 0 => []
  | i + 1 => if (tAt l i).k = 2 then lvsN l i ++ [(i : Int)] else lvsN l i
def placesF (l : List Tm) : List Int := if rightF l then lvsN l l.length else []
theorem lvsN_length {l : List Tm} : ∀ i, (lvsN l i).length = leavesF l i
  | 0 => rfl
  | i + 1 => by simp only [lvsN, leavesF]; split <;> simp [lvsN_length i]
theorem placesF_length {l : List Tm} : (placesF l).length ≤ 64 := by
  unfold placesF
  split
  · rw [lvsN_length]; exact (term_of_right (by assumption)).leaves
  · simp
theorem placesF_not {l : List Tm} (h : rightF l = false) : placesF l = [] := by rw [placesF, h]; rfl


theorem leaves_mono {l : List Tm} {i j : Nat} (h : i ≤ j) : leavesF l i ≤ leavesF l j := by
  induction j with
  | zero => have : i = 0 := by omega
            subst this; exact Nat.le_refl _
  | succ j ih =>
    by_cases e : i = j + 1
    · subst e; exact Nat.le_refl _
    · have := ih (by omega)
      simp only [leavesF]; split <;> omega
theorem lvsN_get {l : List Tm} : ∀ i p, p < leavesF l i → ∃ q : Nat, q < i ∧ (lvsN l i).getD p 0 = q ∧ (tAt l q).k = 2 ∧ leavesF l q = p
  | 0, p, h => by simp [leavesF] at h
  | i + 1, p, h => by
    have hlen := lvsN_length (l := l) i
    simp only [leavesF] at h
    simp only [lvsN]
    split at h
    · rename_i hk
      rw [if_pos hk]
      by_cases e : p = leavesF l i
      · exact ⟨i, by omega, getD_snoc_eq (by rw [hlen]; exact e), hk, e.symm⟩
      · have hp : p < (lvsN l i).length := by omega
        obtain ⟨q, q1, q2, q3, q4⟩ := lvsN_get (l := l) i p (by omega)
        exact ⟨q, by omega, by rw [getD_snoc_lt hp]; exact q2, q3, q4⟩
    · rename_i hk
      rw [if_neg hk]
      obtain ⟨q, q1, q2, q3, q4⟩ := lvsN_get i p h
      exact ⟨q, by omega, q2, q3, q4⟩

/-- Each node's place. -/
def idxN (l : List Tm) : Nat → List Int
  | 0 => []
  | i + 1 => idxN l i ++ [if (tAt l i).k = 2 then (leavesF l i : Int) else -1]
def indexF (l : List Tm) : List Int := if rightF l then idxN l l.length else []
theorem idxN_length {l : List Tm} : ∀ i, (idxN l i).length = i
  | 0 => rfl
  | i + 1 => by simp [idxN, idxN_length i]
theorem idxN_get {l : List Tm} : ∀ i j, j < i → (idxN l i).getD j 0 = if (tAt l j).k = 2 then (leavesF l j : Int) else -1
  | 0, j, h => by omega
  | i + 1, j, h => by
    have := idxN_length (l := l) i
    simp only [idxN]
    by_cases e : j = i
    · subst e; exact getD_snoc_eq (by omega)
    · rw [getD_snoc_lt (by omega)]; exact idxN_get i j (by omega)
theorem indexF_length {l : List Tm} : (indexF l).length = if rightF l then l.length else 0 := by
  unfold indexF; split
  · exact idxN_length _
  · rfl
theorem indexF_not {l : List Tm} (h : rightF l = false) : indexF l = [] := by rw [indexF, h]; rfl

/-- Numbers side by side. -/
def rngF (s n : Nat) : List Int := (List.range n).map fun (j : Nat) => ((s + j : Nat) : Int)
theorem rngF_length {s n : Nat} : (rngF s n).length = n := by simp [rngF]
theorem rngF_succ {s n : Nat} : rngF s (n + 1) = rngF s n ++ [((s + n : Nat) : Int)] := by simp [rngF, List.range_succ]
theorem rngF_get {s n j : Nat} (h : j < n) : (rngF s n).getD j 0 = ((s + j : Nat) : Int) := by
  simp [rngF, List.getD_eq_getElem?_getD, h]
def underF (l : List Tm) (q : Int) : List Int := if 0 ≤ q ∧ q < (lowsF l).length then rngF (leavesF l ((lowsF l).getD q.toNat 0).toNat) (leavesF l (q + 1).toNat - leavesF l ((lowsF l).getD q.toNat 0).toNat) else []

/-! The least node that two nodes are in. -/
def isIn (l : List Tm) (q : Nat) (a : Int) : Bool := decide ((lowsF l).getD q 0 ≤ a) && decide (a ≤ q)
def joinN (l : List Tm) (a b : Int) : Nat → Int
  | 0 => -1
  | n + 1 => if joinN l a b n ≠ -1 then joinN l a b n else if isIn l n a && isIn l n b then n else -1
def joinF2 (l : List Tm) (a b : Int) : Int := if 0 ≤ a ∧ 0 ≤ b ∧ a < (lowsF l).length ∧ b < (lowsF l).length then joinN l a b l.length else -1
theorem joinN_none {l : List Tm} {a b : Int} : ∀ n, joinN l a b n = -1 → ∀ q, q < n → (isIn l q a && isIn l q b) = false
  | 0, _, q, h => by omega
  | n + 1, h, q, hq => by
    simp only [joinN] at h
    split at h
    · rename_i h1; exact absurd h h1
    · rename_i h1
      split at h
      · omega
      · rename_i h2
        by_cases e : q = n
        · subst e; simpa using h2
        · exact joinN_none n (by simpa using h1) q (by omega)
theorem joinN_some {l : List Tm} {a b : Int} : ∀ n q, q < n → (isIn l q a && isIn l q b) = true → (∀ q', q' < q → (isIn l q' a && isIn l q' b) = false) → joinN l a b n = q
  | 0, q, h, _, _ => by omega
  | n + 1, q, hq, h1, h2 => by
    simp only [joinN]
    by_cases e : q = n
    · subst e
      have : joinN l a b q = -1 := by
        have key : ∀ m, m ≤ q → joinN l a b m = -1 := by
          intro m
          induction m with
          | zero => intro _; rfl
          | succ m ih =>
            intro hm
            simp only [joinN, ih (by omega), h2 m (by omega)]
            rfl
        exact key q (Nat.le_refl _)
      rw [if_neg (by simpa using this), if_pos h1]
    · have := joinN_some n q (by omega) h1 h2
      rw [if_pos (by omega), this]
/-- What goes up from a, node by node, comes by each node that a is in. -/
theorem up_next {l : List Tm} (hr : rightF l = true) {a : Int} {q q' p : Nat} (hq : isIn l q a = true) (hq' : isIn l q' a = true) (hlt : q < q') (hl : q' < l.length) (hp : (upF l).getD q 0 = p) : p ≤ q' := by
  have ht := term_of_right hr
  simp only [isIn, Bool.and_eq_true, decide_eq_true_eq] at hq hq'
  have hlow := ht.low q
  have hlam : (lowsF l).getD q' 0 ≤ (lowsF l).getD q 0 := by
    rcases laminar ht.low q' (fun i hi => ht.node i (by omega)) q hlt with h | h
    · omega
    · exact h
  obtain ⟨p', p1, p2, p3⟩ := has_par ht.low q' (fun i hi => ht.node i (by omega)) q (by omega) hlt
  have := (deep_part hr (by omega) p3).1
  omega
theorem up_in {l : List Tm} (hr : rightF l = true) {a : Int} {q p : Nat} (hq : isIn l q a = true) (hl : q < l.length) (hp : (upF l).getD q 0 = p) : q < p ∧ p < l.length ∧ isIn l p a = true := by
  have ht := term_of_right hr
  rcases upF_get hr hl with ⟨_, h⟩ | ⟨p', p1, p2, p3, p4⟩
  · omega
  · have e : p = p' := by omega
    subst e
    refine ⟨p1, p2, ?_⟩
    simp only [isIn, Bool.and_eq_true, decide_eq_true_eq] at hq ⊢
    refine ⟨?_, by omega⟩
    unfold IsPar at p3
    rcases ht.node p p2 with ⟨h1, h2, h3, h4⟩ | ⟨h1, c, d, h2, h3, h4, h5, h6⟩ | ⟨h1, d, h2, h3, h4, h5⟩
    · omega
    · have hc := ht.low c
      rcases p3 with h | h
      · have : c = q := by omega
        subst this; omega
      · have : d = q := by omega
        subst this; omega
    · have : d = q := by omega
      subst this; omega

end Go.Proofs.Ytllemobnfpljfaa
