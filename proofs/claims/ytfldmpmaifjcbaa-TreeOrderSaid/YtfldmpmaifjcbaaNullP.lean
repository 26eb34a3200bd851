/-
  PLAIN: which nodes of a term can be nothing, and the steps of one.
-/
import Derived.Test.YtfldmpmaifjcbaaTermQ
import Derived.Test.YtfldmpmaifjcbaaHs18
set_option linter.unusedSimpArgs false
namespace Go.Proofs.Ytfldmpmaifjcbaa
open Go Go.Hs

def canOf (t : Tm) (o : List Bool) : Bool :=
  if t.k = 1 ∨ t.k = 5 ∨ t.k = 6 then true
  else if t.k = 3 then o.getD t.a.toNat false && o.getD t.b.toNat false
  else if t.k = 4 then o.getD t.a.toNat false || o.getD t.b.toNat false
  else if t.k = 7 ∨ t.k = 8 then o.getD t.a.toNat false
  else false
def canN (l : List Tm) : Nat → List Bool
  | 0 => []
  | i + 1 => canN l i ++ [canOf (tAt l i) (canN l i)]
def canF (l : List Tm) : List Bool := if rightF l then canN l l.length else []
theorem canN_length {l : List Tm} : ∀ i, (canN l i).length = i
  | 0 => rfl
  | i + 1 => by simp [canN, canN_length i]
theorem canF_length {l : List Tm} : (canF l).length = if rightF l then l.length else 0 := by
  unfold canF
  split
  · exact canN_length _
  · rfl
theorem gb_lt {o : List Bool} {x d : Bool} {j : Nat} (h : j < o.length) : (o ++ [x]).getD j d = o.getD j d := by
  simp only [List.getD_eq_getElem?_getD]
  rw [List.getElem?_append_left h]
theorem gb_eq {o : List Bool} {x d : Bool} {j : Nat} (h : j = o.length) : (o ++ [x]).getD j d = x := by
  subst h
  simp only [List.getD_eq_getElem?_getD]
  rw [List.getElem?_append_right (Nat.le_refl _)]
  simp
theorem canN_get {l : List Tm} {n m b : Nat} (hb : b < n) (hn : n ≤ m) : (canN l m).getD b false = (canN l n).getD b false := by
  induction m with
  | zero => have : n = 0 := by omega
            subst this; rfl
  | succ m ih =>
    by_cases e : n = m + 1
    · subst e; rfl
    · rw [← ih (by omega)]
      have := canN_length (l := l) m
      simp only [canN]
      exact gb_lt (by omega)
theorem canF_get {l : List Tm} (hr : rightF l = true) {i : Nat} (hi : i < l.length) : (canF l).getD i false = canOf (tAt l i) (canN l i) := by
  rw [canF, if_pos hr, canN_get (n := i + 1) (by omega) hi]
  have := canN_length (l := l) i
  simp only [canN]
  exact gb_eq (by omega)
theorem canF_at {l : List Tm} (hr : rightF l = true) {i j : Nat} (hj : j < i) (hi : i ≤ l.length) : (canN l i).getD j false = (canF l).getD j false := by
  rw [canF, if_pos hr, canN_get hj hi]
theorem takeb_snoc {out o : List Bool} {i : Nat} {x : Bool} (h : out.take i = o) (hi : i < out.length) : (out.set i x).take (i + 1) = o ++ [x] := by
  rw [List.take_succ_eq_append_getElem (by rw [List.length_set]; exact hi), List.take_set_of_le (Nat.le_refl _), h]
  simp
theorem take_get {out o : List Bool} {i j : Nat} (h : out.take i = o) (hj : j < i) : out.getD j false = o.getD j false := by
  rw [← h]
  simp only [List.getD_eq_getElem?_getD, List.getElem?_take, if_pos hj]

def pad (n i : Nat) : List Bool := List.replicate (n - i) false
theorem pad_get {o : List Bool} {n i j : Nat} (h : o.length = i) (hj : j < i) : (o ++ pad n i).getD j false = o.getD j false := by
  simp only [List.getD_eq_getElem?_getD]
  rw [List.getElem?_append_left (by omega)]
theorem pad_set {o : List Bool} {n i : Nat} {x : Bool} (h : o.length = i) (hi : i < n) : (o ++ pad n i).set i x = (o ++ [x]) ++ pad n (i + 1) := by
  have e : pad n i = false :: pad n (i + 1) := by
    unfold pad; rw [show n - i = (n - (i + 1)) + 1 by omega, List.replicate_succ]
  rw [e, List.set_append_right _ _ (by omega), show i - o.length = 0 by omega]
  simp
theorem pad_no {o : List Bool} {n i : Nat} (hi : i < n) : (o ++ pad n i) = (o ++ [false]) ++ pad n (i + 1) := by
  have e : pad n i = false :: pad n (i + 1) := by
    unfold pad; rw [show n - i = (n - (i + 1)) + 1 by omega, List.replicate_succ]
  rw [e]
  simp
theorem pad_end {o : List Bool} {n : Nat} : o ++ pad n n = o := by simp [pad]
theorem pad_length {o : List Bool} {n i : Nat} (h : o.length = i) (hi : i ≤ n) : (o ++ pad n i).length = n := by
  simp [pad]; omega

/-- What opens and closes while a node is nothing. -/
def stepsG (l : List Tm) (can : List Bool) : Nat → Nat → List Int
  | 0, _ => []
  | n + 1, q => [(2 * q : Int)] ++ (if (tAt l q).k = 3 then stepsG l can n (tAt l q).a.toNat ++ stepsG l can n (tAt l q).b.toNat
      else if (tAt l q).k = 4 then (if can.getD (tAt l q).a.toNat false then stepsG l can n (tAt l q).a.toNat else stepsG l can n (tAt l q).b.toNat)
      else if (tAt l q).k = 7 ∨ (tAt l q).k = 8 then stepsG l can n (tAt l q).a.toNat else []) ++ [(2 * q + 1 : Int)]
theorem stepsG_cat {l : List Tm} {can : List Bool} {n q c d : Nat} (h : (tAt l q).k = 3) (ha : (tAt l q).a = c) (hb : (tAt l q).b = d) : stepsG l can (n + 1) q = [(2 * q : Int)] ++ stepsG l can n c ++ stepsG l can n d ++ [(2 * q + 1 : Int)] := by
  simp only [stepsG, if_pos h, ha, hb, Int.toNat_natCast, List.append_assoc]
theorem stepsG_alt {l : List Tm} {can : List Bool} {n q c d : Nat} (h : (tAt l q).k = 4) (ha : (tAt l q).a = c) (hb : (tAt l q).b = d) : stepsG l can (n + 1) q = [(2 * q : Int)] ++ (if can.getD c false then stepsG l can n c else stepsG l can n d) ++ [(2 * q + 1 : Int)] := by
  simp only [stepsG, if_neg (show (tAt l q).k ≠ 3 by omega), if_pos h, ha, hb, Int.toNat_natCast]
theorem stepsG_one {l : List Tm} {can : List Bool} {n q c : Nat} (h : (tAt l q).k = 7 ∨ (tAt l q).k = 8) (ha : (tAt l q).a = c) : stepsG l can (n + 1) q = [(2 * q : Int)] ++ stepsG l can n c ++ [(2 * q + 1 : Int)] := by
  simp only [stepsG, if_neg (show (tAt l q).k ≠ 3 by omega), if_neg (show (tAt l q).k ≠ 4 by omega), if_pos h, ha, Int.toNat_natCast]
theorem stepsG_no {l : List Tm} {can : List Bool} {n q : Nat} (h3 : (tAt l q).k ≠ 3) (h4 : (tAt l q).k ≠ 4) (h7 : (tAt l q).k ≠ 7) (h8 : (tAt l q).k ≠ 8) : stepsG l can (n + 1) q = [(2 * q : Int)] ++ [(2 * q + 1 : Int)] := by
  simp only [stepsG, if_neg h3, if_neg h4, if_neg (show ¬((tAt l q).k = 7 ∨ (tAt l q).k = 8) by omega), List.append_nil]
theorem stepsG_length {l : List Tm} {can : List Bool} {o : List Int} (ho : Low0 o) : ∀ n q, q < l.length → (∀ i, i < l.length → Node l o i) → ((stepsG l can n q).length : Int) ≤ 2 * (q + 1 - o.getD q 0)
  | 0, q, _, _ => by have := ho q; simp only [stepsG, List.length_nil]; omega
  | n + 1, q, hq, hn => by
    simp only [stepsG, List.length_append, List.length_cons, List.length_nil]
    rcases hn q hq with ⟨h1, h2, h3, h4⟩ | ⟨h1, c, d, h2, h3, h4, h5, h6⟩ | ⟨h1, d, h2, h3, h4, h5⟩
    · rw [if_neg (by omega), if_neg (by omega), if_neg (by omega)]
      simp only [List.length_nil]; omega
    · have lc := ho c
      have ld := ho d
      have i1 := stepsG_length (can := can) ho n c (by omega) hn
      have i2 := stepsG_length (can := can) ho n d (by omega) hn
      rw [h3, h4, Int.toNat_natCast, Int.toNat_natCast]
      rcases h1 with h1 | h1
      · rw [if_pos h1]
        simp only [List.length_append]; omega
      · rw [if_neg (by omega), if_pos h1]
        split <;> omega
    · have ld := ho d
      have i1 := stepsG_length (can := can) ho n d (by omega) hn
      rw [h4, Int.toNat_natCast, if_neg (by omega), if_neg (by omega)]
      split
      · omega
      · simp only [List.length_nil]; omega
def stepsF (l : List Tm) (q : Int) : List Int := if 0 ≤ q ∧ q < (canF l).length ∧ (canF l).getD q.toNat false = true then stepsG l (canF l) l.length q.toNat else []
theorem stepsF_length {l : List Tm} {q : Int} : (stepsF l q).length ≤ 1000 := by
  unfold stepsF
  split
  · rename_i h
    have hr : rightF l = true := by
      cases hr : rightF l with
      | true => rfl
      | false => have := canF_length (l := l); rw [hr] at this; simp at this; rw [this] at h; simp at h
    have ht := term_of_right hr
    have hl := canF_length (l := l)
    rw [if_pos hr] at hl
    have h1 := stepsG_length (can := canF l) ht.low l.length q.toNat (by omega) ht.node
    have h2 := ht.low q.toNat
    have h3 := ht.le
    omega
  · simp

end Go.Proofs.Ytfldmpmaifjcbaa
