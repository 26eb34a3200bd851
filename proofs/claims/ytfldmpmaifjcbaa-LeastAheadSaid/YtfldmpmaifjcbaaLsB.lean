/-
  Parts of a proof, side by side.
-/
import Derived.Test.YtfldmpmaifjcbaaLsX
import Derived.Test.YtfldmpmaifjcbaaLsO
/-
  PLAIN: what must come whatever the input is.
-/
set_option linter.unusedSimpArgs false
set_option linter.unusedVariables false
namespace Go.Proofs.Ytfldmpmaifjcbaa
open Go Go.Hs

/-- the Leaf of a letter. -/
def letF (b : Nat) : Tm := ⟨2,-1,-1,0,0,2 ^ (b % 64),0,0⟩
def s15 : List Tm := [letF 97,letF 97,letF 98,⟨3,1,2,0,0,0,0,0⟩,⟨4,0,3,0,0,0,0,0⟩,⟨7,4,-1,1,0,0,0,0⟩,letF 98,⟨6,6,-1,0,0,0,0,0⟩,⟨3,5,7,0,0,0,0,0⟩]
set_option maxRecDepth 100000 in
theorem s15_t : (treeL s15 [98]).2 = 7 := by kernel_rfl
set_option maxRecDepth 100000 in
theorem s15_m : matchL s15 [97,98] = ([⟨0,2⟩,⟨0,2⟩],0) := by kernel_rfl
set_option maxRecDepth 100000 in
theorem s15_f : findL s15 [99,97,98,97] = ([⟨1,3⟩,⟨1,3⟩],0) := by kernel_rfl

end Go.Proofs.Ytfldmpmaifjcbaa

/-
  PLAIN: what the bits of the table say, node by node.
-/
set_option linter.unusedSimpArgs false
set_option linter.unusedVariables false
namespace Go.Proofs.Ytfldmpmaifjcbaa
open Go Go.Hs

theorem tab_fix {l : List Tm} {w : List Int} {c : Nat} : ∀ k,c < k → k ≤ l.length → mAt (tabM l w k) c = mAt (tabM l w (c + 1)) c
  | 0,h,_ => absurd h (Nat.not_lt_zero _)
  | k + 1,h,hk => by
    by_cases e : c = k
    · subst e;rfl
    · rw [tabM,mAt_set (by rw [tab_len];omega),if_neg (by omega)]
      exact tab_fix k (by omega) (by omega)
theorem nodeR_congr {l : List Tm} {w : List Int} {M M' : List (List Int)} {q : Nat} {Z : List Int} {lo : List Int} (ht : Term l lo) (hq : q < l.length) (h : ∀ c,c < q → mAt M c = mAt M' c) : nodeR l w M q Z = nodeR l w M' q Z := by
  have kd := kidsA ht hq
  unfold nodeR
  split
  · rfl
  split
  · rfl
  split
  · rename_i k
    have := kd.1 (.inl k)
    rw [h _ (by omega),h _ (by omega)]
  split
  · rename_i k
    have := kd.1 (.inr k)
    rw [h _ (by omega),h _ (by omega)]
  have := kd.2 ‹_› ‹_› ‹_› ‹_›
  rw [h _ (by omega)]
def rT (l : List Tm) (w : List Int) (q : Nat) : List Int := mAt (tabM l w l.length) q
theorem rT_eq {l : List Tm} {w : List Int} {q : Nat} {lo : List Int} (ht : Term l lo) (hq : q < l.length) : rT l w q = nodeR l w (tabM l w l.length) q z0 := by
  unfold rT
  rw [tab_fix l.length hq (Nat.le_refl _),tabM,mAt_set (by rw [tab_len];omega),if_pos rfl]
  refine nodeR_congr ht hq fun c hc => ?_
  rw [tab_fix q hc (by omega),tab_fix l.length (by omega) (Nat.le_refl _)]
def bT (l : List Tm) (w : List Int) (q i j : Nat) : Bool := bitR (rT l w q) i j

theorem rowZ : RowOk z0 := rowOk0
theorem zbit {i j : Nat} : bitR z0 i j = false := bit_zero
theorem bT1 {l : List Tm} {w : List Int} {q i j : Nat} {lo : List Int} (ht : Term l lo) (hq : q < l.length) (hw : w.length ≤ 64) (k : (tAt l q).k = 1) (hi : i ≤ w.length) (hj : j ≤ w.length) : bT l w q i j = decide (i = j) := by
  unfold bT
  rw [rT_eq ht hq,nodeR,if_pos k,stay_bit rowZ (by omega) _ (by omega)]
  have e : bitR z0 i j = false := bit_zero
  rw [e]
  have : i < w.length + 1 := by omega
  simp [this]
theorem bT2 {l : List Tm} {w : List Int} {q i j : Nat} {lo : List Int} (ht : Term l lo) (hq : q < l.length) (hw : w.length ≤ 64) (k : (tAt l q).k = 2) (hi : i ≤ w.length) (hj : j ≤ w.length) : bT l w q i j = (decide (j = i + 1) && hasB (stOf (tAt l q)) (w.getD i 0).toNat) := by
  unfold bT
  rw [rT_eq ht hq,nodeR,if_neg (by omega),if_pos k,leaf_bit rowZ (by omega) _ (by omega)]
  have e : bitR z0 i j = false := bit_zero
  rw [e,Bool.false_or]
  by_cases h : j = i + 1
  · have : i < w.length := by omega
    simp [h,this]
  · simp [h]
theorem bT3 {l : List Tm} {w : List Int} {q i j : Nat} {lo : List Int} (ht : Term l lo) (hq : q < l.length) (hw : w.length ≤ 64) (k : (tAt l q).k = 3) (hi : i ≤ w.length) (hj : j ≤ w.length) : bT l w q i j = anyK (w.length + 1 - i) fun t => bT l w (tAt l q).a.toNat i (i + t) && bT l w (tAt l q).b.toNat (i + t) j := by
  have kd := (kidsA ht hq).1 (.inl k)
  unfold bT
  rw [rT_eq ht hq,nodeR,if_neg (by omega),if_neg (by omega),if_pos k,thenK_bit rowZ (tab_ok ht _ (Nat.le_refl _) _ (by omega)) hw (by omega) _ (Nat.le_refl _)]
  have e : bitR z0 i j = false := bit_zero
  rw [e,Bool.false_or]
  have : i < w.length + 1 := by omega
  simp only [this,decide_true,Bool.true_and]
  rfl
theorem bT4 {l : List Tm} {w : List Int} {q i j : Nat} {lo : List Int} (ht : Term l lo) (hq : q < l.length) (hw : w.length ≤ 64) (k : (tAt l q).k = 4) (hi : i ≤ w.length) (hj : j ≤ w.length) : bT l w q i j = (bT l w (tAt l q).a.toNat i j || bT l w (tAt l q).b.toNat i j) := by
  have kd := (kidsA ht hq).1 (.inr k)
  unfold bT
  rw [rT_eq ht hq,nodeR,if_neg (by omega),if_neg (by omega),if_neg (by omega),if_pos k,either_bit (either_ok rowZ (tab_ok ht _ (Nat.le_refl _) _ (by omega)) _) (tab_ok ht _ (Nat.le_refl _) _ (by omega)) (by omega) _ (by omega),either_bit rowZ (tab_ok ht _ (Nat.le_refl _) _ (by omega)) (by omega) _ (by omega)]
  have e : bitR z0 i j = false := bit_zero
  rw [e,Bool.false_or]
  have : i < 65 := by omega
  simp only [this,decide_true,Bool.true_and]
  rfl
theorem bT5 {l : List Tm} {w : List Int} {q i j : Nat} {lo : List Int} (ht : Term l lo) (hq : q < l.length) (hw : w.length ≤ 64) (k : (tAt l q).k = 5) (hi : i ≤ w.length) (hj : j ≤ w.length) : bT l w q i j = starF (fun a b => bT l w (tAt l q).a.toNat a b) w.length i j := by
  have kd := (kidsA ht hq).2 (by omega) (by omega) (by omega) (by omega)
  unfold bT
  rw [rT_eq ht hq,nodeR,if_neg (by omega),if_neg (by omega),if_neg (by omega),if_neg (by omega),if_pos k,againK_bit rowZ (fun i j => zbit) hw (by omega) _ (Nat.le_refl _)]
  have h1 : w.length + 1 - (w.length + 1) ≤ i := by omega
  simp only [h1,hi,decide_true,Bool.true_and]
  rfl
theorem bT6 {l : List Tm} {w : List Int} {q i j : Nat} {lo : List Int} (ht : Term l lo) (hq : q < l.length) (hw : w.length ≤ 64) (k : (tAt l q).k = 6) (hi : i ≤ w.length) (hj : j ≤ w.length) : bT l w q i j = (decide (i = j) || bT l w (tAt l q).a.toNat i j) := by
  have kd := (kidsA ht hq).2 (by omega) (by omega) (by omega) (by omega)
  unfold bT
  rw [rT_eq ht hq,nodeR,if_neg (by omega),if_neg (by omega),if_neg (by omega),if_neg (by omega),if_neg (by omega),if_pos k,either_bit (stay_ok rowZ _) (tab_ok ht _ (Nat.le_refl _) _ (by omega)) (by omega) _ (by omega),stay_bit rowZ (by omega) _ (by omega)]
  have e : bitR z0 i j = false := bit_zero
  rw [e,Bool.false_or]
  have h1 : i < 65 := by omega
  have h2 : i < w.length + 1 := by omega
  simp only [h1,h2,decide_true,Bool.true_and,Bool.and_true]
  rfl
theorem bT7 {l : List Tm} {w : List Int} {q i j : Nat} {lo : List Int} (ht : Term l lo) (hq : q < l.length) (k : (tAt l q).k = 7 ∨ (tAt l q).k = 8) : bT l w q i j = bT l w (tAt l q).a.toNat i j := by
  unfold bT
  rw [rT_eq ht hq,nodeR,if_neg (by omega),if_neg (by omega),if_neg (by omega),if_neg (by omega),if_neg (by omega),if_neg (by omega)]
  rfl
theorem star_back {f : Nat → Nat → Bool} {n j : Nat} : ∀ m i,n - i ≤ m → j < i → starF f n i j = false
  | 0,i,h,hj => by
    rw [starF_eq,show n - i = 0 by omega]
    have : ¬ i = j := by omega
    simp [anyK,this]
  | m + 1,i,h,hj => by
    rw [starF_eq]
    have h1 : ¬ i = j := by omega
    have h2 : anyK (n - i) (fun t => f i (i + 1 + t) && starF f n (i + 1 + t) j) = false := by
      rw [Bool.eq_false_iff]
      intro h
      obtain ⟨t,ht,hb⟩ := anyK_true.1 h
      rw [star_back m (i + 1 + t) (by omega) (by omega),Bool.and_false] at hb
      cases hb
    rw [h2];simp [h1]
theorem bT_back {l : List Tm} {w : List Int} {lo : List Int} (ht : Term l lo) (hw : w.length ≤ 64) : ∀ m q i j,q < m → q < l.length → i ≤ w.length → j < i → bT l w q i j = false
  | 0,_,_,_,h,_,_,_ => absurd h (Nat.not_lt_zero _)
  | m + 1,q,i,j,hm,hq,hi,hj => by
    have kd := kidsA ht hq
    have ih := fun q' h h2 => bT_back (w := w) ht hw m q' i j h h2 hi hj
    rcases ht.node q hq with ⟨g1,_⟩|⟨g1,_⟩|⟨g1,_⟩
    · rcases g1 with g1|g1
      · rw [bT1 ht hq hw g1 hi (by omega)]
        have : ¬ i = j := by omega
        simp [this]
      · rw [bT2 ht hq hw g1 hi (by omega)]
        have : ¬ j = i + 1 := by omega
        simp [this]
    · have k2 := kd.1 g1
      rcases g1 with g1|g1
      · rw [bT3 ht hq hw g1 hi (by omega),Bool.eq_false_iff]
        intro h
        obtain ⟨t,ht',hb⟩ := anyK_true.1 h
        rw [bT_back ht hw m (tAt l q).b.toNat (i + t) j (by omega) (by omega) (by omega) (by omega),Bool.and_false] at hb
        cases hb
      · rw [bT4 ht hq hw g1 hi (by omega),ih _ (by omega) (by omega),ih _ (by omega) (by omega)];rfl
    · have k2 := kd.2 (by omega) (by omega) (by omega) (by omega)
      rcases g1 with g1|g1|g1|g1
      · rw [bT5 ht hq hw g1 hi (by omega)]
        exact star_back _ _ (Nat.le_refl _) hj
      · rw [bT6 ht hq hw g1 hi (by omega),ih _ (by omega) (by omega)]
        have : ¬ i = j := by omega
        simp [this]
      · rw [bT7 ht hq (.inl g1)];exact ih _ (by omega) (by omega)
      · rw [bT7 ht hq (.inr g1)];exact ih _ (by omega) (by omega)

end Go.Proofs.Ytfldmpmaifjcbaa
