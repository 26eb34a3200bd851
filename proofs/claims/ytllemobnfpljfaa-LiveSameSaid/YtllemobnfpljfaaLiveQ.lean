/-
  PLAIN: a machine without the registers that do not matter, beside the machine.
-/
import Derived.Test.YtllemobnfpljfaaLiveP
import Derived.Test.YtllemobnfpljfaaDrP
set_option linter.unusedSimpArgs false
set_option linter.unusedVariables false
namespace Go.Proofs.Ytllemobnfpljfaa
open Go Go.Hs

theorem length_keepN {l : List Int} {r : List Bool} : ∀ {k : Nat}, (keepN l r k).length = namesN r k
  | 0 => rfl
  | k + 1 => by
    rw [keepN, namesN, List.length_append, length_keepN]
    split <;> simp
theorem namesN_mono {r : List Bool} : ∀ {a b : Nat}, a ≤ b → namesN r a ≤ namesN r b
  | a, 0, h => by have : a = 0 := by omega
                  subst this; exact Nat.le_refl _
  | a, b + 1, h => by
    by_cases e : a = b + 1
    · subst e; exact Nat.le_refl _
    · have := namesN_mono (r := r) (a := a) (b := b) (by omega)
      rw [namesN]; omega
theorem namesN_lt {r : List Bool} {a b : Nat} (h : a < b) (hr : r.getD a false = true) : namesN r a < namesN r b := by
  have := namesN_mono (r := r) (a := a + 1) (b := b) h
  rw [namesN, if_pos hr] at this; omega
theorem namesN_le2 {r : List Bool} : ∀ k, namesN r k ≤ k
  | 0 => Nat.le_refl _
  | k + 1 => by have := namesN_le2 (r := r) k; rw [namesN]; split <;> omega
theorem keepN_get {l : List Int} {r : List Bool} {k : Nat} (hr : r.getD k false = true) : ∀ {n : Nat}, k < n → (keepN l r n).getD (namesN r k) 0 = l.getD k 0
  | 0, h => by omega
  | n + 1, h => by
    have hl := length_keepN (l := l) (r := r) (k := n)
    rw [keepN, List.getD_eq_getElem?_getD]
    by_cases e : k = n
    · subst e
      rw [List.getElem?_append_right (by omega), hl, Nat.sub_self, if_pos hr]; rfl
    · have := namesN_lt (r := r) (a := k) (b := n) (by omega) hr
      rw [List.getElem?_append_left (by omega), ← List.getD_eq_getElem?_getD]
      exact keepN_get hr (by omega)
theorem names_find {r : List Bool} : ∀ {n j : Nat}, j < namesN r n → ∃ k, k < n ∧ r.getD k false = true ∧ namesN r k = j
  | 0, j, h => by simp [namesN] at h
  | n + 1, j, h => by
    by_cases e : j < namesN r n
    · obtain ⟨k, h1, h2, h3⟩ := names_find e
      exact ⟨k, by omega, h2, h3⟩
    · rw [namesN] at h
      split at h
      · rename_i hr
        exact ⟨n, by omega, hr, by omega⟩
      · omega
theorem namesF_get {r : List Bool} {n : Nat} (h : n < r.length) : (namesF r).getD n 0 = namesN r n := by
  unfold namesF
  rw [List.getD_eq_getElem?_getD, List.getElem?_map, List.getElem?_range h]; rfl
theorem renF_get {l ns : List Int} {t : Nat} (h : t < l.length) : (renF l ns).getD t 0 = if 0 ≤ l.getD t 0 then ns.getD (l.getD t 0).toNat 0 else l.getD t 0 := by
  unfold renF
  rw [List.getD_eq_getElem?_getD, List.getElem?_map, List.getElem?_eq_getElem h, List.getD_eq_getElem?_getD, List.getElem?_eq_getElem h]; rfl
theorem getD_out {l : List Bool} {n : Nat} (h : l.getD n false = true) : n < l.length := by
  by_cases c : n < l.length
  · exact c
  · rw [List.getD_eq_getElem?_getD, List.getElem?_eq_none (by omega)] at h; cases h

section
variable {d : Df} {T : List (List Bool)}
theorem ts_len : (trimD d T).sts.length = d.sts.length := by
  show (trimSs d T d.sts.length).length = _
  have : ∀ i, (trimSs d T i).length = i := fun i => by
    induction i with
    | zero => rfl
    | succ i ih => simp [trimSs, ih]
  exact this _
theorem ts_at {i : Nat} (h : i < d.sts.length) : stAt (trimD d T).sts i = trimS T i (stAt d.sts i) := by
  have hl : ∀ i, (trimSs d T i).length = i := fun i => by
    induction i with
    | zero => rfl
    | succ i ih => simp [trimSs, ih]
  have : ∀ n i, i < n → stAt (trimSs d T n) i = trimS T i (stAt d.sts i) := fun n => by
    induction n with
    | zero => intro i h; omega
    | succ n ih =>
      intro i h
      unfold stAt
      rw [trimSs, List.getD_eq_getElem?_getD]
      by_cases e : i = n
      · subst e
        rw [List.getElem?_append_right (by rw [hl]; omega), hl, Nat.sub_self]; rfl
      · rw [List.getElem?_append_left (by rw [hl]; omega), ← List.getD_eq_getElem?_getD]
        exact ih i (by omega)
  exact this _ _ h
theorem te_at {i c : Nat} (hi : i < d.sts.length) (hc : c < (stAt d.sts i).eds.length) : edAt (stAt (trimD d T).sts i).eds c = trimE T i (edAt (stAt d.sts i).eds c) := by
  rw [ts_at hi]
  show edAt (List.map _ _) c = _
  unfold edAt
  rw [List.getD_eq_getElem?_getD, List.getElem?_map, List.getElem?_eq_getElem hc, List.getD_eq_getElem?_getD, List.getElem?_eq_getElem hc]; rfl
theorem te_len {i : Nat} (hi : i < d.sts.length) : (stAt (trimD d T).sts i).eds.length = (stAt d.sts i).eds.length := by
  rw [ts_at hi]
  show (List.map _ _).length = _
  rw [List.length_map]
theorem ta_len {i : Nat} (hi : i < d.sts.length) : (stAt (trimD d T).sts i).acc.length = (stAt d.sts i).acc.length := by
  rw [ts_at hi]
  show (renF _ _).length = _
  unfold renF; rw [List.length_map]

/-- What a number is called in the machine without what does not matter. -/
theorem ren_ok (hL : Live d T) {i : Nat} {l : List Int} {t : Nat} (ht : t < l.length) (hlive : 0 ≤ l.getD t 0 → bGet T i (l.getD t 0).toNat = true) :
    (0 ≤ l.getD t 0 → (renF l (namesF (bAt T i))).getD t 0 = namesN (bAt T i) (l.getD t 0).toNat) ∧ (¬ 0 ≤ l.getD t 0 → (renF l (namesF (bAt T i))).getD t 0 = l.getD t 0) := by
  refine ⟨fun h => ?_, fun h => ?_⟩
  · rw [renF_get ht, if_pos h, namesF_get (getD_out (hlive h))]
  · rw [renF_get ht, if_neg h]

/-- An edge's numbers, by those registers of the target that matter. -/
theorem src_ok (hL : Live d T) (hm : mB d = true) {i c : Nat} (hi : i < d.sts.length) (hc : c < (stAt d.sts i).eds.length) (h0 : 0 ≤ (edAt (stAt d.sts i).eds c).to) :
    (edAt (stAt d.sts i).eds c).to.toNat < d.sts.length ∧ (edAt (stAt d.sts i).eds c).src.length = (bAt T (edAt (stAt d.sts i).eds c).to.toNat).length ∧
    (trimE T i (edAt (stAt d.sts i).eds c)).src.length = namesN (bAt T (edAt (stAt d.sts i).eds c).to.toNat) (bAt T (edAt (stAt d.sts i).eds c).to.toNat).length ∧
    ∀ k, bGet T (edAt (stAt d.sts i).eds c).to.toNat k = true →
      (trimE T i (edAt (stAt d.sts i).eds c)).src.getD (namesN (bAt T (edAt (stAt d.sts i).eds c).to.toNat) k) 0 = (renF (edAt (stAt d.sts i).eds c).src (namesF (bAt T i))).getD k 0 := by
  have ed := mr_edge hm hi hc
  have hl : (renF (edAt (stAt d.sts i).eds c).src (namesF (bAt T i))).length = (edAt (stAt d.sts i).eds c).src.length := by unfold renF; rw [List.length_map]
  rcases ed with ⟨g, _⟩ | ⟨_, g1, g2, g3, _⟩
  · omega
  have hr := hL.inv.shp.row _ (show (edAt (stAt d.sts i).eds c).to.toNat < d.sts.length by omega)
  have e : (edAt (stAt d.sts i).eds c).src.length = (bAt T (edAt (stAt d.sts i).eds c).to.toNat).length := by omega
  have es : (trimE T i (edAt (stAt d.sts i).eds c)).src = keptF (renF (edAt (stAt d.sts i).eds c).src (namesF (bAt T i))) (bAt T (edAt (stAt d.sts i).eds c).to.toNat) := by
    unfold trimE; rw [if_pos h0]
  refine ⟨by omega, e, ?_, fun k hk => ?_⟩
  · rw [es, keptF, length_keepN, hl, e]
  · rw [es, keptF]
    exact keepN_get hk (by rw [hl, e]; exact getD_out hk)

theorem trim_bd (B : Bd d) (hL : Live d T) (hm : mB d = true) : Bd (trimD d T) := by
  refine ⟨by rw [ts_len]; exact B.sts, B.cls, fun i hi => ?_, fun i hi => ?_, fun i hi k hk => ?_⟩
  · rw [ts_len] at hi; rw [ta_len hi]; exact B.acc i hi
  · rw [ts_len] at hi; rw [te_len hi]; exact B.eds i hi
  · rw [ts_len] at hi
    rw [te_len hi] at hk
    rw [te_at hi hk]
    by_cases h0 : 0 ≤ (edAt (stAt d.sts i).eds k).to
    · have s := src_ok hL hm hi hk h0
      have := namesN_le2 (r := bAt T (edAt (stAt d.sts i).eds k).to.toNat) (bAt T (edAt (stAt d.sts i).eds k).to.toNat).length
      have := B.src i hi k hk
      rw [s.2.2.1]; omega
    · unfold trimE; rw [if_neg h0]; simp

theorem trim_m (hL : Live d T) (hm : mB d = true) : mB (trimD d T) = true := by
  have m := mr_ok hm
  refine decide_eq_true ⟨?_, ?_, fun i hi => ?_⟩
  · unfold MHead; rw [ts_len]; exact m.1
  · have h1 := m.1.2.2.2.1
    rw [ts_at (by omega)]
    have hr := hL.inv.shp.row 0 (by omega)
    rw [m.2.1] at hr
    have : (bAt T 0).length = 0 := by omega
    show ((namesN (bAt T 0) (bAt T 0).length : Nat) : Int) = 0
    rw [this]; rfl
  rw [ts_len] at hi
  have st := mr_st hm hi
  have hr := hL.inv.shp.row i hi
  have nl := namesN_le2 (r := bAt T i) (bAt T i).length
  refine decide_eq_true ⟨⟨?_, ?_, ?_⟩, decide_eq_true ⟨?_, fun t ht => ?_⟩, fun c hc => ?_⟩
  · rw [ts_at hi]; exact Int.natCast_nonneg _
  · rw [ts_at hi]
    show ((namesN (bAt T i) (bAt T i).length : Nat) : Int) ≤ 1216
    have := st.1; omega
  · rw [te_len hi]; exact st.1.2.2
  · rw [ta_len hi]; exact (of_decide_eq_true st.2.1 : AccOk _ _).1
  · rw [ta_len hi] at ht
    have en := (of_decide_eq_true ((of_decide_eq_true st.2.1 : AccOk _ _).2 t ht) : entP _ _ _)
    have rn := ren_ok hL (i := i) ht (hL.inv.fst i hi t ht)
    refine decide_eq_true ?_
    rw [ts_at hi]
    show entP ((renF (stAt d.sts i).acc (namesF (bAt T i))).getD t 0) (namesN (bAt T i) (bAt T i).length : Nat) true
    by_cases h0 : 0 ≤ (stAt d.sts i).acc.getD t 0
    · have lv := hL.inv.fst i hi t ht h0
      have := namesN_lt (getD_out lv) lv
      rw [rn.1 h0]
      exact .inl ⟨by omega, by omega⟩
    · rw [rn.2 h0]
      rcases en with h | h | h
      · omega
      · exact .inr (.inl h)
      · exact .inr (.inr h)
  · rw [te_len hi] at hc
    refine decide_eq_true ?_
    rw [te_at hi hc, ts_at hi]
    rcases mr_edge hm hi hc with ⟨g, _⟩ | ⟨g0, g1, g2, g3, g4⟩
    · exact .inl ⟨g, by unfold trimE; rw [if_neg (by omega)]; rfl⟩
    have s := src_ok hL hm hi hc g1
    refine .inr ⟨g0, g1, by rw [ts_len]; exact g2, ?_, fun j hj => ?_⟩
    · show _ = (stAt (trimD d T).sts (edAt (stAt d.sts i).eds c).to.toNat).regs
      rw [ts_at s.1, s.2.2.1]; rfl
    · rw [s.2.2.1] at hj
      obtain ⟨k, k1, k2, k3⟩ := names_find hj
      have e := s.2.2.2 k k2
      rw [k3] at e
      rw [e]
      have hk : k < (edAt (stAt d.sts i).eds c).src.length := by omega
      have en := (of_decide_eq_true (g4 k hk) : entP _ _ _)
      have lv : 0 ≤ (edAt (stAt d.sts i).eds c).src.getD k 0 → bGet T i ((edAt (stAt d.sts i).eds c).src.getD k 0).toNat = true := fun h0 => hL.clo i hi c hc k hk h0 k2
      have rn := ren_ok hL (i := i) hk lv
      refine decide_eq_true ?_
      show entP _ (namesN (bAt T i) (bAt T i).length : Nat) false
      by_cases h0 : 0 ≤ (edAt (stAt d.sts i).eds c).src.getD k 0
      · have lv := lv h0
        have := namesN_lt (getD_out lv) lv
        rw [rn.1 h0]
        exact .inl ⟨by omega, by omega⟩
      · rw [rn.2 h0]
        rcases en with h | h | h
        · omega
        · exact .inr (.inl h)
        · cases h.1

open Classical in
noncomputable def leastT (d : Df) : List (List Bool) := (List.range d.sts.length).map fun i => (List.range (stAt d.sts i).regs.toNat).map fun n => decide (∀ M, Fst d M → Clo d M → bGet M i n = true)
theorem least_row {i : Nat} (hi : i < d.sts.length) : bAt (leastT d) i = (List.range (stAt d.sts i).regs.toNat).map fun n => @decide (∀ M, Fst d M → Clo d M → bGet M i n = true) (Classical.propDecidable _) := by
  unfold bAt leastT
  rw [List.getD_eq_getElem?_getD, List.getElem?_map, List.getElem?_range hi]; rfl
theorem least_get {i n : Nat} (hi : i < d.sts.length) (hn : n < (stAt d.sts i).regs.toNat) : bGet (leastT d) i n = true ↔ ∀ M, Fst d M → Clo d M → bGet M i n = true := by
  have e : bGet (leastT d) i n = @decide (∀ M, Fst d M → Clo d M → bGet M i n = true) (Classical.propDecidable _) := by
    conv => lhs; unfold bGet
    rw [least_row hi, List.getD_eq_getElem?_getD, List.getElem?_map, List.getElem?_range hn]; rfl
  rw [e]
  exact @decide_eq_true_iff _ (Classical.propDecidable _)
theorem live_ex (hm : mB d = true) : ∃ T, Live d T := by
  have hout : ∀ i n, bGet (leastT d) i n = true → i < d.sts.length ∧ n < (stAt d.sts i).regs.toNat := fun i n h => by
    by_cases hi : i < d.sts.length
    · refine ⟨hi, ?_⟩
      have := getD_out h
      rw [least_row hi] at this
      simpa using this
    · unfold bGet bAt leastT at h
      rw [List.getD_eq_getElem?_getD (i := i), List.getElem?_eq_none (by simp; omega)] at h
      simp at h
  refine ⟨leastT d, ⟨⟨by unfold leastT; simp, fun i hi => ?_⟩, fun i hi t ht h0 => ?_, fun M f1 f2 i n h => ?_⟩, fun i hi c hc k hk h0 h1 => ?_⟩
  · rw [least_row hi]
    have := (mr_st hm hi).1
    simp; omega
  · have en := (of_decide_eq_true ((of_decide_eq_true (mr_st hm hi).2.1 : AccOk _ _).2 t ht) : entP _ _ _)
    have : (stAt d.sts i).acc.getD t 0 < (stAt d.sts i).regs := by rcases en with h | h | h <;> omega
    exact (least_get hi (by omega)).2 fun M f1 f2 => f1 i hi t ht h0
  · obtain ⟨a, b⟩ := hout i n h
    exact (least_get a b).1 h M f1 f2
  · rcases mr_edge hm hi hc with ⟨_, g⟩ | ⟨_, g1, g2, g3, g4⟩
    · omega
    have en := (of_decide_eq_true (g4 k hk) : entP _ _ _)
    have : (edAt (stAt d.sts i).eds c).src.getD k 0 < (stAt d.sts i).regs := by rcases en with h | h | h <;> omega
    obtain ⟨a, b⟩ := hout _ _ h1
    exact (least_get hi (by omega)).2 fun M f1 f2 => f2 i hi c hc k hk h0 ((least_get a b).1 h1 M f1 f2)

/-- What matters in a table, of which a part is closed. -/
def pullM (d : Df) (T M : List (List Bool)) : List (List Bool) := (List.range d.sts.length).map fun i => (List.range (bAt T i).length).map fun n => (bAt T i).getD n false && bGet M i (namesN (bAt T i) n)
theorem pull_get {M : List (List Bool)} {i n : Nat} (hi : i < d.sts.length) : bGet (pullM d T M) i n = (bGet T i n && bGet M i (namesN (bAt T i) n)) := by
  have e : bAt (pullM d T M) i = (List.range (bAt T i).length).map fun n => (bAt T i).getD n false && bGet M i (namesN (bAt T i) n) := by
    unfold bAt pullM
    rw [List.getD_eq_getElem?_getD, List.getElem?_map, List.getElem?_range hi]; rfl
  unfold bGet
  rw [e]
  by_cases h : n < (bAt T i).length
  · rw [List.getD_eq_getElem?_getD, List.getElem?_map, List.getElem?_range h]; rfl
  · rw [List.getD_eq_getElem?_getD, List.getElem?_eq_none (by simp; omega), List.getD_eq_getElem?_getD (l := bAt T i), List.getElem?_eq_none (by omega)]; rfl
theorem live_all (hL : Live d T) (hm : mB d = true) {M : List (List Bool)} (hM : Live (trimD d T) M) {i j : Nat} (hi : i < d.sts.length) (hj : j < (bAt M i).length) : bGet M i j = true := by
  have f1 : Fst d (pullM d T M) := fun i hi t ht h0 => by
    have lv := hL.inv.fst i hi t ht h0
    have rn := (ren_ok hL (i := i) ht (hL.inv.fst i hi t ht)).1 h0
    have f := hM.inv.fst i (by rw [ts_len]; exact hi) t (by rw [ta_len hi]; exact ht)
    rw [ts_at hi] at f
    have e : (trimS T i (stAt d.sts i)).acc.getD t 0 = namesN (bAt T i) ((stAt d.sts i).acc.getD t 0).toNat := rn
    rw [e] at f
    have f := f (by omega)
    rw [pull_get hi, lv, Bool.true_and]
    exact f
  have f2 : Clo d (pullM d T M) := fun i hi c hc k hk h0 h1 => by
    have h2 : 0 ≤ (edAt (stAt d.sts i).eds c).to := by
      rcases mr_edge hm hi hc with ⟨_, g⟩ | ⟨_, g, _⟩ <;> omega
    have s := src_ok hL hm hi hc h2
    rw [pull_get s.1, Bool.and_eq_true] at h1
    have lv := hL.clo i hi c hc k hk h0 h1.1
    have rn := (ren_ok hL (i := i) hk (fun _ => lv)).1 h0
    have e := s.2.2.2 k h1.1
    rw [rn] at e
    have f := hM.clo i (by rw [ts_len]; exact hi) c (by rw [te_len hi]; exact hc) (namesN (bAt T (edAt (stAt d.sts i).eds c).to.toNat) k) (by
      rw [te_at hi hc, s.2.2.1]
      exact namesN_lt (getD_out h1.1) h1.1)
    unfold CloAt at f
    rw [te_at hi hc, e] at f
    have f := f (by omega) h1.2
    rw [pull_get hi, lv, Bool.true_and]
    exact f
  have hl := hL.inv.leq _ f1 f2
  have hr := hM.inv.shp.row i (by rw [ts_len]; exact hi)
  rw [ts_at hi] at hr
  have hr : ((bAt M i).length : Int) = (namesN (bAt T i) (bAt T i).length : Nat) := hr
  obtain ⟨k, k1, k2, k3⟩ := names_find (r := bAt T i) (n := (bAt T i).length) (j := j) (by omega)
  have := hl i k k2
  rw [pull_get hi, Bool.and_eq_true, k3] at this
  exact this.2
theorem many_le (hL : Live d T) : ∀ {n : Nat}, n ≤ d.sts.length → manyN (trimD d T) n ≤ manyN d n
  | 0, _ => Int.le_refl _
  | n + 1, h => by
    have ih := many_le hL (n := n) (by omega)
    have hr := hL.inv.shp.row n (by omega)
    have := namesN_le2 (r := bAt T n) (bAt T n).length
    rw [manyN, manyN, ts_at (by omega)]
    have e : (trimS T n (stAt d.sts n)).regs = (namesN (bAt T n) (bAt T n).length : Nat) := rfl
    rw [e]; omega

/-! Two cars, one by the machine, one by that without what does not matter. -/
structure Sim (d : Df) (T : List (List Bool)) (c e : Cr) : Prop where
  pos : e.pos = c.pos
  st : e.st = c.st
  tags : e.tags = c.tags
  to : e.to = c.to
  regs : 0 ≤ c.st → ∀ n, bGet T c.st.toNat n = true → e.regs.getD (namesN (bAt T c.st.toNat) n) 0 = c.regs.getD n 0
theorem here_sim (hL : Live d T) {c e : Cr} (s : Sim d T c e) (h0 : 0 ≤ c.st) {l : List Int} {t : Nat} (ht : t < l.length) (hv : RegOk c.regs (l.getD t 0)) (hlive : 0 ≤ l.getD t 0 → bGet T c.st.toNat (l.getD t 0).toNat = true) :
    hereF e.pos e.regs ((renF l (namesF (bAt T c.st.toNat))).getD t 0) = hereF c.pos c.regs (l.getD t 0) := by
  have rn := ren_ok hL ht hlive
  by_cases h : 0 ≤ l.getD t 0
  · rw [rn.1 h, hereF, if_neg (by omega), if_neg (by omega), hereF, if_neg (by omega), if_neg (by omega), Int.toNat_natCast]
    exact s.regs h0 _ (hlive h)
  · rw [rn.2 h]
    rcases hv with h | h | h
    · rw [h, hereF, if_pos rfl, hereF, if_pos rfl, s.pos]
    · rw [h]; rfl
    · omega
theorem eachF_get {p : Int} {r l : List Int} {t : Nat} (h : t < l.length) : (eachF p r l).getD t 0 = hereF p r (l.getD t 0) := by
  unfold eachF
  rw [List.getD_eq_getElem?_getD, List.getElem?_map, List.getElem?_eq_getElem h, List.getD_eq_getElem?_getD, List.getElem?_eq_getElem h]; rfl
theorem list_ext_getD {a b : List Int} (h : a.length = b.length) (g : ∀ t, t < a.length → a.getD t 0 = b.getD t 0) : a = b :=
  List.ext_getElem h fun i h1 h2 => by
    have := g i h1
    rwa [List.getD_eq_getElem?_getD, List.getElem?_eq_getElem h1, List.getD_eq_getElem?_getD, List.getElem?_eq_getElem h2] at this
theorem sim_crB {c e : Cr} (v : VC d c) (s : Sim d T c e) : crB (trimD d T) e = crB d c := by
  unfold crB
  rw [s.st]
  rcases v.st with h | ⟨h0, h1, _⟩
  · rw [decide_eq_false (by omega), decide_eq_false (by omega)]
  · rw [ta_len (by omega)]
theorem sim_acc (hL : Live d T) (hm : mB d = true) {c e : Cr} (v : VC d c) (s : Sim d T c e) : Sim d T (crAcc d c) (crAcc (trimD d T) e) := by
  unfold crAcc
  rw [sim_crB v s]
  split
  · rename_i h
    have h : 0 ≤ c.st ∧ _ := of_decide_eq_true h
    rcases v.st with g | ⟨h0, h1, h2⟩
    · omega
    refine ⟨s.pos, s.st, ?_, s.pos, s.regs⟩
    show eachF e.pos e.regs (stAt (trimD d T).sts e.st.toNat).acc = eachF c.pos c.regs (stAt d.sts c.st.toNat).acc
    rw [s.st]
    have hl := ta_len (T := T) (show c.st.toNat < d.sts.length by omega)
    refine list_ext_getD (by rw [length_eachF, length_eachF, hl]) fun t ht => ?_
    rw [length_eachF, hl] at ht
    rw [eachF_get (by rw [hl]; exact ht), eachF_get ht, ts_at (by omega)]
    exact here_sim hL s h0 ht (mr_ent hm (by omega) h2 ht) (hL.inv.fst _ (by omega) t ht)
  · exact s
theorem sim_go (hL : Live d T) (hm : mB d = true) {c e : Cr} (v : VC d c) (s : Sim d T c e) {b : Int} (hb : 0 ≤ b ∧ b ≤ 255) :
    (crGo (trimD d T) e b).pos = (crGo d c b).pos ∧ (crGo (trimD d T) e b).st = (crGo d c b).st ∧ (crGo (trimD d T) e b).tags = (crGo d c b).tags ∧ (crGo (trimD d T) e b).to = (crGo d c b).to ∧
      (0 ≤ (crGo d c b).st → ∀ n, bGet T (crGo d c b).st.toNat n = true → (crGo (trimD d T) e b).regs.getD (namesN (bAt T (crGo d c b).st.toNat) n) 0 = (crGo d c b).regs.getD n 0) := by
  unfold crGo
  rw [s.st]
  by_cases h0 : 0 ≤ c.st
  · rw [if_pos h0, if_pos h0]
    rcases v.st with g | ⟨_, h1, h2⟩
    · omega
    have q := crEd_ok hm h0 h1 hb
    have hi : c.st.toNat < d.sts.length := by omega
    have ee : crEd (trimD d T) e b = trimE T c.st.toNat (crEd d c b) := by
      unfold crEd; rw [s.st]; exact te_at hi q.2.2
    refine ⟨s.pos, by rw [ee]; rfl, s.tags, s.to, ?_⟩
    show 0 ≤ (crEd d c b).to → ∀ n, bGet T (crEd d c b).to.toNat n = true → (eachF e.pos e.regs (crEd (trimD d T) e b).src).getD (namesN (bAt T (crEd d c b).to.toNat) n) 0 = (eachF c.pos c.regs (crEd d c b).src).getD n 0
    intro g0 n hn
    have sk := src_ok hL hm hi q.2.2 g0
    have hn2 := getD_out hn
    have hn3 : n < (crEd d c b).src.length := by unfold crEd; rw [sk.2.1]; exact hn2
    rw [ee, eachF_get (by unfold crEd; rw [sk.2.2.1]; exact namesN_lt hn2 hn), eachF_get hn3]
    unfold crEd
    rw [sk.2.2.2 n hn]
    exact here_sim hL s h0 hn3 (mr_src hm hi q.2.2 h2 hn3) (fun h => hL.clo _ hi _ q.2.2 n hn3 h hn)
  · rw [if_neg h0, if_neg h0]
    exact ⟨s.pos, rfl, s.tags, s.to, fun g => absurd g h0⟩
theorem sim_feed (hL : Live d T) (B : Bd d) (hm : mB d = true) {c e : Cr} (v : VC d c) (s : Sim d T c e) {b : Int} (hb : 0 ≤ b ∧ b ≤ 255) : Sim d T (crFeed d c b) (crFeed (trimD d T) e b) := by
  have g := sim_go hL hm v s hb
  have vg := v.go B hm hb
  refine sim_acc hL hm ⟨vg.st, vg.rl, vg.tl⟩ ⟨?_, g.2.1, g.2.2.1, g.2.2.2.1, g.2.2.2.2⟩
  show (crGo (trimD d T) e b).pos + 1 = (crGo d c b).pos + 1
  rw [g.1]
theorem sim_new (hL : Live d T) (hm : mB d = true) : Sim d T (crNew d) (crNew (trimD d T)) := by
  have m := mr_ok hm
  refine sim_acc hL hm ⟨.inr ⟨by simp, by have := m.1.2.2.2.1; simp only; omega, ?_⟩, by simp, by simp⟩ ⟨rfl, rfl, rfl, rfl, fun _ n hn => ?_⟩
  · show ((0 : Nat) : Int) = (stAt d.sts 0).regs
    rw [m.2.1]; rfl
  · simp
theorem sim_fold (hL : Live d T) (B : Bd d) (hm : mB d = true) : ∀ {w : List Int} {c e : Cr}, VC d c → Sim d T c e → (∀ x ∈ w, 0 ≤ x ∧ x ≤ 255) → Sim d T (w.foldl (crFeed d) c) (w.foldl (crFeed (trimD d T)) e)
  | [], _, _, _, s, _ => s
  | x :: w, c, e, v, s, hw => sim_fold hL B hm (w := w) (v.feed B hm (hw x (by simp))) (sim_feed hL B hm v s (hw x (by simp))) (fun y hy => hw y (by simp [hy]))
theorem find_eq {c e : Cr} (h1 : e.tags = c.tags) (h2 : e.to = c.to) : crFind e = crFind c := by
  unfold crFind; rw [h1, h2]
theorem live_search (hL : Live d T) (B : Bd d) (hm : mB d = true) {w : List Int} (hw : ∀ x ∈ w, 0 ≤ x ∧ x ≤ 255) : searchD (trimD d T) w = searchD d w ∧ matchD (trimD d T) w = matchD d w := by
  have s := sim_fold hL B hm (VC.new B hm) (sim_new hL hm) hw
  have v := VC.fold B hm (VC.new B hm) hw
  have f := find_eq s.tags s.to
  have b := sim_crB v s
  refine ⟨f, ?_⟩
  unfold matchD crRun
  rw [b, f]
end

end Go.Proofs.Ytllemobnfpljfaa
