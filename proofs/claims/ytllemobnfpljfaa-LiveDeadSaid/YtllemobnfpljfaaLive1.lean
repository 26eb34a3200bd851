/-
  live.first, Many; the document's Many.
-/
import Derived.Test.YtllemobnfpljfaaLiveP
import Derived.Test.YtllemobnfpljfaaDf3
set_option linter.unusedSimpArgs false
set_option linter.unusedVariables false
namespace Go.Proofs.Ytllemobnfpljfaa
open Go Go.Hs
def L112 (r : Nat) : Option (List Nat) := kl r [(0, [1]), (1, [1, 3]), (2, [3, 10, 11, 12]), (3, [3, 10, 11, 12, 13]), (4, [3, 5, 10, 11, 12]), (5, [3, 5, 6, 10, 11, 12]), (6, [3, 6, 10, 11, 12, 20, 21, 22]), (7, [3, 6, 10, 11, 12, 20, 21, 22, 23]), (8, [3, 6, 8, 10, 11, 12, 20, 21, 22]), (9, [3, 6, 8, 10, 11, 12, 20, 21, 22, 27]), (10, [3, 6, 10, 11, 12, 20, 21, 22]), (11, [3, 6, 10, 11, 12, 20, 21, 22]), (12, [3, 10, 11, 12]), (13, [3, 10, 11, 12]), (14, [2])]
def O112 (r : Nat) : List Nat × OT := ordl r []

/-- What a state's Accept tells, as far as it was gone through. -/
def RowI (s : Sta) (r : List Bool) (t : Nat) : Prop := (r.length : Int) = s.regs ∧ ∀ n, r.getD n false = true ↔ ∃ t', t' < t ∧ 0 ≤ s.acc.getD t' 0 ∧ (s.acc.getD t' 0).toNat = n
theorem rowI_zero {s : Sta} (h : 0 ≤ s.regs) : RowI s (List.replicate s.regs.toNat false) 0 := by
  refine ⟨by simp; omega, fun n => ?_⟩
  constructor
  · intro h
    rw [List.getD_eq_getElem?_getD, List.getElem?_replicate] at h
    split at h <;> cases h
  · rintro ⟨t', h, _⟩; omega
theorem rowI_set {s : Sta} {r : List Bool} {t : Nat} (h : RowI s r t) (h0 : 0 ≤ s.acc.getD t 0) (h1 : s.acc.getD t 0 < s.regs) : RowI s (r.set (s.acc.getD t 0).toNat true) (t + 1) := by
  refine ⟨by rw [List.length_set]; exact h.1, fun n => ?_⟩
  have hl : (s.acc.getD t 0).toNat < r.length := by have := h.1; omega
  by_cases e : (s.acc.getD t 0).toNat = n
  · subst e
    rw [List.getD_eq_getElem?_getD, List.getElem?_set_self hl]
    exact ⟨fun _ => ⟨t, by omega, h0, rfl⟩, fun _ => rfl⟩
  · rw [List.getD_eq_getElem?_getD, List.getElem?_set_ne e, ← List.getD_eq_getElem?_getD, h.2 n]
    constructor
    · rintro ⟨t', g1, g2, g3⟩; exact ⟨t', by omega, g2, g3⟩
    · rintro ⟨t', g1, g2, g3⟩
      refine ⟨t', ?_, g2, g3⟩
      by_cases e2 : t' = t
      · subst e2; exact absurd g3 e
      · omega
theorem rowI_skip {s : Sta} {r : List Bool} {t : Nat} (h : RowI s r t) (h0 : ¬ 0 ≤ s.acc.getD t 0) : RowI s r (t + 1) := by
  refine ⟨h.1, fun n => ?_⟩
  rw [h.2 n]
  constructor
  · rintro ⟨t', g1, g2, g3⟩; exact ⟨t', by omega, g2, g3⟩
  · rintro ⟨t', g1, g2, g3⟩
    refine ⟨t', ?_, g2, g3⟩
    by_cases e2 : t' = t
    · subst e2; exact absurd g2 h0
    · omega
theorem inv_first {d : Df} {R : List (Blk × List Bool)} (hl : R.length = d.sts.length) (h : ∀ i, i < d.sts.length → RowI (stAt d.sts i) (bV R i) (stAt d.sts i).acc.length) : Inv d (R.map (·.2)) := by
  refine ⟨⟨by rw [List.length_map]; exact hl, fun i hi => by rw [bAt_map]; exact (h i hi).1⟩, fun i hi t ht h0 => ?_, fun M f1 f2 i n hn => ?_⟩
  · unfold bGet
    rw [bAt_map]
    exact ((h i hi).2 _).2 ⟨t, ht, h0, rfl⟩
  · unfold bGet at hn
    rw [bAt_map] at hn
    by_cases hi : i < d.sts.length
    · obtain ⟨t, g1, g2, g3⟩ := ((h i hi).2 n).1 hn
      rw [← g3]
      exact f1 i hi t g1 g2
    · exfalso
      unfold bV at hn
      rw [List.getD_eq_getElem?_getD (l := R), List.getElem?_eq_none (by omega)] at hn
      simp at hn
theorem m_ok {d : Df} (h : mB d = true) : MOk d := of_decide_eq_true h
theorem m_st {d : Df} (h : mB d = true) {i : Nat} (hi : i < d.sts.length) : StOk d (leastC d.cls).length (stAt d.sts i) := of_decide_eq_true ((m_ok h).2.2 i hi)
theorem m_acc {d : Df} (h : mB d = true) {i t : Nat} (hi : i < d.sts.length) (ht : t < (stAt d.sts i).acc.length) (h0 : 0 ≤ (stAt d.sts i).acc.getD t 0) : (stAt d.sts i).acc.getD t 0 < (stAt d.sts i).regs := by
  have := (of_decide_eq_true (m_st h hi).2.1 : AccOk _ _).2 t ht
  have := (of_decide_eq_true this : entP _ _ _)
  rcases this with h | h | h <;> omega
theorem m_edge {d : Df} (h : mB d = true) {i c : Nat} (hi : i < d.sts.length) (hc : c < (stAt d.sts i).eds.length) : EdgeOk d (edAt (stAt d.sts i).eds c) (stAt d.sts i).regs := of_decide_eq_true ((m_st h hi).2.2 c hc)
theorem m_src {d : Df} (h : mB d = true) {i c k : Nat} (hi : i < d.sts.length) (hc : c < (stAt d.sts i).eds.length) (hk : k < (edAt (stAt d.sts i).eds c).src.length) : 0 ≤ (edAt (stAt d.sts i).eds c).to ∧ (edAt (stAt d.sts i).eds c).to.toNat < d.sts.length ∧ ((edAt (stAt d.sts i).eds c).src.length : Int) = (stAt d.sts (edAt (stAt d.sts i).eds c).to.toNat).regs ∧ (0 ≤ (edAt (stAt d.sts i).eds c).src.getD k 0 → (edAt (stAt d.sts i).eds c).src.getD k 0 < (stAt d.sts i).regs) := by
  rcases m_edge h hi hc with ⟨_, g⟩ | ⟨_, g1, g2, g3, g4⟩
  · omega
  · refine ⟨g1, by omega, g3, fun h0 => ?_⟩
    have := (of_decide_eq_true (g4 k hk) : entP _ _ _)
    rcases this with h | h | h <;> omega

attribute [local go_sem] AV.isS Ed.cs Sta.cs Df.cs length_edRows length_stRows gEd0' gEd0 gEd1 gEdR gSt0' gSt0 gSt1 gSt2 gStR xltT xltF xleT xleF xeqT xeqF xbeT xbeF xbnT xbnF length_boO getBO updBO boSnoc frzBO frzBO' boRows_frz

set_option maxRecDepth 100000 in
set_option maxHeartbeats 4000000 in
theorem first_ok (d : Df) (B : Bd d) (hm : mB d = true) : ContractR Try.prog 112 [.agg d.cs] (fun r => ∃ b R, R.length = d.sts.length ∧ Inv d (R.map (·.2)) ∧ b.isNone = false ∧ r = .c (.own b 85 1 (boO R))) := by
  have bs := B.sts
  have m1 := (m_ok hm).1
  unfold Df.cs
  (refine contract_of_awp (L := L112) Try.func112 rfl (by kernel_rfl) (by first | rfl | decide) (by first | rfl | kernel_rfl) ?_; simp only [Try.ntmps112, initEnv, Env.keys, List.map_nil, List.map_cons, List.append_nil, List.cons_append, List.nil_append])
  (repeat (first | (with_reducible (first | refine awp_seq ?_ | (refine awp_regionk ?_; intro KR hKR) | refine awp_block ?_ | refine awp_skip ?_ | refine awp_exit ?_ | refine awp_ret ?_ | refine awp_label ?_ | refine awp_goto ?_ | (refine awp_drawk O112 (by kernel_rfl) (by kernel_rfl) ?_; intro KR hKR; simp only [O112, ordl, ↓reduceIte, reduceCtorEq, Nat.reduceEqDiff]))) | ((with_reducible first | refine aops_step ?_ | refine rops_v ?_ | refine rops_l ?_ | refine rops_g ?_ | refine rops_e ?_ | refine altN_step ?_); intro K hK; simp (disch := omega) only [go_sem, seval]; (try ((with_reducible first | refine gopO_t ?_ | refine gopO_f rfl ?_ | refine gopO_v rfl ?_); simp (disch := omega) only [go_sem, seval])); ((repeat (first | (intro (xb : Blk)) | (intro (xk : Nat)) | (intro hx) | (refine ⟨by (first | omega | (intro hg; simp [-List.getD_eq_getElem?_getD] at hg; omega) | assumption | decide), ?_⟩))); refine hK _ ?_; clear K hK)) | ((with_reducible first | refine aops_nil ?_ | refine rops_nil ?_); simp only [go_sem, seval, L112, O112]; refine hKR _ ?_; clear KR hKR) | (simp only [thenE, inB, ↓reduceIte, reduceCtorEq, Nat.reduceEqDiff])))
  generalize xk = kd
  refine awp_loop [3, 10, 11, 12, 1003] (fun m S => ∃ (i : Nat) (nb : Blk) (R : List (Blk × List Bool)), i ≤ d.sts.length ∧ m + i = d.sts.length ∧ R.length = i ∧ (nb.isNone = decide (i = 0)) ∧ (∀ j, j < i → RowI (stAt d.sts j) (bV R j) (stAt d.sts j).acc.length) ∧ S = [(3, .c (.ref 1003 [] nb 1 0 i)), (10, .c (.sl 3 (stRows d.sts))), (11, .c (.im (.int .i64 d.sts.length))), (12, .c (.im (.int .i64 i))), (1003, .row nb 85 1 (boO R))]) d.sts.length ⟨0, none, [], by omega, rfl, rfl, rfl, fun j hj => (by omega), rfl⟩ ?_
  rintro m S' ⟨i, nb, R, hi, hmi, hR, hnb, hrow, rfl⟩
  (repeat (first | (with_reducible (first | refine awp_seq ?_ | (refine awp_regionk ?_; intro KR hKR) | refine awp_block ?_ | refine awp_skip ?_ | refine awp_exit ?_ | refine awp_ret ?_ | refine awp_label ?_ | refine awp_goto ?_ | (refine awp_drawk O112 (by kernel_rfl) (by kernel_rfl) ?_; intro KR hKR; simp only [O112, ordl, ↓reduceIte, reduceCtorEq, Nat.reduceEqDiff]))) | ((with_reducible first | refine aops_step ?_ | refine rops_v ?_ | refine rops_l ?_ | refine rops_g ?_ | refine rops_e ?_ | refine altN_step ?_); intro K hK; simp (disch := omega) only [go_sem, seval]; (try ((with_reducible first | refine gopO_t ?_ | refine gopO_f rfl ?_ | refine gopO_v rfl ?_); simp (disch := omega) only [go_sem, seval])); ((repeat (first | (intro (xb : Blk)) | (intro (xk : Nat)) | (intro hx) | (refine ⟨by (first | omega | (intro hg; simp [-List.getD_eq_getElem?_getD] at hg; omega) | assumption | decide), ?_⟩))); refine hK _ ?_; clear K hK)) | ((with_reducible first | refine aops_nil ?_ | refine rops_nil ?_); simp only [go_sem, seval, L112, O112]; refine hKR _ ?_; clear KR hKR) | (simp only [thenE, inB, ↓reduceIte, reduceCtorEq, Nat.reduceEqDiff])))
  ((with_reducible refine awp_condk ?_); intro K hK; simp (disch := omega) only [condK, go_sem, seval]; refine hK _ ?_ ?_; all_goals clear K hK; all_goals intro hq; all_goals (try simp only [Bool.and_eq_true, Bool.or_eq_true, Bool.not_eq_true', Bool.and_eq_false_iff, Bool.or_eq_false_iff, Bool.not_eq_false', decide_eq_true_eq, decide_eq_false_iff_not, beq_iff_eq, bne_iff_ne, beq_eq_false_iff_ne, bne_eq_false_iff_eq, Bool.true_eq_false, Bool.false_eq_true, reduceCtorEq] at hq); all_goals (try (exfalso; first | exact hq | omega)))
  · have hi2 : i < d.sts.length := by omega
    have st := m_st hm hi2
    have ac := fun t ht h0 => m_acc hm (i := i) (t := t) hi2 ht h0
    have rg := st.1
    have ba := B.acc i hi2
    clear hq
    generalize hS : stAt d.sts i = s at st ac rg ba
    (repeat (first | (with_reducible (first | refine awp_seq ?_ | (refine awp_regionk ?_; intro KR hKR) | refine awp_block ?_ | refine awp_skip ?_ | refine awp_exit ?_ | refine awp_ret ?_ | refine awp_label ?_ | refine awp_goto ?_ | (refine awp_drawk O112 (by kernel_rfl) (by kernel_rfl) ?_; intro KR hKR; simp only [O112, ordl, ↓reduceIte, reduceCtorEq, Nat.reduceEqDiff]))) | ((with_reducible first | refine aops_step ?_ | refine rops_v ?_ | refine rops_l ?_ | refine rops_g ?_ | refine rops_e ?_ | refine altN_step ?_); intro K hK; simp (disch := omega) only [go_sem, seval]; (try ((with_reducible first | refine gopO_t ?_ | refine gopO_f rfl ?_ | refine gopO_v rfl ?_); simp (disch := omega) only [go_sem, seval])); ((repeat (first | (intro (xb : Blk)) | (intro (xk : Nat)) | (intro hx) | (refine ⟨by (first | omega | (intro hg; simp [-List.getD_eq_getElem?_getD] at hg; omega) | assumption | decide), ?_⟩))); refine hK _ ?_; clear K hK)) | ((with_reducible first | refine aops_nil ?_ | refine rops_nil ?_); simp only [go_sem, seval, L112, O112]; refine hKR _ ?_; clear KR hKR) | (simp only [thenE, inB, ↓reduceIte, reduceCtorEq, Nat.reduceEqDiff])))
    rw [hS]
    (repeat (first | (with_reducible (first | refine awp_seq ?_ | (refine awp_regionk ?_; intro KR hKR) | refine awp_block ?_ | refine awp_skip ?_ | refine awp_exit ?_ | refine awp_ret ?_ | refine awp_label ?_ | refine awp_goto ?_ | (refine awp_drawk O112 (by kernel_rfl) (by kernel_rfl) ?_; intro KR hKR; simp only [O112, ordl, ↓reduceIte, reduceCtorEq, Nat.reduceEqDiff]))) | ((with_reducible first | refine aops_step ?_ | refine rops_v ?_ | refine rops_l ?_ | refine rops_g ?_ | refine rops_e ?_ | refine altN_step ?_); intro K hK; simp (disch := omega) only [go_sem, seval]; (try ((with_reducible first | refine gopO_t ?_ | refine gopO_f rfl ?_ | refine gopO_v rfl ?_); simp (disch := omega) only [go_sem, seval])); ((repeat (first | (intro (xb : Blk)) | (intro (xk : Nat)) | (intro hx) | (refine ⟨by (first | omega | (intro hg; simp [-List.getD_eq_getElem?_getD] at hg; omega) | assumption | decide), ?_⟩))); refine hK _ ?_; clear K hK)) | ((with_reducible first | refine aops_nil ?_ | refine rops_nil ?_); simp only [go_sem, seval, L112, O112]; refine hKR _ ?_; clear KR hKR) | (simp only [thenE, inB, ↓reduceIte, reduceCtorEq, Nat.reduceEqDiff])))
    generalize xk = kr
    refine awp_loop [3, 6, 10, 11, 12, 20, 21, 22, 1003, 1018] (fun m S => ∃ (t : Nat) (kb : Blk) (r : List Bool), t ≤ s.acc.length ∧ m + t = s.acc.length ∧ RowI s r t ∧ S = [(3, .c (.ref 1003 [] nb 1 0 i)), (6, .c (.ref 1018 [] kb 1 0 r.length)), (10, .c (.sl 3 (stRows d.sts))), (11, .c (.im (.int .i64 d.sts.length))), (12, .c (.im (.int .i64 i))), (20, .c (.sl 1 (kRows .i64 s.acc))), (21, .c (.im (.int .i64 s.acc.length))), (22, .c (.im (.int .i64 t))), (1003, .row nb 85 1 (boO R)), (1018, .row kb 4 1 (boRows r))]) s.acc.length ⟨0, some (kr, s.regs.toNat), List.replicate s.regs.toNat false, by omega, rfl, rowI_zero (by omega), by rw [List.length_replicate]; rfl⟩ ?_
    rintro m2 S' ⟨t, kb, r, ht, hm2, hr, rfl⟩
    (repeat (first | (with_reducible (first | refine awp_seq ?_ | (refine awp_regionk ?_; intro KR hKR) | refine awp_block ?_ | refine awp_skip ?_ | refine awp_exit ?_ | refine awp_ret ?_ | refine awp_label ?_ | refine awp_goto ?_ | (refine awp_drawk O112 (by kernel_rfl) (by kernel_rfl) ?_; intro KR hKR; simp only [O112, ordl, ↓reduceIte, reduceCtorEq, Nat.reduceEqDiff]))) | ((with_reducible first | refine aops_step ?_ | refine rops_v ?_ | refine rops_l ?_ | refine rops_g ?_ | refine rops_e ?_ | refine altN_step ?_); intro K hK; simp (disch := omega) only [go_sem, seval]; (try ((with_reducible first | refine gopO_t ?_ | refine gopO_f rfl ?_ | refine gopO_v rfl ?_); simp (disch := omega) only [go_sem, seval])); ((repeat (first | (intro (xb : Blk)) | (intro (xk : Nat)) | (intro hx) | (refine ⟨by (first | omega | (intro hg; simp [-List.getD_eq_getElem?_getD] at hg; omega) | assumption | decide), ?_⟩))); refine hK _ ?_; clear K hK)) | ((with_reducible first | refine aops_nil ?_ | refine rops_nil ?_); simp only [go_sem, seval, L112, O112]; refine hKR _ ?_; clear KR hKR) | (simp only [thenE, inB, ↓reduceIte, reduceCtorEq, Nat.reduceEqDiff])))
    ((with_reducible refine awp_condk ?_); intro K hK; simp (disch := omega) only [condK, go_sem, seval]; refine hK _ ?_ ?_; all_goals clear K hK; all_goals intro hq; all_goals (try simp only [Bool.and_eq_true, Bool.or_eq_true, Bool.not_eq_true', Bool.and_eq_false_iff, Bool.or_eq_false_iff, Bool.not_eq_false', decide_eq_true_eq, decide_eq_false_iff_not, beq_iff_eq, bne_iff_ne, beq_eq_false_iff_ne, bne_eq_false_iff_eq, Bool.true_eq_false, Bool.false_eq_true, reduceCtorEq] at hq); all_goals (try (exfalso; first | exact hq | omega)))
    · have ht2 : t < s.acc.length := by omega
      have ac2 := ac t ht2
      have hrl := hr.1
      clear hq
      (repeat (first | (with_reducible (first | refine awp_seq ?_ | (refine awp_regionk ?_; intro KR hKR) | refine awp_block ?_ | refine awp_skip ?_ | refine awp_exit ?_ | refine awp_ret ?_ | refine awp_label ?_ | refine awp_goto ?_ | (refine awp_drawk O112 (by kernel_rfl) (by kernel_rfl) ?_; intro KR hKR; simp only [O112, ordl, ↓reduceIte, reduceCtorEq, Nat.reduceEqDiff]))) | ((with_reducible first | refine aops_step ?_ | refine rops_v ?_ | refine rops_l ?_ | refine rops_g ?_ | refine rops_e ?_ | refine altN_step ?_); intro K hK; simp (disch := omega) only [go_sem, seval]; (try ((with_reducible first | refine gopO_t ?_ | refine gopO_f rfl ?_ | refine gopO_v rfl ?_); simp (disch := omega) only [go_sem, seval])); ((repeat (first | (intro (xb : Blk)) | (intro (xk : Nat)) | (intro hx) | (refine ⟨by (first | omega | (intro hg; simp [-List.getD_eq_getElem?_getD] at hg; omega) | assumption | decide), ?_⟩))); refine hK _ ?_; clear K hK)) | ((with_reducible first | refine aops_nil ?_ | refine rops_nil ?_); simp only [go_sem, seval, L112, O112]; refine hKR _ ?_; clear KR hKR) | (simp only [thenE, inB, ↓reduceIte, reduceCtorEq, Nat.reduceEqDiff])))
      ((with_reducible refine awp_condk ?_); intro K hK; simp (disch := omega) only [condK, go_sem, seval]; refine hK _ ?_ ?_; all_goals clear K hK; all_goals intro hq; all_goals (try simp only [Bool.and_eq_true, Bool.or_eq_true, Bool.not_eq_true', Bool.and_eq_false_iff, Bool.or_eq_false_iff, Bool.not_eq_false', decide_eq_true_eq, decide_eq_false_iff_not, beq_iff_eq, bne_iff_ne, beq_eq_false_iff_ne, bne_eq_false_iff_eq, Bool.true_eq_false, Bool.false_eq_true, reduceCtorEq] at hq); all_goals (try (exfalso; first | exact hq | omega)))
      · have hlt := ac2 hq
        (repeat (first | (with_reducible (first | refine awp_seq ?_ | (refine awp_regionk ?_; intro KR hKR) | refine awp_block ?_ | refine awp_skip ?_ | refine awp_exit ?_ | refine awp_ret ?_ | refine awp_label ?_ | refine awp_goto ?_ | (refine awp_drawk O112 (by kernel_rfl) (by kernel_rfl) ?_; intro KR hKR; simp only [O112, ordl, ↓reduceIte, reduceCtorEq, Nat.reduceEqDiff]))) | ((with_reducible first | refine aops_step ?_ | refine rops_v ?_ | refine rops_l ?_ | refine rops_g ?_ | refine rops_e ?_ | refine altN_step ?_); intro K hK; simp (disch := omega) only [go_sem, seval]; (try ((with_reducible first | refine gopO_t ?_ | refine gopO_f rfl ?_ | refine gopO_v rfl ?_); simp (disch := omega) only [go_sem, seval])); ((repeat (first | (intro (xb : Blk)) | (intro (xk : Nat)) | (intro hx) | (refine ⟨by (first | omega | (intro hg; simp [-List.getD_eq_getElem?_getD] at hg; omega) | assumption | decide), ?_⟩))); refine hK _ ?_; clear K hK)) | ((with_reducible first | refine aops_nil ?_ | refine rops_nil ?_); simp only [go_sem, seval, L112, O112]; refine hKR _ ?_; clear KR hKR) | (simp only [thenE, inB, ↓reduceIte, reduceCtorEq, Nat.reduceEqDiff])))
        refine gh_no ⟨s.acc.length - (t + 1), by omega, t + 1, kb, r.set (s.acc.getD t 0).toNat true, by omega, by omega, rowI_set hr hq hlt, ?_⟩
        rw [List.length_set]
        ((try simp (disch := omega) only [List.cons.injEq, Prod.mk.injEq, AV.c.injEq, AV.agg.injEq, AV.opt.injEq, AV.tup.injEq, AV.row.injEq, AV.box.injEq, AV.mapo.injEq, AC.im.injEq, AC.sl.injEq, AC.adr.injEq, AC.ref.injEq, AC.ptr.injEq, AC.own.injEq, AC.fn.injEq, Value.int.injEq, Value.bool.injEq, Value.string.injEq, heq_eq_eq, go_sem, seval]); (try (repeat' refine And.intro ?_ ?_)); all_goals (first | rfl | omega | skip))
      · (repeat (first | (with_reducible (first | refine awp_seq ?_ | (refine awp_regionk ?_; intro KR hKR) | refine awp_block ?_ | refine awp_skip ?_ | refine awp_exit ?_ | refine awp_ret ?_ | refine awp_label ?_ | refine awp_goto ?_ | (refine awp_drawk O112 (by kernel_rfl) (by kernel_rfl) ?_; intro KR hKR; simp only [O112, ordl, ↓reduceIte, reduceCtorEq, Nat.reduceEqDiff]))) | ((with_reducible first | refine aops_step ?_ | refine rops_v ?_ | refine rops_l ?_ | refine rops_g ?_ | refine rops_e ?_ | refine altN_step ?_); intro K hK; simp (disch := omega) only [go_sem, seval]; (try ((with_reducible first | refine gopO_t ?_ | refine gopO_f rfl ?_ | refine gopO_v rfl ?_); simp (disch := omega) only [go_sem, seval])); ((repeat (first | (intro (xb : Blk)) | (intro (xk : Nat)) | (intro hx) | (refine ⟨by (first | omega | (intro hg; simp [-List.getD_eq_getElem?_getD] at hg; omega) | assumption | decide), ?_⟩))); refine hK _ ?_; clear K hK)) | ((with_reducible first | refine aops_nil ?_ | refine rops_nil ?_); simp only [go_sem, seval, L112, O112]; refine hKR _ ?_; clear KR hKR) | (simp only [thenE, inB, ↓reduceIte, reduceCtorEq, Nat.reduceEqDiff])))
        refine gh_no ⟨s.acc.length - (t + 1), by omega, t + 1, kb, r, by omega, by omega, rowI_skip hr (by omega), ?_⟩
        ((try simp (disch := omega) only [List.cons.injEq, Prod.mk.injEq, AV.c.injEq, AV.agg.injEq, AV.opt.injEq, AV.tup.injEq, AV.row.injEq, AV.box.injEq, AV.mapo.injEq, AC.im.injEq, AC.sl.injEq, AC.adr.injEq, AC.ref.injEq, AC.ptr.injEq, AC.own.injEq, AC.fn.injEq, Value.int.injEq, Value.bool.injEq, Value.string.injEq, heq_eq_eq, go_sem, seval]); (try (repeat' refine And.intro ?_ ?_)); all_goals (first | rfl | omega | skip))
    · have et : t = s.acc.length := by omega
      subst et
      (repeat (first | (with_reducible (first | refine awp_seq ?_ | (refine awp_regionk ?_; intro KR hKR) | refine awp_block ?_ | refine awp_skip ?_ | refine awp_exit ?_ | refine awp_ret ?_ | refine awp_label ?_ | refine awp_goto ?_ | (refine awp_drawk O112 (by kernel_rfl) (by kernel_rfl) ?_; intro KR hKR; simp only [O112, ordl, ↓reduceIte, reduceCtorEq, Nat.reduceEqDiff]))) | ((with_reducible first | refine aops_step ?_ | refine rops_v ?_ | refine rops_l ?_ | refine rops_g ?_ | refine rops_e ?_ | refine altN_step ?_); intro K hK; simp (disch := omega) only [go_sem, seval]; (try ((with_reducible first | refine gopO_t ?_ | refine gopO_f rfl ?_ | refine gopO_v rfl ?_); simp (disch := omega) only [go_sem, seval])); ((repeat (first | (intro (xb : Blk)) | (intro (xk : Nat)) | (intro hx) | (refine ⟨by (first | omega | (intro hg; simp [-List.getD_eq_getElem?_getD] at hg; omega) | assumption | decide), ?_⟩))); refine hK _ ?_; clear K hK)) | ((with_reducible first | refine aops_nil ?_ | refine rops_nil ?_); simp only [go_sem, seval, L112, O112]; refine hKR _ ?_; clear KR hKR) | (simp only [thenE, inB, ↓reduceIte, reduceCtorEq, Nat.reduceEqDiff])))
      refine gh_no ⟨d.sts.length - (i + 1), by omega, i + 1, xb, R ++ [(kb, r)], by omega, by omega, by simp [hR], ?_, fun j hj => ?_, ?_⟩
      · rw [hx]; simp
      · rw [bV_snoc]
        split
        · rename_i e; rw [e, hR, hS]; exact hr
        · exact hrow j (by omega)
      · ((try simp (disch := omega) only [List.cons.injEq, Prod.mk.injEq, AV.c.injEq, AV.agg.injEq, AV.opt.injEq, AV.tup.injEq, AV.row.injEq, AV.box.injEq, AV.mapo.injEq, AC.im.injEq, AC.sl.injEq, AC.adr.injEq, AC.ref.injEq, AC.ptr.injEq, AC.own.injEq, AC.fn.injEq, Value.int.injEq, Value.bool.injEq, Value.string.injEq, heq_eq_eq, go_sem, seval]); (try (repeat' refine And.intro ?_ ?_)); all_goals (first | rfl | omega | skip))
        rw [boTake (by omega), boSnoc]
  · (repeat (first | (with_reducible (first | refine awp_seq ?_ | (refine awp_regionk ?_; intro KR hKR) | refine awp_block ?_ | refine awp_skip ?_ | refine awp_exit ?_ | refine awp_ret ?_ | refine awp_label ?_ | refine awp_goto ?_ | (refine awp_drawk O112 (by kernel_rfl) (by kernel_rfl) ?_; intro KR hKR; simp only [O112, ordl, ↓reduceIte, reduceCtorEq, Nat.reduceEqDiff]))) | ((with_reducible first | refine aops_step ?_ | refine rops_v ?_ | refine rops_l ?_ | refine rops_g ?_ | refine rops_e ?_ | refine altN_step ?_); intro K hK; simp (disch := omega) only [go_sem, seval]; (try ((with_reducible first | refine gopO_t ?_ | refine gopO_f rfl ?_ | refine gopO_v rfl ?_); simp (disch := omega) only [go_sem, seval])); ((repeat (first | (intro (xb : Blk)) | (intro (xk : Nat)) | (intro hx) | (refine ⟨by (first | omega | (intro hg; simp [-List.getD_eq_getElem?_getD] at hg; omega) | assumption | decide), ?_⟩))); refine hK _ ?_; clear K hK)) | ((with_reducible first | refine aops_nil ?_ | refine rops_nil ?_); simp only [go_sem, seval, L112, O112]; refine hKR _ ?_; clear KR hKR) | (simp only [thenE, inB, ↓reduceIte, reduceCtorEq, Nat.reduceEqDiff])))
    (simp only [retQ, Try.results112]; simp (disch := omega) only [resK, resT, resAV, Env.sel, Env.keys, List.map_nil, List.map_cons, List.all_nil, List.all_cons, AV.isS, Bool.not_false, Bool.and_self, Option.map_some, List.length_cons, List.length_nil, Nat.zero_add, Nat.reduceAdd, not_false_eq_true, true_and, and_true, ne_eq, go_sem, seval, ne_eq])
    have ei : i = d.sts.length := by omega
    subst ei
    refine ⟨by omega, nb, R, hR, inv_first hR hrow, by rw [hnb]; exact decide_eq_false (by omega), ?_⟩
    rw [boTake (by omega)]

end Go.Proofs.Ytllemobnfpljfaa
