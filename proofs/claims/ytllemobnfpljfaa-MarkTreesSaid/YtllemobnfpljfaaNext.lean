/-
  Parts of a proof, side by side.
-/
import Derived.Test.YtllemobnfpljfaaHty
import Derived.Test.YtllemobnfpljfaaHs17
/-
  PLAIN: sets of bytes.
-/
set_option linter.unusedSimpArgs false
namespace Go.Proofs.Ytllemobnfpljfaa
open Go Go.Hs

structure St where
  s0 : Int
  s1 : Int
  s2 : Int
  s3 : Int
instance : Inhabited St := ⟨⟨0, 0, 0, 0⟩⟩
def St.cs (s : St) : List AC := [.im (.int .u64 s.s0), .im (.int .u64 s.s1), .im (.int .u64 s.s2), .im (.int .u64 s.s3)]
def sRows (l : List St) : List (List AC) := l.map St.cs
def sAt (l : List St) (i : Nat) : St := l.getD i default
def St.wf (s : St) : Prop := (0 ≤ s.s0 ∧ s.s0 ≤ 18446744073709551615) ∧ (0 ≤ s.s1 ∧ s.s1 ≤ 18446744073709551615) ∧ (0 ≤ s.s2 ∧ s.s2 ≤ 18446744073709551615) ∧ (0 ≤ s.s3 ∧ s.s3 ≤ 18446744073709551615)
theorem length_sRows (l : List St) : (sRows l).length = l.length := by simp [sRows]
theorem sRows_get (l : List St) (i : Nat) : (sRows l)[i]? = (l[i]?).map St.cs := by simp [sRows]
theorem getSt {l : List St} {i : Nat} : getR [.im (.int .u64 0), .im (.int .u64 0), .im (.int .u64 0), .im (.int .u64 0)] (sRows l) i 0 4 = (sAt l i).cs := by
  unfold getR sAt; rw [sRows_get]
  cases h : l[i]? with
  | none => simp [List.getD_eq_getElem?_getD, h]; rfl
  | some t => simp [List.getD_eq_getElem?_getD, h]; rfl
theorem sRows_frz {l : List St} : AC.frz.frzLL (sRows l) = sRows l := by
  show frzLL _ = _
  rw [frzLL_eq]
  simp [sRows, frzL_eq, AC.frz, St.cs]
theorem sRows_per {l : List St} : (sRows l).all (fun e => e.all AC.per) = true := by simp [sRows, AC.per, St.cs]
theorem sRows_ex {l : List St} {a b : Nat} : ex (sRows l) a b = sRows (ex l a b) := by simp [sRows, ex_eq, List.map_take, List.map_drop]
theorem sRows_take {l : List St} {a : Nat} : (sRows l).take a = sRows (l.take a) := by simp [sRows, List.map_take]
/-- A word of a set. -/
def St.w (s : St) (i : Nat) : Int := [s.s0, s.s1, s.s2, s.s3].getD i 0
theorem getW {a b c d : Int} {i : Nat} : ([AC.im (.int .u64 a), AC.im (.int .u64 b), AC.im (.int .u64 c), AC.im (.int .u64 d)][i]?).getD (.im (.int .u64 0)) = .im (.int .u64 ((St.mk a b c d).w i)) := by
  match i with
  | 0 | 1 | 2 | 3 => rfl
  | n + 4 => simp [St.w]
theorem St.w_wf {s : St} (h : s.wf) (i : Nat) : 0 ≤ s.w i ∧ s.w i ≤ 18446744073709551615 := by
  unfold St.wf at h
  match i with
  | 0 => exact h.1
  | 1 => exact h.2.1
  | 2 => exact h.2.2.1
  | 3 => exact h.2.2.2
  | n + 4 => simp [St.w]

def hasB (s : St) (b : Nat) : Bool := (s.w (b / 64)).toNat.testBit (b % 64)

theorem ofInt64_toNat {a : Int} (h0 : 0 ≤ a) (h1 : a ≤ 18446744073709551615) : (BitVec.ofInt 64 a).toNat = a.toNat := by
  rw [BitVec.toNat_ofInt]
  rw [Int.emod_eq_of_lt h0 (by omega)]

theorem has_shr {a : Int} {k : Nat} (h0 : 0 ≤ a) (h1 : a ≤ 18446744073709551615) :
    (IntKind.u64.wrap (BitVec.ofInt 64 (a.fdiv (2 ^ k)) &&& BitVec.ofInt 64 1).toNat == 1) = a.toNat.testBit k := by
  obtain ⟨n, rfl⟩ : ∃ n : Nat, a = n := ⟨a.toNat, by omega⟩
  have h2 : ((2 : Int) ^ k) = ((2 ^ k : Nat) : Int) := by simp
  have hpos := Nat.two_pow_pos k
  rw [h2, Int.toNat_natCast, Nat.testBit_eq_decide_div_mod_eq]
  generalize 2 ^ k = q at *
  have e1 : (n : Int).fdiv q = ((n / q : Nat) : Int) := by
    rw [Int.fdiv_eq_ediv_of_nonneg _ (by omega)]; rfl
  have hle : n / q ≤ n := Nat.div_le_self _ _
  rw [e1]
  generalize n / q = m at *
  rw [BitVec.toNat_and, ofInt64_toNat (by omega) (by omega)]
  have e2 : (BitVec.ofInt 64 1).toNat = 1 := rfl
  rw [e2, Int.toNat_natCast, Nat.and_one_is_mod, IntKind.wrap_u64]
  by_cases h : m % 2 = 1
  · simp [h]
  · have h0 : m % 2 = 0 := by omega
    simp [h0]

theorem shl1 {n : Int} (h0 : 0 ≤ n) (h1 : n < 64) : IntKind.u64.wrap (1 * 2 ^ n.toNat) = 2 ^ n.toNat := by
  rw [Int.one_mul]
  have h2 : ((2 : Int) ^ n.toNat) = ((2 ^ n.toNat : Nat) : Int) := by simp
  have hp : (2 : Nat) ^ n.toNat < 2 ^ 64 := Nat.pow_lt_pow_right (by omega) (by omega)
  rw [h2]
  generalize 2 ^ n.toNat = q at *
  rw [IntKind.wrap_u64]
  omega
theorem shr1 {n : Int} (h1 : n < 64) : min n.toNat 64 = n.toNat := Nat.min_eq_left (by omega)
end Go.Proofs.Ytllemobnfpljfaa

/-
  bset.Has, bset.Next; the document's.
-/
set_option linter.unusedSimpArgs false
namespace Go.Proofs.Ytllemobnfpljfaa
open Go Go.Hs
def L125 (r : Nat) : Option (List Nat) := kl r [(0, [1, 2]), (1, [4])]
def O125 (r : Nat) : List Nat × OT := ordl r []
def L128 (r : Nat) : Option (List Nat) := kl r [(0, [1, 2]), (1, [4])]
def O128 (r : Nat) : List Nat × OT := ordl r []

attribute [local go_sem] Option.isSome_some Option.isSome_none St.cs length_sRows getSt sRows_frz sRows_per sRows_ex sRows_take getW wrap8_in Int.tdiv_eq_ediv_of_nonneg Int.tmod_eq_emod_of_nonneg shl1 shr1

theorem refHas_ok (s : St) (b : Int) (hs : s.wf) (hb : 0 ≤ b ∧ b ≤ 255) : Contract Try.prog 128 [.agg s.cs, .c (.im (.int .i64 b))] (.c (.im (.bool (hasB s b.toNat)))) := by
  (refine contract_of_awp (L := L128) Try.func128 rfl (by kernel_rfl) (by first | rfl | decide) (by first | rfl | kernel_rfl) ?_; simp only [Try.ntmps128, initEnv, Env.keys, List.map_nil, List.map_cons, List.append_nil, List.cons_append, List.nil_append])
  have d1 : decide ((0 : Int) ≤ b) = true := decide_eq_true hb.1
  have d2 : decide (b < 256) = true := decide_eq_true (by omega)
  (repeat (first | (with_reducible (first | refine awp_seq ?_ | (refine awp_regionk ?_; intro KR hKR) | refine awp_block ?_ | refine awp_skip ?_ | refine awp_exit ?_ | refine awp_ret ?_ | refine awp_label ?_ | refine awp_goto ?_ | (refine awp_drawk O128 (by kernel_rfl) (by kernel_rfl) ?_; intro KR hKR; simp only [O128, ordl, ↓reduceIte, reduceCtorEq, Nat.reduceEqDiff]))) | ((with_reducible first | refine aops_step ?_ | refine rops_v ?_ | refine rops_l ?_ | refine rops_g ?_ | refine rops_e ?_ | refine altN_step ?_); intro K hK; simp (disch := omega) only [go_sem, ↓reduceIte, reduceCtorEq, Int.reduceToNat, Nat.reduceEqDiff, Nat.reduceLT, Nat.reduceLeDiff, Nat.reduceMul, Nat.reduceAdd]; (try ((with_reducible first | refine gopO_t ?_ | refine gopO_v rfl ?_); simp (disch := omega) only [go_sem, ↓reduceIte, reduceCtorEq, Int.reduceToNat, Nat.reduceEqDiff, Nat.reduceLT, Nat.reduceLeDiff, Nat.reduceMul, Nat.reduceAdd])); ((repeat (first | (intro (xb : Blk)) | (intro (xk : Nat)) | (intro hx) | (refine ⟨by (first | omega | (intro hg; simp only [Bool.and_eq_true, Bool.or_eq_true, Bool.not_eq_true', Bool.and_eq_false_iff, Bool.or_eq_false_iff, Bool.not_eq_false', decide_eq_true_eq, decide_eq_false_iff_not, beq_iff_eq, bne_iff_ne, beq_eq_false_iff_ne, bne_eq_false_iff_eq, Bool.true_eq_false, Bool.false_eq_true, reduceCtorEq] at hg; omega) | assumption | decide), ?_⟩))); refine hK _ ?_; clear K hK)) | ((with_reducible first | refine aops_nil ?_ | refine rops_nil ?_); simp only [go_sem, ↓reduceIte, reduceCtorEq, Int.reduceToNat, Nat.reduceEqDiff, Nat.reduceLT, Nat.reduceLeDiff, Nat.reduceMul, Nat.reduceAdd, L125, O125, L128, O128]; refine hKR _ ?_; clear KR hKR) | (simp only [thenE, inB, ↓reduceIte, reduceCtorEq, Nat.reduceEqDiff])))
  (simp only [retQ, Try.results128]; simp (disch := omega) only [resK, resT, resAV, Env.sel, Env.keys, List.map_nil, List.map_cons, List.all_nil, List.all_cons, AV.isS, Bool.not_false, Bool.and_self, Option.map_some, List.length_cons, List.length_nil, Nat.zero_add, Nat.reduceAdd, not_false_eq_true, true_and, and_true, ne_eq, go_sem, ↓reduceIte, reduceCtorEq, Int.reduceToNat, Nat.reduceEqDiff, Nat.reduceLT, Nat.reduceLeDiff, Nat.reduceMul, Nat.reduceAdd, ne_eq])
  have hh := has_shr (k := (b % 64).toNat) (St.w_wf hs (b / 64).toNat).1 (St.w_wf hs (b / 64).toNat).2
  have e1 : (b % 64).toNat = b.toNat % 64 := by omega
  have e2 : (b / 64).toNat = b.toNat / 64 := by omega
  refine congrArg (fun z : Bool => AV.c (AC.im (Value.bool z))) ?_
  rw [d1, d2, hasB, ← e1, ← e2]
  exact hh

end Go.Proofs.Ytllemobnfpljfaa
