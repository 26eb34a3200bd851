/-
  THE VALUE SEMANTICS, part 13: the steps of a proof of 'awp', one rule for each form of code and each operation.
-/
import Derived.Test.YtgiihapbgpnkkaaVs12
namespace Go.Vs
open Go Go.RowKit

section
variable {P : Program} {n : Nat} {L : Nat → Option (List Nat)} {Q : Exit → Env → Prop} {S : Env} {g : Bool} {K : AV → Prop} {KE : Env → Prop}

theorem awp_seq {x y : Code} (h : awp P n L x (thenE (awp P n L y Q) Q) S) : awp P n L (.seq x y) Q S := ⟨_, h, fun _ h => h⟩
theorem awp_skip (h : Q .normal S) : awp P n L .skip Q S := h
theorem awp_ret (h : Q .ret S) : awp P n L .ret Q S := h
theorem awp_exit {id : Nat} (h : Q (.exit id) S) : awp P n L (.exit id) Q S := h
theorem awp_block {id : Nat} {c : Code} (h : awp P n L c (inB id Q) S) : awp P n L (.block id c) Q S := h
theorem awp_region {id : Nat} {l : List Oper} (ds : List Nat) (h : aops P n l.toArray l (S.pubs ds) (fun S' => Q .normal (keep S' (L id)))) : awp P n L (.region id l.toArray false) Q S := by
  simp only [awp]; exact ⟨ds, h⟩
theorem awp_cond {c : Operand} {x y : Code} {b : Bool} (hc : condK S c (fun b' => b' = b)) (h1 : b = true → awp P n L x Q S) (h2 : b = false → awp P n L y Q S) : awp P n L (.cond c x y) Q S := by
  have key : ∀ (v : AV), (match v with | .c (.im (.bool b')) => b' = b | _ => False) → (match v with | .c (.im (.bool b')) => (b' = true → awp P n L x Q S) ∧ (b' = false → awp P n L y Q S) | _ => False) := by
    intro v hv
    split at hv
    · subst hv; exact ⟨h1, h2⟩
    · exact hv.elim
  simp only [awp, condK]
  simp only [condK] at hc
  unfold evK at hc ⊢
  cases c with
  | tmp t =>
    simp only at hc ⊢
    split
    · rename_i b' v hg; rw [hg] at hc; exact ⟨hc.1, key _ hc.2⟩
    · rename_i hg; rw [hg] at hc; exact hc.elim
    · rename_i hg; rw [hg] at hc; exact hc.elim
    · rename_i v q1 q2 q3 hg
      rw [hg] at hc
      refine key _ ?_
      cases v <;> first | exact hc | exact (q1 _ _ rfl).elim | exact (q2 _ _ _ _ rfl).elim | exact (q3 _ _ rfl).elim
    · rename_i hg; rw [hg] at hc; exact hc
  | const v =>
    cases v <;> simp only at hc ⊢ <;> first
      | exact hc
      | (split <;> rename_i hg <;> rw [hg] at hc <;> first | exact key _ hc | exact hc)
  | func f => exact hc.elim
  | global g => exact hc

theorem awp_regionk {id : Nat} {l : List Oper} (h : ∀ KR : Env → Prop, (∀ S', Q .normal S' → KR S') → aops P n l.toArray l S (fun S' => KR (keep S' (L id)))) : awp P n L (.region id l.toArray false) Q S :=
  awp_region [] (h _ fun _ h => h)
/-- What these slots own is only read from here on. -/
theorem awp_regionk_pub (ds : List Nat) {id : Nat} {l : List Oper} (h : ∀ KR : Env → Prop, (∀ S', Q .normal S' → KR S') → aops P n l.toArray l (S.pubs ds) (fun S' => KR (keep S' (L id)))) : awp P n L (.region id l.toArray false) Q S :=
  awp_region ds (h _ fun _ h => h)
theorem awp_drawk (O : Nat → List (Bool × Nat)) {id : Nat} {l : List Oper} (h1 : P.follows .mixedOrders = true) (h2 : (Region.noSelect l.toArray && (O id).length == l.toArray.size && ordB l.toArray (O id) (Array.replicate l.toArray.size false)) = true)
    (h : ∀ KR : Env → Prop, (∀ S', Q .normal S' → KR S') → rops P n l.toArray (O id) S (fun S' => KR (keep S' (L id)))) : awp P n L (.region id l.toArray true) Q S := by
  simp only [awp]; exact ⟨[], h1, O id, h2, h _ fun _ h => h⟩
theorem awp_condk {c : Operand} {x y : Code} (h : ∀ K : Bool → Prop, (∀ b, (b = true → awp P n L x Q S) → (b = false → awp P n L y Q S) → K b) → condK S c K) : awp P n L (.cond c x y) Q S := by
  simp only [awp]
  exact h _ (fun _ h1 h2 => ⟨h1, h2⟩)

theorem aops_nil {ops : Array Oper} (h : KE S) : aops P n ops [] S KE := h
theorem aops_step {ops : Array Oper} {o : Oper} {r : List Oper} (h : ∀ K : Env → Prop, (∀ S', aops P n ops r S' KE → K S') → aop P n ops S o K) : aops P n ops (o :: r) S KE := h _ (fun _ h => h)
theorem rops_nil {ops : Array Oper} (h : KE S) : rops P n ops [] S KE := h
theorem rops_q {ops : Array Oper} {i : Nat} {r : List (Bool × Nat)} (h : ∀ K : Env → Prop, (∀ S', rops P n ops r S' KE → K S') → match ops[i]? with | some o => qop P n ops S o K | none => False) : rops P n ops ((false, i) :: r) S KE := by
  have := h _ (fun _ h => h)
  unfold rops
  split
  · rename_i o hi _; rw [hi] at this; exact this
  · rename_i o hb; cases hb
  · rename_i hi; rw [hi] at this; exact this
theorem rops_a {ops : Array Oper} {i : Nat} {r : List (Bool × Nat)} (h : ∀ K : Env → Prop, (∀ S', rops P n ops r S' KE → K S') → match ops[i]? with | some o => aop P n ops S o K | none => False) : rops P n ops ((true, i) :: r) S KE := by
  have := h _ (fun _ h => h)
  unfold rops
  split
  · rename_i o hb; cases hb
  · rename_i o hi _; rw [hi] at this; exact this
  · rename_i hi; rw [hi] at this; exact this

theorem get_hit {d : Nat} {v : AV} {r : Env} : Env.get ((d, v) :: r) d = some v := by simp [Env.get]

theorem cond_and (p q : Bool) : (bif p then q else false) = (p && q) := by cases p <;> rfl
theorem cond_or (p q : Bool) : (bif p then true else q) = (p || q) := by cases p <;> rfl
theorem beq_t (p : Bool) : (p == true) = p := by cases p <;> rfl
theorem beq_f (p : Bool) : (p == false) = !p := by cases p <;> rfl
theorem imp_left {p q : Bool} : ((p && q) = true → p = true) = True := by cases p <;> cases q <;> simp
theorem imp_right {p q : Bool} : ((p && q) = true → q = true) = True := by cases p <;> cases q <;> simp

/-! The operations, one by one. -/
section ops
variable {x y : Operand} {a b : Int} {k : IntKind} {xt : TypeId} {p q : Bool}

theorem bin_add {xo yo : Operand} : binK P S g .add xt xo yo (.c (.im (.int k a))) (.c (.im (.int k b))) K = K (.c (.im (.int k (k.wrap (a + b))))) := by simp [binK]
theorem bin_sub {xo yo : Operand} : binK P S g .sub xt xo yo (.c (.im (.int k a))) (.c (.im (.int k b))) K = K (.c (.im (.int k (k.wrap (a - b))))) := by simp [binK]
theorem bin_mul {xo yo : Operand} : binK P S g .mul xt xo yo (.c (.im (.int k a))) (.c (.im (.int k b))) K = K (.c (.im (.int k (k.wrap (a * b))))) := by simp [binK]
theorem bin_quo {xo yo : Operand} : binK P S g .quo xt xo yo (.c (.im (.int k a))) (.c (.im (.int k b))) K = ((g = true → b ≠ 0) ∧ K (.c (.im (.int k (k.wrap (a.tdiv b)))))) := by simp [binK]
theorem bin_rem {xo yo : Operand} : binK P S g .rem xt xo yo (.c (.im (.int k a))) (.c (.im (.int k b))) K = ((g = true → b ≠ 0) ∧ K (.c (.im (.int k (a.tmod b))))) := by simp [binK]
theorem bin_and {xo yo : Operand} : binK P S g .and xt xo yo (.c (.im (.int k a))) (.c (.im (.int k b))) K = K (.c (.im (.int k (k.wrap (BitVec.ofInt k.bits a &&& BitVec.ofInt k.bits b).toNat)))) := by simp [binK]
theorem bin_or {xo yo : Operand} : binK P S g .or xt xo yo (.c (.im (.int k a))) (.c (.im (.int k b))) K = K (.c (.im (.int k (k.wrap (BitVec.ofInt k.bits a ||| BitVec.ofInt k.bits b).toNat)))) := by simp [binK]
theorem bin_shl {xo yo : Operand} {k' : IntKind} : binK P S g .shl xt xo yo (.c (.im (.int k a))) (.c (.im (.int k' b))) K = ((g = true → 0 ≤ b) ∧ K (.c (.im (.int k (k.wrap (a * 2 ^ (min b.toNat k.bits))))))) := by simp [binK]
theorem bin_shr {xo yo : Operand} {k' : IntKind} : binK P S g .shr xt xo yo (.c (.im (.int k a))) (.c (.im (.int k' b))) K = ((g = true → 0 ≤ b) ∧ K (.c (.im (.int k (a.fdiv (2 ^ (min b.toNat k.bits))))))) := by simp [binK]
theorem bin_eql {xo yo : Operand} : binK P S g .eql xt xo yo (.c (.im (.int k a))) (.c (.im (.int k b))) K = K (.c (.im (.bool (a == b)))) := by simp [binK]
theorem bin_neq {xo yo : Operand} : binK P S g .neq xt xo yo (.c (.im (.int k a))) (.c (.im (.int k b))) K = K (.c (.im (.bool (a != b)))) := by simp [binK]
theorem bin_lss {xo yo : Operand} : binK P S g .lss xt xo yo (.c (.im (.int k a))) (.c (.im (.int k b))) K = K (.c (.im (.bool (decide (a < b))))) := by simp [binK]
theorem bin_leq {xo yo : Operand} : binK P S g .leq xt xo yo (.c (.im (.int k a))) (.c (.im (.int k b))) K = K (.c (.im (.bool (decide (a ≤ b))))) := by simp [binK]
theorem bin_gtr {xo yo : Operand} : binK P S g .gtr xt xo yo (.c (.im (.int k a))) (.c (.im (.int k b))) K = K (.c (.im (.bool (decide (b < a))))) := by simp [binK]
theorem bin_geq {xo yo : Operand} : binK P S g .geq xt xo yo (.c (.im (.int k a))) (.c (.im (.int k b))) K = K (.c (.im (.bool (decide (b ≤ a))))) := by simp [binK]
theorem bin_beql {xo yo : Operand} : binK P S g .eql xt xo yo (.c (.im (.bool p))) (.c (.im (.bool q))) K = (P.underlying xt = some .bool ∧ K (.c (.im (.bool (p == q))))) := rfl
theorem bin_bneq {xo yo : Operand} : binK P S g .neq xt xo yo (.c (.im (.bool p))) (.c (.im (.bool q))) K = (P.underlying xt = some .bool ∧ K (.c (.im (.bool (p != q))))) := rfl
theorem bin_seql {xo yo : Operand} {s t : ByteArray} : binK P S g .eql xt xo yo (.c (.im (.string s))) (.c (.im (.string t))) K = K (.c (.im (.bool (s.toList == t.toList)))) := rfl
theorem bin_sneq {xo yo : Operand} {s t : ByteArray} : binK P S g .neq xt xo yo (.c (.im (.string s))) (.c (.im (.string t))) K = K (.c (.im (.bool !(s.toList == t.toList)))) := rfl
def isSl : Option TypeDesc → Bool
  | some (.slice _) => true
  | _ => false
theorem bin_nileq {xo yo : Operand} : binK P S g .eql xt xo yo (.c .nil) (.c .nil) K = (isSl (P.underlying xt) = true ∧ K (.c (.im (.bool true)))) := by
  simp only [binK, isSl]; split <;> simp_all
theorem bin_nilneq {xo yo : Operand} : binK P S g .neq xt xo yo (.c .nil) (.c .nil) K = (isSl (P.underlying xt) = true ∧ K (.c (.im (.bool false)))) := by
  simp only [binK, isSl]; split <;> simp_all
theorem bin_sleq {xo yo : Operand} {sz : Nat} {es : List (List AC)} : binK P S g .eql xt xo yo (.c (.sl sz es)) (.c .nil) K = (isSl (P.underlying xt) = true ∧ ∀ b, (b = true → es = []) → K (.c (.im (.bool b)))) := by
  simp only [binK, isSl]; split <;> simp_all
theorem bin_slneq {xo yo : Operand} {sz : Nat} {es : List (List AC)} : binK P S g .neq xt xo yo (.c (.sl sz es)) (.c .nil) K = (isSl (P.underlying xt) = true ∧ ∀ b, (b = true → es = []) → K (.c (.im (.bool !b)))) := by
  simp only [binK, isSl]; split <;> simp_all
theorem bin_roweq {xo yo : Operand} {d : Nat} : binK P S g .eql xt xo yo (.alias d) (.c .nil) K = (isSl (P.underlying xt) = true ∧ match S.get d with | some (.row b _ _ _) => K (.c (.im (.bool b))) | _ => False) := by
  simp only [binK, isSl]; cases h1 : P.underlying xt with
  | none => cases S.get d with
    | none => simp
    | some v => cases v <;> simp
  | some t => cases S.get d with
    | none => cases t <;> simp
    | some v => cases v <;> cases t <;> simp
theorem bin_rowneq {xo yo : Operand} {d : Nat} : binK P S g .neq xt xo yo (.alias d) (.c .nil) K = (isSl (P.underlying xt) = true ∧ match S.get d with | some (.row b _ _ _) => K (.c (.im (.bool !b))) | _ => False) := by
  simp only [binK, isSl]; cases h1 : P.underlying xt with
  | none => cases S.get d with
    | none => simp
    | some v => cases v <;> simp
  | some t => cases S.get d with
    | none => cases t <;> simp
    | some v => cases v <;> cases t <;> simp
theorem un_not : unK .not (.c (.im (.bool p))) K = K (.c (.im (.bool !p))) := rfl
theorem un_neg : unK .neg (.c (.im (.int k a))) K = K (.c (.im (.int k (k.wrap (0 - a))))) := rfl
theorem conv_int {src dst : TypeId} {d : TypeDesc} {k' : IntKind} (h1 : P.underlying src = some d) (h2 : P.underlying dst = some (.int k')) : convK P S g src dst (.c (.im (.int k a))) K = K (.c (.im (.int k' (k'.wrap a)))) := by simp [convK, h1, h2]

theorem v_move : vop P S g (.move x) K = evK S g x K := rfl
theorem v_assign : vop P S g (.assign x) K = evK S g x K := rfl
theorem v_bin {op : BinOp} {yt : TypeId} : vop P S g (.binOp op xt x y yt) K = evK S g x fun vx => evK S g y fun vy => binK P S g op xt x y vx vy K := rfl
theorem v_un {op : UnOp} : vop P S g (.unOp op xt x) K = evK S g x fun vx => unK op vx K := rfl
theorem v_conv {src dst : TypeId} : vop P S g (.convert src dst x) K = evK S g x fun vx => convK P S g src dst vx K := rfl
theorem v_call {c : Call} : vop P S g (.call c) K = callK P S g c K := rfl
theorem ev_const_int : evK S g (.const (.int k a)) K = K (.c (.im (.int k a))) := rfl
theorem ev_const_bool : evK S g (.const (.bool p)) K = K (.c (.im (.bool p))) := rfl
theorem ev_const_str {s : ByteArray} : evK S g (.const (.string s)) K = K (.c (.im (.string s))) := rfl
theorem ev_const_nil : evK S g (.const (.slice none 0 0)) K = K (.c .nil) := rfl
theorem ev_func {f : Nat} : evK S g (.func f) K = K (.fn f) := rfl
theorem ev_hit_c {t : Nat} {c : AC} {r : Env} : evK ((t, .c c) :: r) g (.tmp t) K = K (.c c) := by simp [evK, Env.get]
end ops

end
attribute [go_sem] constAC constACs aop eop asgK allocK boxK storeK callEK plainK v_move v_assign v_bin v_un v_conv v_call vop evK evP Env.get Env.set Env.drop Env.upd AV.refs AV.owns AV.arg guardK gop vcop vbop isBig splitK qop argsK convSK callFK bin_add bin_sub bin_mul bin_quo bin_rem bin_and bin_or bin_shl bin_shr bin_eql bin_neq bin_lss bin_leq bin_gtr bin_geq un_not un_neg convK callK ev_const_int ev_const_bool ev_const_str ev_const_nil ev_func content loadK cellsOf boundK sliceK appendK srcK buildSliceK makeSliceK buildK partsK partsV cond_and cond_or beq_t beq_f imp_left imp_right BP.place fillA splice_all AV.flat AC.flat TC.flat bin_beql bin_bneq bin_seql bin_sneq isSl bin_nileq bin_nilneq bin_sleq bin_slneq bin_roweq bin_rowneq List.map_cons List.map_nil Option.bind_some Option.bind_none ne_eq not_false_eq_true not_true_eq_false or_false false_or or_true true_or true_and and_true forall_const false_and and_false imp_self List.size_toArray List.getElem?_toArray List.getElem?_cons_succ List.getElem?_cons_zero Bool.true_and Bool.and_true Bool.false_and Bool.and_false Bool.false_eq_true forall_false beq_self_eq_true cond_true cond_false implies_true and_self true_imp_iff Option.some.injEq Nat.add_zero Nat.zero_add Nat.zero_mul Nat.mul_one List.length_cons List.length_nil List.isEmpty_cons List.isEmpty_nil List.all_cons List.all_nil Bool.not_true Bool.not_false

end Go.Vs
