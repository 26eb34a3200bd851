/-
  THE HEAP SEMANTICS, part 16: the steps of a proof of 'awp', one rule for each form of code and each operation; rows of numbers.
-/
import Derived.Test.YtglgmmoomlnghaaHs15
import Derived.IntWalk
namespace Go.Hs
open Go Go.RowKit

section
variable {P : Program} {n : Nat} {L : Nat → Option (List Nat)} {Q : Exit → Env → Prop} {S : Env} {g : Bool} {K : AV → Prop} {KE : Env → Prop}

theorem Aq {x y : Code} (h : awp P n L x (thenE (awp P n L y Q) Q) S) : awp P n L (.seq x y) Q S := ⟨none,_,h,fun _ h => h⟩
theorem As (h : Q .normal S) : awp P n L .skip Q S := h
theorem At (h : Q .ret S) : awp P n L .ret Q S := h
theorem Ae {id : Nat} (h : Q (.exit id) S) : awp P n L (.exit id) Q S := h
theorem Al {id : Nat} (h : Q .normal S) : awp P n L (.label id) Q S := h
theorem Ag {id : Nat} (h : Q (.goto id) S) : awp P n L (.goto id) Q S := h
theorem Ab {id : Nat} {c : Code} (h : awp P n L c (inB id Q) S) : awp P n L (.block id c) Q S := h
/-- A cut where ways meet again: what holds behind x of the kept slots and objects. -/
theorem awp_mid {x y : Code} (ks : List Nat) (M : Env → Prop) (h : awp P n L x (thenE (fun S => M (S.restr ks)) Q) S) (hy : ∀ S',M S' → awp P n L y Q S') : awp P n L (.seq x y) Q S := ⟨some ks,M,h,hy⟩


theorem Ar {id : Nat} {l : List Oper} (h : ∀ KR : Env → Prop,(∀ S',Q .normal S' → KR S') → aops P n l.toArray l S (fun S' => KR (keepS S' (L id)))) : awp P n L (.region id l.toArray false) Q S := by
  simp only [awp]
  exact ⟨[],h (Q .normal) fun _ h => h⟩
theorem Ad (O : Nat → List Nat × OT) {id : Nat} {l : List Oper} (h1 : P.follows .mixedOrders = true) (h2 : (Region.noSelect l.toArray && (O id).2.ok && (O id).2.size == l.toArray.size && ordB l.toArray (O id).1 (O id).2 (Array.replicate l.toArray.size false)) = true)
    (h : ∀ KR : Env → Prop,(∀ S',Q .normal S' → KR S') → rops P n l.toArray (O id).1 (O id).2 S (fun S' => KR (keepS S' (L id)))) : awp P n L (.region id l.toArray true) Q S := by
  simp only [awp]
  exact ⟨[],h1,_,_,h2,h _ fun _ h => h⟩

theorem gh_cons {KK : Env → Prop} (x : Gh) (h : ghK S x fun S' => ∃ gh,ghs gh S' KK) : ∃ gh,ghs gh S KK := by
  cases x <;> simp only [ghK] at h
  case pub dd =>
    split at h
    · rename_i e1
      split at h
      · rename_i e2
        obtain ⟨h1,h2,h3,gh,h⟩ := h
        exact ⟨.pub dd :: gh,by simp only [ghs,ghK,e1,e2];exact ⟨h1,h2,h3,h⟩⟩
      · exact h.elim
    · exact h.elim
  case pubIn gg =>
    split at h
    · rename_i e1
      obtain ⟨h1,gh,h⟩ := h
      exact ⟨.pubIn gg :: gh,by simp only [ghs,ghK,e1];exact ⟨h1,h⟩⟩
    · exact h.elim
  case matS dd e sz =>
    split at h
    · rename_i e1
      obtain ⟨gh,h⟩ := h
      exact ⟨.matS dd e sz :: gh,by simp only [ghs,ghK,e1];exact h⟩
    · exact h.elim
  case matC gg i j e sz =>
    split at h
    · rename_i e1
      split at h
      · rename_i e2
        obtain ⟨gh,h⟩ := h
        exact ⟨.matC gg i j e sz :: gh,by simp only [ghs,ghK,e1,e2];exact h⟩
      · exact h.elim
    · exact h.elim
  case ren g1 g2 =>
    split at h
    · rename_i e1
      obtain ⟨h1,h2,h3,gh,h⟩ := h
      exact ⟨.ren g1 g2 :: gh,by simp only [ghs,ghK,e1];exact ⟨h1,h2,h3,h⟩⟩
    · exact h.elim
  case drp gg =>
    obtain ⟨gh,h⟩ := h
    exact ⟨.drp gg :: gh,h⟩
  case mov gg i j g2 =>
    split at h
    · rename_i e1
      split at h
      · rename_i e2
        obtain ⟨h1,h2,gh,h⟩ := h
        exact ⟨.mov gg i j g2 :: gh,by simp only [ghs,ghK,e1,e2];exact ⟨h1,h2,h⟩⟩
      · exact h.elim
    · exact h.elim

/-- Something said anew, then the region. -/
theorem awp_gh {id : Nat} {l : Array Oper} {d : Bool} (x : Gh) (h : ghK S x (awp P n L (.region id l d) Q)) : awp P n L (.region id l d) Q S := by
  simp only [awp] at h ⊢
  exact gh_cons x h
/-- Something said anew at a round's end. -/
theorem gh_end {KK : Env → Prop} (x : Gh) (h : ghK S x fun S' => ∃ gh,ghs gh S' KK) : ∃ gh,ghs gh S KK := gh_cons x h
theorem gh_no {KK : Env → Prop} (h : KK S) : ∃ gh,ghs gh S KK := ⟨[],h⟩
theorem Ac {c : Operand} {x y : Code} (h : ∀ K : Bool → Prop,(∀ b,(b = true → awp P n L x Q S) → (b = false → awp P n L y Q S) → K b) → condK S c K) : awp P n L (.cond c x y) Q S := by
  simp only [awp]
  exact h _ (fun _ h1 h2 => ⟨h1,h2⟩)

theorem Onq {ops : Array Oper} (h : KE S) : aops P n ops [] S KE := h
theorem Oz {ops : Array Oper} {o : Oper} {r : List Oper} (h : ∀ K : Env → Prop,(∀ S',aops P n ops r S' KE → K S') → aop P n false ops S o K) : aops P n ops (o :: r) S KE := h _ (fun _ h => h)
theorem Rn {ops : Array Oper} {E : List Nat} (h : KE S) : rops P n ops E .done S KE := h
theorem Rv {ops : Array Oper} {E : List Nat} {i : Nat} {r : OT} (h : ∀ K : Env → Prop,(∀ S',rops P n ops E r S' KE → K S') → match ops[i]? with|some o => qop P n ops S o K|none => False) : rops P n ops E (.val i r) S KE := h _ (fun _ h => h)
theorem Rl {ops : Array Oper} {E : List Nat} {i : Nat} {r : OT} (h : ∀ K : Env → Prop,(∀ S',rops P n ops E r S' KE → K S') → match ops[i]? with|some o => qop P n ops S o K|none => False) : rops P n ops E (.load i r) S KE := h _ (fun _ h => h)
theorem Rg {ops : Array Oper} {E : List Nat} {i : Nat} {r : OT} (h : ∀ K : Env → Prop,(∀ S',rops P n ops E r S' KE → K S') → match ops[i]? with|some o => aop P n true ops S o K|none => False) : rops P n ops E (.grow i r) S KE := h _ (fun _ h => h)
theorem Re {ops : Array Oper} {E : List Nat} {i : Nat} {r : OT} (h : ∀ K : Env → Prop,(∀ S',rops P n ops E r S' KE → K S') → match ops[i]? with|some o => aop P n false ops S o K|none => False) : rops P n ops E (.eff i r) S KE := h _ (fun _ h => h)
/-- One of those that may come up (altN: put in a shape of its own for each). -/
def altN (P : Program) (n : Nat) (ops : Array Oper) (E : List Nat) (i : Nat) (r : OT) (S : Env) (KE : Env → Prop) : Prop :=
  match ops[i]? with|some o => aop P n (!E.elem i) ops S o (fun S' => rops P n ops E r S' KE)|none => False
theorem rops_alt {ops : Array Oper} {E : List Nat} {rs : List Nat} {m : Nat} {f : Nat → OT} (h : ∀ i ∈ rs,altN P n ops E i (f i) S KE) : rops P n ops E (.alt rs m f) S KE := fun i hi => h i hi
theorem Rb {ops : Array Oper} {E : List Nat} {i j : Nat} {m : Nat} {f : Nat → OT} (h1 : altN P n ops E i (f i) S KE) (h2 : altN P n ops E j (f j) S KE) : rops P n ops E (.alt [i,j] m f) S KE :=
  rops_alt fun k hk => by
    simp only [List.mem_cons,List.not_mem_nil,or_false] at hk
    rcases hk with rfl|rfl
    · exact h1
    · exact h2
theorem Rc {ops : Array Oper} {E : List Nat} {i j k : Nat} {m : Nat} {f : Nat → OT} (h1 : altN P n ops E i (f i) S KE) (h2 : altN P n ops E j (f j) S KE) (h3 : altN P n ops E k (f k) S KE) : rops P n ops E (.alt [i,j,k] m f) S KE :=
  rops_alt fun l hl => by
    simp only [List.mem_cons,List.not_mem_nil,or_false] at hl
    rcases hl with rfl|rfl|rfl
    · exact h1
    · exact h2
    · exact h3
theorem Nz {ops : Array Oper} {E : List Nat} {i : Nat} {r : OT} (h : ∀ K : Env → Prop,(∀ S',rops P n ops E r S' KE → K S') → match ops[i]? with|some o => aop P n (!E.elem i) ops S o K|none => False) : altN P n ops E i r S KE := h _ (fun _ h => h)

theorem Gv {pu : Bool} {o : Oper} {d : Nat} (hd : o.dst = some d) (h : vcop P S g o.op fun v => d < n ∧ KE (S.set d (.opt g v))) : gopO P n pu S o g KE := .inl ⟨d,hd,h⟩
theorem Gt {pu : Bool} {o : Oper} (h : eop P n pu S o KE) : gopO P n pu S o true KE := .inr ⟨fun _ => h,fun h => by cases h⟩
theorem cond_and (p q : Bool) : (bif p then q else false) = (p && q) := by cases p <;> rfl
theorem cond_or (p q : Bool) : (bif p then true else q) = (p || q) := by cases p <;> rfl
theorem beq_t (p : Bool) : (p == true) = p := by cases p <;> rfl
theorem beq_f (p : Bool) : (p == false) = !p := by cases p <;> rfl
theorem imp_left {p q : Bool} : ((p && q) = true → p = true) = True := by cases p <;> cases q <;> simp
theorem imp_right {p q : Bool} : ((p && q) = true → q = true) = True := by cases p <;> cases q <;> simp

/-! The operations, one by one. -/
section ops
variable {x y : Operand} {a b : Int} {k : IntKind} {xt : TypeId} {p q : Bool}

theorem bin_add {xo yo : Operand} : binK P g .add xt xo yo (.c (.im (.int k a))) (.c (.im (.int k b))) K = K (.c (.im (.int k (k.wrap (a + b))))) := by simp [binK]
theorem bin_sub {xo yo : Operand} : binK P g .sub xt xo yo (.c (.im (.int k a))) (.c (.im (.int k b))) K = K (.c (.im (.int k (k.wrap (a - b))))) := by simp [binK]
theorem bin_mul {xo yo : Operand} : binK P g .mul xt xo yo (.c (.im (.int k a))) (.c (.im (.int k b))) K = K (.c (.im (.int k (k.wrap (a * b))))) := by simp [binK]
theorem bin_quo {xo yo : Operand} : binK P g .quo xt xo yo (.c (.im (.int k a))) (.c (.im (.int k b))) K = ((g = true → b ≠ 0) ∧ K (.c (.im (.int k (k.wrap (a.tdiv b)))))) := by simp [binK]
theorem bin_rem {xo yo : Operand} : binK P g .rem xt xo yo (.c (.im (.int k a))) (.c (.im (.int k b))) K = ((g = true → b ≠ 0) ∧ K (.c (.im (.int k (a.tmod b))))) := by simp [binK]
theorem bin_and {xo yo : Operand} : binK P g .and xt xo yo (.c (.im (.int k a))) (.c (.im (.int k b))) K = K (.c (.im (.int k (k.wrap (BitVec.ofInt k.bits a &&& BitVec.ofInt k.bits b).toNat)))) := by simp [binK]
theorem bin_or {xo yo : Operand} : binK P g .or xt xo yo (.c (.im (.int k a))) (.c (.im (.int k b))) K = K (.c (.im (.int k (k.wrap (BitVec.ofInt k.bits a ||| BitVec.ofInt k.bits b).toNat)))) := by simp [binK]
theorem bin_shl {xo yo : Operand} {k' : IntKind} : binK P g .shl xt xo yo (.c (.im (.int k a))) (.c (.im (.int k' b))) K = ((g = true → 0 ≤ b) ∧ K (.c (.im (.int k (k.wrap (a * 2 ^ (min b.toNat k.bits))))))) := by simp [binK]
theorem bin_shr {xo yo : Operand} {k' : IntKind} : binK P g .shr xt xo yo (.c (.im (.int k a))) (.c (.im (.int k' b))) K = ((g = true → 0 ≤ b) ∧ K (.c (.im (.int k (a.fdiv (2 ^ (min b.toNat k.bits))))))) := by simp [binK]
theorem bin_eql {xo yo : Operand} : binK P g .eql xt xo yo (.c (.im (.int k a))) (.c (.im (.int k b))) K = K (.c (.im (.bool (a == b)))) := by simp [binK]
theorem bin_neq {xo yo : Operand} : binK P g .neq xt xo yo (.c (.im (.int k a))) (.c (.im (.int k b))) K = K (.c (.im (.bool (a != b)))) := by simp [binK]
theorem bin_lss {xo yo : Operand} : binK P g .lss xt xo yo (.c (.im (.int k a))) (.c (.im (.int k b))) K = K (.c (.im (.bool (decide (a < b))))) := by simp [binK]
theorem bin_leq {xo yo : Operand} : binK P g .leq xt xo yo (.c (.im (.int k a))) (.c (.im (.int k b))) K = K (.c (.im (.bool (decide (a ≤ b))))) := by simp [binK]
theorem bin_gtr {xo yo : Operand} : binK P g .gtr xt xo yo (.c (.im (.int k a))) (.c (.im (.int k b))) K = K (.c (.im (.bool (decide (b < a))))) := by simp [binK]
theorem bin_geq {xo yo : Operand} : binK P g .geq xt xo yo (.c (.im (.int k a))) (.c (.im (.int k b))) K = K (.c (.im (.bool (decide (b ≤ a))))) := by simp [binK]
theorem bin_beql {xo yo : Operand} : binK P g .eql xt xo yo (.c (.im (.bool p))) (.c (.im (.bool q))) K = (P.underlying xt = some .bool ∧ K (.c (.im (.bool (p == q))))) := rfl
theorem bin_bneq {xo yo : Operand} : binK P g .neq xt xo yo (.c (.im (.bool p))) (.c (.im (.bool q))) K = (P.underlying xt = some .bool ∧ K (.c (.im (.bool (p != q))))) := rfl
theorem bin_seql {xo yo : Operand} {s t : ByteArray} : binK P g .eql xt xo yo (.c (.im (.string s))) (.c (.im (.string t))) K = K (.c (.im (.bool (s.toList == t.toList)))) := rfl
theorem bin_sneq {xo yo : Operand} {s t : ByteArray} : binK P g .neq xt xo yo (.c (.im (.string s))) (.c (.im (.string t))) K = K (.c (.im (.bool !(s.toList == t.toList)))) := rfl
theorem bin_slss {xo yo : Operand} {s t : ByteArray} : binK P g .lss xt xo yo (.c (.im (.string s))) (.c (.im (.string t))) K = K (.c (.im (.bool (Op.bytesLess s.toList t.toList)))) := rfl
theorem bin_sgtr {xo yo : Operand} {s t : ByteArray} : binK P g .gtr xt xo yo (.c (.im (.string s))) (.c (.im (.string t))) K = K (.c (.im (.bool !(Op.bytesLess s.toList t.toList || s.toList == t.toList)))) := rfl
theorem bin_sgeq {xo yo : Operand} {s t : ByteArray} : binK P g .geq xt xo yo (.c (.im (.string s))) (.c (.im (.string t))) K = K (.c (.im (.bool !(Op.bytesLess s.toList t.toList)))) := rfl
theorem bin_sadd {xo yo : Operand} {s t : ByteArray} : binK P g .add xt xo yo (.c (.im (.string s))) (.c (.im (.string t))) K = ((g = true → s.size + t.size ≤ 9223372036854775807) ∧ K (.c (.im (.string (s ++ t))))) := rfl
theorem bin_nil {xo yo : Operand} {op : BinOp} : binK P g op xt xo yo (.c .nil) (.c .nil) K = nilEqK P op xt true K := rfl
theorem bin_ref {xo yo : Operand} {op : BinOp} {gg : Nat} {qq : List (Nat × Nat)} {bb : Blk} {sz lo m : Nat} : binK P g op xt xo yo (.c (.ref gg qq bb sz lo m)) (.c .nil) K = nilEqK P op xt bb.isNone K := rfl
theorem bin_sl {xo yo : Operand} {op : BinOp} {sz : Nat} {es : List (List AC)} : binK P g op xt xo yo (.c (.sl sz es)) (.c .nil) K = ∀ b,(b = true → es = []) → nilEqK P op xt b K := rfl
theorem un_not : unK .not (.c (.im (.bool p))) K = K (.c (.im (.bool !p))) := rfl
theorem un_neg : unK .neg (.c (.im (.int k a))) K = K (.c (.im (.int k (k.wrap (0 - a))))) := rfl
theorem un_xor : unK .xor (.c (.im (.int k a))) K = K (.c (.im (.int k (k.wrap (BitVec.ofInt k.bits (if k.signed then -1 else k.max) ^^^ BitVec.ofInt k.bits a).toNat)))) := rfl

theorem v_move : vop P S g (.move x) K = evK S g x K := rfl
theorem v_assign : vop P S g (.assign x) K = evK S g x K := rfl
theorem v_bin {op : BinOp} {yt : TypeId} : vop P S g (.binOp op xt x y yt) K = evK S g x fun vx => evK S g y fun vy => binK P g op xt x y vx vy K := rfl
theorem v_un {op : UnOp} : vop P S g (.unOp op xt x) K = evK S g x fun vx => unK op vx K := rfl
theorem v_conv {src dst : TypeId} : vop P S g (.convert src dst x) K = evK S g x fun vx => convK P S g src dst vx K := rfl
theorem v_call {c : Call} : vop P S g (.call c) K = callK P S g c K := rfl
theorem ev_const_int : evK S g (.const (.int k a)) K = K (.c (.im (.int k a))) := rfl
theorem ev_const_bool : evK S g (.const (.bool p)) K = K (.c (.im (.bool p))) := rfl
theorem ev_const_str {s : ByteArray} : evK S g (.const (.string s)) K = K (.c (.im (.string s))) := rfl
theorem ev_const_nil : evK S g (.const (.slice none 0 0)) K = K (.c .nil) := rfl
theorem ev_const_ptr : evK S g (.const (.pointer none)) K = K (.c (.im (.pointer none))) := rfl
theorem ev_const_iface : evK S g (.const .nilIface) K = K (.c (.im .nilIface)) := rfl
theorem ev_func {f : Nat} : evK S g (.func f) K = K (.c (.fn f [])) := rfl
end ops
end

/-- The rows from a to b (core's name has its end hang on the list, so no rule could turn the list). -/
def ex {α : Type} (l : List α) (a b : Nat) : List α := l.extract a b
theorem extract_ex {α : Type} (l : List α) (a b : Nat) : l.extract a b = ex l a b := rfl
theorem ex_eq {α : Type} (l : List α) (a b : Nat) : ex l a b = (l.drop a).take (b - a) := by simp [ex,List.extract_eq_take_drop]
theorem ex_all {α : Type} (l : List α) : ex l 0 l.length = l := by simp [ex_eq]
theorem ex_nil {α : Type} (a b : Nat) : ex ([] : List α) a b = [] := by simp [ex_eq]
theorem ex_cons0 {α : Type} (x : α) (r : List α) (n : Nat) : ex (x :: r) 0 (n + 1) = x :: ex r 0 n := by simp [ex_eq]
theorem ex_succ {α : Type} (x : α) (r : List α) (a b : Nat) : ex (x :: r) (a + 1) (b + 1) = ex r a b := by simp [ex_eq]
theorem splice_0 {x c : AC} {e cs : List AC} : splice (x :: e) 0 (c :: cs) = c :: splice e 0 cs := by simp [splice]
theorem splice_none {e : List AC} {j : Nat} : splice e j [] = e := by simp [splice]
theorem splice_succ {x : AC} {e cs : List AC} {n : Nat} : splice (x :: e) (n + 1) cs = x :: splice e n cs := by simp [splice,Nat.add_right_comm]
theorem ex1 {α : Type} (x : α) : ex [x] 0 1 = [x] := rfl
theorem ex2 {α : Type} (x y : α) : ex [x,y] 0 2 = [x,y] := rfl
theorem ex3 {α : Type} (x y z : α) : ex [x,y,z] 0 3 = [x,y,z] := rfl
theorem ex4 {α : Type} (x y z u : α) : ex [x,y,z,u] 0 4 = [x,y,z,u] := rfl
theorem ex_same {α : Type} (l : List α) (a : Nat) : ex l a a = [] := by simp [ex_eq]

/-! Rows of numbers. -/
def kRows (k : IntKind) (l : List Int) : List (List AC) := l.map fun n => [.im (.int k n)]
def boRows (l : List Bool) : List (List AC) := l.map fun b => [.im (.bool b)]

section
variable {k : IntKind} {l m : List Int} {bl bm : List Bool}

theorem length_kRows : (kRows k l).length = l.length := by simp [kRows]
theorem kRows_eq_nil : (kRows k l = []) = (l = []) := by cases l <;> simp [kRows]
theorem kRows_snoc (x : Int) : kRows k l ++ [[.im (.int k x)]] = kRows k (l ++ [x]) := by simp [kRows]
theorem kRows_append : kRows k l ++ kRows k m = kRows k (l ++ m) := by simp [kRows]
theorem getC_kRows {i : Nat} : getC (.im (.int k 0)) (kRows k l) i 0 = .im (.int k (l.getD i 0)) := by
  unfold getC kRows
  by_cases h : i < l.length
  · simp [h]
  · simp [h]
theorem kRows_set {i : Nat} {x : Int} : (kRows k l).set i (splice ((kRows k l).getD i []) 0 [.im (.int k x)]) = kRows k (l.set i x) := by
  by_cases h : i < l.length
  · have e : (kRows k l).getD i [] = [.im (.int k (l.getD i 0))] := by simp [kRows,h]
    rw [e]
    simp [splice,kRows,List.map_set]
  · rw [List.set_eq_of_length_le (by rw [length_kRows];omega),List.set_eq_of_length_le (by omega)]
theorem kRows_replicate {n : Nat} {x : Int} : List.replicate n [AC.im (.int k x)] = kRows k (List.replicate n x) := by simp [kRows]
theorem kRows_ex {a b : Nat} : ex (kRows k l) a b = kRows k (ex l a b) := by simp [kRows,ex_eq,List.map_take,List.map_drop]
theorem kRows_take {a : Nat} : (kRows k l).take a = kRows k (l.take a) := by simp [kRows,List.map_take]
theorem kRows_drop {a : Nat} : (kRows k l).drop a = kRows k (l.drop a) := by simp [kRows,List.map_drop]
theorem kRows_isEmpty : (kRows k l).isEmpty = l.isEmpty := by cases l <;> rfl
theorem kRows_flat : AC.flat.flatLL (kRows k l) = true := by
  induction l with
  | nil => rfl
  | cons x r ih => simp only [kRows,List.map_cons,AC.flat.flatLL,AC.flat.flatL,AC.flat,Bool.and_self,Bool.true_and] at ih ⊢;exact ih
theorem kRows_per : (kRows k l).all (fun e => e.all AC.per) = true := by simp [kRows,AC.per]
theorem kRows_frz : AC.frz.frzLL (kRows k l) = kRows k l := by
  show frzLL _ = _
  rw [frzLL_eq]
  simp [kRows,frzL_eq,AC.frz]
theorem strRows_kRows : strRows (kRows .u8 l) = some l := by
  induction l with
  | nil => rfl
  | cons x r ih => show (strRows (kRows .u8 r)).map (x :: ·) = _;rw [ih];rfl
theorem strRows_nil : strRows [] = some [] := rfl
theorem length_boRows : (boRows bl).length = bl.length := by simp [boRows]
theorem boRows_eq_nil : (boRows bl = []) = (bl = []) := by cases bl <;> simp [boRows]
theorem getC_boRows {i : Nat} : getC (.im (.bool false)) (boRows bl) i 0 = .im (.bool (bl.getD i false)) := by
  unfold getC boRows
  by_cases h : i < bl.length
  · simp [h]
  · simp [h]
theorem getC_box {d : AC} {cs : List AC} {j : Nat} : getC d [cs] 0 j = (cs[j]?).getD d := by simp [getC]
theorem getR_box {zs cs : List AC} {j s : Nat} : getR zs [cs] 0 j s = (cs.drop j).take s := by simp [getR]
theorem boRows_set {i : Nat} {x : Bool} : (boRows bl).set i (splice ((boRows bl).getD i []) 0 [.im (.bool x)]) = boRows (bl.set i x) := by
  by_cases h : i < bl.length
  · have e : (boRows bl).getD i [] = [.im (.bool (bl.getD i false))] := by simp [boRows,h]
    rw [e]
    simp [splice,boRows,List.map_set]
  · rw [List.set_eq_of_length_le (by rw [length_boRows];omega),List.set_eq_of_length_le (by omega)]
theorem boRows_replicate {n : Nat} {x : Bool} : List.replicate n [AC.im (.bool x)] = boRows (List.replicate n x) := by simp [boRows]
theorem boRows_snoc (x : Bool) : boRows bl ++ [[.im (.bool x)]] = boRows (bl ++ [x]) := by simp [boRows]
theorem boRows_append : boRows bl ++ boRows bm = boRows (bl ++ bm) := by simp [boRows]
theorem boRows_isEmpty : (boRows bl).isEmpty = bl.isEmpty := by cases bl <;> rfl
theorem boRows_ex {a b : Nat} : ex (boRows bl) a b = boRows (ex bl a b) := by simp [boRows,ex_eq,List.map_take,List.map_drop]
theorem boRows_take {a : Nat} : (boRows bl).take a = boRows (bl.take a) := by simp [boRows,List.map_take]
theorem boRows_flat : AC.flat.flatLL (boRows bl) = true := by
  induction bl with
  | nil => rfl
  | cons x r ih => simp only [boRows,List.map_cons,AC.flat.flatLL,AC.flat.flatL,AC.flat,Bool.and_self,Bool.true_and] at ih ⊢;exact ih
theorem boRows_per : (boRows bl).all (fun e => e.all AC.per) = true := by simp [boRows,AC.per]
theorem boRows_frz : AC.frz.frzLL (boRows bl) = boRows bl := by
  show frzLL _ = _
  rw [frzLL_eq]
  simp [boRows,frzL_eq,AC.frz]
end

/-- Which slots are kept behind a region. -/
def kl (d : Nat) : List (Nat × List Nat) → Option (List Nat)
  | [] => none
  | (k,v) :: r => if k = d then some v else kl d r
/-- In which order a region's operations are taken. -/
def ordl (d : Nat) : List (Nat × (List Nat × OT)) → List Nat × OT
  | [] => ([],.done)
  | (k,v) :: r => if k = d then v else ordl d r

theorem wrap_in {n : Int} (h1 : -9223372036854775808 ≤ n) (h2 : n ≤ 9223372036854775807) : IntKind.i64.wrap n = n := by
  rw [IntKind.wrap_i64];omega
theorem wrap8_in {n : Int} (h1 : 0 ≤ n) (h2 : n ≤ 255) : IntKind.u8.wrap n = n := by
  rw [IntKind.wrap_u8];omega

theorem range_0 : List.range 0 = [] := rfl
theorem range_1 : List.range 1 = [0] := rfl
theorem range_2 : List.range 2 = [0,1] := rfl
theorem range_3 : List.range 3 = [0,1,2] := rfl
theorem range_4 : List.range 4 = [0,1,2,3] := rfl
theorem range_5 : List.range 5 = [0,1,2,3,4] := rfl
theorem range_6 : List.range 6 = [0,1,2,3,4,5] := rfl
theorem range_7 : List.range 7 = [0,1,2,3,4,5,6] := rfl
theorem range_8 : List.range 8 = [0,1,2,3,4,5,6,7] := rfl
theorem range_9 : List.range 9 = [0,1,2,3,4,5,6,7,8] := rfl
theorem toNat_cast (n : Nat) : ((n : Int)).toNat = n := Int.toNat_natCast n
theorem keys_nil {H : Env} (h : H.keys = []) : H = [] := by cases H with
  | nil => rfl
  | cons x r => cases h
theorem isNone_some {α : Type} (x : α) : (some x).isNone = false := rfl
theorem isNone_none {α : Type} : (none : Option α).isNone = true := rfl

theorem elem_nil' (g : Nat) : List.elem g [] = false := rfl
theorem elem_cons' (g k : Nat) (r : List Nat) : List.elem g (k :: r) = (decide (g = k) || List.elem g r) := by
  cases h : decide (g = k) with
  | true => have e := of_decide_eq_true h;subst e;simp [List.elem]
  | false => have e := of_decide_eq_false h;simp [List.elem,beq_false_of_ne e]

attribute [go_sem] absH markK Option.isSome_some elem_nil' elem_cons' Bool.false_or Bool.true_or constAC constACs aop eop asgK allocK boxK storeK callEK plainK v_move v_assign v_bin v_un v_conv v_call vop evK evS absC absL Env.get Env.set Env.drop Env.upd Env.updAt AV.updAt updL Env.sel Env.puts Env.keys Env.live obAt desc ldC blkNo nm nmr guardK vcop vbop qop argsK convSK openR openL openT bin_add bin_sub bin_mul bin_quo bin_rem bin_and bin_or bin_shl bin_shr bin_eql bin_neq bin_lss bin_leq bin_gtr bin_geq un_not un_neg un_xor convK callK ev_const_int ev_const_bool ev_const_str ev_const_nil ev_const_ptr ev_const_iface ev_func loadK cellsOf boundK sliceK appendK srcK lastQ copyK buildSliceK makeSliceK makeMapK mapUpdK bytesK buildV partsV partsS cond_and cond_or beq_t beq_f imp_left imp_right BP.place fillA splice_all AC.per bin_beql bin_bneq bin_seql bin_sneq bin_slss bin_sgtr bin_sgeq bin_sadd bin_nil bin_ref bin_sl nilEqK isNone_some isNone_none capsK partK keepS List.map_cons List.map_nil Option.bind_some Option.bind_none ne_eq not_false_eq_true not_true_eq_false or_false false_or or_true true_or true_and and_true forall_const false_and and_false imp_self List.size_toArray List.getElem?_toArray List.getElem?_cons_succ List.getElem?_cons_zero Bool.true_and Bool.and_true Bool.false_and Bool.and_false Bool.false_eq_true forall_false beq_self_eq_true cond_true cond_false implies_true and_self true_imp_iff Option.some.injEq Nat.add_zero Nat.zero_add Nat.zero_mul Nat.mul_one List.length_cons List.length_nil List.isEmpty_cons List.isEmpty_nil List.all_cons List.all_nil Bool.not_true Bool.not_false List.headD_cons List.set_cons_zero List.set_cons_succ List.getD_cons_zero List.getD_cons_succ AC.frz AC.frz.frzL AC.frz.frzLL AV.frzIn reV reC Env.reAll List.mem_cons List.not_mem_nil Option.map_some Option.map_none
attribute [go_sem] decide_true decide_false Nat.sub_zero forall_eq forall_eq_or_imp ex1 ex2 ex3 ex4 ex_cons0 ex_succ splice_none splice_0 splice_succ extract_ex ex_all ex_nil ex_same frzL frzLL List.set_set kRows_set boRows_set List.length_set List.length_replicate Option.getD_none Int.le_refl Nat.le_refl List.nil_append List.cons_append eq_self TypeDesc.slice.injEq exists_eq' exists_eq range_0 range_1 range_2 range_3 range_4 range_5 range_6 range_7 range_8 range_9 List.forall_mem_cons false_imp_iff and_self_iff strRows_kRows strRows_nil length_kRows kRows_eq_nil getC_kRows kRows_snoc kRows_append kRows_replicate kRows_ex kRows_take kRows_drop kRows_isEmpty kRows_flat kRows_per kRows_frz length_boRows boRows_eq_nil getC_boRows getC_box getR_box dfl kl ordl Env.restr Option.getD_some List.drop_zero List.drop_succ_cons List.take_succ_cons List.take_zero boRows_replicate boRows_snoc boRows_append boRows_isEmpty boRows_ex boRows_take boRows_flat boRows_per boRows_frz wrap_in toNat_cast List.take_length List.append_nil List.length_append

end Go.Hs
