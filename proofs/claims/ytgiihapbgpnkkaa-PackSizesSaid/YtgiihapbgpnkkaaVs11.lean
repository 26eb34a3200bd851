/-
  THE VALUE SEMANTICS, part 11: contracts, calls, regions, the code of a function.
-/
import Derived.Test.YtgiihapbgpnkkaaVs10
import Derived.OrdersHeld
namespace Go.Vs
open Go Go.RowKit

def AV.arg : AV → Bool
  | .c _ | .agg _ | .fn _ => true
  | _ => false

def TC.flat : TC → Bool
  | .c x => x.flat
  | .ag xs => xs.all AC.flat

def AV.flat : AV → Bool
  | .c x => x.flat
  | .agg xs => xs.all AC.flat
  | .row _ _ _ es => es.all fun e => e.all AC.flat
  | .tup vs => vs.all TC.flat
  | _ => false

def AV.res : AV → Bool
  | .c _ | .agg _ | .row .. | .tup _ => true
  | _ => false

inductive RdAs (w : World) (p : Nat → Prop) : List Value → List AV → Prop where
  | nil : RdAs w p [] []
  | cons {v : Value} {c : AV} {vs : List Value} {cs : List AV} (ha : c.arg = true) (h : RdV w p 0 (fun _ => undef) v c) (t : RdAs w p vs cs) : RdAs w p (v :: vs) (c :: cs)

/-- WHAT A FUNCTION IS GOOD FOR: called with values that read as args it hands back a value that reads as some r of which R holds, all in new memory, and nothing that was there has turned. -/
structure ContractR (P : Program) (f : FuncId) (args : List AV) (R : AV → Prop) : Prop where
  res : ∀ r, R r → r.res = true
  callable : ∃ fn, P.funcs[f]? = some fn ∧ (fn.name == "runtime.NumGoroutine") = false ∧ fn.body.isNone = false
  calls : ∀ (w : World) (p : Nat → Prop) (vs : List Value), (∀ b, p b → b < w.heap.size) → RdAs w p vs args → Calls P f vs.toArray w fun e w' =>
    ∃ v p' r, R r ∧ e = .returned v ∧ Below w.heap.size w w' ∧ (∀ b, p' b → b < w'.heap.size ∧ (p b ∨ w.heap.size ≤ b)) ∧ RdV w' p' w.heap.size (fun _ => undef) v r

abbrev Contract (P : Program) (f : FuncId) (args : List AV) (r : AV) : Prop := ContractR P f args (fun x => x = r)

theorem rdV_arg {w : World} {p : Nat → Prop} {B B' : Nat} {sl sl' : Nat → Value} {u : Value} {v : AV} (ha : v.arg = true) (h : RdV w p B sl u v) : RdV w p B' sl' u v := by
  cases v <;> simp [AV.arg] at ha <;> exact h

theorem arg_owns {v : AV} (h : v.arg = true) : ¬ v.owns = true := by
  cases v <;> simp [AV.arg, AV.owns] at h ⊢

theorem RdAs.mono {w w' : World} {p p' : Nat → Prop} (hpp : ∀ b, p b → p' b) (hk : KeepsOn p w w') {vs : List Value} {cs : List AV} (h : RdAs w p vs cs) : RdAs w' p' vs cs := by
  induction h with
  | nil => exact .nil
  | cons ha h _ ih => exact .cons ha (h.keep hpp hk fun ho => absurd ho (arg_owns ha)) ih

/-- Arguments: what is owned is lent. -/
def argsK (S : Env) (g : Bool) : List Operand → (List AV → Bool → Prop) → Prop
  | [], K => K [] false
  | x :: r, K => evK S g x fun
    | .alias d => match S.get d with
      | some (.row _ _ sz es) => argsK S g r fun l _ => K (.c (.sl sz es) :: l) true
      | _ => False
    | .view d sz lo hi => match S.get d with
      | some (.row _ _ sz' es) => sz = sz' ∧ (g = true → hi ≤ es.length) ∧ argsK S g r fun l _ => K (.c (.sl sz (es.extract lo hi)) :: l) true
      | _ => False
    | v => v.arg = true ∧ argsK S g r fun l b => K (v :: l) b

def callFK (P : Program) (n : Nat) (S : Env) (f : FuncId) (args : List Operand) (d : Nat) (K : Env → Prop) : Prop :=
  argsK S true args fun l lent => ∃ R, ContractR P f l R ∧ d < n ∧ ∀ r, R r → (lent = true → r.flat = true) ∧ K (S.set d r)

def partsV (S : Env) (g : Bool) : List (Nat × Operand) → (List (Nat × List AC) → Prop) → Prop
  | [], K => K []
  | (i, x) :: r, K => evK S g x fun v => match cellsOf v with
    | some cs => partsV S g r fun l => K ((i, cs) :: l)
    | none => False

/-- A value, or a call that hands back a plain value. -/
def vcop (P : Program) (S : Env) (g : Bool) (op : Op) (K : AV → Prop) : Prop :=
  match op with
  | .build T parts => partsV S g parts.toList fun l => match bInfo P T with
    | some (zs, bp) => match fillA bp.place zs l with
      | some cs => K (.agg cs)
      | none => False
    | none => False
  | .call c => match c.callee with
    | .value (.func f) => argsK S g c.args.toList fun l _ => ∃ v, (g = true → Contract P f l (.c (.im v))) ∧ K (.c (.im v))
    | _ => vop P S g op K
  | _ => vop P S g op K

def plainK (P : Program) (n : Nat) (S : Env) (op : Op) (d : Nat) (K : Env → Prop) : Prop :=
  vop P S true op fun v => d < n ∧ v.refs ≠ some d ∧ v.owns = false ∧ K (S.set d v)

def callEK (P : Program) (n : Nat) (S : Env) (c : Call) (d : Nat) (K : Env → Prop) : Prop :=
  match c.callee, c.args.toList, c.argTypes.toList with
  | .value (.func f), l, _ => callFK P n S f l d K
  | .builtin .append, [s, x], [t1, t2] => t1 = t2 ∧ appendK P n S t1 s x d K
  | _, _, _ => plainK P n S (.call c) d K

/-- An operation. -/
def eop (P : Program) (n : Nat) (S : Env) (o : Oper) (K : Env → Prop) : Prop :=
  match o.dst with
  | none => match o.op with
    | .store T ad x => storeK P S T ad x K
    | _ => False
  | some d => match o.op with
    | .assign x => asgK P n S o.type x d K
    | .alloc T => allocK P n S T d K
    | .box T x => boxK n S T x d K
    | .build T parts => buildK P n S T parts.toList d K
    | .buildSlice T len parts => buildSliceK P n S T len parts.toList d K
    | .makeSlice T l c => makeSliceK P n S T l c d K
    | .call c => callEK P n S c d K
    | op => plainK P n S op d K

def gop (P : Program) (n : Nat) (S : Env) (g : Bool) (op : Op) (d : Nat) (K : Env → Prop) : Prop :=
  vcop P S g op fun v => d < n ∧ v.refs ≠ some d ∧ v.owns = false ∧ K (S.set d (.opt g v))

def guardK (ops : Array Oper) (S : Env) (j : Nat) (want : Bool) (K : Bool → Prop) : Prop :=
  match (ops[j]?).bind (·.dst) with
  | some dj => match S.get dj with
    | some (.c (.im (.bool b))) => K (b == want)
    | some (.opt b0 (.c (.im (.bool b)))) => K (b0 && (b == want))
    | _ => False
  | none => False

/-- Operations that turn memory, or go into a function: where they stand behind a guard, the ways part. -/
def isBig : Op → Bool
  | .call c => match c.callee with
    | .value (.func _) => true
    | .builtin .append => true
    | _ => false
  | .buildSlice .. => true
  | .makeSlice .. => true
  | .alloc .. => true
  | .box .. => true
  | _ => false

def splitK (n : Nat) (S : Env) (d : Nat) (g : Bool) (A : Prop) (K : Env → Prop) : Prop := (g = true → A) ∧ (g = false → ∃ v : AV, v.refs = none ∧ v.owns = false ∧ d < n ∧ K (S.set d (.opt false v)))

def aop (P : Program) (n : Nat) (ops : Array Oper) (S : Env) (o : Oper) (K : Env → Prop) : Prop :=
  match o.guard with
  | none => eop P n S o K
  | some (j, want) => match o.dst with
    | some d => guardK ops S j want fun g => match isBig o.op with
      | false => gop P n S g o.op d K
      | true => gop P n S g o.op d K ∨ splitK n S d g (eop P n S o K) K
    | none => False

def aops (P : Program) (n : Nat) (ops : Array Oper) : List Oper → Env → (Env → Prop) → Prop
  | [], S, K => K S
  | o :: r, S, K => aop P n ops S o fun S' => aops P n ops r S' K

/-- A value, no call. -/
def vbop (P : Program) (S : Env) (g : Bool) (op : Op) (K : AV → Prop) : Prop :=
  match isBig op with
  | true => False
  | false => vcop P S g op K

/-- An operation that may be taken first in a region that draws its order. -/
def qop (P : Program) (n : Nat) (ops : Array Oper) (S : Env) (o : Oper) (K : Env → Prop) : Prop :=
  match o.dst with
  | some d => match o.guard with
    | none => vbop P S true o.op fun v => d < n ∧ v.refs ≠ some d ∧ v.owns = false ∧ K (S.set d v)
    | some (j, want) => guardK ops S j want fun g => vbop P S g o.op fun v => d < n ∧ v.refs ≠ some d ∧ v.owns = false ∧ K (S.set d (.opt g v))
  | none => False

/-- Operations that only let memory grow. -/
def growB (o : Oper) : Bool := match o.dst, o.op with
  | none, _ => false
  | _, .call c => match c.callee with
    | .builtin .append => false
    | _ => true
  | _, _ => true

/-- The operations of a region that draws its order, in an order of ours: (false, i): number i is taken first; (true, i): number i is the only one that may come up. -/
def ordB (ops : Array Oper) : List (Bool × Nat) → Array Bool → Bool
  | [], listed => (Region.ready .any ops listed).isEmpty
  | (false, i) :: r, listed => (Region.ready .any ops listed).contains i && Region.free .any ops listed i && ordB ops r (listed.setIfInBounds i true)
  | (true, i) :: r, listed => (Region.ready .any ops listed == [i]) && ((ops[i]?).map growB).getD false && ordB ops r (listed.setIfInBounds i true)

def rops (P : Program) (n : Nat) (ops : Array Oper) : List (Bool × Nat) → Env → (Env → Prop) → Prop
  | [], S, K => K S
  | (b, i) :: r, S, K => match ops[i]?, b with
    | some o, false => qop P n ops S o fun S' => rops P n ops r S' K
    | some o, true => aop P n ops S o fun S' => rops P n ops r S' K
    | none, _ => False

def Env.pub (S : Env) (d : Nat) : Env :=
  match S.get d with
  | some (.row _ _ sz es) => S.upd d (.c (.sl sz es))
  | _ => S

def Env.pubs (S : Env) : List Nat → Env
  | [] => S
  | d :: r => (S.pub d).pubs r

def keep (S : Env) : Option (List Nat) → Env
  | none => S
  | some ks => S.restr ks

def thenE (next : Env → Prop) (Q : Exit → Env → Prop) : Exit → Env → Prop
  | .normal, S => next S
  | e, S => Q e S

def inB (id : Nat) (Q : Exit → Env → Prop) : Exit → Env → Prop
  | .exit id', S => if id' = id then Q .normal S else Q (.exit id') S
  | e, S => Q e S

def condK (S : Env) (c : Operand) (K : Bool → Prop) : Prop :=
  evK S true c fun
    | .c (.im (.bool b)) => K b
    | _ => False

def awp (P : Program) (n : Nat) (L : Nat → Option (List Nat)) : Code → (Exit → Env → Prop) → Env → Prop
  | .skip, Q, S => Q .normal S
  | .region id ops draw, Q, S => ∃ ds, match draw with
    | false => aops P n ops ops.toList (S.pubs ds) fun S' => Q .normal (keep S' (L id))
    | true => P.follows .mixedOrders = true ∧ ∃ order, (Region.noSelect ops && order.length == ops.size && ordB ops order (Array.replicate ops.size false)) = true ∧
        rops P n ops order (S.pubs ds) fun S' => Q .normal (keep S' (L id))
  | .seq x y, Q, S => ∃ M : Env → Prop, awp P n L x (thenE M Q) S ∧ ∀ S', M S' → awp P n L y Q S'
  | .cond c x y, Q, S => condK S c fun b => (b = true → awp P n L x Q S) ∧ (b = false → awp P n L y Q S)
  | .block id c, Q, S => awp P n L c (inB id Q) S
  | .loop c, Q, S => ∃ (ds : List Nat) (ks : Option (List Nat)) (I : Nat → Env → Prop), (∃ k, I k (keep (S.pubs ds) ks)) ∧ ∀ k S', I k S' → awp P n L c (thenE (fun S'' => ∃ k', k' < k ∧ I k' (keep S'' ks)) Q) S'
  | .exit id, Q, S => Q (.exit id) S
  | .ret, Q, S => Q .ret S
  | _, _, _ => False

def initEnv : Nat → List AV → Env
  | _, [] => []
  | i, v :: r => (i, v) :: initEnv (i + 1) r

def isAggT (P : Program) (T : TypeId) : Bool :=
  match P.underlying T with
  | some (.struct _) => true
  | some (.array _ _) => true
  | _ => false

def resT (P : Program) (S : Env) : List ResultVar → Option (List TC)
  | [] => some []
  | .tmp t :: r => match S.get t with
    | some (.c c) => (resT P S r).map (.c c :: ·)
    | some (.agg cs) => (resT P S r).map (.ag cs :: ·)
    | some (.row _ _ sz es) => (resT P S r).map (.c (.sl sz es) :: ·)
    | some (.alias d) => match S.get d with
      | some (.row _ _ sz es) => (resT P S r).map (.c (.sl sz es) :: ·)
      | _ => none
    | _ => none
  | .cell t T :: r => match S.get t with
    | some (.box _ cs) => if isAggT P T = true ∧ szOf P T = some cs.length then (resT P S r).map (.ag cs :: ·) else none
    | _ => none

def resK (P : Program) (S : Env) (rs : List ResultVar) (R : AV → Prop) : Prop :=
  match rs with
  | [.tmp t] => match S.get t with
    | some (.c c) => R (.c c)
    | some (.agg cs) => R (.agg cs)
    | some (.row b ty sz es) => R (.row b ty sz es)
    | some (.alias d) => match S.get d with
      | some (.row b ty sz es) => R (.row b ty sz es)
      | _ => False
    | _ => False
  | [.cell t T] => match resT P S [.cell t T] with
    | some [.ag cs] => R (.agg cs)
    | _ => False
  | rs => match resT P S rs with
    | some vs => vs.length ≠ 1 ∧ R (.tup vs)
    | none => False

def retQ (P : Program) (fn : Func) (R : AV → Prop) : Exit → Env → Prop
  | .ret, S => resK P S fn.results.toList R
  | .normal, S => resK P S fn.results.toList R
  | _, _ => False

section
variable {P : Program} {n : Nat} {p0 : Nat → Prop} {w0 : World} {S : Env} {a : Act} {w : World} {p : Nat → Prop} {Q : Exit → Act → World → Prop}

/-- All that may be read while a callee runs. -/
def lentP (S : Env) (a : Act) (p : Nat → Prop) : Nat → Prop := fun b => p b ∨ ∃ d v, (d, v) ∈ S ∧ v.owns = true ∧ blkOf (slotOf a d) = some b

theorem lent_lt (hR : Rel n p0 w0 S a w p) : ∀ b, lentP S a p b → b < w.heap.size := by
  rintro b (h | ⟨d, v, hm, ho, hb⟩)
  · exact hR.plt b h
  · exact (blk_lt (hR.vals _ _ hm) ho hb).2.1

theorem rdC_view {sz lo hi : Nat} {es : List (List AC)} {b : Bool} {ty d : Nat} {u : Value} (hR : Rel n p0 w0 S a w p) (hd : S.get d = some (.row b ty sz es)) (hu : RdV w p w0.heap.size (slotOf a) u (.view d sz lo hi)) (hhi : hi ≤ es.length) : RdC w (lentP S a p) u (.sl sz (es.extract lo hi)) := by
  obtain ⟨_, ⟨xs, h2, h3⟩, h4⟩ := hR.get hd
  have hbl : ∀ g', blkOf (slotOf a d) = some g' → lentP S a p g' := fun g' hg' => .inr ⟨d, _, Env.mem_of_get hd, rfl, hg'⟩
  have hrow : RdC w (lentP S a p) (slotOf a d) (.sl sz es) := rdC_of_row h2 h3 (fun _ h => .inl h) hbl
  obtain ⟨hlh, hv⟩ := hu
  rcases hv with ⟨g', nn, cap, hsl, hhc, oo, hoo, hu⟩ | ⟨hsl, hh0, hu⟩
  · rcases ownsRow_slice h2 with ⟨hn, h0⟩ | ⟨g2, cap2, hv2, hc2, _⟩
    · rw [hn] at hsl; simp at hsl
    · rw [hsl] at hv2 hrow
      simp only [Value.slice.injEq, Option.some.injEq, Addr.mk.injEq, and_true] at hv2
      obtain ⟨rfl, rfl, rfl⟩ := hv2
      by_cases hlt : lo < cap
      · refine rdC_sl_extract rfl hrow hlh hhi ?_
        rw [if_neg (by omega), hu, hoo.1 hlt]
        simp [addr_add_zero]
      · have he : es.extract lo hi = [] := by apply List.eq_nil_of_length_eq_zero; simp [List.extract_eq_take_drop]; omega
        rw [he, hu]
        exact .sl _ _ _ sz [] (fun _ _ => undef) (by simp; omega) (by omega) (by simp) (by simp) (by simp) (by simp)
  · have he : es.extract lo hi = [] := by apply List.eq_nil_of_length_eq_zero; simp [List.extract_eq_take_drop]; omega
    rw [he, hu]
    exact .nilS _ _

theorem argsK_sound (hR : Rel n p0 w0 S a w p) {g : Bool} : ∀ (l : List Operand) {K : List AV → Bool → Prop}, argsK S g l K →
    ∃ avs lent, K avs lent ∧ (g = true → RdAs w (lentP S a p) (l.map a.eval) avs ∧ (lent = false → RdAs w p (l.map a.eval) avs))
  | [], K, h => ⟨[], false, h, fun _ => ⟨.nil, fun _ => .nil⟩⟩
  | x :: r, K, h => by
    unfold argsK at h
    obtain ⟨v, hv, hx⟩ := evK_sound hR h
    clear h
    split at hv
    · rename_i d
      split at hv
      · rename_i b ty sz es hd
        obtain ⟨avs, lent, h1, h2⟩ := argsK_sound hR r hv
        refine ⟨_, _, h1, fun hg => ⟨?_, fun h => by cases h⟩⟩
        have hu : a.eval x = slotOf a d := hx hg
        obtain ⟨_, ⟨xs, q2, q3⟩, q4⟩ := hR.get hd
        refine .cons rfl ?_ (h2 hg).1
        show RdC w _ (a.eval x) _
        rw [hu]
        exact rdC_of_row q2 q3 (fun _ h => .inl h) (fun g' hg' => .inr ⟨d, _, Env.mem_of_get hd, rfl, hg'⟩)
      · exact hv.elim
    · rename_i d sz lo hi
      split at hv
      · rename_i b ty sz' es hd
        obtain ⟨rfl, hhi, hv⟩ := hv
        obtain ⟨avs, lent, h1, h2⟩ := argsK_sound hR r hv
        refine ⟨_, _, h1, fun hg => ⟨?_, fun h => by cases h⟩⟩
        exact .cons rfl (rdC_view hR hd (hx hg) (hhi hg)) (h2 hg).1
      · exact hv.elim
    · obtain ⟨ha, hv⟩ := hv
      obtain ⟨avs, lent, h1, h2⟩ := argsK_sound hR r hv
      refine ⟨_, _, h1, fun hg => ?_⟩
      have hv' := rdV_arg (B' := 0) (sl' := fun _ => undef) ha (hx hg)
      refine ⟨.cons ha (hv'.keep (fun _ h => .inl h) (fun _ _ => rfl) fun ho => absurd ho (arg_owns ha)) (h2 hg).1, fun hl => .cons ha hv' ((h2 hg).2 hl)⟩

theorem exec_call {o : Oper} {c : Call} {f : FuncId} (ho : o.op = .call c) (hc : c.callee = .value (.func f)) (hcal : ∃ fn, P.funcs[f]? = some fn ∧ (fn.name == "runtime.NumGoroutine") = false ∧ fn.body.isNone = false) (ρ : Operand → Value) (hρ : ρ (.func f) = .func (.func f) #[] #[]) (w' : World) :
    (execOp ρ o).run P w' = .ok (.enter f (c.args.toList.map ρ).toArray) w' := by
  obtain ⟨fn, h1, h2, h3⟩ := hcal
  have h4 : (c.args.map ρ) = (c.args.toList.map ρ).toArray := by rw [← Array.toList_map, Array.toArray_toList]
  have h5 : (callFunc f (c.args.map ρ)).run P w' = .ok (.enter f (c.args.map ρ)) w' := by
    unfold callFunc
    simp only [Sem.run_bind, run_program, Result.andThen_ok, h1]
    rw [if_neg (by rw [h2]; decide)]
    rw [if_neg (by rw [h3]; decide)]
    rfl
  rw [h4] at h5
  simp only [execOp, ho, resolve, hc, hρ, Deferred.ofValue, Sem.run_bind, Sem.run_pure, Result.andThen_ok, invoke, Array.empty_append, Array.append_empty, h4, h5]

theorem rdV_base {B B' : Nat} (hB : B' ≤ B) {sl : Nat → Value} {u : Value} {v : AV} (h : RdV w p B sl u v) : RdV w p B' sl u v := by
  induction v with
  | row isnil ty sz es =>
    obtain ⟨h1, ⟨xs, h2, h3⟩, h4⟩ := h
    refine ⟨h1, ⟨xs, ⟨h2.1, ?_⟩, h3⟩, h4⟩
    rcases h2.2 with h | ⟨g, cap, cur, hv, hb, r⟩
    · exact .inl h
    · exact .inr ⟨g, cap, cur, hv, by omega, r⟩
  | box ty cs => obtain ⟨g, cur, h1, h2, h3⟩ := h; exact ⟨g, cur, h1, by omega, h3⟩
  | opt b v ih => exact ⟨fun hb => ih (h.1 hb), h.2⟩
  | _ => exact h

theorem RdT.flat {w' : World} {p' : Nat → Prop} {v : Value} {c : TC} (h : RdT w p v c) (hf : c.flat = true) : RdT w' p' v c := by
  cases c with
  | c c => exact RdC.flat h hf
  | ag cs => obtain ⟨vs, h1, h2⟩ := h; exact ⟨vs, h1, h2.flat hf⟩

theorem RdTs.flat {w' : World} {p' : Nat → Prop} {vs : List Value} {cs : List TC} (h : RdTs w p vs cs) (hf : cs.all TC.flat = true) : RdTs w' p' vs cs := by
  induction h with
  | nil => exact .nil
  | cons h _ ih =>
    simp only [List.all_cons, Bool.and_eq_true] at hf
    exact .cons (h.flat hf.1) (ih hf.2)

theorem all_flatten {es : List (List AC)} (h : (es.all fun e => e.all AC.flat) = true) : es.flatten.all AC.flat = true := by
  induction es with
  | nil => rfl
  | cons e es ih => simp only [List.all_cons, Bool.and_eq_true] at h; simp only [List.flatten_cons, List.all_append, h.1, ih h.2, Bool.and_self]

theorem rdV_flat {p' : Nat → Prop} {B : Nat} {sl : Nat → Value} {u : Value} {v : AV} (h : RdV w p B sl u v) (hf : v.flat = true) (hp : ∀ g, B ≤ g → ¬ p' g) : RdV w p' B sl u v := by
  cases v with
  | c c => exact RdC.flat h hf
  | agg cs => obtain ⟨vs, h1, h2⟩ := h; exact ⟨vs, h1, h2.flat hf⟩
  | row isnil ty sz es =>
    obtain ⟨h1, ⟨xs, h2, h3⟩, h4⟩ := h
    refine ⟨h1, ⟨xs, h2, h3.1, h3.2.flat (all_flatten hf)⟩, fun g hg => hp g ?_⟩
    exact (blk_lt (w := w) (p := p) (B := B) (sl := sl) (v := .row isnil ty sz es) ⟨h1, ⟨xs, h2, h3⟩, h4⟩ rfl hg).1
  | tup vs => obtain ⟨us, h1, h2⟩ := h; exact ⟨us, h1, h2.flat hf⟩
  | _ => simp [AV.flat] at hf

theorem callF_sound (hR : Rel n p0 w0 S a w p) {o : Oper} {c : Call} {f d : Nat} (ho : o.op = .call c) (hc : c.callee = .value (.func f)) (hd : o.dst = some d) {K : Env → Prop} (h : callFK P n S f c.args.toList d K) {next : Act → World → Prop} (hn : GoesG n p0 w0 w K next) : o.wp P a w next Q := by
  obtain ⟨avs, lent, ⟨R, hC, hdn, hKR⟩, hargs⟩ := argsK_sound hR _ h
  obtain ⟨ha1, ha2⟩ := hargs rfl
  have hrun := exec_call ho hc hC.callable a.eval rfl w
  unfold Oper.wp
  rw [hrun]
  simp only [Oper.upon]
  have hBw := hR.below.size
  have fin : ∀ (r : AV) (_ : R r) (v : Value) (w' : World) (p1 : Nat → Prop), Below w.heap.size w w' → (∀ b, p b → p1 b) → (∀ b, p1 b → b < w'.heap.size ∧ (p b ∨ w.heap.size ≤ b)) → RdV w' p1 w.heap.size (fun _ => undef) v r → next (a.put o.dst v) w' := by
    intro r hRr v w' p1 hb hpp hp1 hr
    obtain ⟨_, hK⟩ := hKR r hRr
    have hrefs : r.refs = none := by have := hC.res r hRr; cases r <;> simp [AV.res] at this <;> rfl
    have hcong : ∀ {B : Nat} {sl sl' : Nat → Value} {u : Value} {w1 : World} {p1 : Nat → Prop}, RdV w1 p1 B sl u r → RdV w1 p1 B sl' u r := fun h => h.congr fun x hx => by rw [hrefs] at hx; cases hx
    rw [hd]
    have hk : KeepsOn p w w' := fun b hb' => hb.block b (hR.plt b hb')
    refine hn _ _ _ p1 hb hK (rel_upd hR (fun d' v' h => Env.mem_drop h) hdn (hb.mono hBw) (fun b h => (hp1 b h).1) ?_ hpp hk ?_ (hcong (rdV_base hBw hr)) ?_)
    · intro b h
      rcases (hp1 b h).2 with h | h
      · exact hR.pnew b h
      · exact .inr (by omega)
    · intro d' v' g hm ho' hg hp
      have hlt := (blk_lt (hR.vals _ _ (Env.mem_drop hm).1) ho' hg).2.1
      refine ⟨hb.block g hlt, fun h => ?_⟩
      rcases (hp1 g h).2 with h | h
      · exact hp h
      · omega
    · intro ho1 g hg d' v' hm ho' hg'
      have h1 := (blk_lt hr ho1 hg).1
      have h2 := (blk_lt (hR.vals _ _ (Env.mem_drop hm).1) ho' hg').2.1
      omega
  cases lent with
  | false =>
    refine (hC.calls w p _ hR.plt (ha2 rfl)).mono fun e w' ⟨v, p', r, hRr, he, hb, hp', hr⟩ => ?_
    subst he
    refine fin r hRr v w' (fun b => p b ∨ (p' b ∧ w.heap.size ≤ b)) hb (fun _ h => .inl h) ?_ ?_
    · rintro b (h | ⟨h, h2⟩)
      · exact ⟨Nat.lt_of_lt_of_le (hR.plt b h) hb.size, .inl h⟩
      · exact ⟨(hp' b h).1, .inr h2⟩
    · refine hr.keep ?_ (fun _ _ => rfl) ?_
      · intro b h
        rcases (hp' b h).2 with h2 | h2
        · exact .inl h2
        · exact .inr ⟨h, h2⟩
      · intro ho1 g hg hng
        refine ⟨rfl, ?_⟩
        rintro (h | ⟨h, _⟩)
        · have := (blk_lt hr ho1 hg).1
          have := hR.plt g h; omega
        · exact hng h
  | true =>
    refine (hC.calls w (lentP S a p) _ (lent_lt hR) ha1).mono fun e w' ⟨v, p', r, hRr, he, hb, hp', hr⟩ => ?_
    subst he
    refine fin r hRr v w' p hb (fun _ h => h) (fun b h => ⟨Nat.lt_of_lt_of_le (hR.plt b h) hb.size, .inl h⟩) ?_
    exact rdV_flat hr ((hKR r hRr).1 rfl) fun g hg h => by have := hR.plt g h; omega

/-- A value operation or a plain call, in every later world. -/
def QOK (P : Program) (w0 : World) (a : Act) (w : World) (p : Nat → Prop) (o : Oper) (v : AV) : Prop :=
  ∃ u, RdV w p w0.heap.size (slotOf a) u v ∧ ∀ w', Below w.heap.size w w' → ((execOp a.eval o).run P w' = .ok (.value u) w' ∨
    ∃ f args, (execOp a.eval o).run P w' = .ok (.enter f args) w' ∧ Calls P f args w' fun e w'' => e = .returned u ∧ Below w'.heap.size w' w'')

theorem partsV_sound (hR : Rel n p0 w0 S a w p) {g : Bool} : ∀ (parts : List (Nat × Operand)) {K : List (Nat × List AC) → Prop}, partsV S g parts K → ∃ l, K l ∧ (g = true → RdP w p a.eval parts l)
  | [], K, h => ⟨[], h, fun _ => .nil⟩
  | (i, x) :: r, K, h => by
    unfold partsV at h
    obtain ⟨v, h1, hx⟩ := evK_sound hR h
    clear h
    split at h1
    · rename_i cs hc
      obtain ⟨l, h2, hP⟩ := partsV_sound hR r h1
      exact ⟨_, h2, fun hg => .cons (rdV_cells (hx hg) hc) (hP hg)⟩
    · exact h1.elim

theorem vcop_sound (hR : Rel n p0 w0 S a w p) {g : Bool} {o : Oper} {K : AV → Prop} (h : vcop P S g o.op K) : ∃ v, K v ∧ (g = true → QOK P w0 a w p o v) := by
  have plain : vop P S g o.op K → ∃ v, K v ∧ (g = true → QOK P w0 a w p o v) := by
    intro h
    obtain ⟨v, hv, hok⟩ := vop_sound hR h
    refine ⟨v, hv, fun hg => ?_⟩
    obtain ⟨u, hu, hr⟩ := hok hg
    exact ⟨u, hu, fun w' hw' => .inl (hr w' (Later.of_below hw'))⟩
  generalize ho : o.op = op at h
  unfold vcop at h
  split at h
  · rename_i T parts
    obtain ⟨l, h1, hP⟩ := partsV_sound hR _ h
    split at h1
    · rename_i zs bp hb
      split at h1
      · rename_i cs hf
        refine ⟨_, h1, fun hg => ?_⟩
        obtain ⟨cells, hc1, hc2⟩ := built_ok (a := a) (w := w) (p := p) hb hf (hP hg)
        refine ⟨.agg cells, ⟨cells, rfl, hc2⟩, fun w' _ => .inl ?_⟩
        simp only [execOp, ho, Sem.run_bind, run_build w' T _ cells hc1, Result.andThen_ok, Sem.run_pure]
      · exact h1.elim
    · exact h1.elim
  · rename_i c
    split at h
    · rename_i f hc
      obtain ⟨avs, lent, ⟨v, hC, hK⟩, hargs⟩ := argsK_sound hR _ h
      refine ⟨_, hK, fun hg => ?_⟩
      have hC := hC hg
      obtain ⟨ha1, _⟩ := hargs hg
      have hsc : scal v = true ∨ ¬ scal v = true := by cases scal v <;> simp
      rcases hsc with hsc | hsc
      · refine ⟨v, .im _ hsc, fun w' hw' => .inr ⟨f, _, exec_call ho hc hC.callable a.eval rfl w', ?_⟩⟩
        have hk : KeepsOn (lentP S a p) w w' := fun b hb => hw'.block b (lent_lt hR b hb)
        refine (hC.calls w' (lentP S a p) _ (fun b hb => Nat.lt_of_lt_of_le (lent_lt hR b hb) hw'.size) (ha1.mono (fun _ h => h) hk)).mono fun e w'' ⟨u, p', r, hRr, he, hb, _, hr⟩ => ?_
        subst hRr
        have := RdV_im hr
        subst this
        exact ⟨he, hb⟩
      · -- no value reads as such a one
        refine ⟨v, ?_, fun w' hw' => .inr ⟨f, _, exec_call ho hc hC.callable a.eval rfl w', ?_⟩⟩
        · exfalso
          have hcalls := hC.calls w (lentP S a p) _ (lent_lt hR) ha1 []
          obtain ⟨e, w', fr, ⟨u, p', r, hRr, _, _, _, hr⟩, _⟩ := hcalls
          subst hRr
          have h' : RdC w' p' u (.im v) := hr
          cases h' with
          | im _ h => exact hsc h
        · exfalso
          have hcalls := hC.calls w (lentP S a p) _ (lent_lt hR) ha1 []
          obtain ⟨e, w', fr, ⟨u, p', r, hRr, _, _, _, hr⟩, _⟩ := hcalls
          subst hRr
          have h' : RdC w' p' u (.im v) := hr
          cases h' with
          | im _ h => exact hsc h
    · exact plain (by rw [ho]; exact h)
  · exact plain (by rw [ho]; exact h)

theorem wp_of_qok {o : Oper} {v : AV} {u : Value} {next : Act → World → Prop}
    (hr : (execOp a.eval o).run P w = .ok (.value u) w ∨ ∃ f args, (execOp a.eval o).run P w = .ok (.enter f args) w ∧ Calls P f args w fun e w'' => e = .returned u ∧ Below w.heap.size w w'')
    (hn : ∀ w', Below w.heap.size w w' → next (a.put o.dst u) w') (_hv : v = v) : o.wp P a w next Q := by
  rcases hr with h | ⟨f, args, h, hc⟩
  · exact wp_value h (hn w (Below.refl _ _))
  · unfold Oper.wp
    rw [h]
    simp only [Oper.upon]
    refine hc.mono fun e w' ⟨he, hb⟩ => ?_
    subst he
    exact hn w' hb

theorem plain_sound (hR : Rel n p0 w0 S a w p) {o : Oper} {op : Op} {d : Nat} (ho : o.op = op) (hd : o.dst = some d) {K : Env → Prop} (h : plainK P n S op d K) {next : Act → World → Prop} (hn : GoesG n p0 w0 w K next) : o.wp P a w next Q := by
  subst ho
  obtain ⟨v, ⟨h1, h2, h3, h4⟩, hok⟩ := vop_sound hR h
  obtain ⟨u, hu, hr⟩ := hok rfl
  refine wp_value (hr w (Later.refl w)) ?_
  rw [hd]
  exact hn _ _ _ p (Below.refl _ _) h4 (rel_set hR h1 h2 h3 hu)

theorem eop_sound (hR : Rel n p0 w0 S a w p) {o : Oper} {K : Env → Prop} (h : eop P n S o K) {next : Act → World → Prop} (hn : Goes n p0 w0 K next) : o.wp P a w next Q := by
  unfold eop at h
  split at h
  · rename_i hd
    split at h
    · rename_i T ad x ho
      exact store_sound hR ho hd h hn
    · exact h.elim
  · rename_i d hd
    split at h
    · rename_i x ho; exact asg_sound hR ho hd h hn.g
    · rename_i T ho; exact alloc_sound hR ho hd h hn.g
    · rename_i T x ho; exact box_sound hR ho hd h hn.g
    · rename_i T parts ho; exact build_sound hR ho hd h hn.g
    · rename_i T len parts ho; exact buildSlice_sound hR ho hd h hn.g
    · rename_i T l c ho; exact makeSlice_sound hR ho hd h hn.g
    · rename_i c ho
      unfold callEK at h
      split at h
      · rename_i f l _ hc
        exact callF_sound hR ho hc hd h hn.g
      · rename_i s x t1 t2 hc ha ht
        obtain ⟨rfl, h⟩ := h
        exact append_sound hR ho hc ha ht hd h hn
      · exact plain_sound hR ho hd h hn.g
    · exact plain_sound hR rfl hd h hn.g

theorem eop_sound_g (hR : Rel n p0 w0 S a w p) {o : Oper} {K : Env → Prop} (hgr : growB o = true) (h : eop P n S o K) {next : Act → World → Prop} (hn : GoesG n p0 w0 w K next) : o.wp P a w next Q := by
  unfold eop at h
  split at h
  · rename_i hd
    simp [growB, hd] at hgr
  · rename_i d hd
    split at h
    · rename_i x ho; exact asg_sound hR ho hd h hn
    · rename_i T ho; exact alloc_sound hR ho hd h hn
    · rename_i T x ho; exact box_sound hR ho hd h hn
    · rename_i T parts ho; exact build_sound hR ho hd h hn
    · rename_i T len parts ho; exact buildSlice_sound hR ho hd h hn
    · rename_i T l c ho; exact makeSlice_sound hR ho hd h hn
    · rename_i c ho
      unfold callEK at h
      split at h
      · rename_i f l _ hc
        exact callF_sound hR ho hc hd h hn
      · rename_i s x t1 t2 hc ha ht
        simp [growB, hd, ho, hc] at hgr
      · exact plain_sound hR ho hd h hn
    · exact plain_sound hR rfl hd h hn

theorem guardK_sound (hR : Rel n p0 w0 S a w p) {ops : Array Oper} {o : Oper} {j : Nat} {want : Bool} (hg : o.guard = some (j, want)) {K : Bool → Prop} (h : guardK ops S j want K) : ∃ g, K g ∧ Region.wanted o (yielded ops a.tmps) = g := by
  unfold guardK at h
  split at h
  · rename_i dj hj
    have hy : ∀ b, slotOf a dj = .bool b → yielded ops a.tmps j = some b := by
      intro b hb
      unfold yielded
      rw [hj]
      simp only [Option.bind_some]
      cases ht : a.tmps[dj]? with
      | none => simp [slotOf, ht, undef] at hb
      | some v => simp [slotOf, ht] at hb; rw [hb]
    split at h
    · rename_i b hs
      refine ⟨_, h, ?_⟩
      have := hy b (RdV_im (hR.get hs))
      simp only [Region.wanted, hg, this]
      cases b <;> cases want <;> rfl
    · rename_i b0 b hs
      refine ⟨_, h, ?_⟩
      obtain ⟨h1, h2⟩ := hR.get hs
      cases b0 with
      | true =>
        have := hy b (RdV_im (h1 rfl))
        simp only [Region.wanted, hg, this]
        cases b <;> cases want <;> rfl
      | false =>
        have hu := h2 rfl
        have : yielded ops a.tmps j = none := by
          unfold yielded
          rw [hj]
          simp only [Option.bind_some]
          cases ht : a.tmps[dj]? with
          | none => rfl
          | some v => simp [slotOf, ht] at hu; rw [hu]; rfl
        simp only [Region.wanted, hg, this]
        rfl
    · exact h.elim
  · exact h.elim

/-- Behind a guarded operation. -/
theorem rel_opt (hR : Rel n p0 w0 S a w p) {d : Nat} {g : Bool} {v : AV} {u : Value} (hd : d < n) (hrefs : v.refs ≠ some d) (hno : v.owns = false) (h1 : g = true → RdV w p w0.heap.size (slotOf a) u v) (h2 : g = false → u = undef) :
    Rel n p0 w0 (S.set d (.opt g v)) (a.put (some d) u) w p := rel_set hR hd hrefs hno ⟨h1, h2⟩

theorem aop_sound {ops : Array Oper} (hR : Rel n p0 w0 S a w p) {o : Oper} {K : Env → Prop} (h : aop P n ops S o K) {next : Act → World → Prop} (hn : Goes n p0 w0 K next) :
    (Region.wanted o (yielded ops a.tmps) = true ∧ o.wp P a w next Q) ∨ (Region.wanted o (yielded ops a.tmps) = false ∧ next (a.put o.dst undef) w) := by
  unfold aop at h
  split at h
  · rename_i hg
    exact .inl ⟨by simp [Region.wanted, hg], eop_sound hR h hn⟩
  · rename_i j want hg
    split at h
    · rename_i d hd
      obtain ⟨g, h, hw⟩ := guardK_sound hR hg h
      have plain : gop P n S g o.op d K → (Region.wanted o (yielded ops a.tmps) = true ∧ o.wp P a w next Q) ∨ (Region.wanted o (yielded ops a.tmps) = false ∧ next (a.put o.dst undef) w) := by
        intro h
        obtain ⟨v, ⟨h1, h2, h3, h4⟩, hok⟩ := vcop_sound hR h
        cases g with
        | true =>
          obtain ⟨u, hu, hr⟩ := hok rfl
          refine .inl ⟨hw, wp_of_qok (v := v) (hr w (Below.refl _ _)) ?_ rfl⟩
          intro w' hb
          rw [hd]
          exact hn _ _ _ _ h4 (rel_world (rel_opt hR h1 h2 h3 (fun _ => hu) (fun h => by cases h)) hb)
        | false =>
          refine .inr ⟨hw, ?_⟩
          rw [hd]
          exact hn _ _ _ _ h4 (rel_opt hR h1 h2 h3 (fun h => by cases h) (fun _ => rfl))
      split at h
      · exact plain h
      · rcases h with h | h
        · exact plain h
        · cases g with
          | true => exact .inl ⟨hw, eop_sound hR (h.1 rfl) hn⟩
          | false =>
            refine .inr ⟨hw, ?_⟩
            rw [hd]
            obtain ⟨v, h1, h2, h3, h4⟩ := h.2 rfl
            exact hn _ _ _ _ h4 (rel_opt hR h3 (by rw [h1]; simp) h2 (fun h => by cases h) (fun _ => rfl))
    · exact h.elim

theorem aop_sound_g {ops : Array Oper} (hR : Rel n p0 w0 S a w p) {o : Oper} {K : Env → Prop} (hgr : growB o = true) (h : aop P n ops S o K) {next : Act → World → Prop} (hn : GoesG n p0 w0 w K next) :
    (Region.wanted o (yielded ops a.tmps) = true ∧ o.wp P a w next Q) ∨ (Region.wanted o (yielded ops a.tmps) = false ∧ next (a.put o.dst undef) w) := by
  unfold aop at h
  split at h
  · rename_i hg
    exact .inl ⟨by simp [Region.wanted, hg], eop_sound_g hR hgr h hn⟩
  · rename_i j want hg
    split at h
    · rename_i d hd
      obtain ⟨g, h, hw⟩ := guardK_sound hR hg h
      have plain : gop P n S g o.op d K → (Region.wanted o (yielded ops a.tmps) = true ∧ o.wp P a w next Q) ∨ (Region.wanted o (yielded ops a.tmps) = false ∧ next (a.put o.dst undef) w) := by
        intro h
        obtain ⟨v, ⟨h1, h2, h3, h4⟩, hok⟩ := vcop_sound hR h
        cases g with
        | true =>
          obtain ⟨u, hu, hr⟩ := hok rfl
          refine .inl ⟨hw, wp_of_qok (v := v) (hr w (Below.refl _ _)) ?_ rfl⟩
          intro w' hb
          rw [hd]
          exact hn _ _ _ _ hb h4 (rel_world (rel_opt hR h1 h2 h3 (fun _ => hu) (fun h => by cases h)) hb)
        | false =>
          refine .inr ⟨hw, ?_⟩
          rw [hd]
          exact hn _ _ _ _ (Below.refl _ _) h4 (rel_opt hR h1 h2 h3 (fun h => by cases h) (fun _ => rfl))
      split at h
      · exact plain h
      · rcases h with h | h
        · exact plain h
        · cases g with
          | true => exact .inl ⟨hw, eop_sound_g hR hgr (h.1 rfl) hn⟩
          | false =>
            refine .inr ⟨hw, ?_⟩
            rw [hd]
            obtain ⟨v, h1, h2, h3, h4⟩ := h.2 rfl
            exact hn _ _ _ _ (Below.refl _ _) h4 (rel_opt hR h3 (by rw [h1]; simp) h2 (fun h => by cases h) (fun _ => rfl))
    · exact h.elim

theorem aops_sound {ops : Array Oper} : ∀ (l : List Oper) {S : Env} {a : Act} {w : World} {p : Nat → Prop} {K : Env → Prop}, Rel n p0 w0 S a w p → aops P n ops l S K → (∀ S' a' w' p', K S' → Rel n p0 w0 S' a' w' p' → Q .normal a' w') → wpList P ops Q l a w
  | [], S, a, w, p, K, hR, h, hK => hK _ _ _ _ h hR
  | o :: r, S, a, w, p, K, hR, h, hK => by
    simp only [aops] at h
    unfold wpList
    rcases aop_sound (Q := Q) hR h (next := wpList P ops Q r) (fun S' a' w' p' hK' hR' => aops_sound r hR' hK' hK) with ⟨hw, h⟩ | ⟨hw, h⟩
    · rw [if_pos hw]; exact .inl h
    · rw [if_neg (by rw [hw]; simp)]; exact h

theorem vbop_sound (hR : Rel n p0 w0 S a w p) {g : Bool} {o : Oper} {K : AV → Prop} (h : vbop P S g o.op K) : ∃ v, K v ∧ (g = true → ∃ u, RdV w p w0.heap.size (slotOf a) u v ∧ ∀ w', Below w.heap.size w w' → (execOp a.eval o).run P w' = .ok (.value u) w') := by
  unfold vbop at h
  split at h
  · exact h.elim
  · rename_i hb
    generalize ho : o.op = op at h hb
    unfold vcop at h
    split at h
    · rename_i T parts
      have h' : vcop P S g o.op K := by rw [ho]; unfold vcop; exact h
      obtain ⟨v, hv, hok⟩ := vcop_sound hR h'
      refine ⟨v, hv, fun hg => ?_⟩
      obtain ⟨u, hu, hr⟩ := hok hg
      refine ⟨u, hu, fun w' hw' => ?_⟩
      rcases hr w' hw' with h | ⟨f, args, h, _⟩
      · exact h
      · exfalso
        simp only [execOp, ho, Sem.run_bind] at h
        revert h
        generalize (Instr.build _ _).run P w' = r
        cases r with
        | ok v w2 => simp only [Result.andThen, Sem.run_pure]; intro h; cases h
        | halt x w2 => intro h; cases h
    · split at h
      · simp [isBig, *] at hb
      · have h' : vop P S g o.op K := by rw [ho]; exact h
        obtain ⟨v, hv, hok⟩ := vop_sound hR h'
        exact ⟨v, hv, fun hg => let ⟨u, hu, hr⟩ := hok hg; ⟨u, hu, fun w' hw' => hr w' (Later.of_below hw')⟩⟩
    · have h' : vop P S g o.op K := by rw [ho]; exact h
      obtain ⟨v, hv, hok⟩ := vop_sound hR h'
      exact ⟨v, hv, fun hg => let ⟨u, hu, hr⟩ := hok hg; ⟨u, hu, fun w' hw' => hr w' (Later.of_below hw')⟩⟩

theorem qop_sound {ops : Array Oper} (hR : Rel n p0 w0 S a w p) {o : Oper} {K : Env → Prop} (h : qop P n ops S o K) :
    ∃ u S', YieldsIf P ops (fun w' => Below w.heap.size w w') o u a ∧ K S' ∧ Rel n p0 w0 S' (a.put o.dst u) w p := by
  unfold qop at h
  split at h
  · rename_i d hd
    split at h
    · rename_i hg
      obtain ⟨v, ⟨h1, h2, h3, h4⟩, hok⟩ := vbop_sound hR h
      obtain ⟨u, hu, hr⟩ := hok rfl
      exact ⟨u, _, .inl ⟨by simp [Region.wanted, hg], hr⟩, h4, by rw [hd]; exact rel_set hR h1 h2 h3 hu⟩
    · rename_i j want hg
      obtain ⟨g, h, hw⟩ := guardK_sound hR hg h
      obtain ⟨v, ⟨h1, h2, h3, h4⟩, hok⟩ := vbop_sound hR h
      cases g with
      | true =>
        obtain ⟨u, hu, hr⟩ := hok rfl
        exact ⟨u, _, .inl ⟨hw, hr⟩, h4, by rw [hd]; exact rel_opt hR h1 h2 h3 (fun _ => hu) (fun h => by cases h)⟩
      | false =>
        exact ⟨undef, _, .inr ⟨hw, rfl⟩, h4, by rw [hd]; exact rel_opt hR h1 h2 h3 (fun h => by cases h) (fun _ => rfl)⟩
  · exact h.elim

theorem wpAnyH_weaken {ops : Array Oper} {md : Region.Mode} {T T' : World → Prop} (hT : ∀ w, T w → T' w) : ∀ (fuel : Nat) (listed : Array Bool) (a : Act) (w : World), wpAnyH P md ops Q T fuel listed a w → wpAnyH P md ops Q T' fuel listed a w
  | 0, _, _, _, h => h
  | fuel + 1, _, _, _, h => ⟨h.1, fun i hi => wpOp_mono (fun a' w' h' => ⟨hT _ h'.1, wpAnyH_weaken hT fuel _ a' w' h'.2⟩) (h.2 i hi)⟩

theorem rops_sound {ops : Array Oper} (hs : Region.noSelect ops = true) (hQ : ∀ c a w, ¬ Q (.panic c) a w) : ∀ (order : List (Bool × Nat)) (listed : Array Bool) {S : Env} {a : Act} {w : World} {p : Nat → Prop} {K : Env → Prop}, ordB ops order listed = true → Rel n p0 w0 S a w p → rops P n ops order S K →
    (∀ S' a' w' p', K S' → Rel n p0 w0 S' a' w' p' → Q .normal a' w') → wpAnyH P .any ops Q (fun w' => Below w.heap.size w w') order.length listed a w
  | [], listed, S, a, w, p, K, hB, hR, h, hK => by
    simp only [ordB] at hB
    exact ⟨by simpa using hB, hK _ _ _ _ h hR⟩
  | (b, i) :: r, listed, S, a, w, p, K, hB, hR, h, hK => by
    simp only [rops] at h
    split at h
    · rename_i o hi
      simp only [ordB, Bool.and_eq_true] at hB
      obtain ⟨⟨hr, hf⟩, hB⟩ := hB
      obtain ⟨u, S', hy, h4, hR'⟩ := qop_sound hR h
      exact wpAnyH_take hi hs hf hr (fun c a w h => absurd h (hQ _ _ _)) hy (Below.refl _ _) (rops_sound hs hQ r _ hB hR' h4 hK)
    · rename_i o hi
      simp only [ordB, Bool.and_eq_true, beq_iff_eq, hi, Option.map_some, Option.getD_some] at hB
      obtain ⟨⟨hr, hgr⟩, hB⟩ := hB
      refine wpAnyH_all hr (by simp) fun i' hi' => ?_
      simp only [List.mem_singleton] at hi'
      subst hi'
      have key := aop_sound_g (Q := Q) hR hgr h (next := fun a' w' => Below w.heap.size w w' ∧ wpAnyH P .any ops Q (fun w' => Below w.heap.size w w') r.length (listed.setIfInBounds i' true) a' w') ?_
      · unfold wpOp
        simp only [hi]
        rcases key with ⟨hw, h⟩ | ⟨hw, h⟩
        · rw [if_pos hw]; exact .inl h
        · rw [if_neg (by rw [hw]; simp)]; exact h
      · intro S' a' w' p' hb hK' hR'
        exact ⟨hb, wpAnyH_weaken (fun w2 h2 => hb.trans (h2.mono hb.size)) _ _ _ _ (rops_sound hs hQ r _ hB hR' hK' hK)⟩
    · exact h.elim

theorem keep_rel (hR : Rel n p0 w0 S a w p) (k : Option (List Nat)) : Rel n p0 w0 (keep S k) a w p := by
  cases k with
  | none => exact hR
  | some ks => exact rel_restr hR ks

theorem rel_pubs : ∀ (ds : List Nat) {S : Env} {p : Nat → Prop}, Rel n p0 w0 S a w p → ∃ p', Rel n p0 w0 (S.pubs ds) a w p'
  | [], S, p, hR => ⟨p, hR⟩
  | d :: r, S, p, hR => by
    unfold Env.pubs Env.pub
    split
    · rename_i b ty sz es hd
      obtain ⟨p', h1, _⟩ := rel_pub hR hd
      exact rel_pubs r h1
    · exact rel_pubs r hR

abbrev After (n : Nat) (p0 : Nat → Prop) (w0 : World) (Q : Exit → Env → Prop) : Exit → Act → World → Prop := fun e a' w' => ∃ S' p', Q e S' ∧ Rel n p0 w0 S' a' w' p'

theorem awp_sound {L : Nat → Option (List Nat)} : ∀ (c : Code) {Q : Exit → Env → Prop} {S : Env} {a : Act} {w : World} {p : Nat → Prop}, Rel n p0 w0 S a w p → awp P n L c Q S → c.wp P (After n p0 w0 Q) a w := by
  intro c
  induction c with
  | skip => intro Q S a w p hR h; exact wp_skip ⟨S, p, h, hR⟩
  | region id ops draw =>
    intro Q S a w p hR h
    simp only [awp] at h
    obtain ⟨ds, h⟩ := h
    obtain ⟨p1, hR1⟩ := rel_pubs ds hR
    cases draw with
    | false =>
      exact wp_region_list (aops_sound _ hR1 h fun S' a' w' p' hK hR' => ⟨_, p', hK, keep_rel hR' _⟩)
    | true =>
      obtain ⟨h1, order, h2, h3⟩ := h
      simp only [Bool.and_eq_true, beq_iff_eq] at h2
      obtain ⟨⟨hs, hlen⟩, hB⟩ := h2
      let Q0 : Exit → Act → World → Prop := fun e a' w' => e = .normal ∧ After n p0 w0 Q .normal a' w'
      have hQ0 : ∀ c a w, ¬ Q0 (.panic c) a w := fun c a w h => by cases h.1
      have hq : (Code.region id ops true).wp P Q0 a w := by
        refine wp_region_held (S := fun w' => Below w.heap.size w w') h1 ?_
        have hR2 : Rel n p0 w0 (S.pubs ds) a { w with drawn := w.drawn + 1 } p1 := rel_world hR1 (Below.refl _ _).drew
        have hw := rops_sound (w := { w with drawn := w.drawn + 1 }) (Q := Q0) hs hQ0 order _ hB hR2 h3 fun S' a' w' p' hK hR' => ⟨rfl, _, p', hK, keep_rel hR' _⟩
        rw [hlen] at hw
        exact wpAnyH_weaken (fun w' hw' => (Below.refl _ w).drew.trans hw') _ _ _ _ hw
      refine wp_mono hq ?_
      rintro e a' w' ⟨rfl, h⟩
      exact h
  | seq x y ihx ihy =>
    intro Q S a w p hR h
    simp only [awp] at h
    obtain ⟨M, h, hM⟩ := h
    refine wp_seq (wp_mono (ihx hR h) ?_)
    rintro e a' w' ⟨S', p', hq, hR'⟩
    cases e with
    | normal => exact ihy hR' (hM _ hq)
    | _ => exact ⟨S', p', hq, hR'⟩
  | cond c x y ihx ihy =>
    intro Q S a w p hR h
    simp only [awp] at h
    unfold condK at h
    obtain ⟨v, h1, hv⟩ := evK_sound hR h
    split at h1
    · rename_i b
      exact wp_cond_split (RdV_im (hv rfl)) (fun hb => ihx hR (h1.1 hb)) (fun hb => ihy hR (h1.2 hb))
    · exact h1.elim
  | block id c ih =>
    intro Q S a w p hR h
    simp only [awp] at h
    refine wp_block (wp_mono (ih hR h) ?_)
    rintro e a' w' ⟨S', p', hq, hR'⟩
    cases e with
    | exit id' =>
      simp only [inB] at hq
      simp only [Exit.inBlock]
      split
      · rename_i hid; rw [if_pos hid] at hq; exact ⟨S', p', hq, hR'⟩
      · rename_i hid; rw [if_neg hid] at hq; exact ⟨S', p', hq, hR'⟩
    | _ => exact ⟨S', p', hq, hR'⟩
  | loop c ih =>
    intro Q S a w p hR h
    simp only [awp] at h
    obtain ⟨ds, ks, I, ⟨k, h0⟩, hround⟩ := h
    obtain ⟨p1, hR1⟩ := rel_pubs ds hR
    have key : ∀ m k S a w p, k < m → Rel n p0 w0 S a w p → I k S → Code.rounds P c (After n p0 w0 Q) m a w := by
      intro m
      induction m with
      | zero => intro k S a w p hk; omega
      | succ m ihm =>
        intro k S a w p hk hR hI
        rw [rounds_succ]
        refine wp_mono (ih hR (hround k S hI)) ?_
        rintro e a' w' ⟨S', p', hq, hR'⟩
        cases e with
        | normal =>
          obtain ⟨k', hk', hI'⟩ := hq
          exact ihm k' _ a' w' p' (by omega) (keep_rel hR' ks) hI'
        | _ => exact ⟨S', p', hq, hR'⟩
    exact wp_loop_rounds (k + 1) (key (k + 1) k _ a w p1 (by omega) (keep_rel hR1 ks) h0)
  | exit id => intro Q S a w p hR h; exact wp_exit ⟨S, p, h, hR⟩
  | ret => intro Q S a w p hR h; exact wp_ret ⟨S, p, h, hR⟩
  | _ => intro Q S a w p hR h; exact h.elim

end
end Go.Vs
