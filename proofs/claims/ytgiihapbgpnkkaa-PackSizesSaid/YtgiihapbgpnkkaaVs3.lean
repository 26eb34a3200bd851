/-
  THE VALUE SEMANTICS, part 3: the operations that only compute a value: what is owed and what comes out, and that the machine does so, in every world in which what is there stays.
-/
import Derived.Test.YtgiihapbgpnkkaaVs2
namespace Go.Vs
open Go Go.RowKit

structure Rel (n : Nat) (p0 : Nat → Prop) (w0 : World) (S : Env) (a : Act) (w : World) (p : Nat → Prop) : Prop where
  defers : a.defers = []
  size : n ≤ a.tmps.size
  below : Below w0.heap.size w0 w
  plt : ∀ b, p b → b < w.heap.size
  pnew : ∀ b, p b → p0 b ∨ w0.heap.size ≤ b
  vals : ∀ d v, (d, v) ∈ S → RdV w p w0.heap.size (slotOf a) (slotOf a d) v
  sep : ∀ d d' v v' g, (d, v) ∈ S → (d', v') ∈ S → d ≠ d' → v.owns = true → v'.owns = true → blkOf (slotOf a d) = some g → blkOf (slotOf a d') ≠ some g

def szOf (P : Program) (t : TypeId) : Option Nat := (P.info? t).map (·.size)

theorem run_szOf {P : Program} {t : TypeId} {s : Nat} (h : szOf P t = some s) (w : World) : (sizeOf t).run P w = .ok s w := by
  unfold szOf at h
  cases hi : P.info? t with
  | none => simp [hi] at h
  | some i => simp [hi] at h; simp [sizeOf, typeInfo, hi, h]

def Later (w w' : World) : Prop := KeepsOn (fun b => b < w.heap.size) w w'

theorem Later.refl (w : World) : Later w w := fun _ _ => rfl

theorem Later.cell {w w' : World} (h : Later w w') {a : Addr} {v : Value} (hc : w.cell? a = some v) : w'.cell? a = some v :=
  (World.cell?_of_block (w := w) (h a.block (World.block_lt_of_cell? w a hc))).trans hc

theorem Later.of_below {w w' : World} (h : Below w.heap.size w w') : Later w w' := fun b hb => h.block b hb

def constAC : Value → Option AC
  | .slice none 0 0 => some .nil
  | .bool b => some (.im (.bool b))
  | .int k n => some (.im (.int k n))
  | .string s => some (.im (.string s))
  | _ => none

def constACs : List Value → Option (List AC)
  | [] => some []
  | v :: vs => match constAC v, constACs vs with
    | some c, some cs => some (c :: cs)
    | _, _ => none

def evK (S : Env) (g : Bool) (x : Operand) (K : AV → Prop) : Prop :=
  match x with
  | .tmp t => match S.get t with
    | some (.opt b v) => (g = true → b = true) ∧ K v
    | some (.row ..) => K (.alias t)
    | some (.box ..) => K (.alias t)
    | some v => K v
    | none => False
  | .const (.agg cs) => match constACs cs.toList with
    | some l => K (.agg l)
    | none => False
  | .const v => match constAC v with
    | some c => K (.c c)
    | none => False
  | .func f => K (.fn f)
  | .global _ => False

theorem constAC_ok {v : Value} {c : AC} (h : constAC v = some c) (w : World) (p : Nat → Prop) : RdC w p v c := by
  unfold constAC at h
  split at h <;> simp at h <;> subst h
  · exact .nil
  · exact .im _ rfl
  · exact .im _ rfl
  · exact .im _ rfl

theorem constACs_ok (w : World) (p : Nat → Prop) : ∀ {vs : List Value} {cs : List AC}, constACs vs = some cs → RdL w p vs cs
  | [], cs, h => by simp [constACs] at h; subst h; exact .nil
  | v :: vs, cs, h => by
    simp only [constACs] at h
    split at h
    · rename_i c cs' h1 h2
      simp at h; subst h
      exact .cons (constAC_ok h1 w p) (constACs_ok w p h2)
    · simp at h

section
variable {n : Nat} {p0 : Nat → Prop} {w0 : World} {S : Env} {a : Act} {w : World} {p : Nat → Prop}

theorem Rel.get (hR : Rel n p0 w0 S a w p) {d : Nat} {v : AV} (h : S.get d = some v) : RdV w p w0.heap.size (slotOf a) (slotOf a d) v := hR.vals d v (Env.mem_of_get h)

theorem evK_sound (hR : Rel n p0 w0 S a w p) {g : Bool} {x : Operand} {K : AV → Prop} (h : evK S g x K) : ∃ v, K v ∧ (g = true → RdV w p w0.heap.size (slotOf a) (a.eval x) v) := by
  unfold evK at h
  split at h
  · rename_i t
    split at h
    · rename_i b v hg
      exact ⟨v, h.2, fun hgt => (hR.get hg).1 (h.1 hgt)⟩
    · exact ⟨_, h, fun _ => rfl⟩
    · exact ⟨_, h, fun _ => rfl⟩
    · rename_i v _ _ _ hg
      exact ⟨v, h, fun _ => hR.get hg⟩
    · exact h.elim
  · split at h
    · rename_i cs _ l hl
      exact ⟨_, h, fun _ => ⟨cs, rfl, constACs_ok w p hl⟩⟩
    · exact h.elim
  · split at h
    · rename_i c hc
      exact ⟨_, h, fun _ => constAC_ok hc w p⟩
    · exact h.elim
  · exact ⟨_, h, fun _ => rfl⟩
  · exact h.elim

end

/-- Of an element's type: how many cells, how many bytes, its zero. -/
def eInfo (P : Program) (e : TypeId) : Option (Nat × Nat × List AC) :=
  match P.info? e with
  | some i => match i.zero with
    | some z => if z.cells.size = i.size then (constACs z.cells.toList).map fun cs => (i.size, i.bytes, cs) else none
    | none => none
  | none => none

theorem eInfo_ok {P : Program} {e s b : Nat} {cs : List AC} (h : eInfo P e = some (s, b, cs)) : ∃ i z, P.info? e = some i ∧ i.zero = some z ∧ i.size = s ∧ i.bytes = b ∧ z.cells.size = s ∧ constACs z.cells.toList = some cs := by
  unfold eInfo at h
  split at h
  · rename_i i hi
    split at h
    · rename_i z hz
      split at h
      · rename_i hs
        simp only [Option.map_eq_some_iff, Prod.mk.injEq] at h
        obtain ⟨cs', h1, rfl, rfl, rfl⟩ := h
        exact ⟨i, z, hi, hz, rfl, rfl, hs, h1⟩
      · simp at h
    · simp at h
  · simp at h

def dfl : TypeDesc → AC
  | .int k => .im (.int k 0)
  | .bool => .im (.bool false)
  | .string => .im (.string .empty)
  | _ => .nil

/-- Cell j of element i, or d where there is none; s cells from j on. -/
def getC (d : AC) (es : List (List AC)) (i j : Nat) : AC := ((es[i]?).bind (·[j]?)).getD d
def getR (zs : List AC) (es : List (List AC)) (i j s : Nat) : List AC := ((es[i]?).map fun e => (e.drop j).take s).getD zs

/-- The words of a value operation that came out well. -/
def VOK (P : Program) (w0 : World) (a : Act) (w : World) (p : Nat → Prop) (o : Oper) (v : AV) : Prop :=
  ∃ u, RdV w p w0.heap.size (slotOf a) u v ∧ ∀ w', Later w w' → (execOp a.eval o).run P w' = .ok (.value u) w'

def EqRun (P : Program) (op : BinOp) (xt : TypeId) (x y : Operand) (vx vy : Value) (b : Bool) : Prop :=
  ∀ w, (do eqGuard op xt x y vx vy; binOp op xt vx vy : Sem Value).run P w = .ok (.bool b) w

def imVals : List AC → Option (List Value)
  | [] => some []
  | .im v :: cs => (imVals cs).map (v :: ·)
  | _ :: _ => none

theorem imVals_ok {w : World} {p : Nat → Prop} : ∀ {cs : List AC} {vs us : List Value}, RdL w p us cs → imVals cs = some vs → us = vs
  | [], vs, us, h, hi => by cases h; simp [imVals] at hi; exact hi.symm ▸ rfl
  | .im v :: cs, vs, us, h, hi => by
    cases h with
    | cons h t =>
      cases h
      simp only [imVals] at hi
      cases hc : imVals cs with
      | none => simp [hc] at hi
      | some vs' => simp [hc] at hi; rw [← hi, imVals_ok t hc]
  | .nil :: cs, vs, us, h, hi => by simp [imVals] at hi
  | .sl _ _ :: cs, vs, us, h, hi => by simp [imVals] at hi

def binK (P : Program) (S : Env) (g : Bool) (op : BinOp) (xt : TypeId) (xo yo : Operand) (x y : AV) (K : AV → Prop) : Prop :=
  match x, y with
  | .c (.im (.int k a)), .c (.im (.int k' b)) =>
    match op with
    | .add => k = k' ∧ K (.c (.im (.int k (k.wrap (a + b)))))
    | .sub => k = k' ∧ K (.c (.im (.int k (k.wrap (a - b)))))
    | .mul => k = k' ∧ K (.c (.im (.int k (k.wrap (a * b)))))
    | .quo => k = k' ∧ (g = true → b ≠ 0) ∧ K (.c (.im (.int k (k.wrap (a.tdiv b)))))
    | .rem => k = k' ∧ (g = true → b ≠ 0) ∧ K (.c (.im (.int k (a.tmod b))))
    | .and => k = k' ∧ K (.c (.im (.int k (k.wrap (BitVec.ofInt k.bits a &&& BitVec.ofInt k.bits b).toNat))))
    | .or => k = k' ∧ K (.c (.im (.int k (k.wrap (BitVec.ofInt k.bits a ||| BitVec.ofInt k.bits b).toNat))))
    | .xor => k = k' ∧ K (.c (.im (.int k (k.wrap (BitVec.ofInt k.bits a ^^^ BitVec.ofInt k.bits b).toNat))))
    | .andNot => k = k' ∧ K (.c (.im (.int k (k.wrap (BitVec.ofInt k.bits a &&& ~~~ BitVec.ofInt k.bits b).toNat))))
    | .shl => (g = true → 0 ≤ b) ∧ K (.c (.im (.int k (k.wrap (a * 2 ^ (min b.toNat k.bits))))))
    | .shr => (g = true → 0 ≤ b) ∧ K (.c (.im (.int k (a.fdiv (2 ^ (min b.toNat k.bits))))))
    | .eql => k = k' ∧ K (.c (.im (.bool (a == b))))
    | .neq => k = k' ∧ K (.c (.im (.bool (a != b))))
    | .lss => k = k' ∧ K (.c (.im (.bool (decide (a < b)))))
    | .leq => k = k' ∧ K (.c (.im (.bool (decide (a ≤ b)))))
    | .gtr => k = k' ∧ K (.c (.im (.bool (decide (a > b)))))
    | .geq => k = k' ∧ K (.c (.im (.bool (decide (a ≥ b)))))
  | .c (.im (.bool a)), .c (.im (.bool b)) =>
    match op with
    | .eql => P.underlying xt = some .bool ∧ K (.c (.im (.bool (a == b))))
    | .neq => P.underlying xt = some .bool ∧ K (.c (.im (.bool (a != b))))
    | _ => False
  | .c (.im (.string a)), .c (.im (.string b)) =>
    match op with
    | .add => (g = true → a.size + b.size ≤ 9223372036854775807) ∧ K (.c (.im (.string (a ++ b))))
    | .eql => K (.c (.im (.bool (a.toList == b.toList))))
    | .neq => K (.c (.im (.bool !(a.toList == b.toList))))
    | .lss => K (.c (.im (.bool (Op.bytesLess a.toList b.toList))))
    | .gtr => K (.c (.im (.bool !(Op.bytesLess a.toList b.toList || a.toList == b.toList))))
    | _ => False
  | .agg xs, .agg ys =>
    match imVals xs, imVals ys with
    | some vx, some vy => ∃ b, EqRun P op xt xo yo (.agg vx.toArray) (.agg vy.toArray) b ∧ K (.c (.im (.bool b)))
    | _, _ => False
  | .alias d, .c .nil =>
    match S.get d, P.underlying xt with
    | some (.row isnil _ _ _), some (.slice _) =>
      match op with
      | .eql => K (.c (.im (.bool isnil)))
      | .neq => K (.c (.im (.bool !isnil)))
      | _ => False
    | _, _ => False
  | .c .nil, .c .nil =>
    match P.underlying xt with
    | some (.slice _) =>
      match op with
      | .eql => K (.c (.im (.bool true)))
      | .neq => K (.c (.im (.bool false)))
      | _ => False
    | _ => False
  | .c (.sl _ es), .c .nil =>
    match P.underlying xt with
    | some (.slice _) =>
      match op with
      | .eql => ∀ b, (b = true → es = []) → K (.c (.im (.bool b)))
      | .neq => ∀ b, (b = true → es = []) → K (.c (.im (.bool !b)))
      | _ => False
    | _ => False
  | _, _ => False

def unK (op : UnOp) (x : AV) (K : AV → Prop) : Prop :=
  match op, x with
  | .neg, .c (.im (.int k a)) => K (.c (.im (.int k (k.wrap (0 - a)))))
  | .xor, .c (.im (.int k a)) => K (.c (.im (.int k (k.wrap (BitVec.ofInt k.bits (if k.signed then -1 else k.max) ^^^ BitVec.ofInt k.bits a).toNat))))
  | .not, .c (.im (.bool b)) => K (.c (.im (.bool !b)))
  | _, _ => False

/-- Rows of one byte each, as numbers; and the string of them. -/
def strRows : List (List AC) → Option (List Int)
  | [] => some []
  | [.im (.int .u8 n)] :: r => (strRows r).map (n :: ·)
  | _ :: _ => none

def bytesS (l : List Int) : ByteArray := l.foldl (fun r n => r.push (UInt8.ofNat n.toNat)) ByteArray.empty

def convSK (P : Program) (src dst : TypeId) (sz : Nat) (es : List (List AC)) (K : AV → Prop) : Prop :=
  sz = 1 ∧ P.underlying dst = some .string ∧ (match P.underlying src with
    | some (.slice e) => P.underlying e = some (.int .u8)
    | _ => False) ∧ match strRows es with
    | some l => K (.c (.im (.string (bytesS l))))
    | none => False

def convK (P : Program) (S : Env) (g : Bool) (src dst : TypeId) (x : AV) (K : AV → Prop) : Prop :=
  match x with
  | .c (.im (.int _ a)) => match P.underlying src, P.underlying dst with
    | some _, some (.int k) => K (.c (.im (.int k (k.wrap a))))
    | _, _ => False
  | .c (.im (.string s)) => match P.underlying src, P.underlying dst with
    | some _, some .string => K (.c (.im (.string s)))
    | _, _ => False
  | .c .nil => convSK P src dst 1 [] K
  | .c (.sl sz es) => convSK P src dst sz es K
  | .alias d => match S.get d with
    | some (.row _ _ sz es) => convSK P src dst sz es K
    | _ => False
  | .view d sz lo hi => match S.get d with
    | some (.row _ _ sz' es) => sz = sz' ∧ (g = true → hi ≤ es.length) ∧ convSK P src dst sz (es.extract lo hi) K
    | _ => False
  | _ => False

def loadK (P : Program) (g : Bool) (t : TypeId) (sz : Nat) (es : List (List AC)) (i j : Nat) (K : AV → Prop) : Prop :=
  match P.underlying t with
  | some (.struct _) => match eInfo P t with
    | some (s, _, zs) => (g = true → i < es.length ∧ j + s ≤ sz) ∧ K (.agg (getR zs es i j s))
    | none => False
  | some (.array _ _) => match eInfo P t with
    | some (s, _, zs) => (g = true → i < es.length ∧ j + s ≤ sz) ∧ K (.agg (getR zs es i j s))
    | none => False
  | some d => (g = true → i < es.length ∧ j < sz) ∧ K (.c (getC (dfl d) es i j))
  | none => False

/-- The content of what slot d owns, as rows. -/
def content (S : Env) (d : Nat) : Option (Nat × List (List AC)) :=
  match S.get d with
  | some (.row _ _ sz es) => some (sz, es)
  | some (.box _ cs) => some (cs.length, [cs])
  | _ => none

def boundK (S : Env) (g : Bool) (x : Option Operand) (K : Option Int → Prop) : Prop :=
  match x with
  | none => K none
  | some o => evK S g o fun
    | .c (.im (.int _ i)) => K (some i)
    | _ => False

def sliceK (P : Program) (S : Env) (g : Bool) (t : TypeId) (vx : AV) (l : Int) (h : Option Int) (K : AV → Prop) : Prop :=
  match P.underlying t with
  | some (.slice e) => match szOf P e with
    | some s => (match vx with
      | .c (.sl sz es) => sz = s ∧ (g = true → 0 ≤ l ∧ l ≤ h.getD es.length ∧ h.getD es.length ≤ es.length) ∧ K (.c (.sl sz (es.extract l.toNat (h.getD es.length).toNat)))
      | .alias d => (match S.get d with
        | some (.row _ _ sz es) => sz = s ∧ (g = true → 0 ≤ l ∧ l ≤ h.getD es.length ∧ h.getD es.length ≤ es.length) ∧ K (.view d sz l.toNat (h.getD es.length).toNat)
        | _ => False)
      | _ => False)
    | none => False
  | _ => False

def callK (P : Program) (S : Env) (g : Bool) (c : Call) (K : AV → Prop) : Prop :=
  match c.callee, c.args.toList, c.argTypes.toList with
  | .builtin .len, [x], [t] => evK S g x fun
    | .c (.im (.string s)) => P.underlying t = some .string ∧ K (.c (.im (.int .i64 s.size)))
    | .c .nil => (∃ e, P.underlying t = some (.slice e)) ∧ K (.c (.im (.int .i64 0)))
    | .c (.sl _ es) => (∃ e, P.underlying t = some (.slice e)) ∧ K (.c (.im (.int .i64 es.length)))
    | .alias d => (match S.get d with
      | some (.row _ _ _ es) => (∃ e, P.underlying t = some (.slice e)) ∧ K (.c (.im (.int .i64 es.length)))
      | _ => False)
    | .view _ _ lo hi => (∃ e, P.underlying t = some (.slice e)) ∧ K (.c (.im (.int .i64 ((hi - lo : Nat) : Int))))
    | _ => False
  | .builtin .max, [x, y], _ => evK S g x fun
    | .c (.im (.int k a)) => evK S g y fun
      | .c (.im (.int _ b)) => K (.c (.im (.int k (if b > a then b else a))))
      | _ => False
    | _ => False
  | .builtin .min, [x, y], _ => evK S g x fun
    | .c (.im (.int k a)) => evK S g y fun
      | .c (.im (.int _ b)) => K (.c (.im (.int k (if b < a then b else a))))
      | _ => False
    | _ => False
  | _, _, _ => False

def vop (P : Program) (S : Env) (g : Bool) (op : Op) (K : AV → Prop) : Prop :=
  match op with
  | .move x => evK S g x K
  | .assign x => evK S g x K
  | .pick c x y => evK S g c fun
    | .c (.im (.bool b)) => evK S (g && b) x fun
      | .c (.im (.bool p)) => evK S (g && !b) y fun
        | .c (.im (.bool q)) => K (.c (.im (.bool (bif b then p else q))))
        | _ => False
      | _ => False
    | _ => False
  | .binOp op xt x y _ => evK S g x fun vx => evK S g y fun vy => binK P S g op xt x y vx vy K
  | .unOp op _ x => evK S g x fun vx => unK op vx K
  | .convert src dst x => evK S g x fun vx => convK P S g src dst vx K
  | .load t x => evK S g x fun
    | .adr d sz i j => match content S d with
      | some (sz', es) => sz = sz' ∧ loadK P g t sz es i j K
      | none => False
    | .alias d => match S.get d with
      | some (.box _ cs) => loadK P g t cs.length [cs] 0 0 K
      | _ => False
    | .adrR sz es i j => loadK P g t sz es i j K
    | _ => False
  | .fieldAddr s x f => evK S g x fun vx => match P.underlying s with
    | some (.struct fields) => match fields[f]? with
      | some fd => match szOf P fd.type with
        | some s' => s' ≠ 0 ∧ (match vx with
          | .adr d sz i j => K (.adr d sz i (j + fd.offset))
          | .alias d => (match S.get d with
            | some (.box _ cs) => K (.adr d cs.length 0 fd.offset)
            | _ => False)
          | .adrR sz es i j => K (.adrR sz es i (j + fd.offset))
          | _ => False)
        | none => False
      | none => False
    | _ => False
  | .indexAddr t x ix => evK S g ix fun
    | .c (.im (.int _ i)) => evK S g x fun vx => match P.underlying t with
      | some (.slice e) => match szOf P e with
        | some s => (match vx with
          | .c (.sl sz es) => sz = s ∧ (g = true → 0 ≤ i ∧ i < es.length) ∧ K (.adrR sz es i.toNat 0)
          | .alias d => (match S.get d with
            | some (.row _ _ sz es) => sz = s ∧ (g = true → 0 ≤ i ∧ i < es.length) ∧ K (.adr d sz i.toNat 0)
            | _ => False)
          | .view d sz lo hi => sz = s ∧ (g = true → 0 ≤ i ∧ i < (hi : Int) - lo) ∧ K (.adr d sz (lo + i.toNat) 0)
          | _ => False)
        | none => False
      | some (.array len e) => match szOf P e with
        | some s => (match vx with
          | .adr d sz i0 j0 => (g = true → 0 ≤ i ∧ i < len) ∧ K (.adr d sz i0 (j0 + i.toNat * s))
          | .alias d => (match S.get d with
            | some (.box _ cs) => (g = true → 0 ≤ i ∧ i < len) ∧ K (.adr d cs.length 0 (i.toNat * s))
            | _ => False)
          | .adrR sz es i0 j0 => (g = true → 0 ≤ i ∧ i < len) ∧ K (.adrR sz es i0 (j0 + i.toNat * s))
          | _ => False)
        | none => False
      | _ => False
    | _ => False
  | .extract x k => evK S g x fun
    | .tup vs => match vs[k]? with
      | some (.c c) => K (.c c)
      | some (.ag cs) => K (.agg cs)
      | none => False
    | _ => False
  | .nilCheck x => evK S g x fun
    | .adr d sz i j => K (.adr d sz i j)
    | .alias d => (match S.get d with
      | some (.box _ _) => K (.alias d)
      | _ => False)
    | _ => False
  | .slice t x lo hi none => evK S g x fun vx => boundK S g lo fun l => boundK S g hi fun h => sliceK P S g t vx (l.getD 0) h K
  | .call c => callK P S g c K
  | _ => False

end Go.Vs
