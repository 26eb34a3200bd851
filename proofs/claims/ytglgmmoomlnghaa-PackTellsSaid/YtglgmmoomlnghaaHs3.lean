/-
  THE HEAP SEMANTICS, part 3: operands; where what is owned lies; the operations that only compute a value: what is owed and what comes out.
-/
import Derived.Test.YtglgmmoomlnghaaHs2
namespace Go.Hs
open Go Go.RowKit

def szOf (P : Program) (t : TypeId) : Option Nat := (P.info? t).map (·.size)

theorem run_szOf {P : Program} {t : TypeId} {s : Nat} (h : szOf P t = some s) (w : World) : (sizeOf t).run P w = .ok s w := by
  unfold szOf at h
  cases hi : P.info? t with
  | none => simp [hi] at h
  | some i => simp [hi] at h;simp [sizeOf,typeInfo,hi,h]

def Later (w w' : World) : Prop := KeepsOn (fun b => b < w.heap.size) w w'

theorem Later.refl (w : World) : Later w w := fun _ _ => rfl

theorem Later.cell {w w' : World} (h : Later w w') {a : Addr} {v : Value} (hc : w.cell? a = some v) : w'.cell? a = some v :=
  (World.cell?_of_block (w := w) (h a.block (World.block_lt_of_cell? w a hc))).trans hc

theorem Later.of_below {w w' : World} (h : Below w.heap.size w w') : Later w w' := fun b hb => h.block b hb

def constAC : Value → Option AC
  | .slice none 0 0 => some .nil
  | .bool b => some (.im (.bool b))
  | .int k n => some (.im (.int k n))
  | .string s => some (.im (.string s))
  | .pointer none => some (.im (.pointer none))
  | .nilFunc => some (.im .nilFunc)
  | .nilIface => some (.im .nilIface)
  | .map none => some (.im (.map none))
  | _ => none

def constACs : List Value → Option (List AC)
  | [] => some []
  | v :: vs => match constAC v,constACs vs with
    | some c,some cs => some (c :: cs)
    | _,_ => none

def evK (S : Env) (g : Bool) (x : Operand) (K : AV → Prop) : Prop :=
  match x with
  | .tmp t => match S.get t with
    | some (.opt b v) => (g = true → b = true) ∧ K v
    | some (.c c) => K (.c c)
    | some (.agg cs) => K (.agg cs)
    | some (.tup vs) => K (.tup vs)
    | _ => False
  | .const (.agg cs) => match constACs cs.toList with
    | some l => K (.agg l)
    | none => False
  | .const v => match constAC v with
    | some c => K (.c c)
    | none => False
  | .func f => K (.c (.fn f []))
  | .global _ => False

theorem constAC_ok {v : Value} {c : AC} (h : constAC v = some c) (w : World) (p : Nat → Prop) : RdC w p v c := by
  unfold constAC at h
  split at h <;> simp at h <;> subst h
  · exact .nil
  all_goals exact .im _ rfl

theorem constACs_ok (w : World) (p : Nat → Prop) : ∀ {vs : List Value} {cs : List AC},constACs vs = some cs → RdL w p vs cs
  | [],cs,h => by simp [constACs] at h;subst h;exact .nil
  | v :: vs,cs,h => by
    simp only [constACs] at h
    split at h
    · rename_i c cs' h1 h2
      simp at h;subst h
      exact .cons (constAC_ok h1 w p) (constACs_ok w p h2)
    · simp at h

/-- Of an element's type: how many cells, how many bytes, its zero. -/
def eInfo (P : Program) (e : TypeId) : Option (Nat × Nat × List AC) :=
  match P.info? e with
  | some i => match i.zero with
    | some z => if z.cells.size = i.size then (constACs z.cells.toList).map fun cs => (i.size,i.bytes,cs) else none
    | none => none
  | none => none

theorem eInfo_ok {P : Program} {e s b : Nat} {cs : List AC} (h : eInfo P e = some (s,b,cs)) : ∃ i z,P.info? e = some i ∧ i.zero = some z ∧ i.size = s ∧ i.bytes = b ∧ z.cells.size = s ∧ constACs z.cells.toList = some cs := by
  unfold eInfo at h
  split at h
  · rename_i i hi
    split at h
    · rename_i z hz
      split at h
      · rename_i hs
        simp only [Option.map_eq_some_iff,Prod.mk.injEq] at h
        obtain ⟨cs',h1,rfl,rfl,rfl⟩ := h
        exact ⟨i,z,hi,hz,rfl,rfl,hs,h1⟩
      · simp at h
    · simp at h
  · simp at h

def dfl : TypeDesc → AC
  | .int k => .im (.int k 0)
  | .bool => .im (.bool false)
  | .string => .im (.string .empty)
  | .pointer _ => .im (.pointer none)
  | .func .. => .im .nilFunc
  | .interface _ => .im .nilIface
  | .map .. => .im (.map none)
  | _ => .nil

/-- Cell j of element i, or d where there is none; s cells from j on. -/
def getC (d : AC) (es : List (List AC)) (i j : Nat) : AC := ((es[i]?).bind (·[j]?)).getD d
def getR (zs : List AC) (es : List (List AC)) (i j s : Nat) : List AC := ((es[i]?).map fun e => (e.drop j).take s).getD zs

/-- Down to what is owned in what is owned: cell j of row i, and so on. -/
def desc : Ob → List (Nat × Nat) → Option Ob
  | o,[] => some o
  | o,(i,j) :: r => match getC .nil o.es i j with
    | .own b e sz es => desc ⟨b,e,sz,es⟩ r
    | _ => none

def obAt (v : Option AV) (q : List (Nat × Nat)) : Option Ob :=
  match v with
  | some (.row b e sz es) => desc ⟨b,e,sz,es⟩ q
  | some (.box k ty cs) => desc ⟨some (k,1),ty,cs.length,[cs]⟩ q
  | _ => none

theorem obAt_ob {v : Option AV} {q : List (Nat × Nat)} {o : Ob} (h : obAt v q = some o) : ∃ v0 o0,v = some v0 ∧ v0.ob = some o0 ∧ desc o0 q = some o := by
  unfold obAt at h
  split at h
  · exact ⟨_,_,rfl,rfl,h⟩
  · exact ⟨_,_,rfl,rfl,h⟩
  · cases h

def blkNo (b : Blk) : Nat := (b.map (·.1)).getD 0

/-- What a cell's value reads as, once it is read: of what is owned, a slice of it. -/
def ldC (g : Nat) (q : List (Nat × Nat)) (i j : Nat) : AC → AC
  | .own b _ sz es => .ref g (q ++ [(i,j)]) b sz 0 es.length
  | c => c

theorem ldC_per {g : Nat} {q : List (Nat × Nat)} {i j : Nat} {c : AC} (h : c.per = true) : ldC g q i j c = c := by
  cases c <;> first|rfl|simp [AC.per] at h

section
variable {w : World} {p : Nat → Prop}

theorem rdC_whole {b : Blk} {e sz n : Nat} {xs : List Value} (h : OR w b e sz n xs) (g : Nat) (q : List (Nat × Nat)) : RdC w p (sliceV b n) (.ref g q b sz 0 n) := by
  cases b with
  | none => obtain ⟨_,h⟩ := h;subst h;exact .refN g q sz
  | some x =>
    obtain ⟨_,cur,h1,h2,_⟩ := h
    have := RdC.ref (w := w) (p := p) g q x.1 x.2 sz 0 n 0 ⟨fun _ => by simp,fun _ => rfl⟩ (by omega)
    simpa [sliceV] using this

theorem RdO.ld {v : Value} {c : AC} {O : List Nat} (h : RdO w p [v] [c] O) (g : Nat) (q : List (Nat × Nat)) (i j : Nat) : RdC w p v (ldC g q i j c) := by
  cases h with
  | per h t =>
    cases c <;> first|exact h|cases h
  | own ho hs h1 t => exact rdC_whole ho g _

theorem getC_some {d : AC} {es : List (List AC)} {i j : Nat} {c : AC} (h : getC d es i j = c) (hne : c ≠ d) : ∃ e,es[i]? = some e ∧ e[j]? = some c := by
  unfold getC at h
  cases h1 : es[i]? with
  | none => rw [h1] at h;simp at h;exact absurd h.symm hne
  | some e =>
    rw [h1] at h
    cases h2 : e[j]? with
    | none => simp [h2] at h;exact absurd h.symm hne
    | some c' => simp [h2] at h;subst h;exact ⟨e,rfl,h2⟩

/-- What is owned in what is owned. -/
theorem desc_ok : ∀ {q : List (Nat × Nat)} {o o' : Ob} {O : List Nat},RdOb w p o O → desc o q = some o' → ∃ O',RdOb w p o' O' ∧ ∀ b ∈ O',b ∈ O
  | [],o,o',O,h,hd => by simp [desc] at hd;subst hd;exact ⟨O,h,fun _ h => h⟩
  | (i,j) :: r,o,o',O,h,hd => by
    simp only [desc] at hd
    split at hd
    · rename_i b e sz es hc
      obtain ⟨ee,h1,h2⟩ := getC_some hc (by simp)
      obtain ⟨xs,O',k1,k2,k3,rfl⟩ := h
      have hj : j < o.sz := by
        have := k2 ee (List.mem_of_getElem? h1)
        have := (List.getElem?_eq_some_iff.1 h2).1
        omega
      have hm : o.es.flatten[i * o.sz + j]? = some (.own b e sz es) := by rw [flatten_get k2 i ee j h1 hj];exact h2
      obtain ⟨ys,O1,O2,O3,_,g2,g3,g4,g5,_⟩ := k3.getOwn hm
      obtain ⟨O4,g6,g7⟩ := desc_ok (o := ⟨b,e,sz,es⟩) ⟨ys,O2,g2,g3,g4,rfl⟩ hd
      exact ⟨O4,g6,fun x hx => by
        have := g7 x hx
        rw [g5]
        simp only [List.mem_append] at this ⊢
        exact .inr (.inl (.inr this))⟩
    · cases hd

/-- Where the cells of rows lie, as they are read. -/
def Lies (w : World) (p : Nat → Prop) (a0 : Addr) (sz : Nat) (es : List (List AC)) : Prop :=
  (∀ e,e ∈ es → e.length = sz) ∧ ∀ i e j c,es[i]? = some e → e[j]? = some c → ∃ u,w.cell? (a0.add (i * sz + j)) = some u ∧ ∀ g q i' j',RdC w p u (ldC g q i' j' c)

theorem addr_add_add (a0 : Addr) (x y : Nat) : (a0.add x).add y = a0.add (x + y) := by
  unfold Addr.add
  by_cases hx : x = 0
  · simp [hx]
  · by_cases hy : y = 0
    · simp [hy]
    · have : x + y ≠ 0 := by omega
      simp only [hx,hy,this,if_false]
      congr 1
      exact Nat.add_assoc _ _ _

theorem addr_add_zero (g k : Nat) : (⟨g,0,none⟩ : Addr).add k = ⟨g,k,none⟩ := by
  unfold Addr.add
  split
  · rename_i h;rw [h]
  · simp

theorem addr_add_off (g o k : Nat) : (⟨g,o,none⟩ : Addr).add k = ⟨g,o + k,none⟩ := by
  unfold Addr.add
  split
  · rename_i h;rw [h];simp
  · simp

theorem OR.cell {b : Blk} {e sz n : Nat} {xs : List Value} (h : OR w b e sz n xs) {m : Nat} {u : Value} (hm : xs[m]? = some u) : w.cell? ⟨blkNo b,m,none⟩ = some u := by
  have hlt := (List.getElem?_eq_some_iff.1 hm).1
  obtain ⟨hl,h⟩ := h
  cases b with
  | none => subst h;simp at hl;subst hl;simp at hm
  | some x =>
    obtain ⟨cur,h1,h2,h3,h4,h5⟩ := h
    show w.cell? ⟨x.1,m,none⟩ = _
    rw [cell_of_row w x.1 m cur e (0,0) h1]
    rw [← h5,List.getElem?_take] at hm
    split at hm
    · simpa using hm
    · cases hm

theorem lies_ob {o : Ob} {O : List Nat} (h : RdOb w p o O) : Lies w p ⟨blkNo o.b,0,none⟩ o.sz o.es := by
  obtain ⟨xs,O',h1,h2,h3,_⟩ := h
  refine ⟨h2,fun i e j c hi hj => ?_⟩
  have hlt : j < o.sz := by
    have := h2 e (List.mem_of_getElem? hi)
    have := (List.getElem?_eq_some_iff.1 hj).1
    omega
  have hm : o.es.flatten[i * o.sz + j]? = some c := by rw [flatten_get h2 i e j hi hlt];exact hj
  obtain ⟨u,O1,O2,O3,hu,_,hr,_⟩ := h3.at hm
  refine ⟨u,?_,fun g q i' j' => hr.ld g q i' j'⟩
  rw [addr_add_zero]
  exact h1.cell hu

theorem RdC.ldself {v : Value} {c : AC} (h : RdC w p v c) (g : Nat) (q : List (Nat × Nat)) (i j : Nat) : RdC w p v (ldC g q i j c) := by
  cases c <;> first|exact h|cases h

theorem lies_ro {a0 : Addr} {nn cap sz : Nat} {es : List (List AC)} (h : RdC w p (.slice (some a0) nn cap) (.sl sz es)) : Lies w p a0 sz es := by
  cases h with
  | sl _ _ _ _ _ us hn hcap hsz hp hc hr =>
    refine ⟨hsz,fun i e j c hi hj => ⟨us i j,?_,fun g q i' j' => (hr i e j c hi hj).ldself g q i' j'⟩⟩
    refine hc i e j hi ?_
    have := hsz e (List.mem_of_getElem? hi)
    have := (List.getElem?_eq_some_iff.1 hj).1
    omega

theorem lies_extract {a0 : Addr} {sz lo hi : Nat} {es : List (List AC)} (hl : Lies w p a0 sz es) : Lies w p (a0.add (lo * sz)) sz (es.extract lo hi) := by
  refine ⟨fun e he => hl.1 e ?_,fun i e j c hi' hj => ?_⟩
  · rw [List.extract_eq_take_drop] at he
    exact List.mem_of_mem_drop (List.mem_of_mem_take he)
  · have h1 : es[lo + i]? = some e := by
      rw [List.extract_eq_take_drop,List.getElem?_take] at hi'
      split at hi'
      · simpa using hi'
      · cases hi'
    obtain ⟨u,hu,hr⟩ := hl.2 _ _ _ _ h1 hj
    refine ⟨u,?_,hr⟩
    rw [addr_add_add,← hu]
    congr 2
    rw [Nat.add_mul,Nat.add_assoc]

/-- A slice of what is owned: where its rows lie. -/
theorem lies_ref {o : Ob} {O : List Nat} (h : RdOb w p o O) {u : Value} {g : Nat} {q : List (Nat × Nat)} {b : Blk} {sz lo n : Nat} (hu : RdC w p u (.ref g q b sz lo n)) (hb : o.b = b) (hsz : o.sz = sz) (hn : lo + n ≤ o.es.length) :
    (o.es.extract lo (lo + n) = [] ∧ n = 0 ∧ ∃ x cap,u = .slice x 0 cap) ∨ ∃ a0 cap,u = .slice (some a0) n cap ∧ n ≤ cap ∧ a0.block = blkNo b ∧ b ≠ none ∧ Lies w p a0 sz (o.es.extract lo (lo + n)) := by
  subst hb hsz
  have hlen : (o.es.extract lo (lo + n)).length = n := by simp [List.extract_eq_take_drop];omega
  generalize hbb : o.b = bb at hu
  cases hu with
  | refN => exact .inl ⟨List.eq_nil_of_length_eq_zero hlen,rfl,_,_,rfl⟩
  | ref _ _ k cap _ _ _ oo ho hc =>
    rcases Nat.eq_zero_or_pos n with h0|h0
    · subst h0
      exact .inl ⟨List.eq_nil_of_length_eq_zero hlen,rfl,_,_,rfl⟩
    · refine .inr ⟨_,_,rfl,by omega,rfl,by simp,?_⟩
      rw [ho.1 (by omega),← addr_add_zero]
      have := lies_extract (lo := lo) (hi := lo + n) (lies_ob h)
      rw [hbb] at this
      exact this
end

section
variable {n : Nat} {p0 F : Nat → Prop} {w0 : World} {S : Env} {a : Act} {w : World} {p : Nat → Prop} {ow : Nat → List Nat}

theorem Rel.getS (hR : Rel n p0 F w0 S a w p ow) {d : Nat} {v : AV} (h : S.get d = some v) (hs : v.isS = true) : RdS w p (slotOf a d) v := (hR.get h).s hs

theorem Rel.ob (hR : Rel n p0 F w0 S a w p ow) {g : Nat} {q : List (Nat × Nat)} {o : Ob} (h : obAt (S.get g) q = some o) : ∃ O,RdOb w p o O ∧ ∀ b ∈ O,b ∈ ow g := by
  obtain ⟨v0,o0,h1,h2,h3⟩ := obAt_ob h
  exact desc_ok ((hR.get h1).ob h2) h3

theorem evK_sound (hR : Rel n p0 F w0 S a w p ow) {g : Bool} {x : Operand} {K : AV → Prop} (h : evK S g x K) : ∃ v,K v ∧ (g = true → RdS w p (a.eval x) v) := by
  unfold evK at h
  split at h
  · rename_i t
    split at h
    · rename_i b v hg
      exact ⟨v,h.2,fun hgt => (hR.get hg).1 (h.1 hgt)⟩
    · rename_i c hg;exact ⟨_,h,fun _ => hR.get hg⟩
    · rename_i cs hg;exact ⟨_,h,fun _ => hR.get hg⟩
    · rename_i vs hg;exact ⟨_,h,fun _ => hR.get hg⟩
    · exact h.elim
  · split at h
    · rename_i cs _ l hl
      exact ⟨_,h,fun _ => ⟨cs,rfl,constACs_ok w p hl⟩⟩
    · exact h.elim
  · split at h
    · rename_i c hc
      exact ⟨_,h,fun _ => constAC_ok hc w p⟩
    · exact h.elim
  · rename_i f
    exact ⟨_,h,fun _ => .fn f [] [] rfl (by simp)⟩
  · exact h.elim
end

/-- Operations that look at no memory. -/
def wless : Op → Bool
  | .move _|.assign _|.pick ..|.binOp ..|.unOp ..|.fieldAddr ..|.field ..|.indexAddr ..|.index ..|.extract ..|.nilCheck _|.slice ..|.makeFunc ..|.makeInterface ..|.typeAssert ..|.build .. => true
  | .call c => match c.callee with
    | .builtin _ => true
    | _ => false
  | _ => false

/-- The words of a value operation that came out well. -/
def VOK (P : Program) (a : Act) (w : World) (p : Nat → Prop) (o : Oper) (v : AV) : Prop :=
  ∃ u,RdS w p u v ∧ ∀ w',(wless o.op = false → Later w w') → (execOp a.eval o).run P w' = .ok (.value u) w'

def EqRun (P : Program) (op : BinOp) (xt : TypeId) (x y : Operand) (vx vy : Value) (b : Bool) : Prop :=
  ∀ w,(do eqGuard op xt x y vx vy;binOp op xt vx vy : Sem Value).run P w = .ok (.bool b) w

def imVals : List AC → Option (List Value)
  | [] => some []
  | .im v :: cs => (imVals cs).map (v :: ·)
  | _ :: _ => none

theorem imVals_ok {w : World} {p : Nat → Prop} : ∀ {cs : List AC} {vs us : List Value},RdL w p us cs → imVals cs = some vs → us = vs
  | [],vs,us,h,hi => by cases h;simp [imVals] at hi;exact hi.symm ▸ rfl
  | c :: cs,vs,us,h,hi => by
    cases h with
    | cons h t =>
      cases c <;> simp only [imVals] at hi <;> try (cases hi;done)
      cases h
      cases hc : imVals cs with
      | none => simp [hc] at hi
      | some vs' => simp [hc] at hi;rw [← hi,imVals_ok t hc]

def nilEqK (P : Program) (op : BinOp) (xt : TypeId) (b : Bool) (K : AV → Prop) : Prop :=
  match P.underlying xt with
  | some (.slice _) =>
    match op with
    | .eql => K (.c (.im (.bool b)))
    | .neq => K (.c (.im (.bool !b)))
    | _ => False
  | _ => False

def binK (P : Program) (g : Bool) (op : BinOp) (xt : TypeId) (xo yo : Operand) (x y : AV) (K : AV → Prop) : Prop :=
  match x,y with
  | .c (.im (.int k a)),.c (.im (.int k' b)) =>
    match op with
    | .add => k = k' ∧ K (.c (.im (.int k (k.wrap (a + b)))))
    | .sub => k = k' ∧ K (.c (.im (.int k (k.wrap (a - b)))))
    | .mul => k = k' ∧ K (.c (.im (.int k (k.wrap (a * b)))))
    | .quo => k = k' ∧ (g = true → b ≠ 0) ∧ K (.c (.im (.int k (k.wrap (a.tdiv b)))))
    | .rem => k = k' ∧ (g = true → b ≠ 0) ∧ K (.c (.im (.int k (a.tmod b))))
    | .and => k = k' ∧ K (.c (.im (.int k (k.wrap (BitVec.ofInt k.bits a &&& BitVec.ofInt k.bits b).toNat))))
    | .or => k = k' ∧ K (.c (.im (.int k (k.wrap (BitVec.ofInt k.bits a ||| BitVec.ofInt k.bits b).toNat))))
    | .xor => k = k' ∧ K (.c (.im (.int k (k.wrap (BitVec.ofInt k.bits a ^^^ BitVec.ofInt k.bits b).toNat))))
    | .andNot => k = k' ∧ K (.c (.im (.int k (k.wrap (BitVec.ofInt k.bits a &&& ~~~ BitVec.ofInt k.bits b).toNat))))
    | .shl => (g = true → 0 ≤ b) ∧ K (.c (.im (.int k (k.wrap (a * 2 ^ (min b.toNat k.bits))))))
    | .shr => (g = true → 0 ≤ b) ∧ K (.c (.im (.int k (a.fdiv (2 ^ (min b.toNat k.bits))))))
    | .eql => k = k' ∧ K (.c (.im (.bool (a == b))))
    | .neq => k = k' ∧ K (.c (.im (.bool (a != b))))
    | .lss => k = k' ∧ K (.c (.im (.bool (decide (a < b)))))
    | .leq => k = k' ∧ K (.c (.im (.bool (decide (a ≤ b)))))
    | .gtr => k = k' ∧ K (.c (.im (.bool (decide (a > b)))))
    | .geq => k = k' ∧ K (.c (.im (.bool (decide (a ≥ b)))))
  | .c (.im (.bool a)),.c (.im (.bool b)) =>
    match op with
    | .eql => P.underlying xt = some .bool ∧ K (.c (.im (.bool (a == b))))
    | .neq => P.underlying xt = some .bool ∧ K (.c (.im (.bool (a != b))))
    | _ => False
  | .c (.im (.string a)),.c (.im (.string b)) =>
    match op with
    | .add => (g = true → a.size + b.size ≤ 9223372036854775807) ∧ K (.c (.im (.string (a ++ b))))
    | .eql => K (.c (.im (.bool (a.toList == b.toList))))
    | .neq => K (.c (.im (.bool !(a.toList == b.toList))))
    | .lss => K (.c (.im (.bool (Op.bytesLess a.toList b.toList))))
    | .gtr => K (.c (.im (.bool !(Op.bytesLess a.toList b.toList || a.toList == b.toList))))
    | .leq => K (.c (.im (.bool (Op.bytesLess a.toList b.toList || a.toList == b.toList))))
    | .geq => K (.c (.im (.bool !(Op.bytesLess a.toList b.toList))))
    | _ => False
  | .agg xs,.agg ys =>
    match imVals xs,imVals ys with
    | some vx,some vy => ∃ b,EqRun P op xt xo yo (.agg vx.toArray) (.agg vy.toArray) b ∧ K (.c (.im (.bool b)))
    | _,_ => False
  | .c .nil,.c .nil => nilEqK P op xt true K
  | .c (.ref _ _ b _ _ _),.c .nil => nilEqK P op xt b.isNone K
  | .c (.sl _ es),.c .nil => ∀ b,(b = true → es = []) → nilEqK P op xt b K
  | .c (.ptr _ _ k sz i j),.c (.ptr _ _ k' sz' i' j') => match P.underlying xt with
    | some (.pointer e) => match szOf P e with
      | some s => s ≠ 0 ∧ k = k' ∧ i * sz + j = i' * sz' + j' ∧ (match op with
        | .eql => K (.c (.im (.bool true)))
        | .neq => K (.c (.im (.bool false)))
        | _ => False)
      | none => False
    | _ => False
  | .c (.ptr ..),.c (.im (.pointer none)) => match P.underlying xt,op with
    | some (.pointer _),.eql => K (.c (.im (.bool false)))
    | some (.pointer _),.neq => K (.c (.im (.bool true)))
    | _,_ => False
  | .c (.im (.pointer none)),.c (.im (.pointer none)) => match P.underlying xt,op with
    | some (.pointer _),.eql => K (.c (.im (.bool true)))
    | some (.pointer _),.neq => K (.c (.im (.bool false)))
    | _,_ => False
  | .c (.ifc ..),.c (.im .nilIface) => match P.underlying xt,op with
    | some (.interface _),.eql => K (.c (.im (.bool false)))
    | some (.interface _),.neq => K (.c (.im (.bool true)))
    | _,_ => False
  | .c (.ifa ..),.c (.im .nilIface) => match P.underlying xt,op with
    | some (.interface _),.eql => K (.c (.im (.bool false)))
    | some (.interface _),.neq => K (.c (.im (.bool true)))
    | _,_ => False
  | .c (.im .nilIface),.c (.im .nilIface) => match P.underlying xt,op,yo with
    | some (.interface _),.eql,.const _ => K (.c (.im (.bool true)))
    | some (.interface _),.neq,.const _ => K (.c (.im (.bool false)))
    | _,_,_ => False
  | _,_ => False

def unK (op : UnOp) (x : AV) (K : AV → Prop) : Prop :=
  match op,x with
  | .neg,.c (.im (.int k a)) => K (.c (.im (.int k (k.wrap (0 - a)))))
  | .xor,.c (.im (.int k a)) => K (.c (.im (.int k (k.wrap (BitVec.ofInt k.bits (if k.signed then -1 else k.max) ^^^ BitVec.ofInt k.bits a).toNat))))
  | .not,.c (.im (.bool b)) => K (.c (.im (.bool !b)))
  | _,_ => False

/-- Rows of one byte each, as numbers; and the string of them. -/
def strRows : List (List AC) → Option (List Int)
  | [] => some []
  | [.im (.int .u8 n)] :: r => (strRows r).map (n :: ·)
  | _ :: _ => none

def bytesS (l : List Int) : ByteArray := l.foldl (fun r n => r.push (UInt8.ofNat n.toNat)) ByteArray.empty

def convSK (P : Program) (src dst : TypeId) (sz : Nat) (es : List (List AC)) (K : AV → Prop) : Prop :=
  sz = 1 ∧ P.underlying dst = some .string ∧ (match P.underlying src with
    | some (.slice e) => P.underlying e = some (.int .u8)
    | _ => False) ∧ match strRows es with
    | some l => K (.c (.im (.string (bytesS l))))
    | none => False

def convK (P : Program) (S : Env) (g : Bool) (src dst : TypeId) (x : AV) (K : AV → Prop) : Prop :=
  match x with
  | .c (.im (.int _ a)) => match P.underlying src,P.underlying dst with
    | some _,some (.int k) => K (.c (.im (.int k (k.wrap a))))
    | _,_ => False
  | .c (.im (.string s)) => match P.underlying src,P.underlying dst with
    | some _,some .string => K (.c (.im (.string s)))
    | _,_ => False
  | .c .nil => convSK P src dst 1 [] K
  | .c (.sl sz es) => convSK P src dst sz es K
  | .c (.ref gg q b sz lo n) => match obAt (S.get gg) q with
    | some o => o.b = b ∧ o.sz = sz ∧ (g = true → lo + n ≤ o.es.length) ∧ convSK P src dst sz (o.es.extract lo (lo + n)) K
    | none => False
  | _ => False

def loadK (P : Program) (g : Bool) (t : TypeId) (gg : Nat) (q : List (Nat × Nat)) (sz : Nat) (es : List (List AC)) (i j : Nat) (K : AV → Prop) : Prop :=
  match P.underlying t with
  | some (.struct _) => match eInfo P t with
    | some (s,_,zs) => (g = true → i < es.length ∧ j + s ≤ sz) ∧ (getR zs es i j s).all AC.per = true ∧ K (.agg (getR zs es i j s))
    | none => False
  | some (.array _ _) => match eInfo P t with
    | some (s,_,zs) => (g = true → i < es.length ∧ j + s ≤ sz) ∧ (getR zs es i j s).all AC.per = true ∧ K (.agg (getR zs es i j s))
    | none => False
  | some d => (g = true → i < es.length ∧ j < sz) ∧ K (.c (ldC gg q i j (getC (dfl d) es i j)))
  | none => False

def boundK (S : Env) (g : Bool) (x : Option Operand) (K : Option Int → Prop) : Prop :=
  match x with
  | none => K none
  | some o => evK S g o fun
    | .c (.im (.int _ i)) => K (some i)
    | _ => False

def sliceK (P : Program) (g : Bool) (t : TypeId) (vx : AV) (l : Int) (h : Option Int) (K : AV → Prop) : Prop :=
  match P.underlying t with
  | some (.slice e) => match szOf P e with
    | some s => (match vx with
      | .c (.sl sz es) => sz = s ∧ (g = true → 0 ≤ l ∧ l ≤ h.getD es.length ∧ h.getD es.length ≤ es.length) ∧ K (.c (.sl sz (es.extract l.toNat (h.getD es.length).toNat)))
      | .c (.ref gg q b sz lo n) => sz = s ∧ (g = true → 0 ≤ l ∧ l ≤ h.getD n ∧ h.getD n ≤ n) ∧ K (.c (.ref gg q b sz (lo + l.toNat) ((h.getD n).toNat - l.toNat)))
      | _ => False)
    | none => False
  | some (.array len e) => match szOf P e with
    | some s => (match vx with
      | .c (.ptr gg q k sz i j) => l = 0 ∧ (g = true → 0 ≤ h.getD len ∧ h.getD len ≤ len) ∧ K (.c (.view gg q k sz i j s (h.getD len).toNat))
      | _ => False)
    | none => False
  | some .string => match vx with
    | .c (.im (.string x)) => (g = true → 0 ≤ l ∧ l ≤ h.getD x.size ∧ h.getD x.size ≤ x.size) ∧ K (.c (.im (.string (x.extract l.toNat (h.getD x.size).toNat))))
    | _ => False
  | _ => False

def callK (P : Program) (S : Env) (g : Bool) (c : Call) (K : AV → Prop) : Prop :=
  match c.callee,c.args.toList,c.argTypes.toList with
  | .builtin .len,[x],[t] => evK S g x fun
    | .c (.im (.string s)) => P.underlying t = some .string ∧ K (.c (.im (.int .i64 s.size)))
    | .c .nil => (∃ e,P.underlying t = some (.slice e)) ∧ K (.c (.im (.int .i64 0)))
    | .c (.sl _ es) => (∃ e,P.underlying t = some (.slice e)) ∧ K (.c (.im (.int .i64 es.length)))
    | .c (.ref _ _ _ _ _ n) => (∃ e,P.underlying t = some (.slice e)) ∧ K (.c (.im (.int .i64 n)))
    | _ => False
  | .builtin .max,[x,y],_ => evK S g x fun
    | .c (.im (.int k a)) => evK S g y fun
      | .c (.im (.int _ b)) => K (.c (.im (.int k (if b > a then b else a))))
      | _ => False
    | _ => False
  | .builtin .min,[x,y],_ => evK S g x fun
    | .c (.im (.int k a)) => evK S g y fun
      | .c (.im (.int _ b)) => K (.c (.im (.int k (if b < a then b else a))))
      | _ => False
    | _ => False
  | _,_,_ => False

/-- Cells of a struct's or an array's value. -/
def partK (P : Program) (t : TypeId) (cs : List AC) (off : Nat) (K : AV → Prop) : Prop :=
  match P.underlying t with
  | some (.struct _) => match szOf P t with
    | some s => off + s ≤ cs.length ∧ K (.agg ((cs.drop off).take s))
    | none => False
  | some (.array _ _) => match szOf P t with
    | some s => off + s ≤ cs.length ∧ K (.agg ((cs.drop off).take s))
    | none => False
  | some d => off < cs.length ∧ K (.c ((cs[off]?).getD (dfl d)))
  | none => False

def capsK (S : Env) (g : Bool) : List Operand → (List AC → Prop) → Prop
  | [],K => K []
  | x :: r,K => evK S g x fun
    | .c c => capsK S g r fun l => K (c :: l)
    | _ => False

/-- The place of a key, and what stands there. -/
def mFind : List (ByteArray × Int) → ByteArray → Option Int
  | [],_ => none
  | x :: r,k => if (k == x.1) = true then some x.2 else mFind r k

/-- The zero of a number's type is 0. -/
def zInt (P : Program) (t : TypeId) : Bool :=
  match P.info? t with
  | some i => (match i.zero with|some (.int .i64 n) => n == 0|_ => false)
  | none => false

/-- The zero of a struct's type, cell by cell. -/
def zAgg (P : Program) (t : TypeId) : Option (List AC) :=
  match P.info? t with
  | some i => (match i.zero with|some (.agg vs) => constACs vs.toList|_ => none)
  | none => none

/-- A method of the type looks at no nil. -/
def NilAh (P : Program) (t : TypeId) (name : String) : Prop := ∀ (vs : Array Value) (w : World),(nilAhead (P.types.size + Made.depth) t (.agg vs) name).run P w = .ok (some false) w

def vop (P : Program) (S : Env) (g : Bool) (op : Op) (K : AV → Prop) : Prop :=
  match op with
  | .move x => evK S g x K
  | .assign x => evK S g x K
  | .pick c x y => evK S g c fun
    | .c (.im (.bool b)) => evK S (g && b) x fun
      | .c (.im (.bool p)) => evK S (g && !b) y fun
        | .c (.im (.bool q)) => K (.c (.im (.bool (bif b then p else q))))
        | _ => False
      | _ => False
    | _ => False
  | .binOp op xt x y _ => evK S g x fun vx => evK S g y fun vy => binK P g op xt x y vx vy K
  | .unOp op _ x => evK S g x fun vx => unK op vx K
  | .convert src dst x => evK S g x fun vx => convK P S g src dst vx K
  | .load t x => evK S g x fun
    | .c (.ptr gg q k sz i j) => match obAt (S.get gg) q with
      | some o => blkNo o.b = k ∧ o.sz = sz ∧ loadK P g t gg q sz o.es i j K
      | none => False
    | .c (.adr sz es i j) => loadK P g t 0 [] sz es i j K
    | _ => False
  | .fieldAddr s x f => evK S g x fun vx => match P.underlying s with
    | some (.struct fields) => match fields[f]? with
      | some fd => match szOf P fd.type with
        | some s' => s' ≠ 0 ∧ (match vx with
          | .c (.ptr gg q k sz i j) => K (.c (.ptr gg q k sz i (j + fd.offset)))
          | .c (.adr sz es i j) => K (.c (.adr sz es i (j + fd.offset)))
          | _ => False)
        | none => False
      | none => False
    | _ => False
  | .field t x f => evK S g x fun vx => match P.underlying t with
    | some (.struct fields) => match fields[f]? with
      | some fd => (match vx with
        | .agg cs => partK P fd.type cs fd.offset K
        | _ => False)
      | none => False
    | _ => False
  | .indexAddr t x ix => evK S g ix fun
    | .c (.im (.int _ i)) => evK S g x fun vx => match P.underlying t with
      | some (.slice e) => match szOf P e with
        | some s => (match vx with
          | .c (.sl sz es) => sz = s ∧ (g = true → 0 ≤ i ∧ i < es.length) ∧ K (.c (.adr sz es i.toNat 0))
          | .c (.ref gg q b sz lo n) => sz = s ∧ (g = true → 0 ≤ i ∧ i < n) ∧ K (.c (.ptr gg q (blkNo b) sz (lo + i.toNat) 0))
          | _ => False)
        | none => False
      | some (.array len e) => match szOf P e with
        | some s => (match vx with
          | .c (.ptr gg q k sz i0 j0) => (g = true → 0 ≤ i ∧ i < len) ∧ K (.c (.ptr gg q k sz i0 (j0 + i.toNat * s)))
          | .c (.adr sz es i0 j0) => (g = true → 0 ≤ i ∧ i < len) ∧ K (.c (.adr sz es i0 (j0 + i.toNat * s)))
          | _ => False)
        | none => False
      | _ => False
    | _ => False
  | .index t x ix => evK S g ix fun
    | .c (.im (.int _ i)) => evK S g x fun vx => match P.underlying t,vx with
      | some .string,.c (.im (.string s)) => (g = true → 0 ≤ i ∧ i < s.size) ∧ K (.c (.im (.int .u8 (((s[i.toNat]?).getD 0).toNat))))
      | some (.array len e),.agg cs => (match szOf P e with
        | some s => (g = true → 0 ≤ i ∧ i < len) ∧ partK P e cs (i.toNat * s) K
        | none => False)
      | _,_ => False
    | _ => False
  | .extract x k => evK S g x fun
    | .tup vs => match vs[k]? with
      | some (.c c) => K (.c c)
      | some (.ag cs) => K (.agg cs)
      | none => False
    | _ => False
  | .nilCheck x => evK S g x fun
    | .c (.ptr gg q k sz i j) => K (.c (.ptr gg q k sz i j))
    | .c (.adr sz es i j) => K (.c (.adr sz es i j))
    | .c (.fn f caps) => K (.c (.fn f caps))
    | .c (.ifc t c) => K (.c (.ifc t c))
    | .c (.ifa t c) => K (.c (.ifa t c))
    | .c (.mfn t name) => NilAh P t name ∧ K (.c (.mfn t name))
    | _ => False
  | .slice t x lo hi none => evK S g x fun vx => boundK S g lo fun l => boundK S g hi fun h => sliceK P g t vx (l.getD 0) h K
  | .makeFunc fn first captured => match fn,first.toList with
    | .func f,[] => capsK S g captured.toList fun l => K (.c (.fn f l))
    | .method name,[x] => evK S g x fun
      | .c (.ifa t _) => K (.c (.mfn t name))
      | _ => False
    | _,_ => False
  | .makeInterface t x => evK S g x fun vx => match P.underlying t with
    | some (.interface _) => False
    | some _ => (match vx with
      | .c c => K (.c (.ifc t c))
      | .agg cs => K (.c (.ifa t cs))
      | _ => False)
    | none => False
  | .typeAssert x _ t true => evK S g x fun vx => match P.underlying t,zAgg P t with
    | some (.interface _),_ => False
    | some _,some zs => (match vx with
      | .c (.ifa t' cs) => if t' = t then K (.tup [.ag cs,.c (.im (.bool true))]) else K (.tup [.ag zs,.c (.im (.bool false))])
      | _ => False)
    | _,_ => False
  | .lookup t x ix true => evK S g ix fun
    | .c (.im (.string s)) => evK S g x fun
      | .c (.mref gg k) => (match P.underlying t,S.get gg with
        | some (.map kt et),some (.mapo k' l) => k' = k ∧ P.underlying kt = some .string ∧ zInt P et = true ∧ K (.tup [.c (.im (.int .i64 ((mFind l s).getD 0))),.c (.im (.bool (mFind l s).isSome))])
        | _,_ => False)
      | _ => False
    | _ => False
  | .call c => callK P S g c K
  | _ => False

end Go.Hs
