/-
  THE HEAP SEMANTICS, part 1: abstract values of cells, what it means that a machine's value reads as one, and that it goes on to do so while memory grows; what is owned, as trees. No program in sight.
-/
import Derived.WalkKit
import Derived.Deep.Quiet
namespace Go.Hs
open Go Go.RowKit

/-- A row's block and capacity; none: the nil slice. -/
abbrev Blk := Option (Nat × Nat)

/-- What stands in one cell. im: a plain value. nil: the nil slice. sl: a slice that is only read, its elements as rows of sz cells. adr: the address of cell j of row i of such rows. ref: a slice of what is owned (block b, from row lo on, n rows); g, q only tell where to look. ptr: the address of cell j of row i of block k. own: a slice that this cell alone leads to. fn: a function and what it has captured. ifc, ifa: an interface value that holds one value, or a struct. mref: a map. mfn: a method bound to an interface value that holds a struct. view: a slice of n elements of s cells each, from cell j of row i on (an array, sliced). dead: anything. -/
inductive AC where
  | im (v : Value)
  | nil
  | sl (sz : Nat) (es : List (List AC))
  | adr (sz : Nat) (es : List (List AC)) (i j : Nat)
  | ref (g : Nat) (q : List (Nat × Nat)) (b : Blk) (sz lo n : Nat)
  | ptr (g : Nat) (q : List (Nat × Nat)) (k sz i j : Nat)
  | own (b : Blk) (e sz : Nat) (es : List (List AC))
  | fn (f : FuncId) (caps : List AC)
  | ifc (t : TypeId) (c : AC)
  | ifa (t : TypeId) (cs : List AC)
  | mref (g k : Nat)
  | mfn (t : TypeId) (name : String)
  | view (g : Nat) (q : List (Nat × Nat)) (k sz i j s n : Nat)
  | dead

instance : Inhabited AC := ⟨.nil⟩

def scal : Value → Bool
  | .bool _|.int _ _|.string _|.pointer none|.nilFunc|.nilIface|.map none => true
  | _ => false

def sliceV : Blk → Nat → Value
  | none,_ => .slice none 0 0
  | some (k,cap),n => .slice (some ⟨k,0,none⟩) n cap

def blks : Blk → List Nat
  | none => []
  | some (k,_) => [k]

/-- v reads as c; what is only read lies in blocks of which p holds. -/
inductive RdC (w : World) (p : Nat → Prop) : Value → AC → Prop where
  | im (v : Value) (h : scal v = true) : RdC w p v (.im v)
  | nil : RdC w p (.slice none 0 0) .nil
  | nilS (sz cap : Nat) : RdC w p (.slice none 0 cap) (.sl sz [])
  | sl (a : Addr) (n cap sz : Nat) (es : List (List AC)) (us : Nat → Nat → Value)
      (hn : n = es.length) (hcap : n ≤ cap)
      (hsz : ∀ e,e ∈ es → e.length = sz)
      (hp : es ≠ [] → p a.block)
      (hc : ∀ i e j,es[i]? = some e → j < sz → w.cell? (a.add (i * sz + j)) = some (us i j))
      (hr : ∀ i e j c,es[i]? = some e → e[j]? = some c → RdC w p (us i j) c) :
      RdC w p (.slice (some a) n cap) (.sl sz es)
  | adr (a : Addr) (cap sz i j : Nat) (es : List (List AC)) (h : RdC w p (.slice (some a) es.length cap) (.sl sz es)) : RdC w p (.pointer (some (a.add (i * sz + j)))) (.adr sz es i j)
  | refN (g : Nat) (q : List (Nat × Nat)) (sz : Nat) : RdC w p (.slice none 0 0) (.ref g q none sz 0 0)
  | ref (g : Nat) (q : List (Nat × Nat)) (k cap sz lo n o : Nat) (ho : (lo < cap → o = lo * sz) ∧ (lo = 0 → o = 0)) (h : lo + n ≤ cap) : RdC w p (.slice (some ⟨k,o,none⟩) n (cap - lo)) (.ref g q (some (k,cap)) sz lo n)
  | ptr (g : Nat) (q : List (Nat × Nat)) (k sz i j : Nat) : RdC w p (.pointer (some ⟨k,i * sz + j,none⟩)) (.ptr g q k sz i j)
  | fn (f : FuncId) (caps : List AC) (us : List Value) (hl : us.length = caps.length) (hr : ∀ (i : Nat) u c,us[i]? = some u → caps[i]? = some c → RdC w p u c) : RdC w p (.func (.func f) #[] us.toArray) (.fn f caps)
  | ifc (t : TypeId) (v : Value) (c : AC) (h : RdC w p v c) : RdC w p (.iface t v) (.ifc t c)
  | ifa (t : TypeId) (cs : List AC) (us : List Value) (hl : us.length = cs.length) (hr : ∀ (i : Nat) u c,us[i]? = some u → cs[i]? = some c → RdC w p u c) : RdC w p (.iface t (.agg us.toArray)) (.ifa t cs)
  | mref (g k : Nat) : RdC w p (.map (some k)) (.mref g k)
  | mfn (t : TypeId) (name : String) (vs ys : Array Value) : RdC w p (.func (.method name) #[.iface t (.agg vs)] ys) (.mfn t name)
  | view (g : Nat) (q : List (Nat × Nat)) (k sz i j s n cap : Nat) (h : n ≤ cap) : RdC w p (.slice (some ⟨k,i * sz + j,none⟩) n cap) (.view g q k sz i j s n)
  | dead (v : Value) (h : v.oneCell' = true) : RdC w p v .dead

/-- w' holds in block b what w holds, for all b of which p holds. -/
def KeepsOn (p : Nat → Prop) (w w' : World) : Prop := ∀ b,p b → w'.heap[b]? = w.heap[b]?

theorem KeepsOn.cell {p : Nat → Prop} {w w' : World} (h : KeepsOn p w w') {a : Addr} (hp : p a.block) : w'.cell? a = w.cell? a :=
  World.cell?_of_block (w := w) (h a.block hp)

theorem KeepsOn.refl (p : Nat → Prop) (w : World) : KeepsOn p w w := fun _ _ => rfl

theorem addr_add_block (a : Addr) (n : Nat) : (a.add n).block = a.block := by
  unfold Addr.add;split <;> rfl

theorem RdC.mono {w w' : World} {p p' : Nat → Prop} (hpp : ∀ b,p b → p' b) (hk : KeepsOn p w w') {v : Value} {c : AC} (h : RdC w p v c) : RdC w' p' v c := by
  induction h with
  | im v h => exact .im v h
  | nil => exact .nil
  | nilS sz cap => exact .nilS sz cap
  | sl a n cap sz es us hn hcap hsz hp hc hr ih =>
    refine .sl a n cap sz es us hn hcap hsz (fun h => hpp _ (hp h)) ?_ ih
    intro i e j hi hj
    have hne : es ≠ [] := by intro h;rw [h] at hi;simp at hi
    rw [hk.cell (by rw [addr_add_block];exact hp hne)]
    exact hc i e j hi hj
  | adr a cap sz i j es h ih => exact .adr a cap sz i j es ih
  | refN g q sz => exact .refN g q sz
  | ref g q k cap sz lo n o ho h => exact .ref g q k cap sz lo n o ho h
  | ptr g q k sz i j => exact .ptr g q k sz i j
  | fn f caps us hl hr ih => exact .fn f caps us hl ih
  | ifc t v c h ih => exact .ifc t v c ih
  | ifa t cs us hl hr ih => exact .ifa t cs us hl ih
  | mref g k => exact .mref g k
  | mfn t name vs ys => exact .mfn t name vs ys
  | view g q k sz i j s n cap h => exact .view g q k sz i j s n cap h
  | dead v h => exact .dead v h

/-- Nothing in it is only read: what it reads as hangs on no memory. -/
def AC.flat : AC → Bool
  | .im _|.nil|.ref ..|.ptr ..|.mref ..|.mfn ..|.view ..|.dead => true
  | .own _ _ _ es => flatLL es
  | .ifc _ c => c.flat
  | .fn _ cs|.ifa _ cs => flatL cs
  | .sl ..|.adr .. => false
where
  flatL : List AC → Bool
    | [] => true
    | c :: r => c.flat && flatL r
  flatLL : List (List AC) → Bool
    | [] => true
    | c :: r => flatL c && flatLL r

theorem flatL_get : ∀ {cs : List AC} {i : Nat} {c : AC},AC.flat.flatL cs = true → cs[i]? = some c → c.flat = true
  | [],_,_,_,h => by simp at h
  | x :: r,0,c,h,hc => by simp [AC.flat.flatL] at h hc;subst hc;exact h.1
  | x :: r,i + 1,c,h,hc => by simp [AC.flat.flatL] at h hc;exact flatL_get h.2 hc

theorem RdC.flat {w w' : World} {p p' : Nat → Prop} {v : Value} {c : AC} (h : RdC w p v c) : c.flat = true → RdC w' p' v c := by
  induction h with
  | im v h => intro _;exact .im v h
  | nil => intro _;exact .nil
  | nilS sz cap => intro hf;simp [AC.flat] at hf
  | sl => intro hf;simp [AC.flat] at hf
  | adr => intro hf;simp [AC.flat] at hf
  | refN g q sz => intro _;exact .refN g q sz
  | ref g q k cap sz lo n o ho h => intro _;exact .ref g q k cap sz lo n o ho h
  | ptr g q k sz i j => intro _;exact .ptr g q k sz i j
  | fn f caps us hl hr ih => intro hf;simp only [AC.flat] at hf;exact .fn f caps us hl fun i u c hu hc => ih i u c hu hc (flatL_get hf hc)
  | ifc t v c h ih => intro hf;simp only [AC.flat] at hf;exact .ifc t v c (ih hf)
  | ifa t cs us hl hr ih => intro hf;simp only [AC.flat] at hf;exact .ifa t cs us hl fun i u c hu hc => ih i u c hu hc (flatL_get hf hc)
  | mref g k => intro _;exact .mref g k
  | mfn t name vs ys => intro _;exact .mfn t name vs ys
  | view g q k sz i j s n cap h => intro _;exact .view g q k sz i j s n cap h
  | dead v h => intro _;exact .dead v h

theorem RdC.oneCell {w : World} {p : Nat → Prop} {v : Value} {c : AC} (h : RdC w p v c) : v.oneCell' = true := by
  cases h with
  | im v h => revert h;cases v <;> simp_all [scal,Value.oneCell']
  | dead v h => exact h
  | _ => rfl

/-- Rows of cells, one by one. -/
inductive RdL (w : World) (p : Nat → Prop) : List Value → List AC → Prop where
  | nil : RdL w p [] []
  | cons {v : Value} {c : AC} {vs : List Value} {cs : List AC} (h : RdC w p v c) (t : RdL w p vs cs) : RdL w p (v :: vs) (c :: cs)

section
variable {w : World} {p : Nat → Prop}

theorem RdL.mono {w w' : World} {p p' : Nat → Prop} (hpp : ∀ b,p b → p' b) (hk : KeepsOn p w w') {vs : List Value} {cs : List AC} (h : RdL w p vs cs) : RdL w' p' vs cs := by
  induction h with
  | nil => exact .nil
  | cons h _ ih => exact .cons (h.mono hpp hk) ih

theorem RdL.flat {w w' : World} {p p' : Nat → Prop} {vs : List Value} {cs : List AC} (h : RdL w p vs cs) (hf : AC.flat.flatL cs = true) : RdL w' p' vs cs := by
  induction h with
  | nil => exact .nil
  | cons h _ ih =>
    simp only [AC.flat.flatL,Bool.and_eq_true] at hf
    exact .cons (h.flat hf.1) (ih hf.2)

theorem RdL.length {vs : List Value} {cs : List AC} (h : RdL w p vs cs) : vs.length = cs.length := by
  induction h with
  | nil => rfl
  | cons _ _ ih => simp [ih]

theorem RdL.get {vs : List Value} {cs : List AC} (h : RdL w p vs cs) : ∀ (j : Nat) (c : AC),cs[j]? = some c → ∃ v,vs[j]? = some v ∧ RdC w p v c := by
  induction h with
  | nil => intro j c hj;simp at hj
  | cons h _ ih =>
    intro j c hj
    cases j with
    | zero => simp at hj;subst hj;exact ⟨_,by simp,h⟩
    | succ j => simp at hj;obtain ⟨v,hv,hr⟩ := ih j c hj;exact ⟨v,by simpa using hv,hr⟩

theorem RdL.of_get : ∀ {vs : List Value} {cs : List AC},vs.length = cs.length → (∀ (j : Nat) (v : Value) (c : AC),vs[j]? = some v → cs[j]? = some c → RdC w p v c) → RdL w p vs cs
  | [],[],_,_ => .nil
  | v :: vs,c :: cs,hl,h => .cons (h 0 v c (by simp) (by simp)) (RdL.of_get (by simpa using hl) fun j v c hv hc => h (j + 1) v c (by simpa using hv) (by simpa using hc))
  | [],_ :: _,hl,_ => by simp at hl
  | _ :: _,[],hl,_ => by simp at hl

theorem RdL.append {vs us : List Value} {cs ds : List AC} (h : RdL w p vs cs) (k : RdL w p us ds) : RdL w p (vs ++ us) (cs ++ ds) := by
  induction h with
  | nil => exact k
  | cons h _ ih => exact .cons h ih

theorem RdL.take {vs : List Value} {cs : List AC} (h : RdL w p vs cs) : ∀ n,RdL w p (vs.take n) (cs.take n) := by
  induction h with
  | nil => intro n;simpa using .nil
  | cons h t ih => intro n;cases n with
    | zero => simpa using .nil
    | succ n => simpa using .cons h (ih n)

theorem RdL.drop {vs : List Value} {cs : List AC} (h : RdL w p vs cs) : ∀ n,RdL w p (vs.drop n) (cs.drop n) := by
  induction h with
  | nil => intro n;simpa using .nil
  | cons h t ih => intro n;cases n with
    | zero => simpa using .cons h t
    | succ n => simpa using ih n

theorem RdL.oneCell {vs : List Value} {cs : List AC} (h : RdL w p vs cs) : ∀ v ∈ vs,v.oneCell' = true := by
  induction h with
  | nil => intro v hv;cases hv
  | cons h _ ih => intro v hv;cases hv with
    | head => exact h.oneCell
    | tail _ hv => exact ih v hv
end

theorem flatten_length {sz : Nat} : ∀ {es : List (List AC)},(∀ e,e ∈ es → e.length = sz) → es.flatten.length = es.length * sz
  | [],_ => by simp
  | e :: es,h => by
    have h1 := h e (by simp)
    have h2 := flatten_length (es := es) fun e he => h e (by simp [he])
    simp only [List.flatten_cons,List.length_append,List.length_cons,Nat.add_mul,Nat.one_mul,h1,h2];omega

theorem flatten_get {sz : Nat} : ∀ {es : List (List AC)},(∀ e,e ∈ es → e.length = sz) → ∀ (i : Nat) (e : List AC) (j : Nat),es[i]? = some e → j < sz → es.flatten[i * sz + j]? = e[j]?
  | [],_,i,e,j,hi,_ => by simp at hi
  | e0 :: es,h,i,e,j,hi,hj => by
    have h1 := h e0 (by simp)
    cases i with
    | zero => simp at hi;subst hi;simp only [List.flatten_cons,Nat.zero_mul,Nat.zero_add];rw [List.getElem?_append_left (by omega)]
    | succ i =>
      simp at hi
      have h2 := flatten_get (es := es) (fun e he => h e (by simp [he])) i e j hi hj
      simp only [List.flatten_cons]
      rw [List.getElem?_append_right (by rw [h1,Nat.add_mul];omega)]
      rw [show (i + 1) * sz + j - e0.length = i * sz + j from by rw [h1,Nat.add_mul];omega]
      exact h2

/-- Block b (or no one) holds n elements of sz cells, xs. -/
def OR (w : World) (b : Blk) (e sz n : Nat) (xs : List Value) : Prop :=
  xs.length = n * sz ∧ match b with
  | none => n = 0
  | some (k,cap) => ∃ cur,w.heap[k]? = some (.cells cur e (0,0)) ∧ n ≤ cap ∧ cap ≤ maxLen ∧ cur.size = cap * sz ∧ cur.toList.take (n * sz) = xs

theorem OR.row {w : World} {b : Blk} {e sz n : Nat} {xs : List Value} (h : OR w b e sz n xs) : w.ownsRow 0 e sz (sliceV b n) n xs := by
  refine ⟨h.1,?_⟩
  cases b with
  | none => exact .inl ⟨rfl,h.2⟩
  | some x =>
    obtain ⟨cur,h1,h2,h3,h4,h5⟩ := h.2
    exact .inr ⟨x.1,x.2,cur,rfl,Nat.zero_le _,h1,h2,h3,h4,h5⟩

theorem OR.of_row {w : World} {B e sz n : Nat} {v : Value} {xs : List Value} (h : w.ownsRow B e sz v n xs) : ∃ b,v = sliceV b n ∧ OR w b e sz n xs ∧ blks b = v.ownBlock.toList := by
  obtain ⟨h1,h2⟩ := h
  rcases h2 with ⟨rfl,h⟩|⟨g,cap,cur,rfl,hb,hg,hn,hm,hs,ht⟩
  · exact ⟨none,rfl,⟨h1,h⟩,rfl⟩
  · exact ⟨some (g,cap),rfl,⟨h1,cur,hg,hn,hm,hs,ht⟩,rfl⟩

theorem OR.keep {w w' : World} {b : Blk} {e sz n : Nat} {xs : List Value} (h : OR w b e sz n xs) (hk : ∀ k ∈ blks b,w'.heap[k]? = w.heap[k]?) : OR w' b e sz n xs := by
  refine ⟨h.1,?_⟩
  cases b with
  | none => exact h.2
  | some x =>
    obtain ⟨cur,h1,r⟩ := h.2
    exact ⟨cur,by rw [hk x.1 (by simp [blks])];exact h1,r⟩

theorem OR.lt {w : World} {b : Blk} {e sz n : Nat} {xs : List Value} (h : OR w b e sz n xs) : ∀ k ∈ blks b,k < w.heap.size := by
  cases b with
  | none => intro k hk;simp [blks] at hk
  | some x =>
    obtain ⟨cur,h1,r⟩ := h.2
    intro k hk
    simp [blks] at hk;subst hk
    exact (Array.getElem?_eq_some_iff.1 h1).1

/-- Cells, and the blocks that they alone lead to. -/
inductive RdO (w : World) (p : Nat → Prop) : List Value → List AC → List Nat → Prop where
  | nil : RdO w p [] [] []
  | per {v : Value} {c : AC} {vs : List Value} {cs : List AC} {O : List Nat} (h : RdC w p v c) (t : RdO w p vs cs O) : RdO w p (v :: vs) (c :: cs) O
  | own {b : Blk} {e sz : Nat} {es : List (List AC)} {xs vs : List Value} {cs : List AC} {O1 O2 : List Nat} (ho : OR w b e sz es.length xs) (hs : ∀ x,x ∈ es → x.length = sz) (h : RdO w p xs es.flatten O1) (t : RdO w p vs cs O2) :
      RdO w p (sliceV b es.length :: vs) (.own b e sz es :: cs) (blks b ++ O1 ++ O2)

section
variable {w : World} {p : Nat → Prop}

theorem RdO.length {vs : List Value} {cs : List AC} {O : List Nat} (h : RdO w p vs cs O) : vs.length = cs.length := by
  induction h with
  | nil => rfl
  | per _ _ ih => simp [ih]
  | own _ _ _ _ _ ih => simp [ih]

theorem RdO.mono {w w' : World} {p p' : Nat → Prop} (hpp : ∀ b,p b → p' b) (hk : KeepsOn p w w') {vs : List Value} {cs : List AC} {O : List Nat} (h : RdO w p vs cs O) : (∀ b ∈ O,w'.heap[b]? = w.heap[b]?) → RdO w' p' vs cs O := by
  induction h with
  | nil => intro _;exact .nil
  | per h _ ih => intro hO;exact .per (h.mono hpp hk) (ih hO)
  | own ho hs _ _ ih1 ih2 =>
    intro hO
    exact .own (ho.keep fun k hk => hO k (by simp [hk])) hs (ih1 fun b hb => hO b (by simp [hb])) (ih2 fun b hb => hO b (by simp [hb]))

theorem RdO.lt {vs : List Value} {cs : List AC} {O : List Nat} (h : RdO w p vs cs O) : ∀ b ∈ O,b < w.heap.size := by
  induction h with
  | nil => intro b hb;cases hb
  | per _ _ ih => exact ih
  | own ho _ _ _ ih1 ih2 =>
    intro b hb
    simp only [List.mem_append] at hb
    rcases hb with (hb|hb)|hb
    · exact ho.lt b hb
    · exact ih1 b hb
    · exact ih2 b hb

theorem RdL.o {vs : List Value} {cs : List AC} (h : RdL w p vs cs) : RdO w p vs cs [] := by
  induction h with
  | nil => exact .nil
  | cons h _ ih => exact .per h ih

theorem RdO.append {vs us : List Value} {cs ds : List AC} {O O' : List Nat} (h : RdO w p vs cs O) (k : RdO w p us ds O') : RdO w p (vs ++ us) (cs ++ ds) (O ++ O') := by
  induction h with
  | nil => exact k
  | per h _ ih => exact .per h ih
  | own ho hs h1 _ _ ih2 => rw [List.append_assoc];exact .own ho hs h1 ih2

/-- Cut in two. -/
theorem RdO.split {vs : List Value} {cs : List AC} {O : List Nat} (h : RdO w p vs cs O) : ∀ n,∃ O1 O2,O = O1 ++ O2 ∧ RdO w p (vs.take n) (cs.take n) O1 ∧ RdO w p (vs.drop n) (cs.drop n) O2 := by
  induction h with
  | nil => intro n;exact ⟨[],[],rfl,by simpa using .nil,by simpa using .nil⟩
  | @per v c vs cs O h t ih =>
    intro n
    cases n with
    | zero => exact ⟨[],O,rfl,by simpa using .nil,by simpa using .per h t⟩
    | succ n =>
      obtain ⟨O1,O2,e,h1,h2⟩ := ih n
      exact ⟨O1,O2,e,by simpa using .per h h1,by simpa using h2⟩
  | @own b e sz es xs vs cs O1 O2 ho hs h1 h2 ih1 ih2 =>
    intro n
    cases n with
    | zero => exact ⟨[],_,rfl,by simpa using .nil,by rw [List.drop_zero,List.drop_zero];exact RdO.own ho hs h1 h2⟩
    | succ n =>
      obtain ⟨O3,O4,e,h3,h4⟩ := ih2 n
      refine ⟨blks b ++ O1 ++ O3,O4,by rw [e];simp,?_,by simpa using h4⟩
      simpa using RdO.own ho hs h1 h3

/-- Not owned: what may be copied. -/
def AC.per : AC → Bool
  | .own .. => false
  | _ => true

theorem RdO.one {v : Value} {c : AC} {O : List Nat} (h : RdO w p [v] [c] O) (hc : c.per = true) : RdC w p v c ∧ O = [] := by
  cases h with
  | per h t => cases t;exact ⟨h,rfl⟩
  | own => simp [AC.per] at hc

theorem RdO.oneCell {vs : List Value} {cs : List AC} {O : List Nat} (h : RdO w p vs cs O) : ∀ v ∈ vs,v.oneCell' = true := by
  induction h with
  | nil => intro v hv;cases hv
  | per h _ ih => intro v hv;cases hv with
    | head => exact h.oneCell
    | tail _ hv => exact ih v hv
  | @own b _ _ _ _ _ _ _ _ _ _ _ _ _ ih => intro v hv;cases hv with
    | head => cases b <;> rfl
    | tail _ hv => exact ih v hv

/-- The cell at a place, what is ahead of it and what is behind. -/
theorem RdO.at {vs : List Value} {cs : List AC} {O : List Nat} (h : RdO w p vs cs O) {m : Nat} {c : AC} (hm : cs[m]? = some c) :
    ∃ v O1 O2 O3,vs[m]? = some v ∧ O = O1 ++ O2 ++ O3 ∧ RdO w p [v] [c] O2 ∧ RdO w p (vs.take m) (cs.take m) O1 ∧ RdO w p (vs.drop (m + 1)) (cs.drop (m + 1)) O3 := by
  obtain ⟨O1,O23,e1,h1,h2⟩ := h.split m
  obtain ⟨O2,O3,e2,h3,h4⟩ := h2.split 1
  have hlt := (List.getElem?_eq_some_iff.1 hm).1
  have hvl := h.length
  have hv : vs[m]? = some vs[m] := List.getElem?_eq_getElem (by omega)
  have ev : (vs.drop m).take 1 = [vs[m]] := by
    rw [List.drop_eq_getElem_cons (by omega),List.take_succ_cons,List.take_zero]
  have ec : (cs.drop m).take 1 = [c] := by
    rw [List.drop_eq_getElem_cons hlt,List.take_succ_cons,List.take_zero,(List.getElem?_eq_some_iff.1 hm).2]
  rw [ev,ec] at h3
  rw [List.drop_drop,List.drop_drop] at h4
  exact ⟨_,O1,O2,O3,hv,by rw [e1,e2,List.append_assoc],h3,h1,by simpa [Nat.add_comm] using h4⟩

theorem RdO.get {vs : List Value} {cs : List AC} {O : List Nat} (h : RdO w p vs cs O) {m : Nat} {c : AC} (hm : cs[m]? = some c) (hc : c.per = true) : ∃ v,vs[m]? = some v ∧ RdC w p v c := by
  obtain ⟨v,O1,O2,O3,hv,_,h1,_⟩ := h.at hm
  exact ⟨v,hv,(h1.one hc).1⟩

theorem RdO.getOwn {vs : List Value} {cs : List AC} {O : List Nat} (h : RdO w p vs cs O) {m : Nat} {b : Blk} {e sz : Nat} {es : List (List AC)} (hm : cs[m]? = some (.own b e sz es)) :
    ∃ xs O1 O2 O3,vs[m]? = some (sliceV b es.length) ∧ OR w b e sz es.length xs ∧ (∀ x,x ∈ es → x.length = sz) ∧ RdO w p xs es.flatten O2 ∧ O = O1 ++ (blks b ++ O2) ++ O3 ∧ RdO w p (vs.take m) (cs.take m) O1 ∧ RdO w p (vs.drop (m + 1)) (cs.drop (m + 1)) O3 := by
  obtain ⟨v,O1,O2,O3,hv,e,h1,h2,h3⟩ := h.at hm
  cases h1 with
  | per h => cases h
  | own ho hs h1 t =>
    cases t
    rw [List.append_nil] at e
    exact ⟨_,O1,_,O3,hv,ho,hs,h1,e,h2,h3⟩
end

theorem qF : (∀ a b : Bool, ((a && b) = true) = (a = true ∧ b = true)) ∧ (∀ a b : Bool, ((a || b) = true) = (a = true ∨ b = true)) ∧ (∀ a : Bool, ((!a) = true) = (a = false)) ∧ (∀ a b : Bool, ((a && b) = false) = (a = false ∨ b = false)) ∧ (∀ a b : Bool, ((a || b) = false) = (a = false ∧ b = false)) ∧ (∀ a : Bool, ((!a) = false) = (a = true)) ∧ (∀ (p : Prop) [Decidable p], (decide p = true) = p) ∧ (∀ (p : Prop) [Decidable p], (decide p = false) = ¬ p) ∧ (∀ (α : Type) [BEq α] [LawfulBEq α] (a b : α), ((a == b) = true) = (a = b)) ∧ (∀ (α : Type) [BEq α] [LawfulBEq α] (a b : α), ((a != b) = true) = (a ≠ b)) ∧ (∀ (α : Type) [BEq α] [LawfulBEq α] (a b : α), ((a == b) = false) = (a ≠ b)) ∧ (∀ (α : Type) [BEq α] [LawfulBEq α] (a b : α), ((a != b) = false) = (a = b)) ∧ ((true = false) = False) ∧ ((false = true) = False) :=
  ⟨fun _ _ => Bool.and_eq_true _ _, fun _ _ => Bool.or_eq_true _ _, fun _ => Bool.not_eq_true' _, fun _ _ => propext Bool.and_eq_false_iff, fun _ _ => propext Bool.or_eq_false_iff, fun _ => Bool.not_eq_false' _, fun _ _ => decide_eq_true_eq, fun _ _ => propext decide_eq_false_iff_not, fun _ _ _ _ _ => propext beq_iff_eq, fun _ _ _ _ _ => propext bne_iff_ne, fun _ _ _ _ _ => propext beq_eq_false_iff_ne, fun _ _ _ _ _ => propext bne_eq_false_iff_eq, Bool.true_eq_false, Bool.false_eq_true⟩

end Go.Hs
