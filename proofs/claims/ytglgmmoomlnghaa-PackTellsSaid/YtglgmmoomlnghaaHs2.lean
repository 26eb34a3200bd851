/-
  THE HEAP SEMANTICS, part 2: the abstract frame (slots, and what is owned), the relation to the machine's frame and memory, and how it goes on.
-/
import Derived.Test.YtglgmmoomlnghaaHs1
namespace Go.Hs
open Go Go.RowKit

inductive TC where
  | c (c : AC)
  | ag (cs : List AC)

/-- What a slot holds (c: one cell; agg: a struct or an array; tup: results; opt b v: v if b, else nothing), or what is owned under a name (row: what a slice leads to; box: a variable; mapo: a map from strings to numbers). -/
inductive AV where
  | c (c : AC)
  | agg (cs : List AC)
  | tup (vs : List TC)
  | opt (b : Bool) (v : AV)
  | row (b : Blk) (e sz : Nat) (es : List (List AC))
  | box (k ty : Nat) (cs : List AC)
  | mapo (k : Nat) (l : List (ByteArray × Int))

instance : Inhabited AV := ⟨.c .nil⟩

abbrev Env := List (Nat × AV)

def Env.get : Env → Nat → Option AV
  | [],_ => none
  | (k,v) :: r,d => if k = d then some v else Env.get r d

def Env.drop : Env → Nat → Env
  | [],_ => []
  | (k,v) :: r,d => if k = d then Env.drop r d else (k,v) :: Env.drop r d

def Env.set (S : Env) (d : Nat) (v : AV) : Env := (d,v) :: S.drop d

def Env.upd : Env → Nat → AV → Env
  | [],_,_ => []
  | (k,u) :: r,d,v => if k = d then (k,v) :: Env.upd r d v else (k,u) :: Env.upd r d v

def Env.restr (S : Env) : List Nat → Env
  | [] => []
  | k :: ks => match S.get k with
    | some v => (k,v) :: Env.restr S ks
    | none => Env.restr S ks

theorem Env.mem_of_get {S : Env} {d : Nat} {v : AV} (h : S.get d = some v) : (d,v) ∈ S := by
  induction S with
  | nil => simp [Env.get] at h
  | cons x r ih =>
    obtain ⟨k,u⟩ := x
    simp only [Env.get] at h
    split at h
    · rename_i hk;subst hk;simp at h;subst h;simp
    · exact List.mem_cons_of_mem _ (ih h)

theorem Env.mem_drop {S : Env} {d d' : Nat} {v : AV} (h : (d',v) ∈ S.drop d) : (d',v) ∈ S ∧ d' ≠ d := by
  induction S with
  | nil => simp [Env.drop] at h
  | cons x r ih =>
    obtain ⟨k,u⟩ := x
    simp only [Env.drop] at h
    split at h
    · obtain ⟨h1,h2⟩ := ih h;exact ⟨List.mem_cons_of_mem _ h1,h2⟩
    · rename_i hk
      cases h with
      | head => exact ⟨by simp,hk⟩
      | tail _ h => obtain ⟨h1,h2⟩ := ih h;exact ⟨List.mem_cons_of_mem _ h1,h2⟩

theorem Env.mem_upd {S : Env} {d d' : Nat} {v v' : AV} (h : (d',v') ∈ S.upd d v) : (d' = d ∧ v' = v) ∨ ((d',v') ∈ S ∧ d' ≠ d) := by
  induction S with
  | nil => simp [Env.upd] at h
  | cons x r ih =>
    obtain ⟨k,u⟩ := x
    simp only [Env.upd] at h
    split at h
    · rename_i hk
      cases h with
      | head => exact .inl ⟨hk,rfl⟩
      | tail _ h =>
        rcases ih h with h|⟨h1,h2⟩
        · exact .inl h
        · exact .inr ⟨List.mem_cons_of_mem _ h1,h2⟩
    · rename_i hk
      cases h with
      | head => exact .inr ⟨by simp,hk⟩
      | tail _ h =>
        rcases ih h with h|⟨h1,h2⟩
        · exact .inl h
        · exact .inr ⟨List.mem_cons_of_mem _ h1,h2⟩

theorem Env.mem_restr {S : Env} {ks : List Nat} {d : Nat} {v : AV} (h : (d,v) ∈ S.restr ks) : (d,v) ∈ S := by
  induction ks with
  | nil => simp [Env.restr] at h
  | cons k ks ih =>
    simp only [Env.restr] at h
    split at h
    · rename_i u hu
      cases h with
      | head => exact Env.mem_of_get hu
      | tail _ h => exact ih h
    · exact ih h

def slotOf (a : Act) (d : Nat) : Value := a.tmps.getD d undef

def RdT (w : World) (p : Nat → Prop) (u : Value) : TC → Prop
  | .c c => RdC w p u c
  | .ag cs => ∃ vs,u = .agg vs ∧ RdL w p vs.toList cs

inductive RdTs (w : World) (p : Nat → Prop) : List Value → List TC → Prop where
  | nil : RdTs w p [] []
  | cons {v : Value} {c : TC} {vs : List Value} {cs : List TC} (h : RdT w p v c) (t : RdTs w p vs cs) : RdTs w p (v :: vs) (c :: cs)

section
variable {w w' : World} {p p' : Nat → Prop}

theorem RdT.mono (hpp : ∀ b,p b → p' b) (hk : KeepsOn p w w') {v : Value} {c : TC} (h : RdT w p v c) : RdT w' p' v c := by
  cases c with
  | c c => exact RdC.mono hpp hk h
  | ag cs => obtain ⟨vs,h1,h2⟩ := h;exact ⟨vs,h1,h2.mono hpp hk⟩

theorem RdTs.mono (hpp : ∀ b,p b → p' b) (hk : KeepsOn p w w') {vs : List Value} {cs : List TC} (h : RdTs w p vs cs) : RdTs w' p' vs cs := by
  induction h with
  | nil => exact .nil
  | cons h _ ih => exact .cons (h.mono hpp hk) ih

theorem RdTs.get {vs : List Value} {cs : List TC} (h : RdTs w p vs cs) : ∀ (j : Nat) (c : TC),cs[j]? = some c → ∃ v,vs[j]? = some v ∧ RdT w p v c := by
  induction h with
  | nil => intro j c hj;simp at hj
  | cons h _ ih =>
    intro j c hj
    cases j with
    | zero => simp at hj;subst hj;exact ⟨_,by simp,h⟩
    | succ j => simp at hj;obtain ⟨v,hv,hr⟩ := ih j c hj;exact ⟨v,by simpa using hv,hr⟩

theorem RdTs.length {vs : List Value} {cs : List TC} (h : RdTs w p vs cs) : vs.length = cs.length := by
  induction h with
  | nil => rfl
  | cons _ _ ih => simp [ih]
end

/-- A slot's value reads as the abstract value. -/
def RdS (w : World) (p : Nat → Prop) (u : Value) : AV → Prop
  | .c c => RdC w p u c
  | .agg cs => ∃ vs,u = .agg vs ∧ RdL w p vs.toList cs
  | .tup vs => ∃ us,u = .tuple us ∧ RdTs w p us.toList vs
  | .opt b v => (b = true → RdS w p u v) ∧ (b = false → u = undef)
  | _ => False

/-- What is owned, as rows. -/
structure Ob where
  b : Blk
  e : Nat
  sz : Nat
  es : List (List AC)

def RdOb (w : World) (p : Nat → Prop) (o : Ob) (O : List Nat) : Prop :=
  ∃ xs O',OR w o.b o.e o.sz o.es.length xs ∧ (∀ x,x ∈ o.es → x.length = o.sz) ∧ RdO w p xs o.es.flatten O' ∧ O = blks o.b ++ O'

def AV.ob : AV → Option Ob
  | .row b e sz es => some ⟨b,e,sz,es⟩
  | .box k ty cs => some ⟨some (k,1),ty,cs.length,[cs]⟩
  | _ => none

def mEntries (l : List (ByteArray × Int)) (es : Array MapEntry) : Prop := (es.toList.map fun x => (x.key,x.val)) = l.map fun x => (Value.string x.1,Value.int .i64 x.2)

/-- A slot's value, or what is owned under a name. -/
def RdV (w : World) (p : Nat → Prop) (u : Value) (O : List Nat) : AV → Prop
  | .row b e sz es => RdOb w p ⟨b,e,sz,es⟩ O
  | .box k ty cs => RdOb w p ⟨some (k,1),ty,cs.length,[cs]⟩ O
  | .mapo k l => (∃ es cl,w.heap[k]? = some (.map es cl) ∧ mEntries l es) ∧ O = [k]
  | v => RdS w p u v

theorem RdV.ob {w : World} {p : Nat → Prop} {u : Value} {O : List Nat} {v : AV} {o : Ob} (h : RdV w p u O v) (ho : v.ob = some o) : RdOb w p o O := by
  cases v <;> simp [AV.ob] at ho <;> subst ho <;> exact h

def AV.isS : AV → Bool
  | .row ..|.box ..|.mapo .. => false
  | _ => true

theorem RdS.v {w : World} {p : Nat → Prop} {u : Value} {O : List Nat} {v : AV} (h : RdS w p u v) : RdV w p u O v := by
  cases v <;> first|exact h|exact h.elim

theorem RdV.s {w : World} {p : Nat → Prop} {u : Value} {O : List Nat} {v : AV} (h : RdV w p u O v) (hs : v.isS = true) : RdS w p u v := by
  cases v <;> first|exact h|simp [AV.isS] at hs

theorem RdS.mono {w w' : World} {p p' : Nat → Prop} (hpp : ∀ b,p b → p' b) (hk : KeepsOn p w w') {u : Value} {v : AV} (h : RdS w p u v) : RdS w' p' u v := by
  induction v with
  | c c => exact RdC.mono hpp hk h
  | agg cs => obtain ⟨vs,h1,h2⟩ := h;exact ⟨vs,h1,h2.mono hpp hk⟩
  | tup vs => obtain ⟨us,h1,h2⟩ := h;exact ⟨us,h1,h2.mono hpp hk⟩
  | opt b v ih => exact ⟨fun hb => ih (h.1 hb),h.2⟩
  | _ => exact h.elim

theorem RdOb.mono {w w' : World} {p p' : Nat → Prop} (hpp : ∀ b,p b → p' b) (hk : KeepsOn p w w') {o : Ob} {O : List Nat} (h : RdOb w p o O) (hO : ∀ b ∈ O,w'.heap[b]? = w.heap[b]?) : RdOb w' p' o O := by
  obtain ⟨xs,O',h1,h2,h3,rfl⟩ := h
  exact ⟨xs,O',h1.keep fun k hk => hO k (by simp [hk]),h2,h3.mono hpp hk fun b hb => hO b (by simp [hb]),rfl⟩

theorem RdV.mono {w w' : World} {p p' : Nat → Prop} (hpp : ∀ b,p b → p' b) (hk : KeepsOn p w w') {u : Value} {O : List Nat} {v : AV} (h : RdV w p u O v) (hO : ∀ b ∈ O,w'.heap[b]? = w.heap[b]?) : RdV w' p' u O v := by
  cases v with
  | row b e sz es => exact RdOb.mono hpp hk h hO
  | box k ty cs => exact RdOb.mono hpp hk h hO
  | mapo k l =>
    obtain ⟨⟨es,cl,h1,h2⟩,rfl⟩ := h
    exact ⟨⟨es,cl,by rw [hO k (by simp)];exact h1,h2⟩,rfl⟩
  | c c => exact RdS.mono hpp hk (v := .c c) h
  | agg cs => exact RdS.mono hpp hk (v := .agg cs) h
  | tup vs => exact RdS.mono hpp hk (v := .tup vs) h
  | opt b v => exact RdS.mono hpp hk (v := .opt b v) h

/-- What was there is as it was, but in blocks of which F holds. -/
structure Chg (F : Nat → Prop) (w w' : World) : Prop where
  os : w'.os = w.os
  tape : w'.tape = w.tape
  output : w'.output = w.output
  size : w.heap.size ≤ w'.heap.size
  block : ∀ k,k < w.heap.size → ¬ F k → w'.heap[k]? = w.heap[k]?

theorem Chg.refl (F : Nat → Prop) (w : World) : Chg F w w := ⟨rfl,rfl,rfl,Nat.le_refl _,fun _ _ _ => rfl⟩

theorem Chg.trans {F : Nat → Prop} {a b c : World} (h : Chg F a b) (k : Chg F b c) : Chg F a c :=
  ⟨k.os.trans h.os,k.tape.trans h.tape,k.output.trans h.output,Nat.le_trans h.size k.size,fun i hi hF => (k.block i (Nat.lt_of_lt_of_le hi h.size) hF).trans (h.block i hi hF)⟩

/-- The same where the second step may turn what is new, too. -/
theorem Chg.trans' {F G : Nat → Prop} {a b c : World} (h : Chg F a b) (k : Chg G b c) (hG : ∀ i,G i → F i ∨ a.heap.size ≤ i) : Chg F a c :=
  ⟨k.os.trans h.os,k.tape.trans h.tape,k.output.trans h.output,Nat.le_trans h.size k.size,fun i hi hF =>
    (k.block i (Nat.lt_of_lt_of_le hi h.size) (fun hg => (hG i hg).elim hF (fun h => by omega))).trans (h.block i hi hF)⟩

theorem Chg.mono {F G : Nat → Prop} {a b : World} (h : Chg F a b) (hFG : ∀ i,F i → G i) : Chg G a b :=
  ⟨h.os,h.tape,h.output,h.size,fun k hk hG => h.block k hk fun hF => hG (hFG k hF)⟩

theorem Chg.of_below {w w' : World} (h : Below w.heap.size w w') : Chg (fun _ => False) w w' := ⟨h.os,h.tape,h.output,h.size,fun k hk _ => h.block k hk⟩
theorem Chg.below {w w' : World} (h : Chg (fun _ => False) w w') : Below w.heap.size w w' := ⟨h.os,h.tape,h.output,h.size,fun k hk => h.block k hk (fun h => h)⟩

def updF (f : Nat → List Nat) (g : Nat) (O : List Nat) : Nat → List Nat := fun d => if d = g then O else f d

/-- **THE RELATION**: the frame S tells of the machine's frame a in world w. F: blocks of the caller's that are handed over; ow: which blocks are owned under a name. -/
structure Rel (n : Nat) (p0 F : Nat → Prop) (w0 : World) (S : Env) (a : Act) (w : World) (p : Nat → Prop) (ow : Nat → List Nat) : Prop where
  defers : a.defers = []
  size : n ≤ a.tmps.size
  chg : Chg F w0 w
  plt : ∀ b,p b → b < w.heap.size
  pnew : ∀ b,p b → p0 b ∨ F b ∨ w0.heap.size ≤ b
  vals : ∀ d v,(d,v) ∈ S → RdV w p (slotOf a d) (ow d) v
  sep : ∀ d d' v v' b,(d,v) ∈ S → (d',v') ∈ S → d ≠ d' → b ∈ ow d → b ∉ ow d'
  nod : ∀ d v,(d,v) ∈ S → (ow d).Nodup
  fresh : ∀ d v,(d,v) ∈ S → ∀ b ∈ ow d,b < w.heap.size ∧ ¬ p b ∧ (F b ∨ w0.heap.size ≤ b)

section
variable {n : Nat} {p0 F : Nat → Prop} {w0 : World} {S : Env} {a : Act} {w : World} {p : Nat → Prop} {ow : Nat → List Nat}

theorem Rel.get (hR : Rel n p0 F w0 S a w p ow) {d : Nat} {v : AV} (h : S.get d = some v) : RdV w p (slotOf a d) (ow d) v := hR.vals d v (Env.mem_of_get h)

/-- **ONE ENTRY ANEW**: a slot's value or what is owned under g; blocks of which R holds were owned by entries that are gone. -/
theorem rel_put (hR : Rel n p0 F w0 S a w p ow) {S0 : Env} {g : Nat} {v : AV} {O : List Nat} {a' : Act} {w' : World} (R : Nat → Prop)
    (hsub : ∀ d v,(d,v) ∈ S0 → (d,v) ∈ S ∧ d ≠ g) (hact : a'.defers = [] ∧ n ≤ a'.tmps.size ∧ ∀ d,d ≠ g → slotOf a' d = slotOf a d)
    (hRo : ∀ b,R b → (F b ∨ w0.heap.size ≤ b) ∧ ¬ p b) (hdis : ∀ d v,(d,v) ∈ S0 → ∀ b ∈ ow d,¬ R b)
    (hch : Chg R w w') (hO : O.Nodup) (hOr : ∀ b ∈ O,(R b ∨ w.heap.size ≤ b) ∧ b < w'.heap.size) (hv : RdV w' p (slotOf a' g) O v) :
    Rel n p0 F w0 ((g,v) :: S0) a' w' p (updF ow g O) := by
  have hsz := hR.chg.size
  have hk : KeepsOn p w w' := fun b hb => hch.block b (hR.plt b hb) fun h => (hRo b h).2 hb
  have old : ∀ d v,(d,v) ∈ S0 → updF ow g O d = ow d := fun d v hm => by simp [updF,(hsub d v hm).2]
  have same : updF ow g O g = O := by simp [updF]
  refine ⟨hact.1,hact.2.1,hR.chg.trans' hch fun i hi => (hRo i hi).1,fun b hb => Nat.lt_of_lt_of_le (hR.plt b hb) hch.size,hR.pnew,?_,?_,?_,?_⟩
  · intro d v' hm
    cases hm with
    | head => rw [same];exact hv
    | tail _ hm =>
      obtain ⟨h1,h2⟩ := hsub _ _ hm
      rw [old _ _ hm,hact.2.2 d h2]
      exact (hR.vals _ _ h1).mono (fun _ h => h) hk fun b hb => hch.block b (hR.fresh _ _ h1 b hb).1 (hdis _ _ hm b hb)
  · have cross : ∀ d v b,(d,v) ∈ S0 → b ∈ O → b ∉ ow d := by
      intro d v b hm hb hb'
      rcases (hOr b hb).1 with h|h
      · exact hdis _ _ hm b hb' h
      · have := (hR.fresh _ _ (hsub _ _ hm).1 b hb').1;omega
    intro d d' v1 v2 b h1 h2 hne hb
    cases h1 with
    | head =>
      cases h2 with
      | head => exact absurd rfl hne
      | tail _ h2 =>
        rw [same] at hb
        rw [old _ _ h2]
        exact cross _ _ b h2 hb
    | tail _ h1 =>
      rw [old _ _ h1] at hb
      cases h2 with
      | head =>
        rw [same]
        intro hb'
        exact cross _ _ b h1 hb' hb
      | tail _ h2 =>
        rw [old _ _ h2]
        exact hR.sep _ _ _ _ b (hsub _ _ h1).1 (hsub _ _ h2).1 hne hb
  · intro d v' hm
    cases hm with
    | head => rw [same];exact hO
    | tail _ hm => rw [old _ _ hm];exact hR.nod _ _ (hsub _ _ hm).1
  · intro d v' hm b hb
    cases hm with
    | head =>
      rw [same] at hb
      obtain ⟨h1,h2⟩ := hOr b hb
      refine ⟨h2,?_,?_⟩
      · rcases h1 with h|h
        · exact (hRo b h).2
        · intro hp;have := hR.plt b hp;omega
      · rcases h1 with h|h
        · exact (hRo b h).1
        · exact .inr (by omega)
    | tail _ hm =>
      rw [old _ _ hm] at hb
      obtain ⟨h1,h2,h3⟩ := hR.fresh _ _ (hsub _ _ hm).1 b hb
      exact ⟨Nat.lt_of_lt_of_le h1 hch.size,h2,h3⟩

theorem slotOf_put_same {d : Nat} {u : Value} (h : d < a.tmps.size) : slotOf (a.put (some d) u) d = u := by
  simp [slotOf,Act.put,h]

theorem slotOf_put_other {d d' : Nat} {u : Value} (h : d' ≠ d) : slotOf (a.put (some d) u) d' = slotOf a d' := by
  have h' : d ≠ d' := Ne.symm h
  simp [slotOf,Act.put,Array.getD_eq_getD_getElem?,h']

theorem size_put (o : Option Nat) (u : Value) : (a.put o u).tmps.size = a.tmps.size := by
  cases o <;> simp [Act.put]

theorem Rel.act (hR : Rel n p0 F w0 S a w p ow) (d : Nat) (u : Value) : (a.put (some d) u).defers = [] ∧ n ≤ (a.put (some d) u).tmps.size ∧ ∀ d',d' ≠ d → slotOf (a.put (some d) u) d' = slotOf a d' :=
  ⟨by simp [Act.put,hR.defers],by rw [size_put];exact hR.size,fun _ h => slotOf_put_other h⟩

/-- A slot's value anew. -/
theorem rel_set (hR : Rel n p0 F w0 S a w p ow) {d : Nat} {u : Value} {v : AV} (hd : d < n) (hv : RdS w p u v) :
    Rel n p0 F w0 (S.set d v) (a.put (some d) u) w p (updF ow d []) := by
  refine rel_put hR (fun _ => False) (fun d' v' h => Env.mem_drop h) (hR.act d u) (fun _ h => h.elim) (fun _ _ _ _ _ h => h) (Chg.refl _ _) .nil (by simp) ?_
  rw [slotOf_put_same (Nat.lt_of_lt_of_le hd hR.size)]
  exact hv.v

theorem Rel.self (hR : Rel n p0 F w0 S a w p ow) (g : Nat) : a.defers = [] ∧ n ≤ a.tmps.size ∧ ∀ d,d ≠ g → slotOf a d = slotOf a d := ⟨hR.defers,hR.size,fun _ _ => rfl⟩

/-- What is owned under g, anew: all that was owned there may be gone or turned, and memory may have grown. -/
theorem rel_turn (hR : Rel n p0 F w0 S a w p ow) {g : Nat} {v : AV} {O : List Nat} {w' : World} (hin : ∃ v0,S.get g = some v0) (hch : Chg (fun b => b ∈ ow g) w w') (hO : O.Nodup) (hOr : ∀ b ∈ O,(b ∈ ow g ∨ w.heap.size ≤ b) ∧ b < w'.heap.size)
    (hv : RdV w' p (slotOf a g) O v) : Rel n p0 F w0 (S.upd g v) a w' p (updF ow g O) := by
  obtain ⟨v0,h0⟩ := hin
  have hm0 := Env.mem_of_get h0
  have h := rel_put hR (S0 := S.drop g) (fun b => b ∈ ow g) (fun d' v' h => Env.mem_drop h) (hR.self g) (fun b hb => let h := hR.fresh _ _ hm0 b hb;⟨h.2.2,h.2.1⟩)
    (fun d v1 hm b hb hb' => hR.sep _ _ _ _ b (Env.mem_drop hm).1 hm0 (Env.mem_drop hm).2 hb hb') hch hO hOr hv
  have hsub : ∀ d v',(d,v') ∈ S.upd g v → (d,v') ∈ (g,v) :: S.drop g := by
    intro d v' hm
    rcases Env.mem_upd hm with ⟨rfl,rfl⟩|⟨h1,h2⟩
    · simp
    · refine List.mem_cons_of_mem _ ?_
      revert h1
      generalize S = T
      intro h1
      induction T with
      | nil => cases h1
      | cons x r ih =>
        obtain ⟨k,u⟩ := x
        simp only [Env.drop]
        cases h1 with
        | head => rw [if_neg h2];simp
        | tail _ h1 =>
          split
          · exact ih h1
          · exact List.mem_cons_of_mem _ (ih h1)
  exact ⟨h.defers,h.size,h.chg,h.plt,h.pnew,fun d v hm => h.vals d v (hsub _ _ hm),fun _ _ _ _ _ h1 h2 => h.sep _ _ _ _ _ (hsub _ _ h1) (hsub _ _ h2),fun d v hm => h.nod d v (hsub _ _ hm),fun d v hm => h.fresh d v (hsub _ _ hm)⟩

/-- Something new is owned under g. -/
theorem rel_new (hR : Rel n p0 F w0 S a w p ow) {g : Nat} {v : AV} {O : List Nat} {w' : World} (hch : Chg (fun _ => False) w w') (hO : O.Nodup) (hOr : ∀ b ∈ O,w.heap.size ≤ b ∧ b < w'.heap.size)
    (hv : RdV w' p (slotOf a g) O v) : Rel n p0 F w0 (S.set g v) a w' p (updF ow g O) :=
  rel_put hR (S0 := S.drop g) (fun _ => False) (fun d' v' h => Env.mem_drop h) (hR.self g) (fun b hb => hb.elim) (fun _ _ _ _ _ h => h) hch hO (fun b hb => ⟨.inr (hOr b hb).1,(hOr b hb).2⟩) hv

theorem rel_world (hR : Rel n p0 F w0 S a w p ow) {w' : World} (hb : Chg (fun _ => False) w w') : Rel n p0 F w0 S a w' p ow := by
  have hk : KeepsOn p w w' := fun b hp => hb.block b (hR.plt b hp) (fun h => h)
  refine ⟨hR.defers,hR.size,hR.chg.trans' hb (fun _ h => h.elim),fun b hp => Nat.lt_of_lt_of_le (hR.plt b hp) hb.size,hR.pnew,?_,hR.sep,hR.nod,?_⟩
  · intro d v hm
    exact (hR.vals d v hm).mono (fun _ h => h) hk fun b hb' => hb.block b (hR.fresh d v hm b hb').1 (fun h => h)
  · intro d v hm b hb'
    obtain ⟨h1,h2⟩ := hR.fresh d v hm b hb'
    exact ⟨Nat.lt_of_lt_of_le h1 hb.size,h2⟩

theorem rel_sub (hR : Rel n p0 F w0 S a w p ow) {S' : Env} (h : ∀ d v,(d,v) ∈ S' → (d,v) ∈ S) : Rel n p0 F w0 S' a w p ow :=
  ⟨hR.defers,hR.size,hR.chg,hR.plt,hR.pnew,fun d v hm => hR.vals d v (h d v hm),fun d d' v v' g h1 h2 => hR.sep d d' v v' g (h _ _ h1) (h _ _ h2),fun d v hm => hR.nod d v (h d v hm),fun d v hm => hR.fresh d v (h d v hm)⟩

theorem rel_restr (hR : Rel n p0 F w0 S a w p ow) (ks : List Nat) : Rel n p0 F w0 (S.restr ks) a w p ow := rel_sub hR fun _ _ h => Env.mem_restr h
theorem rel_drop (hR : Rel n p0 F w0 S a w p ow) (d : Nat) : Rel n p0 F w0 (S.drop d) a w p ow := rel_sub hR fun _ _ h => (Env.mem_drop h).1

/-- More blocks are only read from now on; none that is owned. -/
theorem rel_more (hR : Rel n p0 F w0 S a w p ow) {p' : Nat → Prop} (hpp : ∀ b,p b → p' b) (hplt : ∀ b,p' b → b < w.heap.size) (hpn : ∀ b,p' b → p0 b ∨ F b ∨ w0.heap.size ≤ b) (hno : ∀ d v,(d,v) ∈ S → ∀ b ∈ ow d,¬ p' b) : Rel n p0 F w0 S a w p' ow :=
  ⟨hR.defers,hR.size,hR.chg,hplt,hpn,fun d v hm => (hR.vals d v hm).mono hpp (KeepsOn.refl _ _) fun _ _ => rfl,hR.sep,hR.nod,fun d v hm b hb => let h := hR.fresh d v hm b hb;⟨h.1,hno d v hm b hb,h.2.2⟩⟩
end

end Go.Hs
