/-
  THE VALUE SEMANTICS, part 1: abstract values, what it means that a slot's value reads as one, and that it goes on to do so while memory grows. No program in sight.
-/
import Derived.WalkKit
import Derived.Deep.Quiet
namespace Go.Vs
open Go Go.RowKit

/-- What stands in one cell: a plain value; the nil slice; or a slice that is only read, its elements as rows of sz cells. -/
inductive AC where
  | im (v : Value)
  | nil
  | sl (sz : Nat) (es : List (List AC))

instance : Inhabited AC := ⟨.nil⟩

def scal : Value → Bool
  | .bool _ | .int _ _ | .string _ => true
  | _ => false

/-- v reads as c; what is read lies in blocks of which prot holds. -/
inductive RdC (w : World) (prot : Nat → Prop) : Value → AC → Prop where
  | im (v : Value) (h : scal v = true) : RdC w prot v (.im v)
  | nil : RdC w prot (.slice none 0 0) .nil
  | nilS (sz cap : Nat) : RdC w prot (.slice none 0 cap) (.sl sz [])
  | sl (a : Addr) (n cap sz : Nat) (es : List (List AC)) (us : Nat → Nat → Value)
      (hn : n = es.length) (hcap : n ≤ cap)
      (hsz : ∀ e, e ∈ es → e.length = sz)
      (hp : es ≠ [] → prot a.block)
      (hc : ∀ i e j, es[i]? = some e → j < sz → w.cell? (a.add (i * sz + j)) = some (us i j))
      (hr : ∀ i e j c, es[i]? = some e → e[j]? = some c → RdC w prot (us i j) c) :
      RdC w prot (.slice (some a) n cap) (.sl sz es)

/-- w' holds in block b what w holds, for all b of which p holds. -/
def KeepsOn (p : Nat → Prop) (w w' : World) : Prop := ∀ b, p b → w'.heap[b]? = w.heap[b]?

theorem KeepsOn.cell {p : Nat → Prop} {w w' : World} (h : KeepsOn p w w') {a : Addr} (hp : p a.block) : w'.cell? a = w.cell? a :=
  World.cell?_of_block (w := w) (h a.block hp)

theorem addr_add_block (a : Addr) (n : Nat) : (a.add n).block = a.block := by
  unfold Addr.add; split <;> rfl

theorem RdC.mono {w w' : World} {p p' : Nat → Prop} (hpp : ∀ b, p b → p' b) (hk : KeepsOn p w w') {v : Value} {c : AC} (h : RdC w p v c) : RdC w' p' v c := by
  induction h with
  | im v h => exact .im v h
  | nil => exact .nil
  | nilS sz cap => exact .nilS sz cap
  | sl a n cap sz es us hn hcap hsz hp hc hr ih =>
    refine .sl a n cap sz es us hn hcap hsz (fun h => hpp _ (hp h)) ?_ ih
    intro i e j hi hj
    have hne : es ≠ [] := by intro h; rw [h] at hi; simp at hi
    rw [hk.cell (by rw [addr_add_block]; exact hp hne)]
    exact hc i e j hi hj

/-- No slice in it: what it reads as hangs on no memory. -/
def AC.flat : AC → Bool
  | .sl _ _ => false
  | _ => true

theorem RdC.flat {w w' : World} {p p' : Nat → Prop} {v : Value} {c : AC} (h : RdC w p v c) (hf : c.flat = true) : RdC w' p' v c := by
  cases h with
  | im v h => exact .im v h
  | nil => exact .nil
  | nilS sz cap => simp [AC.flat] at hf
  | sl => simp [AC.flat] at hf

theorem RdC.oneCell {w : World} {p : Nat → Prop} {v : Value} {c : AC} (h : RdC w p v c) : v.oneCell' = true := by
  cases h with
  | im v h => cases v <;> simp_all [scal, Value.oneCell']
  | nil => rfl
  | nilS => rfl
  | sl => rfl

/-- Rows of cells, one by one. -/
inductive RdL (w : World) (p : Nat → Prop) : List Value → List AC → Prop where
  | nil : RdL w p [] []
  | cons {v : Value} {c : AC} {vs : List Value} {cs : List AC} (h : RdC w p v c) (t : RdL w p vs cs) : RdL w p (v :: vs) (c :: cs)

theorem RdL.mono {w w' : World} {p p' : Nat → Prop} (hpp : ∀ b, p b → p' b) (hk : KeepsOn p w w') {vs : List Value} {cs : List AC} (h : RdL w p vs cs) : RdL w' p' vs cs := by
  induction h with
  | nil => exact .nil
  | cons h _ ih => exact .cons (h.mono hpp hk) ih

theorem RdL.flat {w w' : World} {p p' : Nat → Prop} {vs : List Value} {cs : List AC} (h : RdL w p vs cs) (hf : cs.all AC.flat = true) : RdL w' p' vs cs := by
  induction h with
  | nil => exact .nil
  | cons h _ ih =>
    simp only [List.all_cons, Bool.and_eq_true] at hf
    exact .cons (h.flat hf.1) (ih hf.2)

theorem RdL.length {w : World} {p : Nat → Prop} {vs : List Value} {cs : List AC} (h : RdL w p vs cs) : vs.length = cs.length := by
  induction h with
  | nil => rfl
  | cons _ _ ih => simp [ih]

theorem RdL.get {w : World} {p : Nat → Prop} {vs : List Value} {cs : List AC} (h : RdL w p vs cs) : ∀ (j : Nat) (c : AC), cs[j]? = some c → ∃ v, vs[j]? = some v ∧ RdC w p v c := by
  induction h with
  | nil => intro j c hj; simp at hj
  | cons h _ ih =>
    intro j c hj
    cases j with
    | zero => simp at hj; subst hj; exact ⟨_, by simp, h⟩
    | succ j => simp at hj; obtain ⟨v, hv, hr⟩ := ih j c hj; exact ⟨v, by simpa using hv, hr⟩

theorem RdL.getv {w : World} {p : Nat → Prop} {vs : List Value} {cs : List AC} (h : RdL w p vs cs) : ∀ (j : Nat) (v : Value), vs[j]? = some v → ∃ c, cs[j]? = some c ∧ RdC w p v c := by
  induction h with
  | nil => intro j c hj; simp at hj
  | cons h _ ih =>
    intro j c hj
    cases j with
    | zero => simp at hj; subst hj; exact ⟨_, by simp, h⟩
    | succ j => simp at hj; obtain ⟨v, hv, hr⟩ := ih j c hj; exact ⟨v, by simpa using hv, hr⟩

theorem RdL.of_get {w : World} {p : Nat → Prop} : ∀ {vs : List Value} {cs : List AC}, vs.length = cs.length → (∀ (j : Nat) (v : Value) (c : AC), vs[j]? = some v → cs[j]? = some c → RdC w p v c) → RdL w p vs cs
  | [], [], _, _ => .nil
  | v :: vs, c :: cs, hl, h => .cons (h 0 v c (by simp) (by simp)) (RdL.of_get (by simpa using hl) fun j v c hv hc => h (j + 1) v c (by simpa using hv) (by simpa using hc))
  | [], _ :: _, hl, _ => by simp at hl
  | _ :: _, [], hl, _ => by simp at hl

theorem RdL.append {w : World} {p : Nat → Prop} {vs us : List Value} {cs ds : List AC} (h : RdL w p vs cs) (k : RdL w p us ds) : RdL w p (vs ++ us) (cs ++ ds) := by
  induction h with
  | nil => exact k
  | cons h _ ih => exact .cons h ih

theorem RdL.take {w : World} {p : Nat → Prop} {vs : List Value} {cs : List AC} (h : RdL w p vs cs) : ∀ n, RdL w p (vs.take n) (cs.take n) := by
  induction h with
  | nil => intro n; simpa using .nil
  | cons h t ih => intro n; cases n with
    | zero => simpa using .nil
    | succ n => simpa using .cons h (ih n)

theorem RdL.drop {w : World} {p : Nat → Prop} {vs : List Value} {cs : List AC} (h : RdL w p vs cs) : ∀ n, RdL w p (vs.drop n) (cs.drop n) := by
  induction h with
  | nil => intro n; simpa using .nil
  | cons h t ih => intro n; cases n with
    | zero => simpa using .cons h t
    | succ n => simpa using ih n

theorem RdL.set {w : World} {p : Nat → Prop} {vs : List Value} {cs : List AC} (h : RdL w p vs cs) {v : Value} {c : AC} (hv : RdC w p v c) : ∀ n, RdL w p (vs.set n v) (cs.set n c) := by
  induction h with
  | nil => intro n; simpa using .nil
  | cons h t ih => intro n; cases n with
    | zero => simpa using .cons hv t
    | succ n => simpa using .cons h (ih n)

theorem RdL.oneCell {w : World} {p : Nat → Prop} {vs : List Value} {cs : List AC} (h : RdL w p vs cs) : ∀ v ∈ vs, v.oneCell' = true := by
  induction h with
  | nil => intro v hv; cases hv
  | cons h _ ih => intro v hv; cases hv with
    | head => exact h.oneCell
    | tail _ hv => exact ih v hv

/-- Elements of sz cells each, one behind the other. -/
def RdF (w : World) (p : Nat → Prop) (sz : Nat) (es : List (List AC)) (xs : List Value) : Prop :=
  (∀ e, e ∈ es → e.length = sz) ∧ RdL w p xs es.flatten

theorem RdF.mono {w w' : World} {p p' : Nat → Prop} (hpp : ∀ b, p b → p' b) (hk : KeepsOn p w w') {sz : Nat} {es : List (List AC)} {xs : List Value} (h : RdF w p sz es xs) : RdF w' p' sz es xs :=
  ⟨h.1, h.2.mono hpp hk⟩

theorem flatten_length {sz : Nat} : ∀ {es : List (List AC)}, (∀ e, e ∈ es → e.length = sz) → es.flatten.length = es.length * sz
  | [], _ => by simp
  | e :: es, h => by
    have h1 := h e (by simp)
    have h2 := flatten_length (es := es) fun e he => h e (by simp [he])
    simp only [List.flatten_cons, List.length_append, List.length_cons, Nat.add_mul, Nat.one_mul, h1, h2]; omega

theorem flatten_get {sz : Nat} : ∀ {es : List (List AC)}, (∀ e, e ∈ es → e.length = sz) → ∀ (i : Nat) (e : List AC) (j : Nat), es[i]? = some e → j < sz → es.flatten[i * sz + j]? = e[j]?
  | [], _, i, e, j, hi, _ => by simp at hi
  | e0 :: es, h, i, e, j, hi, hj => by
    have h1 := h e0 (by simp)
    cases i with
    | zero => simp at hi; subst hi; simp only [List.flatten_cons, Nat.zero_mul, Nat.zero_add]; rw [List.getElem?_append_left (by omega)]
    | succ i =>
      simp at hi
      have h2 := flatten_get (es := es) (fun e he => h e (by simp [he])) i e j hi hj
      simp only [List.flatten_cons]
      rw [List.getElem?_append_right (by rw [h1, Nat.add_mul]; omega)]
      rw [show (i + 1) * sz + j - e0.length = i * sz + j from by rw [h1, Nat.add_mul]; omega]
      exact h2

theorem RdF.get {w : World} {p : Nat → Prop} {sz : Nat} {es : List (List AC)} {xs : List Value} (h : RdF w p sz es xs) {i : Nat} {e : List AC} {j : Nat} {c : AC} (hi : es[i]? = some e) (hj : e[j]? = some c) :
    ∃ u, xs[i * sz + j]? = some u ∧ RdC w p u c := by
  have hlen : e.length = sz := h.1 e (List.mem_of_getElem? hi)
  have hlt : j < sz := by have := (List.getElem?_eq_some_iff.1 hj).1; omega
  exact h.2.get _ _ (by rw [flatten_get h.1 i e j hi hlt]; exact hj)

theorem flatten_set {sz : Nat} : ∀ {es : List (List AC)}, (∀ e, e ∈ es → e.length = sz) → ∀ (i : Nat) (e : List AC) (j : Nat) (c : AC), es[i]? = some e → j < sz → (es.set i (e.set j c)).flatten = es.flatten.set (i * sz + j) c
  | [], _, i, e, j, c, hi, _ => by simp at hi
  | e0 :: es, h, i, e, j, c, hi, hj => by
    have h1 := h e0 (by simp)
    cases i with
    | zero => simp at hi; subst hi; simp only [List.set_cons_zero, List.flatten_cons, Nat.zero_mul, Nat.zero_add]; rw [List.set_append_left _ _ (by omega)]
    | succ i =>
      simp at hi
      have h2 := flatten_set (es := es) (fun e he => h e (by simp [he])) i e j c hi hj
      simp only [List.set_cons_succ, List.flatten_cons, h2]
      rw [List.set_append_right _ _ (by rw [h1, Nat.add_mul]; omega)]
      rw [show (i + 1) * sz + j - e0.length = i * sz + j from by rw [h1, Nat.add_mul]; omega]

end Go.Vs
