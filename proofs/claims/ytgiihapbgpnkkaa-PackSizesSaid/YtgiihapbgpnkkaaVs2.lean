/-
  THE VALUE SEMANTICS, part 2: the abstract frame, the relation to the machine's frame and memory, and the operations that only compute a value.
-/
import Derived.Test.YtgiihapbgpnkkaaVs1
namespace Go.Vs
open Go Go.RowKit

/-- What a slot holds. row: a slice that the activation owns; box: a variable in memory that it owns; alias d: the same value as slot d; adr d sz i j: the address of cell j of element i of what slot d owns; adrR: an address in a slice that is only read; view: a part of what slot d owns; opt b v: v if b, else nothing. -/
inductive TC where
  | c (c : AC)
  | ag (cs : List AC)

inductive AV where
  | c (c : AC)
  | agg (cs : List AC)
  | row (isnil : Bool) (ty sz : Nat) (es : List (List AC))
  | box (ty : Nat) (cs : List AC)
  | alias (d : Nat)
  | adr (d sz i j : Nat)
  | adrR (sz : Nat) (es : List (List AC)) (i j : Nat)
  | view (d sz lo hi : Nat)
  | fn (f : Nat)
  | tup (vs : List TC)
  | opt (b : Bool) (v : AV)

instance : Inhabited AV := ⟨.c .nil⟩

def AV.refs : AV → Option Nat
  | .alias d | .adr d _ _ _ | .view d _ _ _ => some d
  | .opt _ v => v.refs
  | _ => none

def AV.owns : AV → Bool
  | .row .. | .box .. => true
  | .opt _ v => v.owns
  | _ => false

abbrev Env := List (Nat × AV)

def Env.get : Env → Nat → Option AV
  | [], _ => none
  | (k, v) :: r, d => if k = d then some v else Env.get r d

def Env.drop : Env → Nat → Env
  | [], _ => []
  | (k, v) :: r, d => if k = d ∨ v.refs = some d then Env.drop r d else (k, v) :: Env.drop r d

def Env.set (S : Env) (d : Nat) (v : AV) : Env := (d, v) :: S.drop d

def Env.restr (S : Env) : List Nat → Env
  | [] => []
  | k :: ks => match S.get k with
    | some v => (k, v) :: Env.restr S ks
    | none => Env.restr S ks

theorem Env.mem_of_get {S : Env} {d : Nat} {v : AV} (h : S.get d = some v) : (d, v) ∈ S := by
  induction S with
  | nil => simp [Env.get] at h
  | cons x r ih =>
    obtain ⟨k, u⟩ := x
    simp only [Env.get] at h
    split at h
    · rename_i hk; subst hk; simp at h; subst h; simp
    · exact List.mem_cons_of_mem _ (ih h)

theorem Env.mem_drop {S : Env} {d d' : Nat} {v : AV} (h : (d', v) ∈ S.drop d) : (d', v) ∈ S ∧ d' ≠ d ∧ v.refs ≠ some d := by
  induction S with
  | nil => simp [Env.drop] at h
  | cons x r ih =>
    obtain ⟨k, u⟩ := x
    simp only [Env.drop] at h
    split at h
    · obtain ⟨h1, h2, h3⟩ := ih h; exact ⟨List.mem_cons_of_mem _ h1, h2, h3⟩
    · rename_i hk
      cases h with
      | head => exact ⟨by simp, fun h => hk (.inl h), fun h => hk (.inr h)⟩
      | tail _ h => obtain ⟨h1, h2, h3⟩ := ih h; exact ⟨List.mem_cons_of_mem _ h1, h2, h3⟩

theorem Env.mem_set {S : Env} {d d' : Nat} {v v' : AV} (h : (d', v') ∈ S.set d v) : (d' = d ∧ v' = v) ∨ ((d', v') ∈ S ∧ d' ≠ d ∧ v'.refs ≠ some d) := by
  cases h with
  | head => exact .inl ⟨rfl, rfl⟩
  | tail _ h => exact .inr (Env.mem_drop h)

theorem Env.mem_restr {S : Env} {ks : List Nat} {d : Nat} {v : AV} (h : (d, v) ∈ S.restr ks) : (d, v) ∈ S := by
  induction ks with
  | nil => simp [Env.restr] at h
  | cons k ks ih =>
    simp only [Env.restr] at h
    split at h
    · rename_i u hu
      cases h with
      | head => exact Env.mem_of_get hu
      | tail _ h => exact ih h
    · exact ih h

def blkOf : Value → Option Nat
  | .slice (some a) _ _ => some a.block
  | .pointer (some a) => some a.block
  | _ => none

def slotOf (a : Act) (d : Nat) : Value := a.tmps.getD d undef

def RdT (w : World) (p : Nat → Prop) (u : Value) : TC → Prop
  | .c c => RdC w p u c
  | .ag cs => ∃ vs, u = .agg vs ∧ RdL w p vs.toList cs

inductive RdTs (w : World) (p : Nat → Prop) : List Value → List TC → Prop where
  | nil : RdTs w p [] []
  | cons {v : Value} {c : TC} {vs : List Value} {cs : List TC} (h : RdT w p v c) (t : RdTs w p vs cs) : RdTs w p (v :: vs) (c :: cs)

theorem RdT.mono {w w' : World} {p p' : Nat → Prop} (hpp : ∀ b, p b → p' b) (hk : KeepsOn p w w') {v : Value} {c : TC} (h : RdT w p v c) : RdT w' p' v c := by
  cases c with
  | c c => exact RdC.mono hpp hk h
  | ag cs => obtain ⟨vs, h1, h2⟩ := h; exact ⟨vs, h1, h2.mono hpp hk⟩

theorem RdTs.mono {w w' : World} {p p' : Nat → Prop} (hpp : ∀ b, p b → p' b) (hk : KeepsOn p w w') {vs : List Value} {cs : List TC} (h : RdTs w p vs cs) : RdTs w' p' vs cs := by
  induction h with
  | nil => exact .nil
  | cons h _ ih => exact .cons (h.mono hpp hk) ih

theorem RdTs.get {w : World} {p : Nat → Prop} {vs : List Value} {cs : List TC} (h : RdTs w p vs cs) : ∀ (j : Nat) (c : TC), cs[j]? = some c → ∃ v, vs[j]? = some v ∧ RdT w p v c := by
  induction h with
  | nil => intro j c hj; simp at hj
  | cons h _ ih =>
    intro j c hj
    cases j with
    | zero => simp at hj; subst hj; exact ⟨_, by simp, h⟩
    | succ j => simp at hj; obtain ⟨v, hv, hr⟩ := ih j c hj; exact ⟨v, by simpa using hv, hr⟩

/-- Value u reads as the abstract value. B: blocks from here on are the activation's own. -/
def RdV (w : World) (p : Nat → Prop) (B : Nat) (sl : Nat → Value) (u : Value) : AV → Prop
  | .c c => RdC w p u c
  | .agg cs => ∃ vs, u = .agg vs ∧ RdL w p vs.toList cs
  | .row isnil ty sz es => (isnil = true ↔ u = .slice none 0 0) ∧ (∃ xs, w.ownsRow B ty sz u es.length xs ∧ RdF w p sz es xs) ∧ ∀ g, blkOf u = some g → ¬ p g
  | .box ty cs => ∃ g cur, u = .pointer (some ⟨g, 0, none⟩) ∧ B ≤ g ∧ ¬ p g ∧ w.heap[g]? = some (.cells cur ty (0, 0)) ∧ RdL w p cur.toList cs
  | .alias d => u = sl d
  | .adr d sz i j => ∃ g, blkOf (sl d) = some g ∧ u = .pointer (some ⟨g, i * sz + j, none⟩)
  | .adrR sz es i j => ∃ a cap, RdC w p (.slice (some a) es.length cap) (.sl sz es) ∧ u = .pointer (some (a.add (i * sz + j)))
  | .view d sz lo hi => lo ≤ hi ∧ ((∃ g n cap, sl d = .slice (some ⟨g, 0, none⟩) n cap ∧ hi ≤ cap ∧ ∃ o, ((lo < cap → o = lo * sz) ∧ (lo = 0 → o = 0)) ∧ u = .slice (some ⟨g, o, none⟩) (hi - lo) (cap - lo)) ∨ (sl d = .slice none 0 0 ∧ hi = 0 ∧ u = .slice none 0 0))
  | .fn f => u = .func (.func f) #[] #[]
  | .tup vs => ∃ us, u = .tuple us ∧ RdTs w p us.toList vs
  | .opt b v => (b = true → RdV w p B sl u v) ∧ (b = false → u = undef)

theorem RdV.congr {w : World} {p : Nat → Prop} {B : Nat} {sl sl' : Nat → Value} {u : Value} {v : AV} (h : RdV w p B sl u v) (hs : ∀ d, v.refs = some d → sl' d = sl d) : RdV w p B sl' u v := by
  induction v with
  | alias d => simp only [RdV] at h ⊢; rw [hs d rfl]; exact h
  | adr d sz i j => simp only [RdV] at h ⊢; rw [hs d rfl]; exact h
  | view d sz lo hi => simp only [RdV] at h ⊢; rw [hs d rfl]; exact h
  | opt b v ih => exact ⟨fun hb => ih (h.1 hb) hs, h.2⟩
  | c c => exact h
  | agg cs => exact h
  | row => exact h
  | box => exact h
  | adrR => exact h
  | fn f => exact h
  | tup vs => exact h

theorem ownsRow_keep {w w' : World} {B ty sz n : Nat} {u : Value} {xs : List Value} (h : w.ownsRow B ty sz u n xs) (hk : ∀ g, blkOf u = some g → w'.heap[g]? = w.heap[g]?) : w'.ownsRow B ty sz u n xs := by
  refine ⟨h.1, ?_⟩
  rcases h.2 with hn | ⟨g, cap, cur, hv, hb, hg, r⟩
  · exact .inl hn
  · exact .inr ⟨g, cap, cur, hv, hb, by rw [hk g (by rw [hv]; rfl)]; exact hg, r⟩

/-- An abstract value stays true while its own block and the blocks of p stay. -/
theorem RdV.keep {w w' : World} {p p' : Nat → Prop} {B : Nat} {sl : Nat → Value} {u : Value} {v : AV} (h : RdV w p B sl u v) (hpp : ∀ b, p b → p' b) (hk : KeepsOn p w w')
    (ho : v.owns = true → ∀ g, blkOf u = some g → ¬ p g → w'.heap[g]? = w.heap[g]? ∧ ¬ p' g) : RdV w' p' B sl u v := by
  induction v with
  | c c => exact RdC.mono hpp hk h
  | agg cs => obtain ⟨vs, h1, h2⟩ := h; exact ⟨vs, h1, h2.mono hpp hk⟩
  | row isnil ty sz es =>
    obtain ⟨h1, ⟨xs, h2, h3⟩, h4⟩ := h
    refine ⟨h1, ⟨xs, ownsRow_keep h2 fun g hg => (ho rfl g hg (h4 g hg)).1, h3.mono hpp hk⟩, fun g hg => (ho rfl g hg (h4 g hg)).2⟩
  | box ty cs =>
    obtain ⟨g, cur, h1, h2, h3, h4, h5⟩ := h
    have hb : blkOf u = some g := by rw [h1]; rfl
    exact ⟨g, cur, h1, h2, (ho rfl g hb h3).2, by rw [(ho rfl g hb h3).1]; exact h4, h5.mono hpp hk⟩
  | alias d => exact h
  | adr d sz i j => exact h
  | adrR sz es i j => obtain ⟨a, cap, h1, h2⟩ := h; exact ⟨a, cap, h1.mono hpp hk, h2⟩
  | view d sz lo hi => exact h
  | fn f => exact h
  | tup vs => obtain ⟨us, h1, h2⟩ := h; exact ⟨us, h1, h2.mono hpp hk⟩
  | opt b v ih => exact ⟨fun hb => ih (h.1 hb) ho, h.2⟩

end Go.Vs
