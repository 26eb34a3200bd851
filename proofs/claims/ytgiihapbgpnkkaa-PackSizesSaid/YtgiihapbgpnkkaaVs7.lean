/-
  THE VALUE SEMANTICS, part 7: how the relation goes on over a new value in a slot, a new block, a store into a block of the activation's own; what is owned becomes what is only read.
-/
import Derived.Test.YtgiihapbgpnkkaaVs6
namespace Go.Vs
open Go Go.RowKit

section
variable {P : Program} {n : Nat} {p0 : Nat → Prop} {w0 : World} {S : Env} {a : Act} {w : World} {p : Nat → Prop}

theorem slotOf_put_same {d : Nat} {u : Value} (h : d < a.tmps.size) : slotOf (a.put (some d) u) d = u := by
  simp [slotOf, Act.put, h]

theorem slotOf_put_other {d d' : Nat} {u : Value} (h : d' ≠ d) : slotOf (a.put (some d) u) d' = slotOf a d' := by
  have h' : d ≠ d' := Ne.symm h
  simp [slotOf, Act.put, Array.getD_eq_getD_getElem?, h']

theorem size_put (o : Option Nat) (u : Value) : (a.put o u).tmps.size = a.tmps.size := by
  cases o <;> simp [Act.put]

theorem blk_lt {w : World} {p : Nat → Prop} {B : Nat} {sl : Nat → Value} {u : Value} {v : AV} {g : Nat} (h : RdV w p B sl u v) (hv : v.owns = true) (hb : blkOf u = some g) : B ≤ g ∧ g < w.heap.size ∧ ¬ p g := by
  induction v with
  | row isnil ty sz es =>
    obtain ⟨_, ⟨xs, h2, _⟩, h4⟩ := h
    rcases ownsRow_slice h2 with ⟨hn, _⟩ | ⟨g', cap, hv', _, hB, hlt⟩
    · rw [hn] at hb; simp [blkOf] at hb
    · have := h4 g hb
      rw [hv'] at hb; simp [blkOf] at hb; subst hb
      exact ⟨hB, hlt, this⟩
  | box ty cs =>
    obtain ⟨g', cur, h1, h2, h3, h4, _⟩ := h
    rw [h1] at hb; simp [blkOf] at hb; subst hb
    exact ⟨h2, (Array.getElem?_eq_some_iff.1 h4).1, h3⟩
  | opt b v ih =>
    by_cases hbt : b = true
    · exact ih (h.1 hbt) hv
    · have := h.2 (by simpa using hbt)
      rw [this] at hb; simp [undef, blkOf] at hb
  | _ => simp [AV.owns] at hv

/-- A new value in slot d; memory may have gone on. -/
theorem rel_upd (hR : Rel n p0 w0 S a w p) {S0 : Env} {d : Nat} {u : Value} {v : AV} {w' : World} {p' : Nat → Prop}
    (hsub : ∀ d' v', (d', v') ∈ S0 → (d', v') ∈ S ∧ d' ≠ d ∧ v'.refs ≠ some d) (hd : d < n)
    (hbel : Below w0.heap.size w w') (hplt : ∀ b, p' b → b < w'.heap.size) (hpn : ∀ b, p' b → p0 b ∨ w0.heap.size ≤ b)
    (hpp : ∀ b, p b → p' b) (hk : KeepsOn p w w')
    (hown : ∀ d' v' g, (d', v') ∈ S0 → v'.owns = true → blkOf (slotOf a d') = some g → ¬ p g → w'.heap[g]? = w.heap[g]? ∧ ¬ p' g)
    (hnew : RdV w' p' w0.heap.size (slotOf (a.put (some d) u)) u v)
    (hsep : v.owns = true → ∀ g, blkOf u = some g → ∀ d' v', (d', v') ∈ S0 → v'.owns = true → blkOf (slotOf a d') ≠ some g) :
    Rel n p0 w0 ((d, v) :: S0) (a.put (some d) u) w' p' := by
  have hsz : d < a.tmps.size := Nat.lt_of_lt_of_le hd hR.size
  refine ⟨by simp [Act.put, hR.defers], by rw [size_put]; exact hR.size, hR.below.trans hbel, hplt, hpn, ?_, ?_⟩
  · intro d' v' hm
    cases hm with
    | head => rw [slotOf_put_same hsz]; exact hnew
    | tail _ hm =>
      obtain ⟨h1, h2, h3⟩ := hsub _ _ hm
      rw [slotOf_put_other h2]
      refine RdV.congr (sl := slotOf a) ((hR.vals _ _ h1).keep hpp hk fun ho g hg hp => hown _ _ g hm ho hg hp) ?_
      intro r hr
      exact slotOf_put_other (by intro he; subst he; exact h3 hr)
  · intro d1 d2 v1 v2 g h1 h2 hne o1 o2 hb
    cases h1 with
    | head =>
      cases h2 with
      | head => exact absurd rfl hne
      | tail _ h2 =>
        rw [slotOf_put_same hsz] at hb
        rw [slotOf_put_other (hsub _ _ h2).2.1]
        exact hsep o1 g hb _ _ h2 o2
    | tail _ h1 =>
      rw [slotOf_put_other (hsub _ _ h1).2.1] at hb
      cases h2 with
      | head =>
        rw [slotOf_put_same hsz]
        intro hb2
        exact hsep o2 g hb2 _ _ h1 o1 hb
      | tail _ h2 =>
        rw [slotOf_put_other (hsub _ _ h2).2.1]
        exact hR.sep _ _ _ _ g (hsub _ _ h1).1 (hsub _ _ h2).1 hne o1 o2 hb

/-- The same where memory stays as it is and nothing is owned anew. -/
theorem rel_set (hR : Rel n p0 w0 S a w p) {d : Nat} {u : Value} {v : AV} (hd : d < n) (hrefs : v.refs ≠ some d) (hno : v.owns = false) (hv : RdV w p w0.heap.size (slotOf a) u v) :
    Rel n p0 w0 (S.set d v) (a.put (some d) u) w p := by
  refine rel_upd hR (fun d' v' h => Env.mem_drop h) hd (Below.refl _ _) hR.plt hR.pnew (fun _ h => h) (fun _ _ => rfl) (fun _ _ _ _ _ _ h => ⟨rfl, h⟩) ?_ (fun h => by rw [hno] at h; cases h)
  exact RdV.congr hv fun r hr => slotOf_put_other (by intro he; subst he; exact hrefs hr)

/-- Another world in which nothing of ours has turned. -/
theorem rel_world (hR : Rel n p0 w0 S a w p) {w' : World} (hb : Below w.heap.size w w') : Rel n p0 w0 S a w' p := by
  have hk : KeepsOn p w w' := fun b hp => hb.block b (hR.plt b hp)
  refine ⟨hR.defers, hR.size, hR.below.trans (hb.mono hR.below.size), fun b hp => Nat.lt_of_lt_of_le (hR.plt b hp) hb.size, hR.pnew, ?_, hR.sep⟩
  intro d v hm
  refine (hR.vals d v hm).keep (fun _ h => h) hk fun ho g hg hp => ⟨hb.block g (blk_lt (hR.vals d v hm) ho hg).2.1, hp⟩

theorem rel_sub (hR : Rel n p0 w0 S a w p) {S' : Env} (h : ∀ d v, (d, v) ∈ S' → (d, v) ∈ S) : Rel n p0 w0 S' a w p :=
  ⟨hR.defers, hR.size, hR.below, hR.plt, hR.pnew, fun d v hm => hR.vals d v (h d v hm), fun d d' v v' g h1 h2 => hR.sep d d' v v' g (h _ _ h1) (h _ _ h2)⟩

theorem rel_restr (hR : Rel n p0 w0 S a w p) (ks : List Nat) : Rel n p0 w0 (S.restr ks) a w p := rel_sub hR fun _ _ h => Env.mem_restr h

/-- A new block of our own behind all that was there. -/
theorem rel_new (hR : Rel n p0 w0 S a w p) {d : Nat} {u : Value} {v : AV} (o : Obj) (hd : d < n) (hrefs : v.refs ≠ some d) (hblk : v.owns = true → ∀ g, blkOf u = some g → g = w.heap.size)
    (hv : RdV (w.alloc o) p w0.heap.size (slotOf a) u v) :
    Rel n p0 w0 (S.set d v) (a.put (some d) u) (w.alloc o) p := by
  have hkeep : ∀ b, b < w.heap.size → (w.alloc o).heap[b]? = w.heap[b]? := fun b hb => Below.heap_alloc w o b hb
  refine rel_upd hR (fun d' v' h => Env.mem_drop h) hd ((Below.refl _ _).alloc hR.below.size _) (fun b hp => by have := hR.plt b hp; simp; omega) hR.pnew (fun _ h => h) (fun b hb => hkeep b (hR.plt b hb)) ?_ ?_ ?_
  · intro d' v' g hm ho hg hp
    exact ⟨hkeep g (blk_lt (hR.vals _ _ (Env.mem_drop hm).1) ho hg).2.1, hp⟩
  · exact RdV.congr hv fun r hr => slotOf_put_other (by intro he; subst he; exact hrefs hr)
  · intro ho g hg d' v' hm ho' hg'
    have := (blk_lt (hR.vals _ _ (Env.mem_drop hm).1) ho' hg').2.1
    have := hblk ho g hg
    omega

def Env.upd : Env → Nat → AV → Env
  | [], _, _ => []
  | (k, u) :: r, d, v => if k = d then (k, v) :: Env.upd r d v else (k, u) :: Env.upd r d v

theorem Env.mem_upd {S : Env} {d d' : Nat} {v v' : AV} (h : (d', v') ∈ S.upd d v) : (d' = d ∧ v' = v) ∨ ((d', v') ∈ S ∧ d' ≠ d) := by
  induction S with
  | nil => simp [Env.upd] at h
  | cons x r ih =>
    obtain ⟨k, u⟩ := x
    simp only [Env.upd] at h
    split at h
    · rename_i hk
      cases h with
      | head => exact .inl ⟨hk, rfl⟩
      | tail _ h =>
        rcases ih h with h | ⟨h1, h2⟩
        · exact .inl h
        · exact .inr ⟨List.mem_cons_of_mem _ h1, h2⟩
    · rename_i hk
      cases h with
      | head => exact .inr ⟨by simp, hk⟩
      | tail _ h =>
        rcases ih h with h | ⟨h1, h2⟩
        · exact .inl h
        · exact .inr ⟨List.mem_cons_of_mem _ h1, h2⟩

/-- What slot d owns has turned, in place: the slot's value stays. -/
theorem rel_turn (hR : Rel n p0 w0 S a w p) {d g : Nat} {v v' : AV} {w' : World} (hd : S.get d = some v) (ho : v.owns = true) (hg : blkOf (slotOf a d) = some g) (hrefs : v'.refs = none)
    (hbel : Below w0.heap.size w w') (hk : ∀ b, b ≠ g → b < w.heap.size → w'.heap[b]? = w.heap[b]?)
    (hv : RdV w' p w0.heap.size (slotOf a) (slotOf a d) v') : Rel n p0 w0 (S.upd d v') a w' p := by
  have hng : ¬ p g := (blk_lt (hR.get hd) ho hg).2.2
  have hkp : KeepsOn p w w' := fun b hb => hk b (by intro h; subst h; exact hng hb) (hR.plt b hb)
  refine ⟨hR.defers, hR.size, hR.below.trans hbel, fun b hp => Nat.lt_of_lt_of_le (hR.plt b hp) hbel.size, hR.pnew, ?_, ?_⟩
  · intro d' v1 hm
    rcases Env.mem_upd hm with ⟨rfl, rfl⟩ | ⟨h1, h2⟩
    · exact hv
    · refine (hR.vals _ _ h1).keep (fun _ h => h) hkp fun ho' g' hg' hp => ⟨hk g' ?_ (blk_lt (hR.vals _ _ h1) ho' hg').2.1, hp⟩
      intro he; subst he
      exact hR.sep _ _ _ _ g' (Env.mem_of_get hd) h1 (Ne.symm h2) ho ho' hg hg'
  · intro d1 d2 v1 v2 g' h1 h2 hne o1 o2 hb
    rcases Env.mem_upd h1 with ⟨rfl, rfl⟩ | ⟨h1', h1n⟩
    · rcases Env.mem_upd h2 with ⟨rfl, rfl⟩ | ⟨h2', h2n⟩
      · exact absurd rfl hne
      · exact hR.sep _ _ _ _ g' (Env.mem_of_get hd) h2' hne ho o2 hb
    · rcases Env.mem_upd h2 with ⟨rfl, rfl⟩ | ⟨h2', h2n⟩
      · exact hR.sep _ _ _ _ g' h1' (Env.mem_of_get hd) hne o1 ho hb
      · exact hR.sep _ _ _ _ g' h1' h2' hne o1 o2 hb

theorem rdF_get_us {sz : Nat} {es : List (List AC)} {xs : List Value} (h : RdF w p sz es xs) : ∀ i e j, es[i]? = some e → j < sz → ∃ u, xs[i * sz + j]? = some u ∧ ∀ c, e[j]? = some c → RdC w p u c := by
  intro i e j hi hj
  have hl : e.length = sz := h.1 e (List.mem_of_getElem? hi)
  obtain ⟨u, hu, hr⟩ := h.get hi (List.getElem?_eq_getElem (by omega : j < e.length))
  exact ⟨u, hu, fun c hc => by rw [List.getElem?_eq_getElem (by omega : j < e.length)] at hc; simp at hc; subst hc; exact hr⟩

/-- An owned row read as a slice that is only read. -/
theorem rdC_of_row {B ty sz : Nat} {u : Value} {es : List (List AC)} {xs : List Value} {p' : Nat → Prop} (h2 : w.ownsRow B ty sz u es.length xs) (h3 : RdF w p sz es xs) (hpp : ∀ b, p b → p' b) (hg : ∀ g, blkOf u = some g → p' g) : RdC w p' u (.sl sz es) := by
  have h3' : RdF w p' sz es xs := h3.mono hpp (fun _ _ => rfl)
  rcases ownsRow_slice h2 with ⟨hn, h0⟩ | ⟨g, cap, hv, hcap, _, _⟩
  · have : es = [] := List.eq_nil_of_length_eq_zero h0
    rw [hn, this]; exact .nilS _ _
  · subst hv
    let f : Nat → Nat → Value := fun i j => xs.getD (i * sz + j) undef
    have hf : ∀ i e j, es[i]? = some e → j < sz → xs[i * sz + j]? = some (f i j) ∧ ∀ c, e[j]? = some c → RdC w p' (f i j) c := by
      intro i e j hi hj
      obtain ⟨u, hu, hr⟩ := rdF_get_us h3' i e j hi hj
      have : f i j = u := by show xs.getD _ _ = u; rw [List.getD_eq_getElem?_getD, hu]; rfl
      rw [this]; exact ⟨hu, hr⟩
    refine .sl ⟨g, 0, none⟩ es.length cap sz es f rfl hcap h3.1 (fun _ => hg g rfl) ?_ ?_
    · intro i e j hi hj
      rw [addr_add_zero]
      have hx := (hf i e j hi hj).1
      rw [h2.cellAt]
      · exact hx
      · have := (List.getElem?_eq_some_iff.1 hx).1
        rw [h2.1] at this; exact this
    · intro i e j c hi hc
      have hl : e.length = sz := h3.1 e (List.mem_of_getElem? hi)
      exact (hf i e j hi (by have := (List.getElem?_eq_some_iff.1 hc).1; omega)).2 c hc

/-- What slot d owns is only read from now on. -/
theorem rel_pub (hR : Rel n p0 w0 S a w p) {d ty sz : Nat} {isnil : Bool} {es : List (List AC)} (hd : S.get d = some (.row isnil ty sz es)) :
    ∃ p', Rel n p0 w0 (S.upd d (.c (.sl sz es))) a w p' ∧ RdC w p' (slotOf a d) (.sl sz es) ∧ ∀ b, p b → p' b := by
  let p' : Nat → Prop := fun b => p b ∨ blkOf (slotOf a d) = some b
  have hr := hR.get hd
  have hc : RdC w p' (slotOf a d) (.sl sz es) := by
    obtain ⟨_, ⟨xs, h2, h3⟩, h4⟩ := hr
    exact rdC_of_row h2 h3 (fun _ h => .inl h) (fun g hg => .inr hg)
  have hmine : ∀ b, blkOf (slotOf a d) = some b → w0.heap.size ≤ b ∧ b < w.heap.size := fun b hb => let h := blk_lt hr rfl hb; ⟨h.1, h.2.1⟩
  refine ⟨p', ⟨hR.defers, hR.size, hR.below, ?_, ?_, ?_, ?_⟩, hc, fun b h => .inl h⟩
  · rintro b (h | h)
    · exact hR.plt b h
    · exact (hmine b h).2
  · rintro b (h | h)
    · exact hR.pnew b h
    · exact .inr (hmine b h).1
  · intro d' v1 hm
    rcases Env.mem_upd hm with ⟨rfl, rfl⟩ | ⟨h1, h2⟩
    · exact hc
    · refine (hR.vals _ _ h1).keep (fun _ h => .inl h) (fun _ _ => rfl) fun ho' g' hg' hp => ⟨rfl, ?_⟩
      rintro (h | h)
      · exact hp h
      · exact hR.sep _ _ _ _ g' (Env.mem_of_get hd) h1 (Ne.symm h2) rfl ho' h hg'
  · intro d1 d2 v1 v2 g' h1 h2 hne o1 o2 hb
    rcases Env.mem_upd h1 with ⟨rfl, rfl⟩ | ⟨h1', h1n⟩
    · simp [AV.owns] at o1
    · rcases Env.mem_upd h2 with ⟨rfl, rfl⟩ | ⟨h2', h2n⟩
      · simp [AV.owns] at o2
      · exact hR.sep _ _ _ _ g' h1' h2' hne o1 o2 hb

/-- An operand for good: what is owned is only read from now on. -/
def evP (S : Env) (x : Operand) (K : Env → AV → Prop) : Prop :=
  evK S true x fun
    | .alias d => match S.get d with
      | some (.row _ _ sz es) => K (S.upd d (.c (.sl sz es))) (.c (.sl sz es))
      | _ => False
    | v => K S v

theorem evP_sound' (hR : Rel n p0 w0 S a w p) {x : Operand} {K : Env → AV → Prop} (h : evP S x K) :
    ∃ S' v p', K S' v ∧ Rel n p0 w0 S' a w p' ∧ RdV w p' w0.heap.size (slotOf a) (a.eval x) v ∧ ∀ b, p b → p' b := by
  obtain ⟨v, hv, hx⟩ := evK_sound hR h
  replace hx := hx rfl
  clear h
  split at hv
  · rename_i d
    split at hv
    · rename_i isnil ty sz es hd
      obtain ⟨p', h1, h2, h3⟩ := rel_pub hR hd
      refine ⟨_, _, p', hv, h1, ?_, h3⟩
      have : a.eval x = slotOf a d := hx
      rw [this]; exact h2
    · exact hv.elim
  · exact ⟨_, _, p, hv, hR, hx, fun _ h => h⟩

theorem evP_sound (hR : Rel n p0 w0 S a w p) {x : Operand} {K : Env → AV → Prop} (h : evP S x K) :
    ∃ S' v p', K S' v ∧ Rel n p0 w0 S' a w p' ∧ RdV w p' w0.heap.size (slotOf a) (a.eval x) v :=
  let ⟨S', v, p', h1, h2, h3, _⟩ := evP_sound' hR h
  ⟨S', v, p', h1, h2, h3⟩

end
end Go.Vs
