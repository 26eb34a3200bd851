/-
  PLAIN: two ways from one place; which run, going on, is ahead; the rank of what runs go on to.
-/
import Derived.Test.YtllemobnfpljfaaWithP
import Derived.Test.YtllemobnfpljfaaPlaceQ
set_option linter.unusedSimpArgs false
set_option linter.unusedVariables false
namespace Go.Proofs.Ytllemobnfpljfaa
open Go Go.Hs

theorem gopO_fi {P : Program} {n : Nat} {S : Env} {pu : Bool} {o : Oper} {d : Nat} {K : Env → Prop} (hd : o.dst = some d) (h : d < n ∧ K (S.set d (.opt false (.c (.im (.int .i64 0)))))) : gopO P n pu S o false K := by
  refine .inr ⟨fun h => absurd h (by decide), fun _ => ?_⟩
  rw [hd]
  exact ⟨h.1, _, rfl, h.2⟩
theorem gopO_fb {P : Program} {n : Nat} {S : Env} {pu : Bool} {d : Nat} {c : Call} {pos : String} {after : Array Edge} {gd : Option (Nat × Bool)} {K : Env → Prop} (h : d < n ∧ K (S.set d (.opt false (.c (.im (.bool false)))))) : gopO P n pu S { dst := some d, op := .call c, type := 4, pos := pos, after := after, guard := gd } false K :=
  .inr ⟨fun h => absurd h (by decide), fun _ => ⟨h.1, _, rfl, h.2⟩⟩
theorem gopO_fn {P : Program} {n : Nat} {S : Env} {pu : Bool} {d : Nat} {c : Call} {pos : String} {after : Array Edge} {gd : Option (Nat × Bool)} {K : Env → Prop} (h : d < n ∧ K (S.set d (.opt false (.c (.im (.int .i64 0)))))) : gopO P n pu S { dst := some d, op := .call c, type := 3, pos := pos, after := after, guard := gd } false K :=
  .inr ⟨fun h => absurd h (by decide), fun _ => ⟨h.1, _, rfl, h.2⟩⟩
theorem gopO_fs {P : Program} {n : Nat} {S : Env} {pu : Bool} {d : Nat} {c : Op} {pos : String} {after : Array Edge} {gd : Option (Nat × Bool)} {K : Env → Prop} (h : d < n ∧ K (S.set d (.opt false (.c .nil)))) : gopO P n pu S { dst := some d, op := c, type := 25, pos := pos, after := after, guard := gd } false K :=
  .inr ⟨fun h => absurd h (by decide), fun _ => ⟨h.1, _, rfl, h.2⟩⟩
theorem bneT {a b : Int} (h : a ≠ b) : (a != b) = true := by simpa using h
theorem bneF {a b : Int} (h : a = b) : (a != b) = false := by simpa using h
theorem beqT {a b : Int} (h : a = b) : (a == b) = true := by simpa using h
theorem beqF {a b : Int} (h : a ≠ b) : (a == b) = false := by simpa using h
/-- A way: where to, how it turns, and its steps (none: nil). -/
abbrev Hp := Int × Int × Option (List Int)
def hC : Option (List Int) → AC
  | none => .nil
  | some l => .sl 1 (kRows .i64 l)
theorem rd_dead {w : World} {p : Nat → Prop} {v : Value} {o : Option (List Int)} (h : RdC w p v (hC o)) : RdC w p v .dead := by
  cases o with
  | none => cases h; exact .dead _ rfl
  | some l =>
    have h' : RdC w p v (.sl 1 (kRows .i64 l)) := h
    generalize kRows .i64 l = es at h'
    cases h' <;> exact .dead _ rfl
theorem rdS_hop {w : World} {p : Nat → Prop} {v x y : Value} {o : Option (List Int)} (h : RdS w p v (.agg [.im x, .im y, hC o])) : RdS w p v (.agg [.im x, .im y, .dead]) := by
  obtain ⟨us, rfl, hl⟩ := h
  refine ⟨us, rfl, ?_⟩
  generalize us.toList = l at hl
  cases hl with
  | cons h1 t =>
    cases t with
    | cons h2 t =>
      cases t with
      | cons h3 t => exact .cons h1 (.cons h2 (.cons (rd_dead h3) t))
theorem contract_args {P : Program} {f : FuncId} {args args' : List AV} {H : Env} {R : AV → Env → Prop} (h : ContractH P f args' H R) (hm : ∀ w p vs, RdAs w p vs args → RdAs w p vs args') : ContractH P f args H R :=
  ⟨h.callable, fun w p vs ow hp ha hO => h.calls w p vs ow hp (hm w p vs ha) hO⟩
def hRowsC (h : List Hp) : List (List AC) := h.map fun x => [.im (.int .i64 x.1), .im (.int .i64 x.2.1), hC x.2.2]
def hRows (h : List Hp) : List (List AC) := h.map fun x => [.im (.int .i64 x.1), .im (.int .i64 x.2.1), .dead]
theorem rd_hops {w : World} {p : Nat → Prop} {v : Value} {h : List Hp} (hr : RdC w p v (.sl 3 (hRowsC h))) : RdC w p v (.sl 3 (hRows h)) := by
  have hl : (hRows h).length = (hRowsC h).length := by simp [hRows, hRowsC]
  have hrow : ∀ (i : Nat) e, (hRows h)[i]? = some e → ∃ x : Hp, e = [.im (.int .i64 x.1), .im (.int .i64 x.2.1), .dead] ∧ (hRowsC h)[i]? = some [.im (.int .i64 x.1), .im (.int .i64 x.2.1), hC x.2.2] := by
    intro i e he
    simp only [hRows, hRowsC, List.getElem?_map] at he ⊢
    cases hx : h[i]? with
    | none => rw [hx] at he; cases he
    | some x => rw [hx] at he; simp at he; exact ⟨x, he.symm, rfl⟩
  generalize hRowsC h = es at hr hl hrow
  generalize hRows h = es' at hl hrow ⊢
  cases hr with
  | nilS sz cap =>
    have : es' = [] := List.eq_nil_of_length_eq_zero hl
    subst this
    exact .nilS _ _
  | sl a n cap _ _ us hn hcap hsz hp hc hr =>
    refine .sl a n cap 3 es' us (by rw [hl]; exact hn) hcap (fun e he => ?_) (fun hne => hp ?_) (fun i e j hi hj => ?_) (fun i e j c hi hj => ?_)
    · obtain ⟨i, hi⟩ := List.mem_iff_getElem?.1 he
      obtain ⟨x, rfl, _⟩ := hrow i e hi
      rfl
    · intro h0; apply hne; rw [h0] at hl; exact List.eq_nil_of_length_eq_zero hl
    · obtain ⟨x, rfl, hx⟩ := hrow i e hi
      exact hc i _ j hx hj
    · obtain ⟨x, rfl, hx⟩ := hrow i e hi
      match j, hj with
      | 0, hj => simp at hj; subst hj; exact hr i _ 0 _ hx (by simp)
      | 1, hj => simp at hj; subst hj; exact hr i _ 1 _ hx (by simp)
      | 2, hj => simp at hj; subst hj; exact rd_dead (o := x.2.2) (hr i _ 2 _ hx rfl)
      | j + 3, hj => simp at hj
def hAt (h : List Hp) (i : Nat) : Int × Int := ((h.getD i (0, 0, none)).1, (h.getD i (0, 0, none)).2.1)
def hO (h : List Hp) (i : Nat) : Option (List Int) := (h.getD i (0, 0, none)).2.2
theorem length_hRows {h : List Hp} : (hRows h).length = h.length := by simp [hRows]
theorem getH0 {z : AC} {h : List Hp} {i : Nat} (hi : i < h.length) : getC z (hRows h) i 0 = .im (.int .i64 (hAt h i).1) := by
  unfold getC hAt
  simp [hRows, List.getD_eq_getElem?_getD, hi]
theorem getH1 {z : AC} {h : List Hp} {i : Nat} (hi : i < h.length) : getC z (hRows h) i 1 = .im (.int .i64 (hAt h i).2) := by
  unfold getC hAt
  simp [hRows, List.getD_eq_getElem?_getD, hi]
theorem getHR {z : List AC} {h : List Hp} {i : Nat} (hi : i < h.length) : getR z (hRows h) i 0 3 = [.im (.int .i64 (hAt h i).1), .im (.int .i64 (hAt h i).2), .dead] := by
  unfold getR hAt
  simp [hRows, List.getD_eq_getElem?_getD, hi]

def inP (l : List Tm) (a : Int) : Bool := decide (0 ≤ a) && decide (a < (placesF l).length)
def forkQ (l : List Tm) (a c : Int) : Int := joinF2 l ((placesF l).getD a.toNat 0) ((placesF l).getD c.toNat 0)
def forkD (l : List Tm) (a c : Int) : Int := (deepF l).getD (forkQ l a c).toNat 0 + 1
def forkF (l : List Tm) (x y : Int × Int) : Int × Int × Int :=
  if ¬(inP l x.1 = true ∧ inP l y.1 = true ∧ x.1 ≠ y.1) then (0, 0, 0)
  else if y.2 < x.2 then (x.2 + 1, y.2 + 1, 1)
  else if x.2 < y.2 then (x.2 + 1, y.2 + 1, -1)
  else if y.1 < x.1 then (forkD l x.1 y.1, if (tAt l (forkQ l x.1 y.1).toNat).k = 3 then forkD l x.1 y.1 + 1 else forkD l x.1 y.1, -1)
  else (if (tAt l (forkQ l x.1 y.1).toNat).k = 3 then forkD l x.1 y.1 + 1 else forkD l x.1 y.1, forkD l x.1 y.1, 1)
theorem forkQ_comm {l : List Tm} {a c : Int} : forkQ l a c = forkQ l c a := by
  unfold forkQ; rw [joinF2_comm]
theorem forkD_comm {l : List Tm} {a c : Int} : forkD l a c = forkD l c a := by
  unfold forkD; rw [forkQ_comm]
theorem fork_swap {l : List Tm} {x y : Int × Int} : forkF l y x = ((forkF l x y).2.1, (forkF l x y).1, - (forkF l x y).2.2) := by
  by_cases h : inP l x.1 = true ∧ inP l y.1 = true ∧ x.1 ≠ y.1
  · have h2 : inP l y.1 = true ∧ inP l x.1 = true ∧ y.1 ≠ x.1 := ⟨h.2.1, h.1, fun e => h.2.2 e.symm⟩
    have h3 := h.2.2
    unfold forkF
    rw [if_neg (not_not_intro h), if_neg (not_not_intro h2), forkD_comm (a := y.1), forkQ_comm (a := y.1)]
    by_cases e1 : y.2 < x.2
    · have e1' : ¬ x.2 < y.2 := by omega
      simp only [e1, e1', ↓reduceIte]
    · by_cases e2 : x.2 < y.2
      · simp only [e1, e2, ↓reduceIte]; try rfl
      · by_cases e3 : y.1 < x.1
        · have e3' : ¬ x.1 < y.1 := by omega
          simp only [e1, e2, e3, e3', ↓reduceIte]; try rfl
        · have e3' : x.1 < y.1 := by omega
          simp only [e1, e2, e3, e3', ↓reduceIte]
  · have h2 : ¬(inP l y.1 = true ∧ inP l x.1 = true ∧ y.1 ≠ x.1) := fun e => h ⟨e.2.1, e.1, fun e' => e.2.2 e'.symm⟩
    unfold forkF
    rw [if_pos h, if_pos h2]; rfl

/-- How far up a run has closed, going on. -/
def numF (b t : Int) : Int := if b < t + 1 then b else t + 1
/-- Run i, going on, against run k. -/
def lowH (b : List (List Int)) (fr : List Int) (h : List Hp) (i k : Nat) : Int := numF (rGet b (fr.getD i 0).toNat (fr.getD k 0).toNat) (hAt h i).2
def agF (b d : List (List Int)) (fr : List Int) (h : List Hp) (i k : Nat) : Int :=
  if lowH b fr h k i < lowH b fr h i k then 1 else if lowH b fr h i k < lowH b fr h k i then -1 else rGet d (fr.getD i 0).toNat (fr.getD k 0).toNat
def hasR (b : List (List Int)) (a : Int) : Prop := 0 ≤ a ∧ a < b.length
instance {b : List (List Int)} {a : Int} : Decidable (hasR b a) := by unfold hasR; infer_instance
def pickN (b d : List (List Int)) (fr : List Int) (h : List Hp) : Nat → Int
  | 0 => -1
  | i + 1 => if hasR b (fr.getD i 0) ∧ (pickN b d fr h i < 0 ∨ 0 < agF b d fr h i (pickN b d fr h i).toNat) then i else pickN b d fr h i
def pickF (b d : List (List Int)) (fr : List Int) (h : List Hp) : Int := if rkB b d b.length then pickN b d fr h (min fr.length h.length) else -1
theorem pickN_in {b d : List (List Int)} {fr : List Int} {h : List Hp} : ∀ i : Nat, -1 ≤ pickN b d fr h i ∧ pickN b d fr h i < i ∧ (0 ≤ pickN b d fr h i → hasR b (fr.getD (pickN b d fr h i).toNat 0))
  | 0 => by simp [pickN]
  | i + 1 => by
    obtain ⟨h1, h2, h3⟩ := pickN_in (b := b) (d := d) (fr := fr) (h := h) i
    unfold pickN
    split
    · rename_i e
      exact ⟨by omega, by omega, fun _ => by rw [Int.toNat_natCast]; exact e.1⟩
    · exact ⟨h1, by omega, h3⟩

def nxB (l : List Tm) (b d : List (List Int)) (fr : List Int) (h : List Hp) (i k : Nat) : Int :=
  if i = k then 0 else if fr.getD i 0 = fr.getD k 0 then (forkF l (hAt h i) (hAt h k)).1 else lowH b fr h i k
def nxD (l : List Tm) (b d : List (List Int)) (fr : List Int) (h : List Hp) (i k : Nat) : Int :=
  if i = k then 0 else if fr.getD i 0 = fr.getD k 0 then (forkF l (hAt h i) (hAt h k)).2.2 else agF b d fr h i k
def tabF (n : Nat) (f : Nat → Nat → Int) : List (List Int) := (List.range n).map fun i => (List.range n).map fun k => f i k
def okNext (b d : List (List Int)) (fr : List Int) (h : List Hp) : Prop := rkB b d b.length = true ∧ fr.length = h.length ∧ ∀ i : Nat, i < fr.length → hasR b (fr.getD i 0)
def nextB (l : List Tm) (b d : List (List Int)) (fr : List Int) (h : List Hp) : List (List Int) := tabF fr.length (nxB l b d fr h)
def nextD (l : List Tm) (b d : List (List Int)) (fr : List Int) (h : List Hp) : List (List Int) := tabF fr.length (nxD l b d fr h)
instance {b d : List (List Int)} {fr : List Int} {h : List Hp} : Decidable (okNext b d fr h) := by unfold okNext; infer_instance
def nextBF (l : List Tm) (b d : List (List Int)) (fr : List Int) (h : List Hp) : List (List Int) := if okNext b d fr h then nextB l b d fr h else []
def nextDF (l : List Tm) (b d : List (List Int)) (fr : List Int) (h : List Hp) : List (List Int) := if okNext b d fr h then nextD l b d fr h else []
theorem tab_ext {m : List (List Int)} {n : Nat} {f : Nat → Nat → Int} (h : m.length = n) (h1 : ∀ i, i < n → (rAt m i).length = n) (h2 : ∀ i k, i < n → k < n → rGet m i k = f i k) : m = tabF n f := by
  refine rows_ext (by simp [h, tabF]) fun i hi => ?_
  have e : rAt (tabF n f) i = (List.range n).map fun k => f i k := by
    unfold rAt tabF
    simp [List.getD_eq_getElem?_getD, h ▸ hi]
  rw [e]
  refine ints_ext (by simp [h1 i (h ▸ hi)]) fun k hk => ?_
  have hk2 : k < n := by rw [h1 i (h ▸ hi)] at hk; exact hk
  have := h2 i k (h ▸ hi) hk2
  unfold rGet at this
  rw [this]
  simp [List.getD_eq_getElem?_getD, hk2]

end Go.Proofs.Ytllemobnfpljfaa
