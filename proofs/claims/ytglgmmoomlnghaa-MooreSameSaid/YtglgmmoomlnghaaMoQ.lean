/-
  PLAIN: classes of states, made finer until they stay.
-/
import Derived.Test.YtglgmmoomlnghaaMoP
set_option linter.unusedSimpArgs false
set_option linter.unusedVariables false
namespace Go.Proofs.Ytglgmmoomlnghaa
open Go Go.Hs

/-! Keys that tell more apart: no fewer numbers; as many just if the same are told apart. -/
section
variable {α β : Type} [DecidableEq α] [DecidableEq β] {key : Nat → α} {key2 : Nat → β}
def fstB {α : Type} [DecidableEq α] (key : Nat → α) (n : Nat) : Bool := ((List.range n).find? (fun k => decide (key k = key n))).isNone
theorem fst_iff {n : Nat} : fstB key n = true ↔ ∀ k,k < n → key k ≠ key n := by
  unfold fstB
  constructor
  · intro h k hk
    have := find_none (Option.isNone_iff_eq_none.1 h) k hk
    exact of_decide_eq_false this
  · intro h
    rw [Option.isNone_iff_eq_none,List.find?_eq_none]
    intro x hx
    simpa using h x (List.mem_range.1 hx)
theorem can_cnt {n : Nat} : (canV key (n + 1)).2 = (canV key n).2 + if fstB key n = true then 1 else 0 := by
  rw [can_succ]
  unfold fstB
  split
  · rename_i h;rw [h];rfl
  · rename_i h;rw [h];rfl
theorem can_more (h : ∀ i k,key2 i = key2 k → key i = key k) : ∀ n,(canV key n).2 ≤ (canV key2 n).2 ∧ ((canV key2 n).2 = (canV key n).2 → ∀ j,j < n → fstB key2 j = true → fstB key j = true)
  | 0 => ⟨Nat.le_refl _,fun _ j hj => by omega⟩
  | n + 1 => by
    obtain ⟨h1,h2⟩ := can_more h n
    have hf : fstB key n = true → fstB key2 n = true := fun hn => fst_iff.2 fun k hk e => fst_iff.1 hn k hk (h _ _ e)
    have c1 := can_cnt (key := key) (n := n)
    have c2 := can_cnt (key := key2) (n := n)
    cases e1 : fstB key n with
    | true =>
      rw [if_pos e1] at c1
      rw [if_pos (hf e1)] at c2
      refine ⟨by omega,fun e j hj hj2 => ?_⟩
      by_cases ej : j = n
      · subst ej;exact e1
      · exact h2 (by omega) j (by omega) hj2
    | false =>
      rw [if_neg (by rw [e1];decide)] at c1
      cases e2 : fstB key2 n with
      | true =>
        rw [if_pos e2] at c2
        exact ⟨by omega,fun e => by omega⟩
      | false =>
        rw [if_neg (by rw [e2];decide)] at c2
        refine ⟨by omega,fun e j hj hj2 => ?_⟩
        by_cases ej : j = n
        · subst ej;rw [e2] at hj2;cases hj2
        · exact h2 (by omega) j (by omega) hj2
/-- The first one with the same key. -/
theorem fst_ex (i : Nat) : ∃ f,f ≤ i ∧ key f = key i ∧ fstB key f = true := by
  induction i using Nat.strongRecOn with
  | _ i ih =>
    cases e : fstB key i with
    | true => exact ⟨i,Nat.le_refl _,rfl,e⟩
    | false =>
      have : ∃ k,k < i ∧ key k = key i := by
        unfold fstB at e
        cases hf : (List.range i).find? (fun k => decide (key k = key i)) with
        | none => rw [hf] at e;cases e
        | some k =>
          obtain ⟨f1,f2⟩ := find_range hf
          exact ⟨k,f1,of_decide_eq_true f2⟩
      obtain ⟨k,k1,k2⟩ := this
      obtain ⟨f,f1,f2,f3⟩ := ih k k1
      exact ⟨f,by omega,by rw [f2,k2],f3⟩
theorem fst_uniq {f g : Nat} (hf : fstB key f = true) (hg : fstB key g = true) (h : key f = key g) : f = g := by
  by_cases e : f < g
  · exact absurd h (fst_iff.1 hg f e)
  · by_cases e2 : g < f
    · exact absurd h.symm (fst_iff.1 hf g e2)
    · omega
theorem can_same (h : ∀ i k,key2 i = key2 k → key i = key k) {n : Nat} (e : (canV key2 n).2 = (canV key n).2) : ∀ i k,i < n → k < n → (key i = key k ↔ key2 i = key2 k) := fun i k hi hk => by
  refine ⟨fun ek => ?_,h i k⟩
  have g := (can_more h n).2 e
  obtain ⟨f,f1,f2,f3⟩ := fst_ex (key := key2) i
  obtain ⟨f',f1',f2',f3'⟩ := fst_ex (key := key2) k
  have := fst_uniq (g f (by omega) f3) (g f' (by omega) f3') (by rw [h _ _ f2,h _ _ f2',ek])
  subst this
  rw [← f2,← f2']
end

def keyD (d : Df) (cls : List Int) (i : Nat) : List Int := lookL (stAt d.sts i) cls i
def clsK (d : Df) : Nat → List Int × Nat
  | 0 => canV (fun _ => ()) d.sts.length
  | n + 1 => canV (keyD d (clsK d n).1) d.sts.length
def finD (d : Df) : List Int := (clsK d (d.sts.length + 1)).1
theorem key_head {d : Df} {cls : List Int} {i k : Nat} (h : keyD d cls i = keyD d cls k) : cls.getD i 0 = cls.getD k 0 := (List.cons.inj h).1
theorem mcl_len {d : Df} : ∀ {n},(clsK d n).1.length = d.sts.length
  | 0 => can_len _
  | n + 1 => can_len _
theorem mcl_le {d : Df} : ∀ {n},(clsK d n).2 ≤ d.sts.length
  | 0 => (can_ok _).2.2.1
  | n + 1 => (can_ok _).2.2.1
theorem mcl_rng {d : Df} : ∀ {n i},i < d.sts.length → 0 ≤ (clsK d n).1.getD i 0 ∧ (clsK d n).1.getD i 0 < (clsK d n).2
  | 0,i,h => (can_ok _).1 i h
  | n + 1,i,h => (can_ok _).1 i h
theorem mcl_zero {d : Df} : (clsK d 0).1 = List.replicate d.sts.length 0 := by
  refine list_ext_getD (by rw [mcl_len,List.length_replicate]) fun t ht => ?_
  rw [mcl_len] at ht
  have h := ((can_ok (key := fun _ : Nat => ()) d.sts.length).2.1 0 t (by omega) ht).2 rfl
  have h0 : (canV (fun _ : Nat => ()) d.sts.length).1.getD 0 0 = 0 := by
    rw [can_get (n := 1) (by omega) (by omega)];rfl
  show (canV (fun _ : Nat => ()) d.sts.length).1.getD t 0 = _
  rw [← h,h0,List.getD_eq_getElem?_getD,List.getElem?_replicate,if_pos ht];rfl
/-- The keys of one round tell no less apart than those of the round before. -/
theorem mcl_same {d : Df} {n i k : Nat} (hi : i < d.sts.length) (hk : k < d.sts.length) : (clsK d (n + 1)).1.getD i 0 = (clsK d (n + 1)).1.getD k 0 ↔ keyD d (clsK d n).1 i = keyD d (clsK d n).1 k := (can_ok _).2.1 i k hi hk
theorem self_can {α : Type} [DecidableEq α] {key : Nat → α} {n : Nat} : canV (fun i => (canV key n).1.getD i 0) n = canV key n :=
  can_congr n fun i k hi hk => (can_ok n).2.1 i k hi hk
theorem mcl_self {d : Df} : ∀ {n},canV (fun i => (clsK d n).1.getD i 0) d.sts.length = clsK d n
  | 0 => self_can
  | n + 1 => self_can
theorem mcl_grow {d : Df} (n : Nat) : (clsK d n).2 ≤ (clsK d (n + 1)).2 ∧ ((clsK d (n + 1)).2 = (clsK d n).2 → clsK d (n + 1) = clsK d n) := by
  have hm : ∀ i k,keyD d (clsK d n).1 i = keyD d (clsK d n).1 k → (fun i => (clsK d n).1.getD i 0) i = (fun i => (clsK d n).1.getD i 0) k := fun i k h => key_head h
  have g := can_more hm d.sts.length
  have e1 : canV (keyD d (clsK d n).1) d.sts.length = clsK d (n + 1) := rfl
  have e2 := mcl_self (d := d) (n := n)
  rw [e1,e2] at g
  refine ⟨g.1,fun e => ?_⟩
  have s := can_same hm (n := d.sts.length) (by rw [e1,e2];exact e)
  rw [← e2]
  exact (can_congr d.sts.length s).symm
theorem mcl_stay {d : Df} {n : Nat} (h : (clsK d (n + 1)).1 = (clsK d n).1) : ∀ m,n ≤ m → (clsK d m).1 = (clsK d n).1
  | 0,hm => by
    have : n = 0 := by omega
    subst this;rfl
  | m + 1,hm => by
    by_cases e : n = m + 1
    · subst e;rfl
    · have ih := mcl_stay h m (by omega)
      have : (clsK d (m + 1)).1 = (clsK d (n + 1)).1 := by
        show (canV (keyD d (clsK d m).1) _).1 = (canV (keyD d (clsK d n).1) _).1
        rw [ih]
      rw [this,h]
/-- Either they stay, or there are more of them. -/
theorem mcl_step {d : Df} (n : Nat) : (clsK d (n + 1)).1 = (clsK d n).1 ∨ (clsK d n).2 < (clsK d (n + 1)).2 := by
  have g := mcl_grow (d := d) n
  by_cases e : (clsK d (n + 1)).2 = (clsK d n).2
  · exact .inl (by rw [g.2 e])
  · exact .inr (by omega)
theorem mcl_many {d : Df} : ∀ n,(∃ m,m < n ∧ (clsK d (m + 1)).1 = (clsK d m).1) ∨ n ≤ (clsK d n).2
  | 0 => .inr (Nat.zero_le _)
  | n + 1 => by
    rcases mcl_many (d := d) n with ⟨m,m1,m2⟩|h
    · exact .inl ⟨m,by omega,m2⟩
    · rcases mcl_step (d := d) n with e|e
      · exact .inl ⟨n,by omega,e⟩
      · exact .inr (by omega)
theorem fin_stays {d : Df} : (clsK d (d.sts.length + 2)).1 = finD d := by
  have hle := mcl_le (d := d) (n := d.sts.length + 1)
  rcases mcl_many (d := d) (d.sts.length + 1) with ⟨m,m1,m2⟩|h
  · exact (mcl_stay m2 (d.sts.length + 2) (by omega)).trans (mcl_stay m2 (d.sts.length + 1) (by omega)).symm
  · omega
/-- Where they stay, they are the last ones. -/
theorem fin_of {d : Df} {n : Nat} (h : (clsK d (n + 1)).1 = (clsK d n).1) : (clsK d n).1 = finD d := by
  by_cases e : n ≤ d.sts.length + 1
  · exact (mcl_stay h _ e).symm
  · exact mcl_stay fin_stays _ (by omega)
theorem fin_key {d : Df} {i k : Nat} (hi : i < d.sts.length) (hk : k < d.sts.length) : (finD d).getD i 0 = (finD d).getD k 0 ↔ keyD d (finD d) i = keyD d (finD d) k := by
  have := mcl_same (d := d) (n := d.sts.length + 1) hi hk
  rw [fin_stays] at this
  exact this

end Go.Proofs.Ytglgmmoomlnghaa
