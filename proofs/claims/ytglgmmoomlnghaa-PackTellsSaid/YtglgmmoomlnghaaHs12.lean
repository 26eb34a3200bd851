/-
  THE HEAP SEMANTICS, part 12: regions that draw their order, some of whose operations turn memory: what only reads may be taken first, if all that turn wait for it. No abstract value in sight.
-/
import Derived.Test.YtglgmmoomlnghaaHs11
import Derived.OrdersHeld
namespace Go.Hs
open Go

section
variable {P : Program} {ops : Array Oper} {Q : Exit → Act → World → Prop} {md : Region.Mode} {E : List Nat} {T : World → Prop}

/-- Whatever order is picked from here on; behind each operation that is carried out and does not turn memory T holds, till one that does. -/
def wpAnyG (P : Program) (md : Region.Mode) (ops : Array Oper) (Q : Exit → Act → World → Prop) (E : List Nat) (T : World → Prop) : Nat → Array Bool → Act → World → Prop
  | 0,listed,a,w => Region.ready md ops listed = [] ∧ Q .normal a w
  | fuel + 1,listed,a,w =>
    (Region.ready md ops listed = [] → Q .normal a w) ∧
    ∀ i ∈ Region.ready md ops listed,wpOp P ops Q i (fun a' w' => (i ∈ E → wpAny P md ops Q fuel (listed.setIfInBounds i true) a' w') ∧ (i ∉ E → T w' ∧ wpAnyG P md ops Q E T fuel (listed.setIfInBounds i true) a' w')) a w

theorem wpAny_of_G : ∀ (fuel : Nat) (listed : Array Bool) (a : Act) (w : World),wpAnyG P md ops Q E T fuel listed a w → wpAny P md ops Q fuel listed a w
  | 0,_,_,_,h => h
  | fuel + 1,_,_,_,h => ⟨h.1,fun i hi => wpOp_mono (fun a' w' h' => by
      by_cases hE : i ∈ E
      · exact h'.1 hE
      · exact wpAny_of_G fuel _ a' w' (h'.2 hE).2) (h.2 i hi)⟩

/-- All that is listed had all that it waits for listed. -/
def Closed (md : Region.Mode) (ops : Array Oper) (listed : Array Bool) : Prop :=
  ∀ k o,ops[k]? = some o → listed.getD k false = true → ∀ e ∈ o.after,Region.binds md e = true → listed.getD e.on false = true

theorem closed_start : Closed md ops (Array.replicate ops.size false) := by
  intro k o hk h
  have hlt := (Array.getElem?_eq_some_iff.1 hk).1
  simp [hlt] at h

theorem closed_step {listed : Array Bool} {i : Nat} (h : Closed md ops listed) (hi : i ∈ Region.ready md ops listed) : Closed md ops (listed.setIfInBounds i true) := by
  intro k o hk hl e he hb
  obtain ⟨h0,oi,hoi,hall⟩ := mem_ready.1 hi
  by_cases hki : i = k
  · subst hki
    rw [hk] at hoi;cases hoi
    exact getD_set_true (hall e he hb)
  · rw [getD_set_ne false hki] at hl
    exact getD_set_true (h k o hk hl e he hb)

/-- k waits for i, directly or through others. -/
def waits (md : Region.Mode) (ops : Array Oper) (i : Nat) : Nat → Nat → Bool
  | 0,_ => false
  | m + 1,k => match ops[k]? with
    | some o => o.after.any fun e => Region.binds md e && (e.on == i || waits md ops i m e.on)
    | none => false

theorem waits_listed {listed : Array Bool} (hc : Closed md ops listed) {i : Nat} : ∀ {m k : Nat},waits md ops i m k = true → (∀ o,ops[k]? = some o → ∀ e ∈ o.after,Region.binds md e = true → listed.getD e.on false = true) → listed.getD i false = true
  | 0,k,h,_ => by simp [waits] at h
  | m + 1,k,h,hall => by
    simp only [waits] at h
    split at h
    · rename_i o ho
      obtain ⟨e,he,hb⟩ := Array.any_eq_true'.1 h
      simp only [Bool.and_eq_true,Bool.or_eq_true,beq_iff_eq] at hb
      obtain ⟨hb1,hb2⟩ := hb
      have hl := hall o ho e he hb1
      rcases hb2 with hb2|hb2
      · rw [← hb2];exact hl
      · exact waits_listed hc hb2 fun o' ho' e' he' hb' => hc e.on o' ho' hl e' he' hb'
    · cases h

/-- **An operation that may come up now may be taken first**, if it yields its value in every world that meets T, and whatever turns memory waits for it; or if it yields it in any world. -/
theorem wpAnyG_first {i : Nat} {oi : Oper} {v : Value} (hi : ops[i]? = some oi) (hsel : ∀ (j : Nat) (o : Oper) cs b,ops[j]? = some o → o.op ≠ .select cs b)
    (hQ : ∀ c a w,Q (.panic c) (a.put oi.dst v) w → Q (.panic c) a w) :
    ∀ (fuel : Nat) (listed : Array Bool) (a : Act) (w : World),
      (∀ j oj,ops[j]? = some oj → j ≠ i → listed.getD j true = false → (∀ e ∈ oj.after,Region.binds md e = true → e.on ≠ i) → oi.apart ops oj = true) →
      Closed md ops listed → i ∉ E → (∀ e ∈ E,listed.getD e true = false → ∃ m,waits md ops i m e = true) → i ∈ Region.ready md ops listed → YieldsIf P ops T oi v a → T w →
      wpAnyG P md ops Q E T fuel (listed.setIfInBounds i true) (a.put oi.dst v) w → wpAnyG P md ops Q E T (fuel + 1) listed a w := by
  intro fuel
  induction fuel with
  | zero =>
    intro listed a w _ hc hiE hE hr hy hT H
    refine ⟨fun h => (by rw [h] at hr;cases hr),fun j hj => ?_⟩
    by_cases hji : j = i
    · subst hji;exact hy.wpOp hi hT ⟨fun h => absurd h hiE,fun _ => ⟨hT,H⟩⟩
    · have := ready_mono hj hji
      rw [H.1] at this
      cases this
  | succ fuel ih =>
    intro listed a w hfree hc hiE hE hr hy hT H
    refine ⟨fun h => (by rw [h] at hr;cases hr),fun j hj => ?_⟩
    by_cases hji : j = i
    · subst hji;exact hy.wpOp hi hT ⟨fun h => absurd h hiE,fun _ => ⟨hT,H⟩⟩
    · have h1 := H.2 j (ready_mono hj hji)
      obtain ⟨hjun,oj,hoj,hall⟩ := mem_ready.1 hj
      have hi0 : listed.getD i false = false := by
        have h0 := (mem_ready.1 hr).1
        rcases Nat.lt_or_ge i listed.size with h'|h'
        · simp [h'] at h0 ⊢;exact h0
        · simp [Array.getElem?_eq_none h']
      have hnot : ∀ e ∈ oj.after,Region.binds md e = true → e.on ≠ i := fun e he hb heq => by
        have h1 := hall e he hb
        rw [heq,hi0] at h1
        cases h1
      have hjE : j ∉ E := by
        intro hjE
        obtain ⟨m,hm⟩ := hE j hjE hjun
        have := waits_listed hc hm fun o ho e he hb => by rw [hoj] at ho;cases ho;exact hall e he hb
        rw [hi0] at this
        cases this
      have h2 := wpOp_putIf (S := T) hoj (hfree j oj hoj hji hjun hnot) (fun cs b => hsel i oi cs b hi) (fun cs b => hsel j oj cs b hoj) hQ hy h1
      have hun : ∀ k,(listed.setIfInBounds j true).getD k true = false → listed.getD k true = false := by
        intro k hk
        by_cases hjk : j = k
        · subst hjk;exact hjun
        · rw [getD_set_ne true hjk] at hk;exact hk
      have hfree' : ∀ k ok,ops[k]? = some ok → k ≠ i → (listed.setIfInBounds j true).getD k true = false →
          (∀ e ∈ ok.after,Region.binds md e = true → e.on ≠ i) → oi.apart ops ok = true := fun k ok hk hki hkun hno => hfree k ok hk hki (hun k hkun) hno
      refine wpOp_mono (fun a' w' h3 => ⟨fun h => absurd h hjE,fun _ => ?_⟩) h2
      obtain ⟨hT',H'⟩ := h3.2.2 hjE
      refine ⟨hT',ih (listed.setIfInBounds j true) a' w' hfree' (closed_step hc hj) hiE (fun e he hl => hE e he (hun e hl)) (ready_mono hr (Ne.symm hji)) h3.1 hT' ?_⟩
      rw [Array.setIfInBounds_comm _ _ hji]
      exact H'

/-- The same for what yields in any world; nothing need wait. -/
theorem wpAnyG_any {i : Nat} {oi : Oper} {v : Value} (hi : ops[i]? = some oi) (hsel : ∀ (j : Nat) (o : Oper) cs b,ops[j]? = some o → o.op ≠ .select cs b)
    (hQ : ∀ c a w,Q (.panic c) (a.put oi.dst v) w → Q (.panic c) a w) :
    ∀ (fuel : Nat) (listed : Array Bool) (a : Act) (w : World),
      (∀ j oj,ops[j]? = some oj → j ≠ i → listed.getD j true = false → (∀ e ∈ oj.after,Region.binds md e = true → e.on ≠ i) → oi.apart ops oj = true) →
      i ∉ E → i ∈ Region.ready md ops listed → Yields P ops oi v a → T w →
      wpAnyG P md ops Q E T fuel (listed.setIfInBounds i true) (a.put oi.dst v) w → wpAnyG P md ops Q E T (fuel + 1) listed a w := by
  intro fuel
  induction fuel with
  | zero =>
    intro listed a w _ hiE hr hy hT H
    refine ⟨fun h => (by rw [h] at hr;cases hr),fun j hj => ?_⟩
    by_cases hji : j = i
    · subst hji;exact hy.wpOp hi ⟨fun h => absurd h hiE,fun _ => ⟨hT,H⟩⟩
    · have := ready_mono hj hji
      rw [H.1] at this
      cases this
  | succ fuel ih =>
    intro listed a w hfree hiE hr hy hT H
    refine ⟨fun h => (by rw [h] at hr;cases hr),fun j hj => ?_⟩
    by_cases hji : j = i
    · subst hji;exact hy.wpOp hi ⟨fun h => absurd h hiE,fun _ => ⟨hT,H⟩⟩
    · have h1 := H.2 j (ready_mono hj hji)
      obtain ⟨hjun,oj,hoj,hall⟩ := mem_ready.1 hj
      have hi0 : listed.getD i false = false := by
        have h0 := (mem_ready.1 hr).1
        rcases Nat.lt_or_ge i listed.size with h'|h'
        · simp [h'] at h0 ⊢;exact h0
        · simp [Array.getElem?_eq_none h']
      have hnot : ∀ e ∈ oj.after,Region.binds md e = true → e.on ≠ i := fun e he hb heq => by
        have h1 := hall e he hb
        rw [heq,hi0] at h1
        cases h1
      have h2 := wpOp_put hoj (hfree j oj hoj hji hjun hnot) (fun cs b => hsel i oi cs b hi) (fun cs b => hsel j oj cs b hoj) hQ hy h1
      have hfree' : ∀ k ok,ops[k]? = some ok → k ≠ i → (listed.setIfInBounds j true).getD k true = false →
          (∀ e ∈ ok.after,Region.binds md e = true → e.on ≠ i) → oi.apart ops ok = true := fun k ok hk hki hkun hno => by
        refine hfree k ok hk hki ?_ hno
        by_cases hjk : j = k
        · subst hjk;exact hjun
        · rw [getD_set_ne true hjk] at hkun;exact hkun
      refine wpOp_mono (fun a' w' h3 => ⟨fun hE => ?_,fun hE => ?_⟩) h2
      · refine wpAny_first hi hsel hQ fuel (listed.setIfInBounds j true) a' w' hfree' (ready_mono hr (Ne.symm hji)) h3.1 ?_
        rw [Array.setIfInBounds_comm _ _ hji]
        exact h3.2.1 hE
      · obtain ⟨hT',H'⟩ := h3.2.2 hE
        refine ⟨hT',ih (listed.setIfInBounds j true) a' w' hfree' hiE (ready_mono hr (Ne.symm hji)) h3.1 hT' ?_⟩
        rw [Array.setIfInBounds_comm _ _ hji]
        exact H'

/-- Whichever of those that may come up comes up. -/
theorem wpAnyG_all {fuel : Nat} {listed : Array Bool} {a : Act} {w : World} (hne : Region.ready md ops listed ≠ [])
    (h : ∀ i ∈ Region.ready md ops listed,wpOp P ops Q i (fun a' w' => (i ∈ E → wpAny P md ops Q fuel (listed.setIfInBounds i true) a' w') ∧ (i ∉ E → T w' ∧ wpAnyG P md ops Q E T fuel (listed.setIfInBounds i true) a' w')) a w) : wpAnyG P md ops Q E T (fuel + 1) listed a w :=
  ⟨fun h0 => absurd h0 hne,h⟩

end
end Go.Hs
