/-
  PLAIN: what tells states apart: numbers as bytes, signs, classes.
-/
import Derived.Test.YtglgmmoomlnghaaLiveQ
set_option linter.unusedSimpArgs false
set_option linter.unusedVariables false
namespace Go.Proofs.Ytglgmmoomlnghaa
open Go Go.Hs

/-! A number, seven bits a byte. -/
def vint (m : Nat) : List Int := if h : m < 128 then [(m : Int)] else ((m % 128 + 128 : Nat) : Int) :: vint (m / 128)
termination_by m
decreasing_by omega
theorem vint_lo {m : Nat} (h : m < 128) : vint m = [(m : Int)] := by rw [vint,dif_pos h]
theorem vint_hi {m : Nat} (h : ¬ m < 128) : vint m = ((m % 128 + 128 : Nat) : Int) :: vint (m / 128) := by rw [vint,dif_neg h]
theorem vint_bytes : ∀ (m : Nat),∀ x ∈ vint m,0 ≤ x ∧ x ≤ 255 := fun m => by
  induction m using Nat.strongRecOn with
  | _ m ih =>
    by_cases h : m < 128
    · rw [vint_lo h];simp;omega
    · rw [vint_hi h]
      intro x hx
      rcases List.mem_cons.1 hx with e|e
      · subst e;omega
      · exact ih (m / 128) (by omega) x e
theorem vint_pre : ∀ (a b : Nat) {x y : List Int},vint a ++ x = vint b ++ y → a = b ∧ x = y := fun a => by
  induction a using Nat.strongRecOn with
  | _ a ih =>
    intro b x y h
    by_cases ha : a < 128
    · rw [vint_lo ha] at h
      by_cases hb : b < 128
      · rw [vint_lo hb] at h
        have h1 := (List.cons.inj h).1
        exact ⟨by omega,(List.cons.inj h).2⟩
      · rw [vint_hi hb] at h
        have h1 := (List.cons.inj h).1
        omega
    · rw [vint_hi ha] at h
      by_cases hb : b < 128
      · rw [vint_lo hb] at h
        have h1 := (List.cons.inj h).1
        omega
      · rw [vint_hi hb] at h
        have h1 := (List.cons.inj h).1
        obtain ⟨e1,e2⟩ := ih (a / 128) (by omega) (b / 128) (List.cons.inj h).2
        exact ⟨by omega,e2⟩
theorem vint_ne (m : Nat) : vint m ≠ [] := by
  by_cases h : m < 128
  · rw [vint_lo h];simp
  · rw [vint_hi h];simp
def putF (n : Int) : List Int := vint (n + 2).toNat
def putL (l : List Int) : List Int := l.flatMap putF
theorem putL_cons {n : Int} {l : List Int} : putL (n :: l) = putF n ++ putL l := rfl
theorem putL_app {a b : List Int} : putL (a ++ b) = putL a ++ putL b := by simp [putL]
theorem putL_bytes {l : List Int} : ∀ x ∈ putL l,0 ≤ x ∧ x ≤ 255 := fun x hx => by
  obtain ⟨n,_,h⟩ := List.mem_flatMap.1 hx
  exact vint_bytes _ x h
theorem putL_inj : ∀ {a b : List Int},(∀ x ∈ a,-2 ≤ x) → (∀ x ∈ b,-2 ≤ x) → putL a = putL b → a = b
  | [],[],_,_,_ => rfl
  | [],y :: b,_,_,h => by
    have h : ([] : List Int) = vint _ ++ putL b := h
    have := congrArg List.length h
    rw [List.length_append,List.length_nil] at this
    have := List.length_pos_iff.2 (vint_ne (y + 2).toNat)
    omega
  | x :: a,[],_,_,h => by
    have h : vint _ ++ putL a = ([] : List Int) := h
    have := congrArg List.length h
    rw [List.length_append,List.length_nil] at this
    have := List.length_pos_iff.2 (vint_ne (x + 2).toNat)
    omega
  | x :: a,y :: b,ha,hb,h => by
    have h : vint _ ++ putL a = vint _ ++ putL b := h
    obtain ⟨e1,e2⟩ := vint_pre _ _ h
    have h1 := ha x (by simp)
    have h2 := hb y (by simp)
    have h3 := putL_inj (fun z hz => ha z (by simp [hz])) (fun z hz => hb z (by simp [hz])) e2
    rw [h3,show x = y by omega]

/-! What a state looks like, by classes. -/
def edgeL (cls : List Int) (x : Ed) : List Int := (if x.to < 0 then -1 else cls.getD x.to.toNat 0) :: (x.src.length : Int) :: x.src
def lookL (s : Sta) (cls : List Int) (i : Nat) : List Int := cls.getD i 0 :: s.regs :: (s.acc.length : Int) :: (s.acc ++ s.eds.flatMap (edgeL cls))
/-- Numbers in the order in which keys come first. -/
def canV {α : Type} [DecidableEq α] (key : Nat → α) : Nat → List Int × Nat
  | 0 => ([],0)
  | n + 1 => match (List.range n).find? (fun k => decide (key k = key n)) with
    | some k => ((canV key n).1 ++ [(canV key n).1.getD k 0],(canV key n).2)
    | none => ((canV key n).1 ++ [((canV key n).2 : Int)],(canV key n).2 + 1)
section
variable {α : Type} [DecidableEq α] {key : Nat → α}
theorem can_succ {n : Nat} : canV key (n + 1) = match (List.range n).find? (fun k => decide (key k = key n)) with
    | some k => ((canV key n).1 ++ [(canV key n).1.getD k 0],(canV key n).2)
    | none => ((canV key n).1 ++ [((canV key n).2 : Int)],(canV key n).2 + 1) := rfl
theorem can_len : ∀ n,(canV key n).1.length = n
  | 0 => rfl
  | n + 1 => by
    have := can_len n
    unfold canV;split <;> simp [this]
theorem find_range {p : Nat → Bool} {n k : Nat} (h : (List.range n).find? p = some k) : k < n ∧ p k = true := by
  have h1 := List.mem_of_find?_eq_some h
  exact ⟨List.mem_range.1 h1,List.find?_some h⟩
theorem find_none {p : Nat → Bool} {n : Nat} (h : (List.range n).find? p = none) : ∀ k,k < n → p k = false := fun k hk => by
  have := List.find?_eq_none.1 h k (List.mem_range.2 hk)
  simpa using this
theorem can_get {n : Nat} : ∀ {m : Nat},n ≤ m → ∀ {i},i < n → (canV key m).1.getD i 0 = (canV key n).1.getD i 0
  | 0,h,i,hi => by omega
  | m + 1,h,i,hi => by
    by_cases e : n = m + 1
    · subst e;rfl
    · rw [← can_get (m := m) (by omega) hi]
      have := can_len (key := key) m
      rw [can_succ]
      split
      · show ((canV key m).1 ++ _).getD i 0 = _
        rw [List.getD_eq_getElem?_getD (l := (canV key m).1 ++ _),List.getElem?_append_left (by omega),← List.getD_eq_getElem?_getD]
      · show ((canV key m).1 ++ _).getD i 0 = _
        rw [List.getD_eq_getElem?_getD (l := (canV key m).1 ++ _),List.getElem?_append_left (by omega),← List.getD_eq_getElem?_getD]
theorem can_last {n : Nat} : (canV key (n + 1)).1.getD n 0 = match (List.range n).find? (fun k => decide (key k = key n)) with
    | some k => (canV key n).1.getD k 0
    | none => ((canV key n).2 : Int) := by
  have := can_len (key := key) n
  rw [canV]
  split <;> rw [List.getD_eq_getElem?_getD,List.getElem?_append_right (by omega),this,Nat.sub_self] <;> rfl
/-- Numbers are below how many there are; the same just if the keys are. -/
theorem can_ok : ∀ n,(∀ i,i < n → 0 ≤ (canV key n).1.getD i 0 ∧ (canV key n).1.getD i 0 < (canV key n).2) ∧ (∀ i k,i < n → k < n → ((canV key n).1.getD i 0 = (canV key n).1.getD k 0 ↔ key i = key k)) ∧ (canV key n).2 ≤ n ∧ (∀ c,c < (canV key n).2 → ∃ i,i < n ∧ (canV key n).1.getD i 0 = c)
  | 0 => ⟨fun i h => by omega,fun i k h => by omega,Nat.le_refl _,fun c h => by simp [canV] at h⟩
  | n + 1 => by
    obtain ⟨h1,h2,h3,h4⟩ := can_ok n
    have g := fun {i : Nat} (hi : i < n) => can_get (key := key) (n := n) (m := n + 1) (by omega) hi
    have l := can_last (key := key) (n := n)
    cases hf : (List.range n).find? (fun k => decide (key k = key n)) with
    | some k =>
      obtain ⟨f1,f2⟩ := find_range hf
      have f2 : key k = key n := of_decide_eq_true f2
      rw [hf] at l
      have em : (canV key (n + 1)).2 = (canV key n).2 := by rw [canV,hf]
      refine ⟨fun i hi => ?_,fun i j hi hj => ?_,by omega,fun c hc => ?_⟩
      · rw [em]
        by_cases e : i = n
        · subst e;rw [l];exact h1 k f1
        · rw [g (by omega)];exact h1 i (by omega)
      · by_cases e : i = n
        · by_cases e2 : j = n
          · subst e;subst e2;exact ⟨fun _ => rfl,fun _ => rfl⟩
          · subst e
            rw [l,g (by omega),← f2]
            exact h2 k j f1 (by omega)
        · by_cases e2 : j = n
          · subst e2
            rw [l,g (by omega),← f2]
            exact h2 i k (by omega) f1
          · rw [g (by omega),g (by omega)];exact h2 i j (by omega) (by omega)
      · obtain ⟨i,i1,i2⟩ := h4 c (by omega)
        exact ⟨i,by omega,by rw [g i1];exact i2⟩
    | none =>
      have f := find_none hf
      rw [hf] at l
      have em : (canV key (n + 1)).2 = (canV key n).2 + 1 := by rw [canV,hf]
      have nk : ∀ k,k < n → key k ≠ key n := fun k hk => of_decide_eq_false (f k hk)
      refine ⟨fun i hi => ?_,fun i j hi hj => ?_,by omega,fun c hc => ?_⟩
      · rw [em]
        by_cases e : i = n
        · subst e;rw [l];simp only;omega
        · rw [g (by omega)];have := h1 i (by omega);omega
      · by_cases e : i = n
        · by_cases e2 : j = n
          · subst e;subst e2;exact ⟨fun _ => rfl,fun _ => rfl⟩
          · subst e
            rw [l,g (by omega)]
            have := h1 j (by omega)
            exact ⟨fun h => by simp only at h;omega,fun h => absurd h.symm (nk j (by omega))⟩
        · by_cases e2 : j = n
          · subst e2
            rw [l,g (by omega)]
            have := h1 i (by omega)
            exact ⟨fun h => by simp only at h;omega,fun h => absurd h (nk i (by omega))⟩
          · rw [g (by omega),g (by omega)];exact h2 i j (by omega) (by omega)
      · by_cases e : c = (canV key n).2
        · exact ⟨n,by omega,by rw [l,e]⟩
        · obtain ⟨i,i1,i2⟩ := h4 c (by omega)
          exact ⟨i,by omega,by rw [g i1];exact i2⟩
/-- Only which keys are the same matters. -/
theorem can_congr {β : Type} [DecidableEq β] {key2 : Nat → β} : ∀ n,(∀ i k,i < n → k < n → (key i = key k ↔ key2 i = key2 k)) → canV key n = canV key2 n
  | 0,_ => rfl
  | n + 1,h => by
    have ih := can_congr n (fun i k hi hk => h i k (by omega) (by omega))
    have e : (List.range n).find? (fun k => decide (key k = key n)) = (List.range n).find? (fun k => decide (key2 k = key2 n)) := by
      have : ∀ l : List Nat,(∀ x ∈ l,x < n) → l.find? (fun k => decide (key k = key n)) = l.find? (fun k => decide (key2 k = key2 n)) := fun l => by
        induction l with
        | nil => intro _;rfl
        | cons a l ih2 =>
          intro hl
          have ha := hl a (by simp)
          have hd : decide (key a = key n) = decide (key2 a = key2 n) := by
            have := h a n (by omega) (by omega)
            by_cases c : key a = key n
            · rw [decide_eq_true c,decide_eq_true (this.1 c)]
            · rw [decide_eq_false c,decide_eq_false (fun x => c (this.2 x))]
          rw [List.find?_cons,List.find?_cons,hd,ih2 (fun x hx => hl x (by simp [hx]))]
      exact this _ (fun x hx => List.mem_range.1 hx)
    rw [canV,canV,ih,e]
end

end Go.Proofs.Ytglgmmoomlnghaa
