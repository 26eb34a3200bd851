/-
  PLAIN: what a map knows beside the numbers; numbers in an array.
-/
import Derived.Test.YtglgmmoomlnghaaMo2
set_option linter.unusedSimpArgs false
set_option linter.unusedVariables false
namespace Go.Proofs.Ytglgmmoomlnghaa
open Go Go.Hs

/-- What was known behind so many. -/
def mapK (key : Nat → ByteArray) : Nat → List (ByteArray × Int)
  | 0 => []
  | n + 1 => match mFind (mapK key n) (key n) with
    | some _ => mapK key n
    | none => mapK key n ++ [(key n,((mapK key n).length : Int))]
theorem mapK_ok {key : Nat → ByteArray} : ∀ n,(mapK key n).length = (canV key n).2 ∧ ∀ s,mFind (mapK key n) s = ((List.range n).find? (fun k => decide (key k = s))).map (fun k => (canV key n).1.getD k 0)
  | 0 => ⟨rfl,fun s => rfl⟩
  | n + 1 => by
    obtain ⟨h1,h2⟩ := mapK_ok (key := key) n
    have hl := can_len (key := key) n
    have hr : ∀ p : Nat → Bool,(List.range (n + 1)).find? p = ((List.range n).find? p).or (if p n = true then some n else none) := fun p => by
      rw [List.range_succ,List.find?_append]
      congr 1
      by_cases e : p n = true
      · rw [if_pos e];simp [e]
      · rw [if_neg e];simp [e]
    have hg : ∀ p : Nat → Bool,∀ k,(List.range n).find? p = some k → (canV key (n + 1)).1.getD k 0 = (canV key n).1.getD k 0 := fun p k hk => can_get (n := n) (by omega) (find_range hk).1
    have e := h2 (key n)
    cases hf : (List.range n).find? (fun k => decide (key k = key n)) with
    | some k0 =>
      rw [hf] at e
      have em : mapK key (n + 1) = mapK key n := by rw [mapK,e];rfl
      have ec : (canV key (n + 1)).2 = (canV key n).2 := by rw [can_succ,hf]
      refine ⟨by rw [em,ec];exact h1,fun s => ?_⟩
      rw [em,h2 s,hr]
      cases hs : (List.range n).find? (fun k => decide (key k = s)) with
      | some k => simp only [Option.some_or,Option.map_some];rw [hg _ _ hs]
      | none =>
        have : ¬ key n = s := fun c => by
          have f0 := find_range hf
          have := find_none hs k0 f0.1
          exact of_decide_eq_false this ((of_decide_eq_true f0.2 : key k0 = key n).trans c)
        rw [decide_eq_false this];rfl
    | none =>
      rw [hf] at e
      have em : mapK key (n + 1) = mapK key n ++ [(key n,((mapK key n).length : Int))] := by rw [mapK,e];rfl
      have ec : (canV key (n + 1)).2 = (canV key n).2 + 1 := by rw [can_succ,hf]
      refine ⟨by rw [em,ec,List.length_append,h1];rfl,fun s => ?_⟩
      rw [em,mFind_snoc,h2 s,hr]
      cases hs : (List.range n).find? (fun k => decide (key k = s)) with
      | some k => simp only [Option.some_or,Option.map_some];rw [hg _ _ hs]
      | none =>
        simp only [Option.none_or,Option.map_none]
        by_cases c : s = key n
        · rw [if_pos c,decide_eq_true c.symm]
          have := can_last (key := key) (n := n)
          rw [hf] at this
          simp only [if_true,Option.map_some]
          rw [this,h1]
        · rw [if_neg c,decide_eq_false (fun x => c x.symm)];rfl
theorem mapK_hit {key : Nat → ByteArray} {n : Nat} {v : Int} (h : mFind (mapK key n) (key n) = some v) : mapK key (n + 1) = mapK key n ∧ (canV key (n + 1)).1 = (canV key n).1 ++ [v] := by
  refine ⟨by rw [mapK,h],?_⟩
  have e := (mapK_ok (key := key) n).2 (key n)
  rw [h] at e
  cases hf : (List.range n).find? (fun k => decide (key k = key n)) with
  | none => rw [hf] at e;cases e
  | some k =>
    rw [hf] at e
    rw [can_succ,hf]
    simp only [Option.map_some,Option.some.injEq] at e
    show _ ++ _ = _
    rw [e]
theorem mapK_miss {key : Nat → ByteArray} {n : Nat} (h : mFind (mapK key n) (key n) = none) : mapK key (n + 1) = mapK key n ++ [(key n,((mapK key n).length : Int))] ∧ (canV key (n + 1)).1 = (canV key n).1 ++ [((mapK key n).length : Int)] := by
  refine ⟨by rw [mapK,h],?_⟩
  have e := (mapK_ok (key := key) n).2 (key n)
  rw [h] at e
  cases hf : (List.range n).find? (fun k => decide (key k = key n)) with
  | some k => rw [hf] at e;cases e
  | none =>
    rw [can_succ,hf,(mapK_ok n).1]
theorem mapK_le {key : Nat → ByteArray} {n : Nat} : (mapK key n).length ≤ n := by
  rw [(mapK_ok n).1];exact (can_ok n).2.2.1

/-! Numbers in an array of 400. -/
def padL (l : List Int) : List Int := l ++ List.replicate (400 - l.length) 0
theorem padL_len {l : List Int} (h : l.length ≤ 400) : (padL l).length = 400 := by simp [padL];omega
theorem padL_get {l : List Int} {i : Nat} : (padL l).getD i 0 = l.getD i 0 := by
  unfold padL
  rw [List.getD_eq_getElem?_getD,List.getD_eq_getElem?_getD]
  by_cases h : i < l.length
  · rw [List.getElem?_append_left h]
  · rw [List.getElem?_append_right (by omega),List.getElem?_eq_none (l := l) (by omega),List.getElem?_replicate]
    split <;> rfl
theorem padL_nil : padL [] = List.replicate 400 0 := rfl
theorem padL_set {l : List Int} {v : Int} (h : l.length < 400) : (padL l).set l.length v = padL (l ++ [v]) := by
  unfold padL
  rw [show 400 - l.length = (400 - (l ++ [v]).length) + 1 by simp;omega,List.replicate_succ,List.set_append_right _ _ (Nat.le_refl _),Nat.sub_self,List.set_cons_zero,List.append_assoc];rfl
theorem padL_inj {a b : List Int} (h : a.length = b.length) (e : padL a = padL b) : a = b := (List.append_inj e h).1
end Go.Proofs.Ytglgmmoomlnghaa
