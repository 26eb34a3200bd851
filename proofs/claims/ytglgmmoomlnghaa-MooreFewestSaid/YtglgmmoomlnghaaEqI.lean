/-
  Two arrays of numbers (moore.classes) are the same just if their numbers are.
-/
import Derived.Test.YtglgmmoomlnghaaMoR
import Derived.ChangeKeysEq
set_option linter.unusedSimpArgs false
set_option linter.unusedVariables false
namespace Go.Proofs.Ytglgmmoomlnghaa
open Go Go.Hs

theorem guardCl : Try.prog.eqGuardType Try.prog.depth 75 = false := by kernel_rfl
theorem infoInts : (Try.prog.info? 3).isSome = true := by kernel_rfl
theorem cellsInt : Try.prog.cellsOf 3 = 1 := by kernel_rfl
def vInts (l : List Int) : Array Value := (l.map fun n => Value.int .i64 n).toArray
theorem vInts_get {l : List Int} {j : Nat} (h : j < l.length) : (vInts l)[j]? = some (.int .i64 (l.getD j 0)) := by
  unfold vInts
  simp [List.getD_eq_getElem?_getD,h]
theorem part_int {l : List Int} {j : Nat} (h : j < l.length) (w : World) : (part 3 (vInts l) j).run Try.prog w = .ok (.int .i64 (l.getD j 0)) w := by
  simp [part,isAgg,run_underlying Try.underlying3,vInts_get h]
theorem eqItems_int {a b : List Int} {n : Nat} (ha : a.length = n) (hb : b.length = n) (w : World) : ∀ (is : List Nat),(∀ i ∈ is,i < n) → (Op.eqItems 9999 3 1 (vInts a) (vInts b) is).run Try.prog w = .ok (is.all fun i => a.getD i 0 == b.getD i 0) w
  | [],_ => by simp [Op.eqItems]
  | i :: is,h => by
    have hi := h i (by simp)
    have ih := eqItems_int ha hb w is (fun j hj => h j (by simp [hj]))
    have he : (Op.equalIn 9999 3 (.int .i64 (a.getD i 0)) (.int .i64 (b.getD i 0))).run Try.prog w = .ok (a.getD i 0 == b.getD i 0) w := run_equalIn_int w 9998 3 .i64 .i64 _ _ Try.underlying3
    simp only [Op.eqItems,Sem.run_bind,Nat.mul_one]
    rw [part_int (by omega),Result.andThen_ok,part_int (by omega),Result.andThen_ok,he,Result.andThen_ok,List.all_cons]
    cases (a.getD i 0 == b.getD i 0)
    · simp
    · simpa using ih
theorem all_eq {a b : List Int} {n : Nat} (ha : a.length = n) (hb : b.length = n) : ((List.range n).all fun i => a.getD i 0 == b.getD i 0) = decide (a = b) := by
  by_cases h : a = b
  · subst h;rw [decide_eq_true rfl];simp
  · rw [decide_eq_false h,← Bool.not_eq_true,List.all_eq_true]
    intro hall
    refine h (list_ext_getD (by omega) fun t ht => ?_)
    have := hall t (List.mem_range.2 (by omega))
    simpa using this
theorem eqInCl {a b : List Int} (ha : a.length = 400) (hb : b.length = 400) (w : World) : (Op.equalIn 10000 75 (.agg (vInts a)) (.agg (vInts b))).run Try.prog w = .ok (decide (a = b)) w := by
  obtain ⟨i,hi⟩ := Option.isSome_iff_exists.1 infoInts
  rw [show (10000 : Nat) = 9999 + 1 from rfl,run_equalIn_array w 9999 _ _ Try.underlying75 hi,cellsInt,eqItems_int ha hb w _ (fun i hi => List.mem_range.1 hi),all_eq ha hb]
theorem eqRunCl {a b : List Int} (ha : a.length = 400) (hb : b.length = 400) (xo yo : Operand) : EqRun Try.prog .neq 75 xo yo (.agg (vInts a)) (.agg (vInts b)) (!decide (a = b)) := by
  intro w
  simp only [Sem.run_bind,run_eqGuard_agg w .neq 75 xo yo _ _ guardCl,Result.andThen_ok,run_neq_struct,eqInCl ha hb]
theorem imVals_iRow : ∀ {l : List Int},imVals (iRow l) = some (l.map fun n => Value.int .i64 n)
  | [] => rfl
  | n :: l => by
    have := imVals_iRow (l := l)
    unfold iRow at this ⊢
    simp only [List.map_cons,imVals,this,Option.map_some]
theorem binCl {a b : List Int} (ha : a.length = 400) (hb : b.length = 400) (g : Bool) (xo yo : Operand) (K : AV → Prop) :
    binK Try.prog g .neq 75 xo yo (.agg (iRow a)) (.agg (iRow b)) K = K (.c (.im (.bool !decide (a = b)))) := by
  simp only [binK,imVals_iRow,Option.map_some]
  refine propext ⟨fun ⟨c,hc,hK⟩ => ?_,fun h => ⟨_,eqRunCl ha hb xo yo,h⟩⟩
  have h1 := hc default
  have h2 := eqRunCl ha hb xo yo default
  unfold vInts at h2
  rw [h1] at h2
  simp only [Result.ok.injEq,Value.bool.injEq,and_true] at h2
  rw [← h2];exact hK

end Go.Proofs.Ytglgmmoomlnghaa
