/-
  Two sets of bytes ([4]uint64) are the same just if their words are.
-/
import Derived.Test.YtfldmpmaifjcbaaHty
import Derived.ChangeKeysEq
set_option linter.unusedSimpArgs false
namespace Go.Proofs.Ytfldmpmaifjcbaa
open Go Go.Hs

theorem guardSet : Try.prog.eqGuardType Try.prog.depth 36 = false := by kernel_rfl
theorem infoU64s : (Try.prog.info? 34).isSome = true := by kernel_rfl
theorem infoU64 : ∃ i,Try.prog.info? 34 = some i := Option.isSome_iff_exists.1 infoU64s
theorem cellsU64 : Try.prog.cellsOf 34 = 1 := by kernel_rfl

theorem eqInSet (x0 x1 x2 x3 y0 y1 y2 y3 : Int) (w : World) : (Op.equalIn 10000 36 (.agg #[.int .u64 x0,.int .u64 x1,.int .u64 x2,.int .u64 x3]) (.agg #[.int .u64 y0,.int .u64 y1,.int .u64 y2,.int .u64 y3])).run Try.prog w =
    .ok (x0 == y0 && (x1 == y1 && (x2 == y2 && x3 == y3))) w := by
  obtain ⟨i,hi⟩ := infoU64
  rw [show (10000 : Nat) = 9999 + 1 from rfl,run_equalIn_array w 9999 _ _ Try.underlying36 hi,cellsU64]
  have hp : ∀ (cs : Array Value) (j : Nat) (v : Value) (w : World),cs[j]? = some v → (part 34 cs j).run Try.prog w = .ok v w := by
    intro cs j v w h
    simp [part,isAgg,run_underlying Try.underlying34,h]
  have he : ∀ (a b : Int) (w : World),(Op.equalIn 9999 34 (.int .u64 a) (.int .u64 b)).run Try.prog w = .ok (a == b) w := fun a b w => run_equalIn_int w 9998 34 .u64 .u64 a b Try.underlying34
  simp only [List.range_eq_range',List.range',Op.eqItems,Sem.run_bind,Nat.zero_mul,Nat.one_mul,Nat.mul_one,Nat.zero_add,Nat.reduceAdd]
  rw [hp _ 0 (.int .u64 x0) w rfl,Result.andThen_ok,hp _ 0 (.int .u64 y0) w rfl,Result.andThen_ok,he,Result.andThen_ok]
  cases (x0 == y0)
  · simp
  simp only [Bool.not_true,Bool.false_eq_true,if_false,Sem.run_bind]
  rw [hp _ 1 (.int .u64 x1) w rfl,Result.andThen_ok,hp _ 1 (.int .u64 y1) w rfl,Result.andThen_ok,he,Result.andThen_ok]
  cases (x1 == y1)
  · simp
  simp only [Bool.not_true,Bool.false_eq_true,if_false,Sem.run_bind]
  rw [hp _ 2 (.int .u64 x2) w rfl,Result.andThen_ok,hp _ 2 (.int .u64 y2) w rfl,Result.andThen_ok,he,Result.andThen_ok]
  cases (x2 == y2)
  · simp
  simp only [Bool.not_true,Bool.false_eq_true,if_false,Sem.run_bind]
  rw [hp _ 3 (.int .u64 x3) w rfl,Result.andThen_ok,hp _ 3 (.int .u64 y3) w rfl,Result.andThen_ok,he,Result.andThen_ok]
  cases (x3 == y3) <;> simp

theorem eqRunSet (xo yo : Operand) (x0 x1 x2 x3 y0 y1 y2 y3 : Int) : EqRun Try.prog .neq 36 xo yo (.agg #[.int .u64 x0,.int .u64 x1,.int .u64 x2,.int .u64 x3]) (.agg #[.int .u64 y0,.int .u64 y1,.int .u64 y2,.int .u64 y3]) (!(x0 == y0 && (x1 == y1 && (x2 == y2 && x3 == y3)))) := by
  intro w
  simp only [Sem.run_bind,run_eqGuard_agg w .neq 36 xo yo _ _ guardSet,Result.andThen_ok,run_neq_struct,eqInSet]

theorem binSet (g : Bool) (xo yo : Operand) (x0 x1 x2 x3 y0 y1 y2 y3 : Int) (K : AV → Prop) :
    binK Try.prog g .neq 36 xo yo (.agg [.im (.int .u64 x0),.im (.int .u64 x1),.im (.int .u64 x2),.im (.int .u64 x3)]) (.agg [.im (.int .u64 y0),.im (.int .u64 y1),.im (.int .u64 y2),.im (.int .u64 y3)]) K =
      K (.c (.im (.bool !(x0 == y0 && (x1 == y1 && (x2 == y2 && x3 == y3)))))) := by
  simp only [binK,imVals,Option.map_some]
  refine propext ⟨fun ⟨b,hb,hK⟩ => ?_,fun h => ⟨_,eqRunSet xo yo _ _ _ _ _ _ _ _,h⟩⟩
  have h1 := hb default
  have h2 := eqRunSet xo yo x0 x1 x2 x3 y0 y1 y2 y3 default
  rw [h1] at h2
  simp only [Result.ok.injEq,Value.bool.injEq,and_true] at h2
  rw [← h2];exact hK

end Go.Proofs.Ytfldmpmaifjcbaa
