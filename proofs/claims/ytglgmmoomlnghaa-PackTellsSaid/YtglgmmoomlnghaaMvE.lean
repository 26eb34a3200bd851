/-
  Two moves are the same just if their numbers are.
-/
import Derived.Test.YtglgmmoomlnghaaHty
import Derived.ChangeKeysEq
set_option linter.unusedSimpArgs false
namespace Go.Proofs.Ytglgmmoomlnghaa
open Go Go.Hs

theorem guardMvE : Try.prog.eqGuardType Try.prog.depth 100 = false := by kernel_rfl
theorem stoodMvE : Try.prog.stoodInHeld 100 = false := by kernel_rfl
theorem eqInMvE (d : Nat) (x0 x1 y0 y1 : Int) (w : World) : (Op.equalIn (d + 2) 100 (.agg #[.int .i64 x0,.int .i64 x1]) (.agg #[.int .i64 y0,.int .i64 y1])).run Try.prog w =
    .ok (x0 == y0 && x1 == y1) w := by
  have hp : ∀ (cs : Array Value) (j : Nat) (v : Value) (w : World),cs[j]? = some v → (part 3 cs j).run Try.prog w = .ok v w := by
    intro cs j v w h
    simp [part,isAgg,run_underlying Try.underlying3,h]
  have he : ∀ (a b : Int) (w : World),(Op.equalIn (d + 1) 3 (.int .i64 a) (.int .i64 b)).run Try.prog w = .ok (a == b) w := fun a b w => run_equalIn_int w d 3 .i64 .i64 a b Try.underlying3
  rw [show d + 2 = (d + 1) + 1 from rfl,Op.equalIn]
  simp only [Sem.run_bind,run_underlying Try.underlying100,Result.andThen_ok]
  have hpg : ∀ w : World,(program : Sem Program).run Try.prog w = .ok Try.prog w := fun _ => rfl
  rw [hpg,Result.andThen_ok,stoodMvE,if_neg (by decide)]
  have px : ∀ (w : World) (a0 a1 : Int),(part 3 #[Value.int .i64 a0,Value.int .i64 a1] 0).run Try.prog w = .ok (.int .i64 a0) w ∧ (part 3 #[Value.int .i64 a0,Value.int .i64 a1] 1).run Try.prog w = .ok (.int .i64 a1) w := fun w a0 a1 => ⟨hp _ 0 _ w rfl,hp _ 1 _ w rfl⟩
  simp only [List.forIn_toArray,List.forIn_cons,List.forIn_nil,Sem.run_bind,ne_eq,String.reduceEq,not_false_eq_true,if_true,(px _ _ _).1,(px _ _ _).2,Result.andThen_ok,he]
  cases (x0 == y0)
  · simp only [Bool.not_true,Bool.not_false,Bool.false_eq_true,if_false,if_true,Sem.run_bind,Sem.run_pure,Result.andThen_ok,(px _ _ _).1,(px _ _ _).2,he,Bool.true_and,Bool.false_and]
  simp only [Bool.not_true,Bool.not_false,Bool.false_eq_true,if_false,if_true,Sem.run_bind,Sem.run_pure,Result.andThen_ok,(px _ _ _).1,(px _ _ _).2,he,Bool.true_and,Bool.false_and]
  cases (x1 == y1)
  · simp only [Bool.not_true,Bool.not_false,Bool.false_eq_true,if_false,if_true,Sem.run_bind,Sem.run_pure,Result.andThen_ok,(px _ _ _).1,(px _ _ _).2,he,Bool.true_and,Bool.false_and]
  simp only [Bool.not_true,Bool.not_false,Bool.false_eq_true,if_false,if_true,Sem.run_bind,Sem.run_pure,Result.andThen_ok,(px _ _ _).1,(px _ _ _).2,he,Bool.true_and,Bool.false_and]
theorem eqRunMvE (xo yo : Operand) (x0 x1 y0 y1 : Int) : EqRun Try.prog .eql 100 xo yo (.agg #[.int .i64 x0,.int .i64 x1]) (.agg #[.int .i64 y0,.int .i64 y1]) (x0 == y0 && x1 == y1) := by
  intro w
  simp only [Sem.run_bind,run_eqGuard_agg w .eql 100 xo yo _ _ guardMvE,Result.andThen_ok,run_eql_struct,eqInMvE]
theorem eqRunMvEN (xo yo : Operand) (x0 x1 y0 y1 : Int) : EqRun Try.prog .neq 100 xo yo (.agg #[.int .i64 x0,.int .i64 x1]) (.agg #[.int .i64 y0,.int .i64 y1]) (!(x0 == y0 && x1 == y1)) := by
  intro w
  simp only [Sem.run_bind,run_eqGuard_agg w .neq 100 xo yo _ _ guardMvE,Result.andThen_ok,run_neq_struct,eqInMvE]
theorem binMvE (g : Bool) (xo yo : Operand) (x0 x1 y0 y1 : Int) (K : AV → Prop) :
    binK Try.prog g .eql 100 xo yo (.agg [.im (.int .i64 x0),.im (.int .i64 x1)]) (.agg [.im (.int .i64 y0),.im (.int .i64 y1)]) K =
      K (.c (.im (.bool (x0 == y0 && x1 == y1)))) := by
  simp only [binK,imVals,Option.map_some]
  refine propext ⟨fun ⟨b,hb,hK⟩ => ?_,fun h => ⟨_,eqRunMvE xo yo _ _ _ _,h⟩⟩
  have h1 := hb default
  have h2 := eqRunMvE xo yo x0 x1 y0 y1 default
  rw [h1] at h2
  simp only [Result.ok.injEq,Value.bool.injEq,and_true] at h2
  rw [← h2];exact hK
theorem binMvEN (g : Bool) (xo yo : Operand) (x0 x1 y0 y1 : Int) (K : AV → Prop) :
    binK Try.prog g .neq 100 xo yo (.agg [.im (.int .i64 x0),.im (.int .i64 x1)]) (.agg [.im (.int .i64 y0),.im (.int .i64 y1)]) K =
      K (.c (.im (.bool !(x0 == y0 && x1 == y1)))) := by
  simp only [binK,imVals,Option.map_some]
  refine propext ⟨fun ⟨b,hb,hK⟩ => ?_,fun h => ⟨_,eqRunMvEN xo yo _ _ _ _,h⟩⟩
  have h1 := hb default
  have h2 := eqRunMvEN xo yo x0 x1 y0 y1 default
  rw [h1] at h2
  simp only [Result.ok.injEq,Value.bool.injEq,and_true] at h2
  rw [← h2];exact hK

end Go.Proofs.Ytglgmmoomlnghaa
