/-
  Two entries ({int, int, int, int}) are the same just if their numbers are.
-/
import Derived.Test.YtfldmpmaifjcbaaEq
set_option linter.unusedSimpArgs false
namespace Go.Proofs.Ytfldmpmaifjcbaa
open Go Go.Hs

theorem guardEnt : Try.prog.eqGuardType Try.prog.depth 56 = false := by kernel_rfl
theorem stoodEnt : Try.prog.stoodInHeld 56 = false := by kernel_rfl
theorem eqInEnt (d : Nat) (x0 x1 x2 x3 y0 y1 y2 y3 : Int) (w : World) : (Op.equalIn (d + 2) 56 (.agg #[.int .i64 x0,.int .i64 x1,.int .i64 x2,.int .i64 x3]) (.agg #[.int .i64 y0,.int .i64 y1,.int .i64 y2,.int .i64 y3])).run Try.prog w =
    .ok (x0 == y0 && (x1 == y1 && (x2 == y2 && x3 == y3))) w := by
  have hp : ∀ (cs : Array Value) (j : Nat) (v : Value) (w : World),cs[j]? = some v → (part 3 cs j).run Try.prog w = .ok v w := by
    intro cs j v w h
    simp [part,isAgg,run_underlying Try.underlying3,h]
  have he : ∀ (a b : Int) (w : World),(Op.equalIn (d + 1) 3 (.int .i64 a) (.int .i64 b)).run Try.prog w = .ok (a == b) w := fun a b w => run_equalIn_int w d 3 .i64 .i64 a b Try.underlying3
  rw [show d + 2 = (d + 1) + 1 from rfl,Op.equalIn]
  simp only [Sem.run_bind,run_underlying Try.underlying56,Result.andThen_ok]
  have hpg : ∀ w : World,(program : Sem Program).run Try.prog w = .ok Try.prog w := fun _ => rfl
  rw [hpg,Result.andThen_ok,stoodEnt,if_neg (by decide)]
  have px : ∀ (w : World) (a0 a1 a2 a3 : Int),(part 3 #[Value.int .i64 a0,Value.int .i64 a1,Value.int .i64 a2,Value.int .i64 a3] 0).run Try.prog w = .ok (.int .i64 a0) w ∧ (part 3 #[Value.int .i64 a0,Value.int .i64 a1,Value.int .i64 a2,Value.int .i64 a3] 1).run Try.prog w = .ok (.int .i64 a1) w ∧
      (part 3 #[Value.int .i64 a0,Value.int .i64 a1,Value.int .i64 a2,Value.int .i64 a3] 2).run Try.prog w = .ok (.int .i64 a2) w ∧ (part 3 #[Value.int .i64 a0,Value.int .i64 a1,Value.int .i64 a2,Value.int .i64 a3] 3).run Try.prog w = .ok (.int .i64 a3) w := fun w a0 a1 a2 a3 => ⟨hp _ 0 _ w rfl,hp _ 1 _ w rfl,hp _ 2 _ w rfl,hp _ 3 _ w rfl⟩
  simp only [List.forIn_toArray,List.forIn_cons,List.forIn_nil,Sem.run_bind,ne_eq,String.reduceEq,not_false_eq_true,if_true,(px _ _ _ _ _).1,(px _ _ _ _ _).2.1,(px _ _ _ _ _).2.2.1,(px _ _ _ _ _).2.2.2,Result.andThen_ok,he]
  cases (x0 == y0)
  · simp only [Bool.not_true,Bool.not_false,Bool.false_eq_true,if_false,if_true,Sem.run_bind,Sem.run_pure,Result.andThen_ok,(px _ _ _ _ _).1,(px _ _ _ _ _).2.1,(px _ _ _ _ _).2.2.1,(px _ _ _ _ _).2.2.2,he,Bool.true_and,Bool.false_and]
  simp only [Bool.not_true,Bool.not_false,Bool.false_eq_true,if_false,if_true,Sem.run_bind,Sem.run_pure,Result.andThen_ok,(px _ _ _ _ _).1,(px _ _ _ _ _).2.1,(px _ _ _ _ _).2.2.1,(px _ _ _ _ _).2.2.2,he,Bool.true_and,Bool.false_and]
  cases (x1 == y1)
  · simp only [Bool.not_true,Bool.not_false,Bool.false_eq_true,if_false,if_true,Sem.run_bind,Sem.run_pure,Result.andThen_ok,(px _ _ _ _ _).1,(px _ _ _ _ _).2.1,(px _ _ _ _ _).2.2.1,(px _ _ _ _ _).2.2.2,he,Bool.true_and,Bool.false_and]
  simp only [Bool.not_true,Bool.not_false,Bool.false_eq_true,if_false,if_true,Sem.run_bind,Sem.run_pure,Result.andThen_ok,(px _ _ _ _ _).1,(px _ _ _ _ _).2.1,(px _ _ _ _ _).2.2.1,(px _ _ _ _ _).2.2.2,he,Bool.true_and,Bool.false_and]
  cases (x2 == y2)
  · simp only [Bool.not_true,Bool.not_false,Bool.false_eq_true,if_false,if_true,Sem.run_bind,Sem.run_pure,Result.andThen_ok,(px _ _ _ _ _).1,(px _ _ _ _ _).2.1,(px _ _ _ _ _).2.2.1,(px _ _ _ _ _).2.2.2,he,Bool.true_and,Bool.false_and]
  simp only [Bool.not_true,Bool.not_false,Bool.false_eq_true,if_false,if_true,Sem.run_bind,Sem.run_pure,Result.andThen_ok,(px _ _ _ _ _).1,(px _ _ _ _ _).2.1,(px _ _ _ _ _).2.2.1,(px _ _ _ _ _).2.2.2,he,Bool.true_and,Bool.false_and]
  cases (x3 == y3)
  · simp only [Bool.not_true,Bool.not_false,Bool.false_eq_true,if_false,if_true,Sem.run_bind,Sem.run_pure,Result.andThen_ok,(px _ _ _ _ _).1,(px _ _ _ _ _).2.1,(px _ _ _ _ _).2.2.1,(px _ _ _ _ _).2.2.2,he,Bool.true_and,Bool.false_and]
  simp only [Bool.not_true,Bool.not_false,Bool.false_eq_true,if_false,if_true,Sem.run_bind,Sem.run_pure,Result.andThen_ok,(px _ _ _ _ _).1,(px _ _ _ _ _).2.1,(px _ _ _ _ _).2.2.1,(px _ _ _ _ _).2.2.2,he,Bool.true_and,Bool.false_and]
theorem eqRunEntN (xo yo : Operand) (x0 x1 x2 x3 y0 y1 y2 y3 : Int) : EqRun Try.prog .neq 56 xo yo (.agg #[.int .i64 x0,.int .i64 x1,.int .i64 x2,.int .i64 x3]) (.agg #[.int .i64 y0,.int .i64 y1,.int .i64 y2,.int .i64 y3]) (!(x0 == y0 && (x1 == y1 && (x2 == y2 && x3 == y3)))) := by
  intro w
  simp only [Sem.run_bind,run_eqGuard_agg w .neq 56 xo yo _ _ guardEnt,Result.andThen_ok,run_neq_struct,eqInEnt]
theorem binEntN (g : Bool) (xo yo : Operand) (x0 x1 x2 x3 y0 y1 y2 y3 : Int) (K : AV → Prop) :
    binK Try.prog g .neq 56 xo yo (.agg [.im (.int .i64 x0),.im (.int .i64 x1),.im (.int .i64 x2),.im (.int .i64 x3)]) (.agg [.im (.int .i64 y0),.im (.int .i64 y1),.im (.int .i64 y2),.im (.int .i64 y3)]) K =
      K (.c (.im (.bool !(x0 == y0 && (x1 == y1 && (x2 == y2 && x3 == y3)))))) := by
  simp only [binK,imVals,Option.map_some]
  refine propext ⟨fun ⟨b,hb,hK⟩ => ?_,fun h => ⟨_,eqRunEntN xo yo _ _ _ _ _ _ _ _,h⟩⟩
  have h1 := hb default
  have h2 := eqRunEntN xo yo x0 x1 x2 x3 y0 y1 y2 y3 default
  rw [h1] at h2
  simp only [Result.ok.injEq,Value.bool.injEq,and_true] at h2
  rw [← h2];exact hK
theorem guardEntT : Try.prog.eqGuardType Try.prog.depth 89 = false := by kernel_rfl
theorem stoodEntT : Try.prog.stoodInHeld 89 = false := by kernel_rfl
theorem eqInEntT (d : Nat) (x0 x1 x2 x3 y0 y1 y2 y3 : Int) (w : World) : (Op.equalIn (d + 2) 89 (.agg #[.int .i64 x0,.int .i64 x1,.int .i64 x2,.int .i64 x3]) (.agg #[.int .i64 y0,.int .i64 y1,.int .i64 y2,.int .i64 y3])).run Try.prog w =
    .ok (x0 == y0 && (x1 == y1 && (x2 == y2 && x3 == y3))) w := by
  have hp : ∀ (cs : Array Value) (j : Nat) (v : Value) (w : World),cs[j]? = some v → (part 3 cs j).run Try.prog w = .ok v w := by
    intro cs j v w h
    simp [part,isAgg,run_underlying Try.underlying3,h]
  have he : ∀ (a b : Int) (w : World),(Op.equalIn (d + 1) 3 (.int .i64 a) (.int .i64 b)).run Try.prog w = .ok (a == b) w := fun a b w => run_equalIn_int w d 3 .i64 .i64 a b Try.underlying3
  rw [show d + 2 = (d + 1) + 1 from rfl,Op.equalIn]
  simp only [Sem.run_bind,run_underlying Try.underlying89,Result.andThen_ok]
  have hpg : ∀ w : World,(program : Sem Program).run Try.prog w = .ok Try.prog w := fun _ => rfl
  rw [hpg,Result.andThen_ok,stoodEntT,if_neg (by decide)]
  have px : ∀ (w : World) (a0 a1 a2 a3 : Int),(part 3 #[Value.int .i64 a0,Value.int .i64 a1,Value.int .i64 a2,Value.int .i64 a3] 0).run Try.prog w = .ok (.int .i64 a0) w ∧ (part 3 #[Value.int .i64 a0,Value.int .i64 a1,Value.int .i64 a2,Value.int .i64 a3] 1).run Try.prog w = .ok (.int .i64 a1) w ∧
      (part 3 #[Value.int .i64 a0,Value.int .i64 a1,Value.int .i64 a2,Value.int .i64 a3] 2).run Try.prog w = .ok (.int .i64 a2) w ∧ (part 3 #[Value.int .i64 a0,Value.int .i64 a1,Value.int .i64 a2,Value.int .i64 a3] 3).run Try.prog w = .ok (.int .i64 a3) w := fun w a0 a1 a2 a3 => ⟨hp _ 0 _ w rfl,hp _ 1 _ w rfl,hp _ 2 _ w rfl,hp _ 3 _ w rfl⟩
  simp only [List.forIn_toArray,List.forIn_cons,List.forIn_nil,Sem.run_bind,ne_eq,String.reduceEq,not_false_eq_true,if_true,(px _ _ _ _ _).1,(px _ _ _ _ _).2.1,(px _ _ _ _ _).2.2.1,(px _ _ _ _ _).2.2.2,Result.andThen_ok,he]
  cases (x0 == y0)
  · simp only [Bool.not_true,Bool.not_false,Bool.false_eq_true,if_false,if_true,Sem.run_bind,Sem.run_pure,Result.andThen_ok,(px _ _ _ _ _).1,(px _ _ _ _ _).2.1,(px _ _ _ _ _).2.2.1,(px _ _ _ _ _).2.2.2,he,Bool.true_and,Bool.false_and]
  simp only [Bool.not_true,Bool.not_false,Bool.false_eq_true,if_false,if_true,Sem.run_bind,Sem.run_pure,Result.andThen_ok,(px _ _ _ _ _).1,(px _ _ _ _ _).2.1,(px _ _ _ _ _).2.2.1,(px _ _ _ _ _).2.2.2,he,Bool.true_and,Bool.false_and]
  cases (x1 == y1)
  · simp only [Bool.not_true,Bool.not_false,Bool.false_eq_true,if_false,if_true,Sem.run_bind,Sem.run_pure,Result.andThen_ok,(px _ _ _ _ _).1,(px _ _ _ _ _).2.1,(px _ _ _ _ _).2.2.1,(px _ _ _ _ _).2.2.2,he,Bool.true_and,Bool.false_and]
  simp only [Bool.not_true,Bool.not_false,Bool.false_eq_true,if_false,if_true,Sem.run_bind,Sem.run_pure,Result.andThen_ok,(px _ _ _ _ _).1,(px _ _ _ _ _).2.1,(px _ _ _ _ _).2.2.1,(px _ _ _ _ _).2.2.2,he,Bool.true_and,Bool.false_and]
  cases (x2 == y2)
  · simp only [Bool.not_true,Bool.not_false,Bool.false_eq_true,if_false,if_true,Sem.run_bind,Sem.run_pure,Result.andThen_ok,(px _ _ _ _ _).1,(px _ _ _ _ _).2.1,(px _ _ _ _ _).2.2.1,(px _ _ _ _ _).2.2.2,he,Bool.true_and,Bool.false_and]
  simp only [Bool.not_true,Bool.not_false,Bool.false_eq_true,if_false,if_true,Sem.run_bind,Sem.run_pure,Result.andThen_ok,(px _ _ _ _ _).1,(px _ _ _ _ _).2.1,(px _ _ _ _ _).2.2.1,(px _ _ _ _ _).2.2.2,he,Bool.true_and,Bool.false_and]
  cases (x3 == y3)
  · simp only [Bool.not_true,Bool.not_false,Bool.false_eq_true,if_false,if_true,Sem.run_bind,Sem.run_pure,Result.andThen_ok,(px _ _ _ _ _).1,(px _ _ _ _ _).2.1,(px _ _ _ _ _).2.2.1,(px _ _ _ _ _).2.2.2,he,Bool.true_and,Bool.false_and]
  simp only [Bool.not_true,Bool.not_false,Bool.false_eq_true,if_false,if_true,Sem.run_bind,Sem.run_pure,Result.andThen_ok,(px _ _ _ _ _).1,(px _ _ _ _ _).2.1,(px _ _ _ _ _).2.2.1,(px _ _ _ _ _).2.2.2,he,Bool.true_and,Bool.false_and]
theorem eqRunEntT (xo yo : Operand) (x0 x1 x2 x3 y0 y1 y2 y3 : Int) : EqRun Try.prog .eql 89 xo yo (.agg #[.int .i64 x0,.int .i64 x1,.int .i64 x2,.int .i64 x3]) (.agg #[.int .i64 y0,.int .i64 y1,.int .i64 y2,.int .i64 y3]) (x0 == y0 && (x1 == y1 && (x2 == y2 && x3 == y3))) := by
  intro w
  simp only [Sem.run_bind,run_eqGuard_agg w .eql 89 xo yo _ _ guardEntT,Result.andThen_ok,run_eql_struct,eqInEntT]
theorem binEntT (g : Bool) (xo yo : Operand) (x0 x1 x2 x3 y0 y1 y2 y3 : Int) (K : AV → Prop) :
    binK Try.prog g .eql 89 xo yo (.agg [.im (.int .i64 x0),.im (.int .i64 x1),.im (.int .i64 x2),.im (.int .i64 x3)]) (.agg [.im (.int .i64 y0),.im (.int .i64 y1),.im (.int .i64 y2),.im (.int .i64 y3)]) K =
      K (.c (.im (.bool (x0 == y0 && (x1 == y1 && (x2 == y2 && x3 == y3)))))) := by
  simp only [binK,imVals,Option.map_some]
  refine propext ⟨fun ⟨b,hb,hK⟩ => ?_,fun h => ⟨_,eqRunEntT xo yo _ _ _ _ _ _ _ _,h⟩⟩
  have h1 := hb default
  have h2 := eqRunEntT xo yo x0 x1 x2 x3 y0 y1 y2 y3 default
  rw [h1] at h2
  simp only [Result.ok.injEq,Value.bool.injEq,and_true] at h2
  rw [← h2];exact hK
/-- An entry of a list. -/
structure En where
  d : Int
  n : Int
  f : Int
  t : Int
def En.z : En := ⟨0,0,0,0⟩
def En.cs (e : En) : List AC := [.im (.int .i64 e.d),.im (.int .i64 e.n),.im (.int .i64 e.f),.im (.int .i64 e.t)]
def enRows (l : List En) : List (List AC) := l.map En.cs
def enAt (l : List En) (i : Nat) : En := l.getD i En.z
theorem length_enRows {l : List En} : (enRows l).length = l.length := by simp [enRows]
theorem getE0 {z : AC} {l : List En} {i : Nat} (h : i < l.length) : getC z (enRows l) i 0 = .im (.int .i64 (enAt l i).d) := by
  unfold getC enAt
  simp [enRows,En.cs,List.getD_eq_getElem?_getD,h]
theorem getE1 {z : AC} {l : List En} {i : Nat} (h : i < l.length) : getC z (enRows l) i 1 = .im (.int .i64 (enAt l i).n) := by
  unfold getC enAt
  simp [enRows,En.cs,List.getD_eq_getElem?_getD,h]
theorem getE2 {z : AC} {l : List En} {i : Nat} (h : i < l.length) : getC z (enRows l) i 2 = .im (.int .i64 (enAt l i).f) := by
  unfold getC enAt
  simp [enRows,En.cs,List.getD_eq_getElem?_getD,h]
theorem getE3 {z : AC} {l : List En} {i : Nat} (h : i < l.length) : getC z (enRows l) i 3 = .im (.int .i64 (enAt l i).t) := by
  unfold getC enAt
  simp [enRows,En.cs,List.getD_eq_getElem?_getD,h]
theorem getER {z : List AC} {l : List En} {i : Nat} (h : i < l.length) : getR z (enRows l) i 0 4 = [.im (.int .i64 (enAt l i).d),.im (.int .i64 (enAt l i).n),.im (.int .i64 (enAt l i).f),.im (.int .i64 (enAt l i).t)] := by
  unfold getR enAt
  simp [enRows,En.cs,List.getD_eq_getElem?_getD,h]
theorem enAt_out {l : List En} {i : Nat} (h : l.length ≤ i) : enAt l i = En.z := by
  unfold enAt;rw [List.getD_eq_getElem?_getD,List.getElem?_eq_none h];rfl
/-- Which of two entries is ahead. -/
def sg (a b : Int) : Int := if a < b then -1 else if b < a then 1 else 0
def vsF (x y : En) : Int := if sg y.d x.d ≠ 0 then sg y.d x.d else if sg x.n y.n ≠ 0 then sg x.n y.n else if sg x.f y.f ≠ 0 then sg x.f y.f else sg y.t x.t
def aheadN (a b : List En) : Nat → Option Int
  | 0 => none
  | i + 1 => match aheadN a b i with
    | some r => some r
    | none => if vsF (enAt a i) (enAt b i) ≠ 0 then some (vsF (enAt a i) (enAt b i)) else none
def aheadF (a b : List En) : Int := (aheadN a b (max a.length b.length)).getD 0

end Go.Proofs.Ytfldmpmaifjcbaa
