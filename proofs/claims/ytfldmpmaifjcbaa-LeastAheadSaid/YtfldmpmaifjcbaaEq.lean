/-
  Parts of a proof, side by side.
-/
import Derived.Test.YtfldmpmaifjcbaaLsP
import Derived.Test.YtfldmpmaifjcbaaHty
import Derived.ChangeKeysEq
/-
  PLAIN: the rows that are filled, and what their bits say.
-/
set_option linter.unusedSimpArgs false
set_option linter.unusedVariables false
namespace Go.Proofs.Ytfldmpmaifjcbaa
open Go Go.Hs

/-! Row after row. -/
def stayK (r : List Int) : Nat → List Int
  | 0 => r
  | k + 1 => putR (stayK r k) k k
def eitherK (r a : List Int) : Nat → List Int
  | 0 => r
  | k + 1 => orRow (eitherK r a k) k a k
def thenI (r a b : List Int) (i : Nat) : Nat → List Int
  | 0 => r
  | m + 1 => if bitR a i (i + m) then orRow (thenI r a b i m) i b (i + m) else thenI r a b i m
def thenK (r a b : List Int) (n : Nat) : Nat → List Int
  | 0 => r
  | k + 1 => thenI (thenK r a b n k) a b k (n + 1 - k)
def againI (r a : List Int) (i : Nat) : Nat → List Int
  | 0 => r
  | m + 1 => if bitR a i (i + 1 + m) then orRow (againI r a i m) i (againI r a i m) (i + 1 + m) else againI r a i m
def againK (r a : List Int) (n : Nat) : Nat → List Int
  | 0 => r
  | c + 1 => againI (putR (againK r a n c) (n - c) (n - c)) a (n - c) c
def leafK (r : List Int) (h : Nat → Bool) : Nat → List Int
  | 0 => r
  | k + 1 => if h k then putR (leafK r h k) k (k + 1) else leafK r h k

theorem stay_ok {r : List Int} (h : RowOk r) : ∀ k,RowOk (stayK r k)
  | 0 => h
  | k + 1 => (stay_ok h k).put _ _
theorem either_ok {r a : List Int} (h : RowOk r) (ha : RowOk a) : ∀ k,RowOk (eitherK r a k)
  | 0 => h
  | k + 1 => (either_ok h ha k).or ha _ _
theorem thenI_ok {r a b : List Int} (h : RowOk r) (hb : RowOk b) (i : Nat) : ∀ m,RowOk (thenI r a b i m)
  | 0 => h
  | m + 1 => by
    rw [thenI];split
    · exact (thenI_ok h hb i m).or hb _ _
    · exact thenI_ok h hb i m
theorem thenK_ok {r a b : List Int} (h : RowOk r) (hb : RowOk b) (n : Nat) : ∀ k,RowOk (thenK r a b n k)
  | 0 => h
  | k + 1 => thenI_ok (thenK_ok h hb n k) hb _ _
theorem againI_ok {r a : List Int} (h : RowOk r) (i : Nat) : ∀ m,RowOk (againI r a i m)
  | 0 => h
  | m + 1 => by
    rw [againI];split
    · exact (againI_ok h i m).or (againI_ok h i m) _ _
    · exact againI_ok h i m
theorem againK_ok {r a : List Int} (h : RowOk r) (n : Nat) : ∀ c,RowOk (againK r a n c)
  | 0 => h
  | c + 1 => againI_ok ((againK_ok h n c).put _ _) _ _
theorem leaf_ok {r : List Int} (h : RowOk r) (f : Nat → Bool) : ∀ k,RowOk (leafK r f k)
  | 0 => h
  | k + 1 => by
    rw [leafK];split
    · exact (leaf_ok h f k).put _ _
    · exact leaf_ok h f k

theorem stay_bit {r : List Int} (h : RowOk r) {i j : Nat} (hj : j < 128) : ∀ k,k ≤ 65 → bitR (stayK r k) i j = (bitR r i j || (decide (i = j) && decide (i < k)))
  | 0,_ => by simp [stayK]
  | k + 1,hk => by
    rw [stayK,bit_put (stay_ok h k) (by omega) (by omega) hj,stay_bit h hj k (by omega),Bool.or_assoc]
    congr 1
    by_cases e : i = j
    · subst e
      by_cases e2 : i = k
      · simp [e2]
      · have : (i < k + 1) = (i < k) := propext ⟨fun h => by omega,fun h => by omega⟩
        simp [e2,this]
    · by_cases e2 : i = k
      · have : ¬ j = k := fun h => e (by omega)
        simp [e,this]
      · simp [e,e2]
theorem either_bit {r a : List Int} (h : RowOk r) (ha : RowOk a) {i j : Nat} (hj : j < 128) : ∀ k,k ≤ 65 → bitR (eitherK r a k) i j = (bitR r i j || (decide (i < k) && bitR a i j))
  | 0,_ => by simp [eitherK]
  | k + 1,hk => by
    rw [eitherK,bit_or (either_ok h ha k) ha (by omega) hj,either_bit h ha hj k (by omega),Bool.or_assoc]
    congr 1
    by_cases e2 : i = k
    · subst e2;simp
    · have : (i < k + 1) = (i < k) := propext ⟨fun h => by omega,fun h => by omega⟩
      simp [e2,this]
def anyK (m : Nat) (f : Nat → Bool) : Bool := (List.range m).any f
theorem anyK_succ {m : Nat} {f : Nat → Bool} : anyK (m + 1) f = (anyK m f || f m) := by
  unfold anyK;rw [List.range_succ,List.any_append];simp
theorem anyK_true {m : Nat} {f : Nat → Bool} : anyK m f = true ↔ ∃ t,t < m ∧ f t = true := by
  unfold anyK;simp
theorem anyK_congr {m : Nat} {f g : Nat → Bool} (h : ∀ t,t < m → f t = g t) : anyK m f = anyK m g := by
  induction m with
  | zero => rfl
  | succ m ih => rw [anyK_succ,anyK_succ,ih (fun t ht => h t (by omega)),h m (by omega)]
theorem thenI_bit {r a b : List Int} (h : RowOk r) (hb : RowOk b) {i i' j : Nat} (hi : i ≤ 64) (hj : j < 128) : ∀ m,bitR (thenI r a b i m) i' j = (bitR r i' j || (decide (i' = i) && anyK m fun t => bitR a i (i + t) && bitR b (i + t) j))
  | 0 => by simp [thenI,anyK]
  | m + 1 => by
    have ih := thenI_bit (a := a) h hb hi hj (i' := i') m
    rw [thenI,anyK_succ]
    split
    · rename_i c
      rw [bit_or (thenI_ok h hb i m) hb hi hj,ih,c]
      cases bitR r i' j <;> cases decide (i' = i) <;> simp
    · rename_i c
      rw [ih]
      simp [c]
theorem thenK_bit {r a b : List Int} (h : RowOk r) (hb : RowOk b) {n i j : Nat} (hn : n ≤ 64) (hj : j < 128) : ∀ k,k ≤ n + 1 → bitR (thenK r a b n k) i j = (bitR r i j || (decide (i < k) && anyK (n + 1 - i) fun t => bitR a i (i + t) && bitR b (i + t) j))
  | 0,_ => by simp [thenK]
  | k + 1,hk => by
    rw [thenK,thenI_bit (thenK_ok h hb n k) hb (by omega) hj,thenK_bit h hb hn hj k (by omega),Bool.or_assoc]
    congr 1
    by_cases e2 : i = k
    · subst e2;simp
    · have : (i < k + 1) = (i < k) := propext ⟨fun h => by omega,fun h => by omega⟩
      simp [e2,this]
theorem leaf_bit {r : List Int} (h : RowOk r) {f : Nat → Bool} {i j : Nat} (hj : j < 128) : ∀ k,k ≤ 64 → bitR (leafK r f k) i j = (bitR r i j || (decide (j = i + 1) && decide (i < k) && f i))
  | 0,_ => by simp [leafK]
  | k + 1,hk => by
    have ih := leaf_bit h (f := f) (i := i) hj k (by omega)
    have e3 : i ≠ k → (i < k + 1) = (i < k) := fun h => propext ⟨fun h => by omega,fun h => by omega⟩
    rw [leafK]
    split
    · rename_i c
      rw [bit_put (leaf_ok h f k) (by omega) (by omega) hj,ih]
      by_cases e2 : i = k
      · subst e2
        cases bitR r i j <;> simp [c]
      · cases bitR r i j <;> simp [e2,e3 e2]
    · rename_i c
      rw [ih]
      by_cases e2 : i = k
      · subst e2
        simp [c]
      · simp [e3 e2]

/-! Any number of times. -/
def starG (f : Nat → Nat → Bool) (n : Nat) : Nat → Nat → Nat → Bool
  | 0,i,j => decide (i = j)
  | m + 1,i,j => decide (i = j) || anyK (n - i) fun t => f i (i + 1 + t) && starG f n m (i + 1 + t) j
theorem star_fuel {f : Nat → Nat → Bool} {n : Nat} : ∀ {m m' i j : Nat},n - i ≤ m → n - i ≤ m' → starG f n m i j = starG f n m' i j
  | 0,0,i,j,_,_ => rfl
  | 0,m' + 1,i,j,h,_ => by
    rw [starG,starG,show n - i = 0 by omega];simp [anyK]
  | m + 1,0,i,j,_,h => by
    rw [starG,starG,show n - i = 0 by omega];simp [anyK]
  | m + 1,m' + 1,i,j,h,h' => by
    rw [starG,starG]
    congr 1
    refine anyK_congr fun t ht => ?_
    rw [star_fuel (m := m) (m' := m') (by omega) (by omega)]
def starF (f : Nat → Nat → Bool) (n i j : Nat) : Bool := starG f n (n - i) i j
theorem starF_eq {f : Nat → Nat → Bool} {n i j : Nat} : starF f n i j = (decide (i = j) || anyK (n - i) fun t => f i (i + 1 + t) && starF f n (i + 1 + t) j) := by
  unfold starF
  cases h : n - i with
  | zero => simp [starG,anyK]
  | succ m =>
    rw [starG,h]
    congr 1
    refine anyK_congr fun t ht => ?_
    rw [star_fuel (m := m) (m' := n - (i + 1 + t)) (by omega) (by omega)]
theorem againI_bit {r a : List Int} (h : RowOk r) {i i' j : Nat} (hi : i ≤ 64) (hj : j < 128) : ∀ m,bitR (againI r a i m) i' j = (bitR r i' j || (decide (i' = i) && anyK m fun t => bitR a i (i + 1 + t) && bitR r (i + 1 + t) j))
  | 0 => by simp [againI,anyK]
  | m + 1 => by
    have ih := fun i' => againI_bit (a := a) h hi hj (i' := i') m
    rw [againI,anyK_succ]
    split
    · rename_i c
      rw [bit_or (againI_ok h i m) (againI_ok h i m) hi hj,ih i',ih (i + 1 + m),c]
      have e : decide (i + 1 + m = i) = false := decide_eq_false (by omega)
      rw [e]
      cases bitR r i' j <;> cases decide (i' = i) <;> simp
    · rename_i c
      rw [ih i']
      simp [c]
theorem againK_bit {r a : List Int} (h : RowOk r) (hz : ∀ i j,bitR r i j = false) {n j : Nat} (hn : n ≤ 64) (hj : j < 128) : ∀ c,c ≤ n + 1 → ∀ i,bitR (againK r a n c) i j = (decide (n + 1 - c ≤ i) && decide (i ≤ n) && starF (bitR a) n i j)
  | 0,_,i => by
    rw [againK,hz]
    by_cases e : n + 1 ≤ i
    · have : ¬ i ≤ n := by omega
      rw [decide_eq_false this,Bool.and_false,Bool.false_and]
    · have : ¬ n + 1 - 0 ≤ i := by omega
      rw [decide_eq_false this,Bool.false_and,Bool.false_and]
  | c + 1,hc,i => by
    have ih := againK_bit h hz (a := a) hn hj c (by omega)
    have hok := againK_ok (a := a) h n c
    rw [againK,againI_bit (hok.put _ _) (by omega) hj,bit_put hok (by omega) (by omega) hj,ih i]
    by_cases e : i = n - c
    · subst e
      have e1 : ¬ n + 1 - c ≤ n - c := by omega
      have e2 : n + 1 - (c + 1) ≤ n - c := by omega
      have e3 : n - c ≤ n := by omega
      rw [starF_eq]
      simp only [e1,e2,e3,decide_true,decide_false,Bool.false_and,Bool.true_and,Bool.and_true,Bool.false_or]
      rw [show n - (n - c) = c by omega]
      have e4 : decide (n - c = j) = decide (j = n - c) := by
        by_cases q : n - c = j
        · simp [q]
        · have : ¬ j = n - c := fun h => q h.symm
          simp [q,this]
      rw [e4]
      congr 1
      refine anyK_congr fun t ht => ?_
      rw [bit_put hok (by omega) (by omega) hj,ih]
      have q1 : n + 1 - c ≤ n - c + 1 + t := by omega
      have q2 : n - c + 1 + t ≤ n := by omega
      have q3 : ¬ n - c + 1 + t = n - c := by omega
      simp [q1,q2,q3]
    · have e0 : decide (n + 1 - (c + 1) ≤ i) = decide (n + 1 - c ≤ i) := decide_eq_decide.2 ⟨fun h => by omega,fun h => by omega⟩
      rw [decide_eq_false e,Bool.false_and,Bool.false_and,e0]
      simp only [Bool.or_false]

end Go.Proofs.Ytfldmpmaifjcbaa

/-
  Two sets of bytes ([4]uint64) are the same just if their words are.
-/
set_option linter.unusedSimpArgs false
namespace Go.Proofs.Ytfldmpmaifjcbaa
open Go Go.Hs

theorem guardSet : Try.prog.eqGuardType Try.prog.depth 36 = false := by kernel_rfl
theorem infoU64s : (Try.prog.info? 34).isSome = true := by kernel_rfl
theorem infoU64 : ∃ i,Try.prog.info? 34 = some i := Option.isSome_iff_exists.1 infoU64s
theorem cellsU64 : Try.prog.cellsOf 34 = 1 := by kernel_rfl

theorem eqInSet (x0 x1 x2 x3 y0 y1 y2 y3 : Int) (w : World) : (Op.equalIn 10000 36 (.agg #[.int .u64 x0,.int .u64 x1,.int .u64 x2,.int .u64 x3]) (.agg #[.int .u64 y0,.int .u64 y1,.int .u64 y2,.int .u64 y3])).run Try.prog w =
    .ok (x0 == y0 && (x1 == y1 && (x2 == y2 && x3 == y3))) w := by
  obtain ⟨i,hi⟩ := infoU64
  rw [show (10000 : Nat) = 9999 + 1 from rfl,run_equalIn_array w 9999 _ _ Try.underlying36 hi,cellsU64]
  have hp : ∀ (cs : Array Value) (j : Nat) (v : Value) (w : World),cs[j]? = some v → (part 34 cs j).run Try.prog w = .ok v w := by
    intro cs j v w h
    simp [part,isAgg,run_underlying Try.underlying34,h]
  have he : ∀ (a b : Int) (w : World),(Op.equalIn 9999 34 (.int .u64 a) (.int .u64 b)).run Try.prog w = .ok (a == b) w := fun a b w => run_equalIn_int w 9998 34 .u64 .u64 a b Try.underlying34
  simp only [List.range_eq_range',List.range',Op.eqItems,Sem.run_bind,Nat.zero_mul,Nat.one_mul,Nat.mul_one,Nat.zero_add,Nat.reduceAdd]
  rw [hp _ 0 (.int .u64 x0) w rfl,Result.andThen_ok,hp _ 0 (.int .u64 y0) w rfl,Result.andThen_ok,he,Result.andThen_ok]
  cases (x0 == y0)
  · simp
  simp only [Bool.not_true,Bool.false_eq_true,if_false,Sem.run_bind]
  rw [hp _ 1 (.int .u64 x1) w rfl,Result.andThen_ok,hp _ 1 (.int .u64 y1) w rfl,Result.andThen_ok,he,Result.andThen_ok]
  cases (x1 == y1)
  · simp
  simp only [Bool.not_true,Bool.false_eq_true,if_false,Sem.run_bind]
  rw [hp _ 2 (.int .u64 x2) w rfl,Result.andThen_ok,hp _ 2 (.int .u64 y2) w rfl,Result.andThen_ok,he,Result.andThen_ok]
  cases (x2 == y2)
  · simp
  simp only [Bool.not_true,Bool.false_eq_true,if_false,Sem.run_bind]
  rw [hp _ 3 (.int .u64 x3) w rfl,Result.andThen_ok,hp _ 3 (.int .u64 y3) w rfl,Result.andThen_ok,he,Result.andThen_ok]
  cases (x3 == y3) <;> simp

theorem eqRunSet (xo yo : Operand) (x0 x1 x2 x3 y0 y1 y2 y3 : Int) : EqRun Try.prog .neq 36 xo yo (.agg #[.int .u64 x0,.int .u64 x1,.int .u64 x2,.int .u64 x3]) (.agg #[.int .u64 y0,.int .u64 y1,.int .u64 y2,.int .u64 y3]) (!(x0 == y0 && (x1 == y1 && (x2 == y2 && x3 == y3)))) := by
  intro w
  simp only [Sem.run_bind,run_eqGuard_agg w .neq 36 xo yo _ _ guardSet,Result.andThen_ok,run_neq_struct,eqInSet]

theorem binSet (g : Bool) (xo yo : Operand) (x0 x1 x2 x3 y0 y1 y2 y3 : Int) (K : AV → Prop) :
    binK Try.prog g .neq 36 xo yo (.agg [.im (.int .u64 x0),.im (.int .u64 x1),.im (.int .u64 x2),.im (.int .u64 x3)]) (.agg [.im (.int .u64 y0),.im (.int .u64 y1),.im (.int .u64 y2),.im (.int .u64 y3)]) K =
      K (.c (.im (.bool !(x0 == y0 && (x1 == y1 && (x2 == y2 && x3 == y3)))))) := by
  simp only [binK,imVals,Option.map_some]
  refine propext ⟨fun ⟨b,hb,hK⟩ => ?_,fun h => ⟨_,eqRunSet xo yo _ _ _ _ _ _ _ _,h⟩⟩
  have h1 := hb default
  have h2 := eqRunSet xo yo x0 x1 x2 x3 y0 y1 y2 y3 default
  rw [h1] at h2
  simp only [Result.ok.injEq,Value.bool.injEq,and_true] at h2
  rw [← h2];exact hK

end Go.Proofs.Ytfldmpmaifjcbaa
