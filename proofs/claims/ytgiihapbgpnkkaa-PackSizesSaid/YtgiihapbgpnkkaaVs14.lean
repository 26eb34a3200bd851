/-
  THE VALUE SEMANTICS, part 14: rows of numbers: how they are read, set, grown, cut.
-/
import Derived.Test.YtgiihapbgpnkkaaVs13
import Derived.IntWalk
namespace Go.Vs
open Go Go.RowKit

def kRows (k : IntKind) (l : List Int) : List (List AC) := l.map fun n => [.im (.int k n)]
def boRows (l : List Bool) : List (List AC) := l.map fun b => [.im (.bool b)]

section
variable {k : IntKind} {l m : List Int} {bl : List Bool}

theorem length_kRows : (kRows k l).length = l.length := by simp [kRows]
theorem kRows_nil : kRows k [] = [] := rfl
theorem kRows_eq_nil : (kRows k l = []) = (l = []) := by cases l <;> simp [kRows]
theorem kRows_snoc (x : Int) : kRows k l ++ [[.im (.int k x)]] = kRows k (l ++ [x]) := by simp [kRows]
theorem kRows_append : kRows k l ++ kRows k m = kRows k (l ++ m) := by simp [kRows]
theorem kRows_one (x : Int) : [[AC.im (.int k x)]] = kRows k [x] := rfl
theorem getC_kRows {i : Nat} : getC (.im (.int k 0)) (kRows k l) i 0 = .im (.int k (l.getD i 0)) := by
  unfold getC kRows
  by_cases h : i < l.length
  · simp [h]
  · simp [h]
theorem kRows_set {i : Nat} {x : Int} (h : i < l.length) : (kRows k l).set i (splice ((kRows k l).getD i []) 0 [.im (.int k x)]) = kRows k (l.set i x) := by
  have e : (kRows k l).getD i [] = [.im (.int k (l.getD i 0))] := by simp [kRows, h]
  rw [e]
  simp [splice, kRows, List.map_set]
theorem kRows_replicate {n : Nat} {x : Int} : List.replicate n [AC.im (.int k x)] = kRows k (List.replicate n x) := by simp [kRows]
theorem kRows_extract {a b : Nat} : (kRows k l).extract a b = kRows k (l.extract a b) := by simp [kRows, List.extract_eq_take_drop, List.map_take, List.map_drop]
theorem kRows_take {a : Nat} : (kRows k l).take a = kRows k (l.take a) := by simp [kRows, List.map_take]
theorem kRows_isEmpty : (kRows k l).isEmpty = l.isEmpty := by cases l <;> rfl
theorem kRows_flat : ((kRows k l).all fun e => e.all AC.flat) = true := by simp [kRows, AC.flat]

theorem strRows_kRows : strRows (kRows .u8 l) = some l := by
  induction l with
  | nil => rfl
  | cons x r ih => show (strRows (kRows .u8 r)).map (x :: ·) = _; rw [ih]; rfl
theorem strRows_nil : strRows [] = some [] := rfl
theorem length_boRows : (boRows bl).length = bl.length := by simp [boRows]
theorem getC_boRows {i : Nat} : getC (.im (.bool false)) (boRows bl) i 0 = .im (.bool (bl.getD i false)) := by
  unfold getC boRows
  by_cases h : i < bl.length
  · simp [h]
  · simp [h]
theorem getC_box {d : AC} {cs : List AC} {j : Nat} : getC d [cs] 0 j = (cs[j]?).getD d := by simp [getC]
theorem getR_box {zs cs : List AC} {j s : Nat} : getR zs [cs] 0 j s = (cs.drop j).take s := by simp [getR]

/-- Which slots are kept behind a region. -/
def kl (d : Nat) : List (Nat × List Nat) → Option (List Nat)
  | [] => none
  | (k, v) :: r => if k = d then some v else kl d r
/-- In which order a region's operations are taken. -/
def ordl (d : Nat) : List (Nat × List (Bool × Nat)) → List (Bool × Nat)
  | [] => []
  | (k, v) :: r => if k = d then v else ordl d r
theorem boRows_set {i : Nat} {x : Bool} (h : i < bl.length) : (boRows bl).set i (splice ((boRows bl).getD i []) 0 [.im (.bool x)]) = boRows (bl.set i x) := by
  have e : (boRows bl).getD i [] = [.im (.bool (bl.getD i false))] := by simp [boRows, h]
  rw [e]
  simp [splice, boRows, List.map_set]
theorem boRows_replicate {n : Nat} {x : Bool} : List.replicate n [AC.im (.bool x)] = boRows (List.replicate n x) := by simp [boRows]
theorem boRows_snoc (x : Bool) : boRows bl ++ [[.im (.bool x)]] = boRows (bl ++ [x]) := by simp [boRows]
theorem boRows_flat : ((boRows bl).all fun e => e.all AC.flat) = true := by simp [boRows, AC.flat]
end

theorem wrap_in {n : Int} (h1 : -9223372036854775808 ≤ n) (h2 : n ≤ 9223372036854775807) : IntKind.i64.wrap n = n := by
  rw [IntKind.wrap_i64]; omega

theorem range_0 : List.range 0 = [] := rfl
theorem range_1 : List.range 1 = [0] := rfl
theorem range_2 : List.range 2 = [0, 1] := rfl
theorem range_3 : List.range 3 = [0, 1, 2] := rfl
theorem range_4 : List.range 4 = [0, 1, 2, 3] := rfl
theorem range_5 : List.range 5 = [0, 1, 2, 3, 4] := rfl
theorem range_6 : List.range 6 = [0, 1, 2, 3, 4, 5] := rfl
theorem range_7 : List.range 7 = [0, 1, 2, 3, 4, 5, 6] := rfl
theorem range_8 : List.range 8 = [0, 1, 2, 3, 4, 5, 6, 7] := rfl
theorem range_9 : List.range 9 = [0, 1, 2, 3, 4, 5, 6, 7, 8] := rfl
theorem range_10 : List.range 10 = [0, 1, 2, 3, 4, 5, 6, 7, 8, 9] := rfl
theorem range_11 : List.range 11 = [0, 1, 2, 3, 4, 5, 6, 7, 8, 9, 10] := rfl
theorem range_12 : List.range 12 = [0, 1, 2, 3, 4, 5, 6, 7, 8, 9, 10, 11] := rfl
theorem range_13 : List.range 13 = [0, 1, 2, 3, 4, 5, 6, 7, 8, 9, 10, 11, 12] := rfl
theorem range_14 : List.range 14 = [0, 1, 2, 3, 4, 5, 6, 7, 8, 9, 10, 11, 12, 13] := rfl
theorem range_15 : List.range 15 = [0, 1, 2, 3, 4, 5, 6, 7, 8, 9, 10, 11, 12, 13, 14] := rfl
theorem range_16 : List.range 16 = [0, 1, 2, 3, 4, 5, 6, 7, 8, 9, 10, 11, 12, 13, 14, 15] := rfl
theorem toNat_cast (n : Nat) : ((n : Int)).toNat = n := Int.toNat_natCast n

/-- A cut where ways meet again: what holds behind x. -/
theorem awp_mid {P : Program} {n : Nat} {L : Nat → Option (List Nat)} {x y : Code} {Q : Exit → Env → Prop} {S : Env} (M : Env → Prop) (h : awp P n L x (thenE M Q) S) (hy : ∀ S', M S' → awp P n L y Q S') : awp P n L (.seq x y) Q S :=
  ⟨M, h, hy⟩

attribute [go_sem] Option.getD_none Int.le_refl Nat.le_refl List.nil_append List.cons_append eq_self TypeDesc.slice.injEq exists_eq' exists_eq range_0 range_1 range_2 range_3 range_4 range_5 range_6 range_7 range_8 range_9 range_10 range_11 range_12 range_13 range_14 range_15 range_16 List.forall_mem_cons List.not_mem_nil false_imp_iff and_self_iff strRows_kRows strRows_nil length_kRows kRows_eq_nil getC_kRows kRows_snoc kRows_append kRows_replicate kRows_extract kRows_take kRows_isEmpty kRows_flat length_boRows getC_boRows getC_box getR_box dfl kl ordl keep Env.restr Option.getD_some List.drop_zero List.drop_succ_cons List.take_succ_cons List.take_zero boRows_replicate boRows_snoc wrap_in toNat_cast

end Go.Vs
