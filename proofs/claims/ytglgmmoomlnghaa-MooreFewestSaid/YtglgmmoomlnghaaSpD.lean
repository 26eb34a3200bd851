/-
  mark.Spans; are two lists of spans the same? (Beside the machines.)
-/
import Derived.Test.YtglgmmoomlnghaaDfP
import Derived.Test.YtglgmmoomlnghaaSpE
set_option linter.unusedSimpArgs false
set_option linter.unusedVariables false
namespace Go.Proofs.Ytglgmmoomlnghaa
open Go Go.Hs
abbrev Sp := Int × Int
def Sp.cs (p : Sp) : List AC := [.im (.int .i64 p.1),.im (.int .i64 p.2)]
def spRows (l : List Sp) : List (List AC) := l.map Sp.cs
def spAt (l : List Sp) (i : Nat) : Sp := l.getD i (0,0)
theorem length_spRows {l : List Sp} : (spRows l).length = l.length := by simp [spRows]
theorem getS0 {z : AC} {l : List Sp} {i : Nat} (h : i < l.length) : getC z (spRows l) i 0 = .im (.int .i64 (spAt l i).1) := by
  unfold getC spAt
  simp [spRows,Sp.cs,List.getD_eq_getElem?_getD,h]
theorem getS1 {z : AC} {l : List Sp} {i : Nat} (h : i < l.length) : getC z (spRows l) i 1 = .im (.int .i64 (spAt l i).2) := by
  unfold getC spAt
  simp [spRows,Sp.cs,List.getD_eq_getElem?_getD,h]
theorem getSR {z : List AC} {l : List Sp} {i : Nat} (h : i < l.length) : getR z (spRows l) i 0 2 = [.im (.int .i64 (spAt l i).1),.im (.int .i64 (spAt l i).2)] := by
  unfold getR spAt
  simp [spRows,Sp.cs,List.getD_eq_getElem?_getD,h]
theorem getSD {l : List Sp} {i : Nat} (h : i < l.length) : (spRows l).getD i [] = [.im (.int .i64 (spAt l i).1),.im (.int .i64 (spAt l i).2)] := by
  unfold spAt
  simp [spRows,Sp.cs,List.getD_eq_getElem?_getD,h]
theorem setSp {l : List Sp} {i : Nat} {a b : Int} : (spRows l).set i [.im (.int .i64 a),.im (.int .i64 b)] = spRows (l.set i (a,b)) := by
  simp [spRows,Sp.cs,List.map_set]
theorem spSnoc {l : List Sp} {a b : Int} : spRows l ++ [[.im (.int .i64 a),.im (.int .i64 b)]] = spRows (l ++ [(a,b)]) := by
  simp [spRows,Sp.cs]
theorem spRows_frz {l : List Sp} : AC.frz.frzLL (spRows l) = spRows l := by
  show frzLL _ = _
  rw [frzLL_eq]
  simp [spRows,Sp.cs,frzL_eq,AC.frz]
theorem spTake {l : List Sp} {k : Nat} (h : l.length ≤ k) : (spRows l).take k = spRows l := List.take_of_length_le (by rw [length_spRows];exact h)
theorem spRows_per {l : List Sp} : (spRows l).all (fun e => e.all AC.per) = true := by simp [spRows,Sp.cs,AC.per]
theorem exSp {l : List Sp} {n : Nat} (h : l.length ≤ n) : ex (spRows l) 0 n = spRows l := by rw [ex_eq,List.drop_zero,List.take_of_length_le (by rw [length_spRows];omega)]
theorem spApp {a b : List Sp} : spRows a ++ spRows b = spRows (a ++ b) := by simp [spRows]
def sp2 (a b : Int) : Sp := if a < 0 ∨ b < 0 then (-1,-1) else (a,b)
def msAt (T : List Int) (to : Int) (g : Nat) : Sp := if g = 0 then sp2 (T.getD 0 0) to else sp2 (T.getD (2 * g - 1) 0) (T.getD (2 * g) 0)
theorem ms_len {T : List Int} {to : Int} {k : Nat} : ((List.range k).map (msAt T to)).length = k := by simp
theorem toNs {i : Nat} : ((i : Int) + 1).toNat = i + 1 := by omega
def cnt (i : Nat) : Nat := if i = 0 then 0 else i / 2 + 1
attribute [local go_sem] AV.isS wrap_in Sp.cs binSpEN binSpE length_kRows xltT xltF xleT xleF xeqT xeqF xbeT xbeF xbnT xbnF length_spRows getS0 getS1 getSR getSD setSp spSnoc spRows_frz spApp spTake spRows_per exSp List.length_replicate Int.tdiv_eq_ediv_of_nonneg Int.tmod_eq_emod_of_nonneg Int.one_mul Int.zero_mul Int.zero_add Int.add_zero ms_len toNs

end Go.Proofs.Ytglgmmoomlnghaa
