/-
  Two entries ({int, int, int, int}) are the same just if their numbers are.
-/
import Derived.Test.YtllemobnfpljfaaEq
set_option linter.unusedSimpArgs false
namespace Go.Proofs.Ytllemobnfpljfaa
open Go Go.Hs

/-- An entry of a list. -/
structure En where
  d : Int
  n : Int
  f : Int
  t : Int
def En.z : En := ⟨0, 0, 0, 0⟩
def En.cs (e : En) : List AC := [.im (.int .i64 e.d), .im (.int .i64 e.n), .im (.int .i64 e.f), .im (.int .i64 e.t)]
def enRows (l : List En) : List (List AC) := l.map En.cs
def enAt (l : List En) (i : Nat) : En := l.getD i En.z
theorem length_enRows {l : List En} : (enRows l).length = l.length := by simp [enRows]
theorem getE0 {z : AC} {l : List En} {i : Nat} (h : i < l.length) : getC z (enRows l) i 0 = .im (.int .i64 (enAt l i).d) := by
  unfold getC enAt
  simp [enRows, En.cs, List.getD_eq_getElem?_getD, h]
theorem getE1 {z : AC} {l : List En} {i : Nat} (h : i < l.length) : getC z (enRows l) i 1 = .im (.int .i64 (enAt l i).n) := by
  unfold getC enAt
  simp [enRows, En.cs, List.getD_eq_getElem?_getD, h]
theorem getE2 {z : AC} {l : List En} {i : Nat} (h : i < l.length) : getC z (enRows l) i 2 = .im (.int .i64 (enAt l i).f) := by
  unfold getC enAt
  simp [enRows, En.cs, List.getD_eq_getElem?_getD, h]
theorem getE3 {z : AC} {l : List En} {i : Nat} (h : i < l.length) : getC z (enRows l) i 3 = .im (.int .i64 (enAt l i).t) := by
  unfold getC enAt
  simp [enRows, En.cs, List.getD_eq_getElem?_getD, h]
theorem getER {z : List AC} {l : List En} {i : Nat} (h : i < l.length) : getR z (enRows l) i 0 4 = [.im (.int .i64 (enAt l i).d), .im (.int .i64 (enAt l i).n), .im (.int .i64 (enAt l i).f), .im (.int .i64 (enAt l i).t)] := by
  unfold getR enAt
  simp [enRows, En.cs, List.getD_eq_getElem?_getD, h]
end Go.Proofs.Ytllemobnfpljfaa
