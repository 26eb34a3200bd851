/-
  Machines of states: how they lie in memory; which ones are right.
-/
import Derived.Test.YtglgmmoomlnghaaPartP
import Derived.Test.YtglgmmoomlnghaaRankP
set_option linter.unusedSimpArgs false
set_option linter.unusedVariables false
namespace Go.Proofs.Ytglgmmoomlnghaa
open Go Go.Hs

theorem xltT {a b : Int} (h : a < b) : decide (a < b) = true := decide_eq_true h
theorem xltF {a b : Int} (h : ¬ a < b) : decide (a < b) = false := decide_eq_false h
theorem xleT {a b : Int} (h : a ≤ b) : decide (a ≤ b) = true := decide_eq_true h
theorem xleF {a b : Int} (h : ¬ a ≤ b) : decide (a ≤ b) = false := decide_eq_false h
theorem xeqT {a b : Int} (h : a = b) : decide (a = b) = true := decide_eq_true h
theorem xeqF {a b : Int} (h : a ≠ b) : decide (a = b) = false := decide_eq_false h
theorem xbeT {a b : Int} (h : a = b) : (a == b) = true := by simpa using h
theorem xbeF {a b : Int} (h : a ≠ b) : (a == b) = false := by simpa using h
theorem xbnT {a b : Int} (h : a ≠ b) : (a != b) = true := by simpa using h
theorem xbnF {a b : Int} (h : a = b) : (a != b) = false := by simpa using h
structure Ed where
  to : Int
  src : List Int
structure Sta where
  regs : Int
  acc : List Int
  eds : List Ed
structure Df where
  tags : Int
  cls : List Int
  sts : List Sta
def Ed.z : Ed := ⟨0,[]⟩
def Sta.z : Sta := ⟨0,[],[]⟩
def Ed.cs (x : Ed) : List AC := [.im (.int .i64 x.to),.sl 1 (kRows .i64 x.src)]
def edRows (l : List Ed) : List (List AC) := l.map Ed.cs
def edAt (l : List Ed) (i : Nat) : Ed := l.getD i Ed.z
def Sta.cs (s : Sta) : List AC := [.im (.int .i64 s.regs),.sl 1 (kRows .i64 s.acc),.sl 2 (edRows s.eds)]
def stRows (l : List Sta) : List (List AC) := l.map Sta.cs
def stAt (l : List Sta) (i : Nat) : Sta := l.getD i Sta.z
def Df.cs (d : Df) : List AC := [.im (.int .i64 d.tags),.sl 1 (kRows .i64 d.cls),.sl 3 (stRows d.sts)]
theorem length_edRows {l : List Ed} : (edRows l).length = l.length := by simp [edRows]
theorem length_stRows {l : List Sta} : (stRows l).length = l.length := by simp [stRows]
theorem gEd0 {z : AC} {l : List Ed} {i : Nat} (h : i < l.length) : getC z (edRows l) i 0 = .im (.int .i64 (edAt l i).to) := by
  unfold getC edAt
  simp [edRows,Ed.cs,List.getD_eq_getElem?_getD,h]
theorem gEd1 {z : AC} {l : List Ed} {i : Nat} (h : i < l.length) : getC z (edRows l) i 1 = .sl 1 (kRows .i64 (edAt l i).src) := by
  unfold getC edAt
  simp [edRows,Ed.cs,List.getD_eq_getElem?_getD,h]
theorem gEdR {z : List AC} {l : List Ed} {i : Nat} (h : i < l.length) : getR z (edRows l) i 0 2 = [.im (.int .i64 (edAt l i).to),.sl 1 (kRows .i64 (edAt l i).src)] := by
  unfold getR edAt
  simp [edRows,Ed.cs,List.getD_eq_getElem?_getD,h]
theorem gSt0 {z : AC} {l : List Sta} {i : Nat} (h : i < l.length) : getC z (stRows l) i 0 = .im (.int .i64 (stAt l i).regs) := by
  unfold getC stAt
  simp [stRows,Sta.cs,List.getD_eq_getElem?_getD,h]
theorem gSt0' {l : List Sta} {i : Nat} : getC (.im (.int .i64 0)) (stRows l) i 0 = .im (.int .i64 (stAt l i).regs) := by
  by_cases h : i < l.length
  · exact gSt0 h
  · unfold getC stAt
    simp [stRows,List.getD_eq_getElem?_getD,h,Sta.z]
theorem gEd0' {l : List Ed} {i : Nat} : getC (.im (.int .i64 0)) (edRows l) i 0 = .im (.int .i64 (edAt l i).to) := by
  by_cases h : i < l.length
  · exact gEd0 h
  · unfold getC edAt
    simp [edRows,List.getD_eq_getElem?_getD,h,Ed.z]
theorem gSt1 {z : AC} {l : List Sta} {i : Nat} (h : i < l.length) : getC z (stRows l) i 1 = .sl 1 (kRows .i64 (stAt l i).acc) := by
  unfold getC stAt
  simp [stRows,Sta.cs,List.getD_eq_getElem?_getD,h]
theorem gSt2 {z : AC} {l : List Sta} {i : Nat} (h : i < l.length) : getC z (stRows l) i 2 = .sl 2 (edRows (stAt l i).eds) := by
  unfold getC stAt
  simp [stRows,Sta.cs,List.getD_eq_getElem?_getD,h]
theorem gStR {z : List AC} {l : List Sta} {i : Nat} (h : i < l.length) : getR z (stRows l) i 0 3 = [.im (.int .i64 (stAt l i).regs),.sl 1 (kRows .i64 (stAt l i).acc),.sl 2 (edRows (stAt l i).eds)] := by
  unfold getR stAt
  simp [stRows,Sta.cs,List.getD_eq_getElem?_getD,h]

/-! Which numbers, edges, states and machines are right. -/
abbrev entP (n regs : Int) (may : Bool) : Prop := (0 ≤ n ∧ n < regs) ∨ n = -1 ∨ (may = true ∧ n = -2)
def entB (n regs : Int) (may : Bool) : Bool := decide (entP n regs may)
abbrev EdgeOk (d : Df) (x : Ed) (regs : Int) : Prop := (x.to = -1 ∧ x.src.length = 0) ∨ (x.to ≠ -1 ∧ 0 ≤ x.to ∧ x.to < d.sts.length ∧ (x.src.length : Int) = (stAt d.sts x.to.toNat).regs ∧ ∀ i : Nat,i < x.src.length → entB (x.src.getD i 0) regs false = true)
def edgeB (d : Df) (x : Ed) (regs : Int) : Bool := decide (EdgeOk d x regs)
abbrev AccOk (s : Sta) (tags : Int) : Prop := (s.acc.length = 0 ∨ (s.acc.length : Int) = tags) ∧ ∀ i : Nat,i < s.acc.length → entB (s.acc.getD i 0) s.regs true = true
def accB (s : Sta) (tags : Int) : Bool := decide (AccOk s tags)
abbrev StOk (d : Df) (c : Nat) (s : Sta) : Prop := (0 ≤ s.regs ∧ s.regs ≤ 1216 ∧ s.eds.length = c) ∧ accB s d.tags = true ∧ ∀ i : Nat,i < s.eds.length → edgeB d (edAt s.eds i) s.regs = true
def stB (d : Df) (c : Nat) (s : Sta) : Bool := decide (StOk d c s)
abbrev MHead (d : Df) : Prop := 1 ≤ d.tags ∧ d.tags ≤ 19 ∧ Int.tmod d.tags 2 ≠ 0 ∧ 1 ≤ d.sts.length ∧ d.sts.length ≤ 400 ∧ rightC d.cls = true
abbrev MOk (d : Df) : Prop := MHead d ∧ (stAt d.sts 0).regs = 0 ∧ ∀ i : Nat,i < d.sts.length → stB d (leastC d.cls).length (stAt d.sts i) = true
def mB (d : Df) : Bool := decide (MOk d)

/-- Not too much. -/
abbrev SmallSt (s : Sta) : Prop := (s.acc.length ≤ 40 ∧ s.eds.length ≤ 300 ∧ s.regs ≤ 400) ∧ ∀ i : Nat,i < s.eds.length → (edAt s.eds i).src.length ≤ 400
abbrev SmallP (d : Df) : Prop := (d.sts.length ≤ 60 ∧ d.cls.length ≤ 300) ∧ ∀ i : Nat,i < d.sts.length → SmallSt (stAt d.sts i)
def smallB (d : Df) : Bool := decide (SmallP d)
/-- Bounds, that are less. -/
structure Bd (d : Df) : Prop where
  sts : d.sts.length ≤ 1000
  cls : d.cls.length ≤ 1000
  acc : ∀ i : Nat,i < d.sts.length → (stAt d.sts i).acc.length ≤ 1000
  eds : ∀ i : Nat,i < d.sts.length → (stAt d.sts i).eds.length ≤ 1000
  src : ∀ i : Nat,i < d.sts.length → ∀ k : Nat,k < (stAt d.sts i).eds.length → (edAt (stAt d.sts i).eds k).src.length ≤ 2000
theorem bd_of {d : Df} (h : SmallP d) : Bd d :=
  ⟨by omega,by omega,fun i hi => by have := h.2 i hi;omega,fun i hi => by have := h.2 i hi;omega,fun i hi k hk => by have := (h.2 i hi).2 k hk;omega⟩

end Go.Proofs.Ytglgmmoomlnghaa
