/-
  Programs: how they lie in memory; which ones are right; small ones.
-/
import Derived.Test.YtglgmmoomlnghaaPkS
import Derived.Test.YtglgmmoomlnghaaDfP
set_option linter.unusedSimpArgs false
set_option linter.unusedVariables false
namespace Go.Proofs.Ytglgmmoomlnghaa
open Go Go.Hs

def Wy.z : Wy := ⟨0,[]⟩
def Sd.z : Sd := ⟨[],[]⟩
def mvC (m : Int × Int) : List AC := [.im (.int .i64 m.1),.im (.int .i64 m.2)]
def mvRows (l : List (Int × Int)) : List (List AC) := l.map mvC
def mvAt (l : List (Int × Int)) (i : Nat) : Int × Int := l.getD i (0,0)
def Wy.cs (x : Wy) : List AC := [.im (.int .i64 x.to),.sl 2 (mvRows x.mv)]
def wyRows (l : List Wy) : List (List AC) := l.map Wy.cs
def wyAt (l : List Wy) (i : Nat) : Wy := l.getD i Wy.z
def Sd.cs (s : Sd) : List AC := [.sl 1 (kRows .i64 s.acc),.sl 2 (wyRows s.wy)]
def sdRows (l : List Sd) : List (List AC) := l.map Sd.cs
def sdAt (l : List Sd) (i : Nat) : Sd := l.getD i Sd.z
def Pg.cs (p : Pg) : List AC := [.im (.int .i64 p.tags),.im (.int .i64 p.regs),.sl 1 (kRows .i64 p.cls),.sl 2 (sdRows p.sd)]
theorem length_mvRows {l : List (Int × Int)} : (mvRows l).length = l.length := by simp [mvRows]
theorem length_wyRows {l : List Wy} : (wyRows l).length = l.length := by simp [wyRows]
theorem length_sdRows {l : List Sd} : (sdRows l).length = l.length := by simp [sdRows]
theorem gMv0 {z : AC} {l : List (Int × Int)} {i : Nat} (h : i < l.length) : getC z (mvRows l) i 0 = .im (.int .i64 (mvAt l i).1) := by
  unfold getC mvAt
  simp [mvRows,mvC,List.getD_eq_getElem?_getD,h]
theorem gMv1 {z : AC} {l : List (Int × Int)} {i : Nat} (h : i < l.length) : getC z (mvRows l) i 1 = .im (.int .i64 (mvAt l i).2) := by
  unfold getC mvAt
  simp [mvRows,mvC,List.getD_eq_getElem?_getD,h]
theorem gMvR {z : List AC} {l : List (Int × Int)} {i : Nat} (h : i < l.length) : getR z (mvRows l) i 0 2 = [.im (.int .i64 (mvAt l i).1),.im (.int .i64 (mvAt l i).2)] := by
  unfold getR mvAt
  simp [mvRows,mvC,List.getD_eq_getElem?_getD,h]
theorem gWy0 {z : AC} {l : List Wy} {i : Nat} (h : i < l.length) : getC z (wyRows l) i 0 = .im (.int .i64 (wyAt l i).to) := by
  unfold getC wyAt
  simp [wyRows,Wy.cs,List.getD_eq_getElem?_getD,h]
theorem gWy1 {z : AC} {l : List Wy} {i : Nat} (h : i < l.length) : getC z (wyRows l) i 1 = .sl 2 (mvRows (wyAt l i).mv) := by
  unfold getC wyAt
  simp [wyRows,Wy.cs,List.getD_eq_getElem?_getD,h]
theorem gWyR {z : List AC} {l : List Wy} {i : Nat} (h : i < l.length) : getR z (wyRows l) i 0 2 = [.im (.int .i64 (wyAt l i).to),.sl 2 (mvRows (wyAt l i).mv)] := by
  unfold getR wyAt
  simp [wyRows,Wy.cs,List.getD_eq_getElem?_getD,h]
theorem gSd0 {z : AC} {l : List Sd} {i : Nat} (h : i < l.length) : getC z (sdRows l) i 0 = .sl 1 (kRows .i64 (sdAt l i).acc) := by
  unfold getC sdAt
  simp [sdRows,Sd.cs,List.getD_eq_getElem?_getD,h]
theorem gSd1 {z : AC} {l : List Sd} {i : Nat} (h : i < l.length) : getC z (sdRows l) i 1 = .sl 2 (wyRows (sdAt l i).wy) := by
  unfold getC sdAt
  simp [sdRows,Sd.cs,List.getD_eq_getElem?_getD,h]
theorem gSdR {z : List AC} {l : List Sd} {i : Nat} (h : i < l.length) : getR z (sdRows l) i 0 2 = [.sl 1 (kRows .i64 (sdAt l i).acc),.sl 2 (wyRows (sdAt l i).wy)] := by
  unfold getR sdAt
  simp [sdRows,Sd.cs,List.getD_eq_getElem?_getD,h]

/-! Which ones are right. -/
abbrev MvOk (regs : Int) (m : Int × Int) : Prop := 0 ≤ m.1 ∧ m.1 < regs ∧ -1 ≤ m.2 ∧ m.2 < regs ∧ m.2 ≠ m.1
abbrev WyOk (p : Pg) (x : Wy) : Prop := (-1 ≤ x.to ∧ x.to < p.sd.length ∧ (x.to ≠ -1 ∨ x.mv.length = 0) ∧ (x.mv.length : Int) ≤ 2 * p.regs) ∧ ∀ i : Nat,i < x.mv.length → MvOk p.regs (mvAt x.mv i)
def wyB (p : Pg) (x : Wy) : Bool := decide (WyOk p x)
abbrev SdOk (p : Pg) (c : Nat) (s : Sd) : Prop := ((s.acc.length = 0 ∨ (s.acc.length : Int) = p.tags) ∧ s.wy.length = c) ∧ (∀ i : Nat,i < s.acc.length → -2 ≤ s.acc.getD i 0 ∧ s.acc.getD i 0 < p.regs) ∧ ∀ i : Nat,i < s.wy.length → wyB p (wyAt s.wy i) = true
abbrev PHead (p : Pg) : Prop := 1 ≤ p.tags ∧ p.tags ≤ 19 ∧ Int.tmod p.tags 2 ≠ 0 ∧ 1 ≤ p.regs ∧ p.regs ≤ 1217 ∧ 1 ≤ p.sd.length ∧ p.sd.length ≤ 400 ∧ rightC p.cls = true
abbrev PgOk (p : Pg) : Prop := PHead p ∧ ∀ i : Nat,i < p.sd.length → SdOk p (leastC p.cls).length (sdAt p.sd i)
def pgB (p : Pg) : Bool := decide (PgOk p)
abbrev SmallSd (s : Sd) : Prop := (s.acc.length ≤ 40 ∧ s.wy.length ≤ 300) ∧ ∀ i : Nat,i < s.wy.length → (wyAt s.wy i).mv.length ≤ 1300
abbrev SmallPg (p : Pg) : Prop := (p.sd.length ≤ 60 ∧ p.cls.length ≤ 300 ∧ p.regs ≤ 600) ∧ ∀ i : Nat,i < p.sd.length → SmallSd (sdAt p.sd i)
def smallPB (p : Pg) : Bool := decide (SmallPg p)

/-- Bounds of what is in a program. -/
structure BdP (p : Pg) : Prop where
  sd : p.sd.length ≤ 1000
  cls : p.cls.length ≤ 1000
  acc : ∀ i,i < p.sd.length → (sdAt p.sd i).acc.length ≤ 2000
  wy : ∀ i,i < p.sd.length → (sdAt p.sd i).wy.length ≤ 2000
  mv : ∀ i,i < p.sd.length → ∀ c,c < (sdAt p.sd i).wy.length → (wyAt (sdAt p.sd i).wy c).mv.length ≤ 3000
theorem BdP.small {p : Pg} (h : SmallPg p) : BdP p :=
  ⟨by have := h.1.1;omega,by have := h.1.2.1;omega,fun i hi => by have := (h.2 i hi).1;omega,fun i hi => by have := (h.2 i hi).1;omega,fun i hi c hc => by have := (h.2 i hi).2 c hc;omega⟩
theorem at_mem {α : Type} {l : List α} {z : α} {i : Nat} (h : i < l.length) : l.getD i z ∈ l := by
  rw [List.getD_eq_getElem?_getD,List.getElem?_eq_getElem h];exact List.getElem_mem h
theorem BdP.inn {p : Pg} (h : pgIn p) : BdP p := by
  obtain ⟨_,_,h1,_,h2,h3⟩ := h
  refine ⟨by omega,by omega,fun i hi => ?_,fun i hi => ?_,fun i hi c hc => ?_⟩
  · have := (h3 _ (at_mem (z := Sd.z) hi)).1
    have e : p.sd.getD i Sd.z = sdAt p.sd i := rfl
    rw [e] at this;omega
  · have := (h3 _ (at_mem (z := Sd.z) hi)).2.2.1
    have e : p.sd.getD i Sd.z = sdAt p.sd i := rfl
    rw [e] at this;omega
  · have := ((h3 _ (at_mem (z := Sd.z) hi)).2.2.2 _ (at_mem (z := Wy.z) hc)).2.1
    have e : ((p.sd.getD i Sd.z).wy.getD c Wy.z) = wyAt (sdAt p.sd i).wy c := rfl
    rw [e] at this;omega
theorem wyB_no {p : Pg} {x : Wy} (h : ¬ WyOk p x) : wyB p x = false := decide_eq_false h
theorem pgB_no {p : Pg} {i : Nat} (hi : i < p.sd.length) (h : ¬ SdOk p (leastC p.cls).length (sdAt p.sd i)) : pgB p = false := decide_eq_false fun g => h (g.2 i hi)

end Go.Proofs.Ytglgmmoomlnghaa
