/-
  Parts of a proof, side by side.
-/
import Derived.Test.YtglgmmoomlnghaaPkP
import Derived.Test.YtglgmmoomlnghaaPartP
/-
  PLAIN: ranks of runs.
-/
set_option linter.unusedSimpArgs false
set_option linter.unusedVariables false
namespace Go.Proofs.Ytglgmmoomlnghaa
open Go Go.Hs

theorem gopO_f {P : Program} {n : Nat} {S : Env} {pu : Bool} {o : Oper} {d : Nat} {K : Env → Prop} (hd : o.dst = some d) (h : d < n ∧ K (S.set d (.opt false (.c (.im (.bool false)))))) : gopO P n pu S o false K := by
  refine .inr ⟨fun h => absurd h (by decide),fun _ => ?_⟩
  rw [hd]
  exact ⟨h.1,_,rfl,h.2⟩

def rAt (m : List (List Int)) (i : Nat) : List Int := m.getD i []
def rGet (m : List (List Int)) (i k : Nat) : Int := (rAt m i).getD k 0
def Square (m : List (List Int)) (n : Int) : Prop := (m.length : Int) = n ∧ ∀ i : Nat,i < m.length → ((rAt m i).length : Int) = n
def RkCell (b d : List (List Int)) (i k : Nat) : Prop := 0 ≤ rGet b i k ∧ (i = k ∨ ((rGet d i k = 1 ∨ rGet d i k = -1) ∧ rGet d k i = - rGet d i k))
def RkRow (b d : List (List Int)) (n i : Nat) : Prop := rGet b i i = 0 ∧ rGet d i i = 0 ∧ ∀ k : Nat,k < n → RkCell b d i k
def RkOk (b d : List (List Int)) (n : Int) : Prop := Square b n ∧ Square d n ∧ ∀ i : Nat,i < n.toNat → RkRow b d n.toNat i
instance {m : List (List Int)} {n : Int} : Decidable (Square m n) := by unfold Square;infer_instance
instance {b d : List (List Int)} {i k : Nat} : Decidable (RkCell b d i k) := by unfold RkCell;infer_instance
instance {b d : List (List Int)} {n i : Nat} : Decidable (RkRow b d n i) := by unfold RkRow;infer_instance
instance {b d : List (List Int)} {n : Int} : Decidable (RkOk b d n) := by unfold RkOk;infer_instance
end Go.Proofs.Ytglgmmoomlnghaa

/-
  Machines of states: how they lie in memory; which ones are right.
-/
set_option linter.unusedSimpArgs false
set_option linter.unusedVariables false
namespace Go.Proofs.Ytglgmmoomlnghaa
open Go Go.Hs

theorem xltT {a b : Int} (h : a < b) : decide (a < b) = true := decide_eq_true h
theorem xltF {a b : Int} (h : ¬ a < b) : decide (a < b) = false := decide_eq_false h
theorem xleT {a b : Int} (h : a ≤ b) : decide (a ≤ b) = true := decide_eq_true h
theorem xleF {a b : Int} (h : ¬ a ≤ b) : decide (a ≤ b) = false := decide_eq_false h
theorem xeqT {a b : Int} (h : a = b) : decide (a = b) = true := decide_eq_true h
theorem xeqF {a b : Int} (h : a ≠ b) : decide (a = b) = false := decide_eq_false h
theorem xbeT {a b : Int} (h : a = b) : (a == b) = true := by simpa using h
theorem xbeF {a b : Int} (h : a ≠ b) : (a == b) = false := by simpa using h
theorem xbnT {a b : Int} (h : a ≠ b) : (a != b) = true := by simpa using h
theorem xbnF {a b : Int} (h : a = b) : (a != b) = false := by simpa using h
structure Ed where
  to : Int
  src : List Int
structure Sta where
  regs : Int
  acc : List Int
  eds : List Ed
structure Df where
  tags : Int
  cls : List Int
  sts : List Sta
def Ed.z : Ed := ⟨0,[]⟩
def Sta.z : Sta := ⟨0,[],[]⟩
def Ed.cs (x : Ed) : List AC := [.im (.int .i64 x.to),.sl 1 (kRows .i64 x.src)]
def edRows (l : List Ed) : List (List AC) := l.map Ed.cs
def edAt (l : List Ed) (i : Nat) : Ed := l.getD i Ed.z
def Sta.cs (s : Sta) : List AC := [.im (.int .i64 s.regs),.sl 1 (kRows .i64 s.acc),.sl 2 (edRows s.eds)]
def stRows (l : List Sta) : List (List AC) := l.map Sta.cs
def stAt (l : List Sta) (i : Nat) : Sta := l.getD i Sta.z
def Df.cs (d : Df) : List AC := [.im (.int .i64 d.tags),.sl 1 (kRows .i64 d.cls),.sl 3 (stRows d.sts)]
/-! Which numbers, edges, states and machines are right. -/
/-- Bounds, that are less. -/
structure Bd (d : Df) : Prop where
  sts : d.sts.length ≤ 1000
  cls : d.cls.length ≤ 1000
  acc : ∀ i : Nat,i < d.sts.length → (stAt d.sts i).acc.length ≤ 1000
  eds : ∀ i : Nat,i < d.sts.length → (stAt d.sts i).eds.length ≤ 1000
  src : ∀ i : Nat,i < d.sts.length → ∀ k : Nat,k < (stAt d.sts i).eds.length → (edAt (stAt d.sts i).eds k).src.length ≤ 2000
end Go.Proofs.Ytglgmmoomlnghaa
