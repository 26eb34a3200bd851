/-
  PLAIN: ranks of runs.
-/
import Derived.Test.YtglgmmoomlnghaaHs18
set_option linter.unusedSimpArgs false
set_option linter.unusedVariables false
namespace Go.Proofs.Ytglgmmoomlnghaa
open Go Go.Hs

theorem gopO_f {P : Program} {n : Nat} {S : Env} {pu : Bool} {o : Oper} {d : Nat} {K : Env → Prop} (hd : o.dst = some d) (h : d < n ∧ K (S.set d (.opt false (.c (.im (.bool false)))))) : gopO P n pu S o false K := by
  refine .inr ⟨fun h => absurd h (by decide),fun _ => ?_⟩
  rw [hd]
  exact ⟨h.1,_,rfl,h.2⟩

def rAt (m : List (List Int)) (i : Nat) : List Int := m.getD i []
def rGet (m : List (List Int)) (i k : Nat) : Int := (rAt m i).getD k 0
def Square (m : List (List Int)) (n : Int) : Prop := (m.length : Int) = n ∧ ∀ i : Nat,i < m.length → ((rAt m i).length : Int) = n
def RkCell (b d : List (List Int)) (i k : Nat) : Prop := 0 ≤ rGet b i k ∧ (i = k ∨ ((rGet d i k = 1 ∨ rGet d i k = -1) ∧ rGet d k i = - rGet d i k))
def RkRow (b d : List (List Int)) (n i : Nat) : Prop := rGet b i i = 0 ∧ rGet d i i = 0 ∧ ∀ k : Nat,k < n → RkCell b d i k
def RkOk (b d : List (List Int)) (n : Int) : Prop := Square b n ∧ Square d n ∧ ∀ i : Nat,i < n.toNat → RkRow b d n.toNat i
instance {m : List (List Int)} {n : Int} : Decidable (Square m n) := by unfold Square;infer_instance
instance {b d : List (List Int)} {i k : Nat} : Decidable (RkCell b d i k) := by unfold RkCell;infer_instance
instance {b d : List (List Int)} {n i : Nat} : Decidable (RkRow b d n i) := by unfold RkRow;infer_instance
instance {b d : List (List Int)} {n : Int} : Decidable (RkOk b d n) := by unfold RkOk;infer_instance
end Go.Proofs.Ytglgmmoomlnghaa
