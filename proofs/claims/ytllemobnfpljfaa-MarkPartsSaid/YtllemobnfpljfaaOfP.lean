/-
  Parts of a proof, side by side.
-/
import Derived.Test.YtllemobnfpljfaaFrP
import Derived.Test.YtllemobnfpljfaaKidsP
/-
  PLAIN: rows that are nil or owned, read from now on as rows.
-/
set_option linter.unusedSimpArgs false
set_option linter.unusedVariables false
namespace Go.Proofs.Ytllemobnfpljfaa
open Go Go.Hs

def roFC : RO → AC
  | none => .nil
  | some x => .sl 1 (kRows .i64 x.2)
def roF (R : List RO) : List (List AC) := R.map fun o => [roFC o]
theorem frz_kR {k : IntKind} {l : List Int} : frzLL (kRows k l) = kRows k l := by
  rw [frzLL_eq]
  simp only [kRows, List.map_map]
  rfl
theorem frz_roR {R : List RO} : frzLL (roR R) = roF R := by
  rw [frzLL_eq]
  simp only [roR, roF, List.map_map]
  refine List.map_congr_left fun o _ => ?_
  show frzL [roC o] = [roFC o]
  rw [frzL_eq]
  cases o with
  | none => rfl
  | some x => simp only [roC, roFC, List.map_cons, List.map_nil, AC.frz, frz_kR]
theorem frz_roR' {R : List RO} : AC.frz.frzLL (roR R) = roF R := frz_roR
end Go.Proofs.Ytllemobnfpljfaa

/-
  tree.Frames.
-/
set_option linter.unusedSimpArgs false
set_option linter.unusedVariables false
namespace Go.Proofs.Ytllemobnfpljfaa
open Go Go.Hs


theorem enTakeR {st : List En} {k : Nat} (h : st.length ≤ k) : (enRows st.reverse).take k = enRows st.reverse := List.take_of_length_le (by rw [enLenR]; exact h)
end Go.Proofs.Ytllemobnfpljfaa

/-
  PLAIN: what opens and closes in a parse tree makes it again.
-/
set_option linter.unusedSimpArgs false
set_option linter.unusedVariables false
namespace Go.Proofs.Ytllemobnfpljfaa
open Go Go.Hs

def Mono (b : Int) : Int → List (Int × Int) → Prop
  | a, [] => a ≤ b
  | a, p :: S => a ≤ p.1 ∧ Mono b p.1 S
theorem Mono.le {b : Int} : ∀ {a : Int} {S : List (Int × Int)}, Mono b a S → a ≤ b
  | _, [], h => h
  | _, _ :: _, h => Int.le_trans h.1 (Mono.le h.2)
end Go.Proofs.Ytllemobnfpljfaa
