/-
  THE HEAP SEMANTICS, part 18: more rules: what a function does with rows that are handed over, told for a nil slice in their place.
-/
import Derived.Test.YtglgmmoomlnghaaHs17
namespace Go.Hs
open Go Go.RowKit

section
variable {P : Program} {w : World} {p : Nat → Prop}

theorem rdL_ints {w : World} {p : Nat → Prop} {k : IntKind} : ∀ {l : List Int} {xs : List Value},RdL w p xs (kRows k l).flatten → xs = l.map fun n => .int k n
  | [],xs,h => by cases h;rfl
  | x :: l,xs,h => by
    have h' : RdL w p xs (.im (.int k x) :: (kRows k l).flatten) := by simpa [kRows] using h
    cases h' with
    | cons h1 t =>
      rw [rdL_ints t]
      cases h1
      rfl

end
end Go.Hs
