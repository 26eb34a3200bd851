/-
  THE HEAP SEMANTICS, part 18: more rules: what a function does with rows that are handed over, told for a nil slice in their place.
-/
import Derived.Test.YtfldmpmaifjcbaaHs17
namespace Go.Hs
open Go Go.RowKit

section
variable {P : Program} {w : World} {p : Nat → Prop}

end
end Go.Hs
