/-
  What a law's arguments read as: numbers.
-/
import Derived.Test.YtglgmmoomlnghaaHty
import Derived.Test.YtglgmmoomlnghaaHs18
set_option linter.unusedSimpArgs false
set_option maxRecDepth 10000
namespace Go.Proofs.Ytglgmmoomlnghaa
open Go Go.Hs

theorem lvInt : lvs Try.prog 3 = some [3] := by kernel_rfl
section
variable {H : Type} {enc : TypeId × Value → H} {w : World} {v : Value} {d : DataW H} {ps : List MemPlace}

end

end Go.Proofs.Ytglgmmoomlnghaa
