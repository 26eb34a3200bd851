/-
  What a law's arguments read as: numbers.
-/
import Derived.Test.YtllemobnfpljfaaHty
import Derived.Test.YtllemobnfpljfaaHs17
set_option linter.unusedSimpArgs false
set_option maxRecDepth 10000
namespace Go.Proofs.Ytllemobnfpljfaa
open Go Go.Hs

theorem lvInt : lvs Try.prog 3 = some [3] := by kernel_rfl
section
variable {H : Type} {enc : TypeId × Value → H} {w : World} {v : Value} {d : DataW H} {ps : List MemPlace}

end

end Go.Proofs.Ytllemobnfpljfaa
