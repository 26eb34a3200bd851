/-
  Parts of a proof, side by side.
-/
import Derived.Test.YtglgmmoomlnghaaPk5
import Derived.Test.YtglgmmoomlnghaaPk9
import Derived.Test.YtglgmmoomlnghaaPk21
import Derived.Test.YtglgmmoomlnghaaPk20
import Derived.Test.YtglgmmoomlnghaaPk19
import Derived.Test.YtglgmmoomlnghaaPk1
/-
  The document's Put.
-/
set_option linter.unusedSimpArgs false
set_option linter.unusedVariables false
namespace Go.Proofs.Ytglgmmoomlnghaa
open Go Go.Hs
attribute [local go_sem] AV.isS xltT xltF xleT xleF xeqT xeqF xbeT xbeF xbnT xbnF wrap8_in Int.tdiv_eq_ediv_of_nonneg Int.tmod_eq_emod_of_nonneg

end Go.Proofs.Ytglgmmoomlnghaa

/-
  The document's Encode.
-/
set_option linter.unusedSimpArgs false
set_option linter.unusedVariables false
namespace Go.Proofs.Ytglgmmoomlnghaa
open Go Go.Hs
attribute [local go_sem] AV.isS Wy.cs Sd.cs Pg.cs length_mvRows length_wyRows length_sdRows gMv0 gMv1 gMvR gWy0 gWy1 gWyR gSd0 gSd1 gSdR xltT xltF xleT xleF xeqT xeqF xbeT xbeF xbnT xbnF kRows2 kRowsA

end Go.Proofs.Ytglgmmoomlnghaa

/-
  The law PackTells.
-/
set_option linter.unusedSimpArgs false
set_option linter.unusedVariables false
namespace Go.Proofs.Ytglgmmoomlnghaa
open Go Go.Hs
attribute [local go_sem] AV.isS Pg.cs xltT xltF xleT xleF xeqT xeqF xbeT xbeF xbnT xbnF beq_self_eq_true

end Go.Proofs.Ytglgmmoomlnghaa
