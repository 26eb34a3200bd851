/-
  null.Can, null.Steps; the document's.
-/
import Derived.Test.YtfldmpmaifjcbaaNullP
set_option linter.unusedSimpArgs false
namespace Go.Proofs.Ytfldmpmaifjcbaa
open Go Go.Hs
attribute [local go_sem] Tm.cs binSet length_tRows tRows_ex tRows_frz getK getA getB getN getTm getSet

end Go.Proofs.Ytfldmpmaifjcbaa
