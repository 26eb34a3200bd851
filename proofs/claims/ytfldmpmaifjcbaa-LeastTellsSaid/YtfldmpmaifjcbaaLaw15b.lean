/-
  gimletref15: Match, Find.
-/
import Derived.Test.YtfldmpmaifjcbaaLsM
set_option linter.unusedSimpArgs false
set_option linter.unusedVariables false
namespace Go.Proofs.Ytfldmpmaifjcbaa
open Go Go.Hs
attribute [local go_sem] frzBO frzBO' length_boO spRows_flat' true_and length_spRows spTake' enRows_frz' enRows_ex AV.isS dltT dltF dleT dleF En.cs length_enRows Tm.cs length_tRows eqT eqF beT beF bneT bneF

end Go.Proofs.Ytfldmpmaifjcbaa
