/-
  gimletlaw26.LiveTells.
-/
import Derived.Test.YtllemobnfpljfaaLive7
set_option linter.unusedSimpArgs false
set_option linter.unusedVariables false
namespace Go.Proofs.Ytllemobnfpljfaa
open Go Go.Hs
attribute [local go_sem] AV.isS Ed.cs Sta.cs Df.cs length_edRows length_stRows gEd0' gEd0 gEd1 gEdR gSt0' gSt0 gSt1 gSt2 gStR xltT xltF xleT xleF xeqT xeqF xbeT xbeF xbnT xbnF bne_self_eq_false length_bRows getBR frzBO frzBO' boRows_frz bRows_frz edRows_frz stRows_frz

end Go.Proofs.Ytllemobnfpljfaa
