/-
  tree.Ahead; the document's.
-/
import Derived.Test.YtllemobnfpljfaaEntP
set_option linter.unusedSimpArgs false
set_option linter.unusedVariables false
namespace Go.Proofs.Ytllemobnfpljfaa
open Go Go.Hs
attribute [local go_sem] En.cs length_enRows getE0 getE1 getE2 getE3 getER

end Go.Proofs.Ytllemobnfpljfaa
