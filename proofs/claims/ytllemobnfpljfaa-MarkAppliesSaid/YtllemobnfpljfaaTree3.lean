/-
  tree.checker.node, tree.Right.
-/
import Derived.Test.YtllemobnfpljfaaTree2
set_option linter.unusedSimpArgs false
set_option linter.unusedVariables false
namespace Go.Proofs.Ytllemobnfpljfaa
open Go Go.Hs


def stOf (t : Tm) : St := ⟨t.s0, t.s1, t.s2, t.s3⟩
end Go.Proofs.Ytllemobnfpljfaa
