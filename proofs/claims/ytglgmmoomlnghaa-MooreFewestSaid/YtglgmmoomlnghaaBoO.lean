/-
  Rows of rows of bools, as they are owned and as they are handed out.
-/
import Derived.Test.YtglgmmoomlnghaaHs18
set_option linter.unusedSimpArgs false
set_option linter.unusedVariables false
namespace Go.Proofs.Ytglgmmoomlnghaa
open Go Go.Hs

def bAt (T : List (List Bool)) (q : Nat) : List Bool := T.getD q []
end Go.Proofs.Ytglgmmoomlnghaa
