/-
  PLAIN: which nodes of a term can be nothing, and the steps of one.
-/
import Derived.Test.YtfldmpmaifjcbaaTermQ
import Derived.Test.YtfldmpmaifjcbaaHs18
set_option linter.unusedSimpArgs false
namespace Go.Proofs.Ytfldmpmaifjcbaa
open Go Go.Hs

end Go.Proofs.Ytfldmpmaifjcbaa
