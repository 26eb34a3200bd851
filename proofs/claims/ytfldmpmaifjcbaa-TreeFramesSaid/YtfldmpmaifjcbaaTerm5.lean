/-
  term.Up, Deep; the document's Up, Deep.
-/
import Derived.Test.YtfldmpmaifjcbaaTermP
set_option linter.unusedSimpArgs false
namespace Go.Proofs.Ytfldmpmaifjcbaa
open Go Go.Hs


/-! Deep. -/
end Go.Proofs.Ytfldmpmaifjcbaa
