/-
  PLAIN: how deep each node lies; how often each node is a part.
-/
import Derived.Test.YtfldmpmaifjcbaaTerm5
set_option linter.unusedSimpArgs false
namespace Go.Proofs.Ytfldmpmaifjcbaa
open Go Go.Hs

/-! How often each node is a part. -/
end Go.Proofs.Ytfldmpmaifjcbaa
