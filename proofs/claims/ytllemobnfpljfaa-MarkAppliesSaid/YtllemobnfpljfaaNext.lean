/-
  bset.Has, bset.Next; the document's.
-/
import Derived.Test.YtllemobnfpljfaaSetP
set_option linter.unusedSimpArgs false
namespace Go.Proofs.Ytllemobnfpljfaa
open Go Go.Hs
attribute [local go_sem] Option.isSome_some Option.isSome_none St.cs length_sRows getSt sRows_frz sRows_per sRows_ex sRows_take getW wrap8_in Int.tdiv_eq_ediv_of_nonneg Int.tmod_eq_emod_of_nonneg shl1 shr1

end Go.Proofs.Ytllemobnfpljfaa
