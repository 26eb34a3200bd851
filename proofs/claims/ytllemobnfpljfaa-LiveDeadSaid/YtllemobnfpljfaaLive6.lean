/-
  The document's Trim. Printed by gen_live6.py.
-/
import Derived.Test.YtllemobnfpljfaaLive3
import Derived.Test.YtllemobnfpljfaaLive5
set_option linter.unusedSimpArgs false
set_option linter.unusedVariables false
namespace Go.Proofs.Ytllemobnfpljfaa
open Go Go.Hs
theorem length_renT {l n : List Int} {t : Nat} (h : t ≤ l.length) : (renF (l.take t) n).length = t := by rw [length_renF, List.length_take]; omega
theorem takeRenT {l n : List Int} {t : Nat} (h : t ≤ l.length) : (renF (l.take t) n).take t = renF (l.take t) n := List.take_of_length_le (by rw [length_renT h]; exact Nat.le_refl _)
theorem takeKeep {l : List Int} {r : List Bool} {k : Nat} : (keepN l r k).take (keepN l r k).length = keepN l r k := List.take_of_length_le (Nat.le_refl _)
attribute [local go_sem] AV.isS Ed.cs Sta.cs Df.cs length_edRows length_stRows gEd0' gEd0 gEd1 gEdR gSt0' gSt0 gSt1 gSt2 gStR xltT xltF xleT xleF xeqT xeqF xbeT xbeF xbnT xbnF length_bRows getBR frzBO frzBO' boRows_frz edRows_frz stRows_frz length_edsP length_trimSs takeEdP takeTrS edSnoc stSnoc length_renT takeRenT takeKeep

end Go.Proofs.Ytllemobnfpljfaa
