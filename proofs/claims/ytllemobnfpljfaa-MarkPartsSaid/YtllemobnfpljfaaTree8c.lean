/-
  Parts of a proof, side by side.
-/
import Derived.Test.YtllemobnfpljfaaKidsP
/-
  The document's parse trees are the program's.
-/
set_option linter.unusedSimpArgs false
set_option linter.unusedVariables false
namespace Go.Proofs.Ytllemobnfpljfaa
open Go Go.Hs
theorem getERo {z : List AC} {l : List En} {i : Nat} (h : l.length ≤ i) : getR z (enRows l) i 0 4 = z := by
  unfold getR
  rw [List.getElem?_eq_none (by rw [length_enRows]; exact h)]; rfl
theorem toN1 {i : Nat} : ((i : Int) + 1).toNat = i + 1 := by omega
theorem dleT {a b : Int} (h : a ≤ b) : decide (a ≤ b) = true := decide_eq_true h
theorem dleF {a b : Int} (h : ¬ a ≤ b) : decide (a ≤ b) = false := decide_eq_false h

attribute [local go_sem] AV.isS wrap_in En.cs Tm.cs binSet binEntN length_enRows length_kRows length_tRows tRows_ex tRows_frz getE0 getE1 getE2 getE3 getER getERo getE1o getK getA getB getN getTm getSet dltT dltF toN1 dleT dleF eqT eqF beT beF

end Go.Proofs.Ytllemobnfpljfaa

/-
  The document's parse trees are the program's.
-/
set_option linter.unusedSimpArgs false
set_option linter.unusedVariables false
namespace Go.Proofs.Ytllemobnfpljfaa
open Go Go.Hs
attribute [local go_sem] AV.isS wrap_in En.cs Tm.cs binSet binEntN length_enRows length_kRows length_tRows tRows_ex tRows_frz getE0 getE1 getE2 getE3 getER getERo getE1o getK getA getB getN getTm getSet dltT dltF toN1 dleT dleF eqT eqF beT beF

end Go.Proofs.Ytllemobnfpljfaa

/-
  The document's parse trees are the program's.
-/
set_option linter.unusedSimpArgs false
set_option linter.unusedVariables false
namespace Go.Proofs.Ytllemobnfpljfaa
open Go Go.Hs
attribute [local go_sem] AV.isS wrap_in En.cs Tm.cs binSet binEntN length_enRows length_kRows length_tRows tRows_ex tRows_frz getE0 getE1 getE2 getE3 getER getERo getE1o getK getA getB getN getTm getSet dltT dltF toN1 dleT dleF eqT eqF beT beF

end Go.Proofs.Ytllemobnfpljfaa
