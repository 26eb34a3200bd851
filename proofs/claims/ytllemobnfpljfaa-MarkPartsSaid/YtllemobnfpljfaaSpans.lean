/-
  What groups span: tree.Spans; the document's.
-/
import Derived.Test.YtllemobnfpljfaaSpanP
import Derived.Test.YtllemobnfpljfaaSpE
set_option linter.unusedSimpArgs false
set_option linter.unusedVariables false
namespace Go.Proofs.Ytllemobnfpljfaa
open Go Go.Hs
theorem dleT {a b : Int} (h : a ≤ b) : decide (a ≤ b) = true := decide_eq_true h
theorem dleF {a b : Int} (h : ¬ a ≤ b) : decide (a ≤ b) = false := decide_eq_false h
theorem bneT {a b : Int} (h : a ≠ b) : (a != b) = true := by simpa using h
theorem bneF {a b : Int} (h : a = b) : (a != b) = false := by simpa using h
theorem repSpR {n : Nat} {a b : Int} : List.replicate n [AC.im (.int .i64 a), AC.im (.int .i64 b)] = spRows (List.replicate n (a, b)) := by
  simp [spRows, Sp.cs]

theorem fill_len {k n : Nat} {a b : Sp} (h : k ≤ n) : (List.replicate k a ++ List.replicate (n - k) b).length = n := by simp; omega
attribute [local go_sem] AV.isS wrap_in En.cs Sp.cs binSpEN binSpE length_enRows length_tRows length_kRows getE0 getE1 getE2 getE3 getER getK getA getB getN getTm dltT dltF dleT dleF eqT eqF beT beF bneT bneF length_spRows getS0 getS1 getSR getSD setSp spSnoc splice2 spRows_frz List.length_replicate repSpR fill_len

end Go.Proofs.Ytllemobnfpljfaa
