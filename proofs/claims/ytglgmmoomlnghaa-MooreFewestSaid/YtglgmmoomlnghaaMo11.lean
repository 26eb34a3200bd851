/-
  gimletlaw29.MooreTells.
-/
import Derived.Test.YtglgmmoomlnghaaMo9
import Derived.Test.YtglgmmoomlnghaaMo10
set_option linter.unusedSimpArgs false
set_option linter.unusedVariables false
namespace Go.Proofs.Ytglgmmoomlnghaa
open Go Go.Hs
def O3 (r : Nat) : List Nat × OT := ordl r [(3,([],.load 0 (.load 2 (.grow 1 (.grow 3 (.val 4 (.val 5 (.done)))))))),(6,([],.val 0 (.val 1 (.val 2 (.val 3 (.val 4 (.val 5 (.val 6 (.val 7 (.val 8 (.val 9 (.val 10 (.val 11 (.val 12 (.val 13 (.val 14 (.val 15 (.val 16 (.val 17 (.val 18 (.val 19 (.val 20 (.val 21 (.val 23 (.val 24 (.val 25 (.load 22 (.load 26 (.val 27 (.val 28 (.val 29 (.done))))))))))))))))))))))))))))))))]

theorem cmp_bd {d : Df} (B : Bd d) : Cmp d :=
  ⟨by have := B.sts;omega,by have := B.cls;omega,fun i h => by have := B.acc i h;omega,fun i h => by have := B.eds i h;omega,fun i h k hk => by have := B.src i h k hk;omega⟩
attribute [local go_sem] AV.isS Ed.cs Sta.cs Df.cs length_edRows length_stRows xltT xltF xleT xleF xeqT xeqF xbeT xbeF xbnT xbnF

end Go.Proofs.Ytglgmmoomlnghaa
