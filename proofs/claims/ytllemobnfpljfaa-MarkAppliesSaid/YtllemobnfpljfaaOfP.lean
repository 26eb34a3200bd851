/-
  PLAIN: what opens and closes in a parse tree makes it again.
-/
import Derived.Test.YtllemobnfpljfaaKidsP
import Derived.Test.YtllemobnfpljfaaFrP
set_option linter.unusedSimpArgs false
set_option linter.unusedVariables false
namespace Go.Proofs.Ytllemobnfpljfaa
open Go Go.Hs

def Mono (b : Int) : Int → List (Int × Int) → Prop
  | a, [] => a ≤ b
  | a, p :: S => a ≤ p.1 ∧ Mono b p.1 S
theorem Mono.le {b : Int} : ∀ {a : Int} {S : List (Int × Int)}, Mono b a S → a ≤ b
  | _, [], h => h
  | _, _ :: _, h => Int.le_trans h.1 (Mono.le h.2)
end Go.Proofs.Ytllemobnfpljfaa
