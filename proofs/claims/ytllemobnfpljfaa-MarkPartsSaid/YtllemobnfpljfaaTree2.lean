/-
  Parts of a proof, side by side.
-/
import Derived.Test.YtllemobnfpljfaaSetP
import Derived.Test.YtllemobnfpljfaaTree1
import Derived.Test.YtllemobnfpljfaaTermP
import Derived.Test.YtllemobnfpljfaaHs17
/-
  bset.Has, bset.Next; the document's.
-/
set_option linter.unusedSimpArgs false
namespace Go.Proofs.Ytllemobnfpljfaa
open Go Go.Hs
attribute [local go_sem] Option.isSome_some Option.isSome_none St.cs length_sRows getSt sRows_frz sRows_per sRows_ex sRows_take getW wrap8_in Int.tdiv_eq_ediv_of_nonneg Int.tmod_eq_emod_of_nonneg shl1 shr1

end Go.Proofs.Ytllemobnfpljfaa

/-
  tree.checker: next, kid, whole, row.
-/
set_option linter.unusedSimpArgs false
set_option linter.unusedVariables false
namespace Go.Proofs.Ytllemobnfpljfaa
open Go Go.Hs


theorem gopO_fb {P : Program} {n : Nat} {S : Env} {pu : Bool} {d : Nat} {c : Call} {pos : String} {after : Array Edge} {gd : Option (Nat × Bool)} {K : Env → Prop} (h : d < n ∧ K (S.set d (.opt false (.c (.im (.bool false)))))) : gopO P n pu S { dst := some d, op := .call c, type := 4, pos := pos, after := after, guard := gd } false K :=
  .inr ⟨fun h => absurd h (by decide), fun _ => ⟨h.1, _, rfl, h.2⟩⟩
theorem dltT {a b : Int} (h : a < b) : decide (a < b) = true := decide_eq_true h
theorem dltF {a b : Int} (h : ¬ a < b) : decide (a < b) = false := decide_eq_false h
theorem eqT {a b : Int} (h : a = b) : decide (a = b) = true := decide_eq_true h
theorem eqF {a b : Int} (h : a ≠ b) : decide (a = b) = false := decide_eq_false h
theorem beT {a b : Int} (h : a = b) : (a == b) = true := by simpa using h
theorem beF {a b : Int} (h : a ≠ b) : (a == b) = false := by simpa using h

end Go.Proofs.Ytllemobnfpljfaa
