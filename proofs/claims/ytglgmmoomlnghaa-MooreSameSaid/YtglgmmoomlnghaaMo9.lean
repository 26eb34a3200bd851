/-
  Parts of a proof, side by side.
-/
import Derived.Test.YtglgmmoomlnghaaMoS
import Derived.Test.YtglgmmoomlnghaaInts
import Derived.Test.YtglgmmoomlnghaaMo7
/-
  The document's split.
-/
set_option linter.unusedSimpArgs false
set_option linter.unusedVariables false
namespace Go.Proofs.Ytglgmmoomlnghaa
open Go Go.Hs
theorem bnTF : (true != false) = true := rfl
theorem bnFT : (false != true) = true := rfl
attribute [local go_sem] AV.isS Ed.cs Sta.cs Df.cs length_edRows length_stRows gEd0' gEd0 gEd1 gEdR gSt0' gSt0 gSt1 gSt2 gStR xltT xltF xleT xleF xeqT xeqF xbeT xbeF xbnT xbnF bne_self_eq_false bnTF bnFT

end Go.Proofs.Ytglgmmoomlnghaa

/-
  The document's again, Classes.
-/
set_option linter.unusedSimpArgs false
set_option linter.unusedVariables false
namespace Go.Proofs.Ytglgmmoomlnghaa
open Go Go.Hs
section
variable {α : Type} [DecidableEq α]
def outA (key : Nat → α) (N i : Nat) : List Int := (canV key i).1 ++ List.replicate (N - i) 0
def outV (key : Nat → α) (N i : Nat) (v : Int) : List Int := (canV key i).1 ++ v :: List.replicate (N - i - 1) 0
variable {key : Nat → α} {N i : Nat}
theorem outA_len (h : i ≤ N) : (outA key N i).length = N := by
  have := can_len (key := key) i
  unfold outA;simp;omega
theorem outV_len {v : Int} (h : i < N) : (outV key N i v).length = N := by
  have := can_len (key := key) i
  unfold outV;simp;omega
theorem outV_set {v w : Int} : (outV key N i v).set i w = outV key N i w := by
  have := can_len (key := key) i
  unfold outV
  rw [List.set_append_right _ _ (by omega),this,Nat.sub_self,List.set_cons_zero]
theorem outV_get {v : Int} : (outV key N i v).getD i 0 = v := by
  have := can_len (key := key) i
  unfold outV
  rw [List.getD_eq_getElem?_getD,List.getElem?_append_right (by omega),this,Nat.sub_self];rfl
theorem outV_getk {v : Int} {k : Nat} (h : k < i) : (outV key N i v).getD k 0 = (canV key i).1.getD k 0 := by
  have := can_len (key := key) i
  unfold outV
  rw [List.getD_eq_getElem?_getD,List.getElem?_append_left (by omega),← List.getD_eq_getElem?_getD]
end

attribute [local go_sem] AV.isS Df.cs length_edRows length_stRows xltT xltF xleT xleF xeqT xeqF xbeT xbeF xbnT xbnF bne_self_eq_false outV_len outA_len outV_get outV_getk outV_set

end Go.Proofs.Ytglgmmoomlnghaa

/-
  The document's Least.
-/
set_option linter.unusedSimpArgs false
set_option linter.unusedVariables false
namespace Go.Proofs.Ytglgmmoomlnghaa
open Go Go.Hs
attribute [local go_sem] AV.isS Ed.cs Sta.cs Df.cs length_edRows length_stRows gEd0' gEd0 gEd1 gEdR gSt0' gSt0 gSt1 gSt2 gStR xltT xltF xleT xleF xeqT xeqF xbeT xbeF xbnT xbnF edRows_frz2 stRows_frz2 length_mvP takeMvP takeLsV edSnocM stSnoc2

end Go.Proofs.Ytglgmmoomlnghaa
