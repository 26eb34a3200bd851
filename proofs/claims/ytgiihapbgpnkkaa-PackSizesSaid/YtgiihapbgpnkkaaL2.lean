/-
  The statement PackSizes: whatever the input, the law returns true, and the input reads as it did.
-/
import Derived.Test.YtgiihapbgpnkkaaRows
import Derived.Test.YtgiihapbgpnkkaaPlaw2
import Derived.Test.YtgiihapbgpnkkaaVs15
import Derived.OpenShut
import Derived.JoinedCond
namespace Go.Proofs.Ytgiihapbgpnkkaa.PackSizesRow
open Go Go.Vs Go.ChangeShapes Go.WideShapes Go.ChangeAt Go.RowKit

theorem ownKnobs : ownKnob Try.prog.godebug = none := by kernel_rfl
theorem laidOut : laidOutB Try.prog = true := by kernel_rfl

set_option maxRecDepth 100000 in
theorem lifted (os : Os) (started : os.Started) (H : Type) (enc : TypeId × Value → H) :
    ReturnsInHanded {} Try.checked os 4 .any (Rows.packSizesSpec.pre6 enc Try.prog Try.f4 Rows.packSizesRow.domain false) (Rows.packSizesSpec.post enc Try.prog Try.f4 false true false false) := by
  refine returnsInHanded_of_change (C := Try.checked) ownKnobs started (by kernel_rfl) Try.func4
    (ChangeSpec.witness6 (enc := enc) (C := Try.checked) false ⟨#[], #[.slice none 0 0, .int .i64 0], []⟩ 8 (by kernel_rfl) (by kernel_rfl) (by kernel_rfl) (by kernel_rfl)) ?_
  intro W base args ds gs before hval0 hW hcnd _
  have hval : ∀ (j : Nat) t v, Try.f4.params[j]? = some t → args[j]? = some v → Value.okWide Try.prog W .any base t v := hval0
  have hW' := hW
  obtain ⟨p, q, hA0, hV, rfl, hfz, hnd⟩ := hW
  have hA : DataW.TrodAll enc Try.prog W 0 (fun _ => true) true Try.f4.params.toList args.toList ds p := hA0
  rw [Try.params4] at hA hval
  obtain ⟨v0, v1, d0, d1, p0, p1, rfl, rfl, rfl, h0, h1⟩ := trodAll_two hA
  obtain ⟨x0, w0, l0, r0⟩ := rd_ints Try.underlying22 Try.underlying5 (by kernel_rfl) (hval 0 22 v0 rfl rfl) h0
  obtain ⟨x1, w1, r1⟩ := rd_int Try.underlying3 (hval 1 3 v1 rfl rfl) h1
  exact law_done laidOut (by rw [Try.params4]; decide +kernel) (by kernel_rfl) Try.underlying4 hW' rfl rfl (packSizes_ok x0 x1 ) (.cons rfl r0 (.cons rfl r1 .nil))

end Go.Proofs.Ytgiihapbgpnkkaa.PackSizesRow
namespace Go.Proofs.Ytgiihapbgpnkkaa
theorem packSizes_holds : Rows.PackSizesSaid :=
  OpenClaim.holds_of_wide 4 Try.f4 rfl rfl rfl rfl rfl rfl rfl ⟨rfl, rfl, rfl, rfl, rfl⟩ rfl rfl rfl rfl rfl (by kernel_rfl) Try.func4 (by kernel_rfl)
    (of_decide_eq_true (by kernel_rfl)) (by unfold Func.isWrapper; first | (rw [if_pos (by decide +kernel)]; kernel_rfl) | (rw [if_neg (by decide +kernel)]; exact ⟨rfl, rfl⟩))
    (fun os started H enc _ => PackSizesRow.lifted os started H enc)
end Go.Proofs.Ytgiihapbgpnkkaa
