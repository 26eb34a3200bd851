/-
  The statement PackBack: whatever the input, the law returns true, and the input reads as it did.
-/
import Derived.Test.YtglgmmoomlnghaaRows
import Derived.Test.YtglgmmoomlnghaaPk23
import Derived.Test.YtglgmmoomlnghaaArgsP
import Derived.JoinedCond
namespace Go.Proofs.Ytglgmmoomlnghaa.PackBackRow
open Go Go.Hs Go.ChangeShapes Go.WideShapes Go.ChangeAt Go.RowKit

theorem ownKnobs : ownKnob Try.prog.godebug = none := by kernel_rfl
theorem laidOut : laidOutB Try.prog = true := by kernel_rfl

set_option maxRecDepth 100000 in
theorem lifted (os : Os) (started : os.Started) (H : Type) (enc : TypeId × Value → H) :
    ReturnsInHanded {} Try.checked os 7 .any (Rows.packBackSpec.pre6 enc Try.prog Try.f7 Rows.packBackRow.domain false) (Rows.packBackSpec.post enc Try.prog Try.f7 false true false false) := by
  refine returnsInHanded_of_change (C := Try.checked) ownKnobs started (by kernel_rfl) Try.func7
    (ChangeSpec.witness6 (enc := enc) (C := Try.checked) false ⟨#[], #[.agg #[.int .i64 0, .int .i64 0, .slice none 0 0, .slice none 0 0], .slice none 0 0, .int .i64 0], []⟩ 8 (by kernel_rfl) (by kernel_rfl) (by kernel_rfl) (by kernel_rfl)) ?_
  intro W base args ds gs before hval0 hW hcnd _
  have hval : ∀ (j : Nat) t v, Try.f7.params[j]? = some t → args[j]? = some v → Value.okWide Try.prog W .any 0 t v := fun j t v h1 h2 => Value.okWide_any_base (hval0 j t v h1 h2)
  have hW' := hW
  obtain ⟨p, q, hA0, hV, rfl, hfz, hnd⟩ := hW
  have hA : DataW.TrodAll enc Try.prog W 0 (fun _ => true) true Try.f7.params.toList args.toList ds p := hA0
  rw [Try.params7] at hA hval
  obtain ⟨v0, v1, v2, d0, d1, d2, p0, p1, p2, rfl, rfl, rfl, h0, h1, h2⟩ := trodAll_three hA
  obtain ⟨x0, w0, r0⟩ := rd_prog (hval 0 55 v0 rfl rfl) h0
  obtain ⟨x1, w1, r1⟩ := rd_bytes (hval 1 37 v1 rfl rfl) h1
  obtain ⟨x2, w2, r2⟩ := rd_int (hval 2 3 v2 rfl rfl) h2
  exact law_done laidOut (by rw [Try.params7]; decide +kernel) (by kernel_rfl) Try.underlying4 hW' rfl rfl (packBack_ok x0 x1 x2 w1) (.cons r0 (.cons r1 (.cons r2 .nil)))

end Go.Proofs.Ytglgmmoomlnghaa.PackBackRow
namespace Go.Proofs.Ytglgmmoomlnghaa
theorem packBack_holds : Rows.PackBackSaid :=
  OpenClaim.holds_of_wide 7 Try.f7 rfl rfl rfl rfl rfl rfl rfl ⟨rfl, rfl, rfl, rfl, rfl⟩ rfl rfl rfl rfl rfl (by kernel_rfl) Try.func7 (by kernel_rfl)
    (of_decide_eq_true (by kernel_rfl)) (by unfold Func.isWrapper; first | (rw [if_pos (by decide +kernel)]; kernel_rfl) | (rw [if_neg (by decide +kernel)]; exact ⟨rfl, rfl⟩))
    (fun os started H enc _ => PackBackRow.lifted os started H enc)
end Go.Proofs.Ytglgmmoomlnghaa
