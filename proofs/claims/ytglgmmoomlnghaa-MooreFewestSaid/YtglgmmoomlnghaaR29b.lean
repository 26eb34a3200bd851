/-
  The statement MooreFewest: whatever the input, the law returns true, and the input reads as it did.
-/
import Derived.Test.YtglgmmoomlnghaaRows
import Derived.Test.YtglgmmoomlnghaaMo12
import Derived.Test.YtglgmmoomlnghaaArgsD
import Derived.JoinedCond
namespace Go.Proofs.Ytglgmmoomlnghaa.MooreFewestRow
open Go Go.Hs Go.ChangeShapes Go.WideShapes Go.ChangeAt Go.RowKit

theorem ownKnobs : ownKnob Try.prog.godebug = none := by kernel_rfl
theorem laidOut : laidOutB Try.prog = true := by kernel_rfl

set_option maxRecDepth 100000 in
theorem lifted (os : Os) (started : os.Started) (H : Type) (enc : TypeId × Value → H) :
    ReturnsInHanded {} Try.checked os 4 .any (Rows.mooreFewestSpec.pre6 enc Try.prog Try.f4 Rows.mooreFewestRow.domain false) (Rows.mooreFewestSpec.post enc Try.prog Try.f4 false true false false) := by
  refine returnsInHanded_of_change (C := Try.checked) ownKnobs started (by kernel_rfl) Try.func4
    (ChangeSpec.witness6 (enc := enc) (C := Try.checked) false ⟨#[],#[.agg #[.int .i64 0,.slice none 0 0,.slice none 0 0]],[]⟩ 8 (by kernel_rfl) (by kernel_rfl) (by kernel_rfl) (by kernel_rfl)) ?_
  intro W base args ds gs before hval0 hW hcnd _
  have hval : ∀ (j : Nat) t v,Try.f4.params[j]? = some t → args[j]? = some v → Value.okWide Try.prog W .any 0 t v := fun j t v h1 h2 => Value.okWide_any_base (hval0 j t v h1 h2)
  have hW' := hW
  obtain ⟨p,q,hA0,hV,rfl,hfz,hnd⟩ := hW
  have hA : DataW.TrodAll enc Try.prog W 0 (fun _ => true) true Try.f4.params.toList args.toList ds p := hA0
  rw [Try.params4] at hA hval
  obtain ⟨v0,d0,rfl,rfl,h0⟩ := trodAll_one hA
  obtain ⟨x0,w0,r0⟩ := rd_dfa (hval 0 25 v0 rfl rfl) h0
  exact law_done laidOut (by rw [Try.params4];decide +kernel) (by kernel_rfl) Try.underlying4 hW' rfl rfl (mooreFewest_ok x0 ) (.cons r0 .nil)

end Go.Proofs.Ytglgmmoomlnghaa.MooreFewestRow
namespace Go.Proofs.Ytglgmmoomlnghaa
theorem mooreFewest_holds : Rows.MooreFewestSaid :=
  OpenClaim.holds_of_wide 4 Try.f4 rfl rfl rfl rfl rfl rfl rfl ⟨rfl,rfl,rfl,rfl,rfl⟩ rfl rfl rfl rfl rfl (by kernel_rfl) Try.func4 (by kernel_rfl)
    (of_decide_eq_true (by kernel_rfl)) (by unfold Func.isWrapper;first|(rw [if_pos (by decide +kernel)];kernel_rfl)|(rw [if_neg (by decide +kernel)];exact ⟨rfl,rfl⟩))
    (fun os started H enc _ => MooreFewestRow.lifted os started H enc)
end Go.Proofs.Ytglgmmoomlnghaa
