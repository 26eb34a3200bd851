/-
  Parts of a proof, side by side.
-/
import Derived.Test.YtfldmpmaifjcbaaLsW
import Derived.Test.YtfldmpmaifjcbaaKidsP
import Derived.SizedLaws
import Derived.Test.YtfldmpmaifjcbaaRows
import Derived.Test.YtfldmpmaifjcbaaLaw15e
import Derived.JoinedCond
/-
  What a law's arguments read as: entries, bytes, frames.
-/
set_option linter.unusedSimpArgs false
set_option linter.unusedVariables false
set_option maxRecDepth 10000
namespace Go.Proofs.Ytfldmpmaifjcbaa
open Go Go.Hs

theorem lvU8 : lvs Try.prog 5 = some [5] := by kernel_rfl
section
variable {H : Type} {enc : TypeId × Value → H} {w : World} {v : Value} {d : DataW H} {ps : List MemPlace}

theorem rd_bytes (hok : Value.okWide Try.prog w .any 0 30 v) (h : DataW.Trod enc Try.prog w 0 (fun _ => true) true 30 v d ps) :
    ∃ l : List Int,(l.length ≤ maxLen ∧ ∀ m ∈ l,0 ≤ m ∧ m ≤ 255) ∧ RdS w (fun b => b < w.heap.size) v (.c (.sl 1 (kRows .u8 l))) := by
  obtain ⟨c,h1,h2⟩ := rd_arg 3 (by kernel_rfl) hok h
  obtain ⟨l,rfl,h3,h4⟩ := ok_ints Try.underlying30 lvU8 Try.underlying5 h1
  exact ⟨l,⟨h3,fun m hm => wf_u8' (h4 m hm)⟩,h2⟩
end

end Go.Proofs.Ytfldmpmaifjcbaa

/-
  How long a list of terms can be that came in: by the form's own reach.
-/
set_option maxRecDepth 10000
namespace Go.Proofs.Ytfldmpmaifjcbaa
open Go Go.Hs Go.ChangeShapes Go.WideShapes Go.ChangeAt Go.RowKit

theorem lvSpan : lvs Try.prog 54 = some [3,3] := by kernel_rfl
section
variable {H : Type} {enc : TypeId × Value → H} {w : World} {v : Value} {d : DataW H} {ps : List MemPlace}
theorem rd_span (hok : Value.okWide Try.prog w .any 0 54 v) (h : DataW.Trod enc Try.prog w 0 (fun _ => true) true 54 v d ps) :
    ∃ x : Int × Int,True ∧ RdS w (fun b => b < w.heap.size) v (.agg [.im (.int .i64 x.1),.im (.int .i64 x.2)]) := by
  obtain ⟨cs,h1,h2⟩ := rd_agg 4 (by kernel_rfl) lvSpan (by kernel_rfl) hok h
  obtain ⟨c0,r0,rfl,o0,g0⟩ := okR_cons h1
  obtain ⟨c1,r1,rfl,o1,g1⟩ := okR_cons g0
  obtain rfl := okR_nil g1
  obtain ⟨m0,w0,rfl⟩ := ok_int Try.underlying3 o0
  obtain ⟨m1,w1,rfl⟩ := ok_int Try.underlying3 o1
  exact ⟨(m0,m1),trivial,h2⟩
end

end Go.Proofs.Ytfldmpmaifjcbaa

/-
  The statement LeastFirst: whatever the input, the law returns true, and the input reads as it did.
-/
namespace Go.Proofs.Ytfldmpmaifjcbaa.LeastFirstRow
open Go Go.Hs Go.ChangeShapes Go.WideShapes Go.ChangeAt Go.RowKit

theorem ownKnobs : ownKnob Try.prog.godebug = none := by kernel_rfl
theorem laidOut : laidOutB Try.prog = true := by kernel_rfl

set_option maxRecDepth 100000 in
theorem lifted (os : Os) (started : os.Started) (H : Type) (enc : TypeId × Value → H) :
    ReturnsInHanded {} Try.checked os 12 .any (Rows.leastFirstSpec.pre6 enc Try.prog Try.f12 Rows.leastFirstRow.domain false) (Rows.leastFirstSpec.post enc Try.prog Try.f12 false true false false) := by
  refine returnsInHanded_of_change (C := Try.checked) ownKnobs started (by kernel_rfl) Try.func12
    (ChangeSpec.witness6 (enc := enc) (C := Try.checked) false ⟨#[],#[.slice none 0 0,.slice none 0 0,.agg #[.int .i64 0,.int .i64 0]],[]⟩ 8 (by kernel_rfl) (by kernel_rfl) (by kernel_rfl) (by kernel_rfl)) ?_
  intro W base args ds gs before hval0 hW hcnd _
  have hval : ∀ (j : Nat) t v,Try.f12.params[j]? = some t → args[j]? = some v → Value.okWide Try.prog W .any 0 t v := fun j t v h1 h2 => Value.okWide_any_base (hval0 j t v h1 h2)
  have hW' := hW
  obtain ⟨p,q,hA0,hV,rfl,hfz,hnd⟩ := hW
  have hA : DataW.TrodAll enc Try.prog W 0 (fun _ => true) true Try.f12.params.toList args.toList ds p := hA0
  rw [Try.params12] at hA hval
  obtain ⟨v0,v1,v2,d0,d1,d2,p0,p1,p2,rfl,rfl,rfl,h0,h1,h2⟩ := trodAll_three hA
  obtain ⟨x0,w0,r0⟩ := rd_terms (hval 0 22 v0 rfl rfl) h0
  obtain ⟨x1,w1,r1⟩ := rd_bytes (hval 1 30 v1 rfl rfl) h1
  obtain ⟨x2,w2,r2⟩ := rd_span (hval 2 54 v2 rfl rfl) h2
  exact law_done laidOut (by rw [Try.params12];decide +kernel) (by kernel_rfl) Try.underlying4 hW' rfl rfl (leastFirst_ok x0 x1 x2 w0.2 w1.2) (.cons r0 (.cons r1 (.cons r2 .nil)))

end Go.Proofs.Ytfldmpmaifjcbaa.LeastFirstRow
namespace Go.Proofs.Ytfldmpmaifjcbaa
theorem leastFirst_holds : Rows.LeastFirstSaid :=
  OpenClaim.holds_of_wide 12 Try.f12 rfl rfl rfl rfl rfl rfl rfl ⟨rfl,rfl,rfl,rfl,rfl⟩ rfl rfl rfl rfl rfl (by kernel_rfl) Try.func12 (by kernel_rfl)
    (of_decide_eq_true (by kernel_rfl)) (by unfold Func.isWrapper;first|(rw [if_pos (by decide +kernel)];kernel_rfl)|(rw [if_neg (by decide +kernel)];exact ⟨rfl,rfl⟩))
    (fun os started H enc _ => LeastFirstRow.lifted os started H enc)
end Go.Proofs.Ytfldmpmaifjcbaa
