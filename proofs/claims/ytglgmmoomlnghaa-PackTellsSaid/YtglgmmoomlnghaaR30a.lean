/-
  Parts of a proof, side by side.
-/
import Derived.Test.YtglgmmoomlnghaaHty
import Derived.Test.YtglgmmoomlnghaaPkP
import Derived.Test.YtglgmmoomlnghaaPkT
import Derived.Test.YtglgmmoomlnghaaRows
import Derived.Test.YtglgmmoomlnghaaPk22
import Derived.JoinedCond
/-
  What a law's arguments read as: numbers.
-/
set_option linter.unusedSimpArgs false
set_option maxRecDepth 10000
namespace Go.Proofs.Ytglgmmoomlnghaa
open Go Go.Hs

theorem lvInt : lvs Try.prog 3 = some [3] := by kernel_rfl
section
variable {H : Type} {enc : TypeId × Value → H} {w : World} {v : Value} {d : DataW H} {ps : List MemPlace}

end

end Go.Proofs.Ytglgmmoomlnghaa

/-
  What a law's arguments read as: programs.
-/
set_option linter.unusedSimpArgs false
set_option linter.unusedVariables false
set_option maxRecDepth 10000
namespace Go.Proofs.Ytglgmmoomlnghaa
open Go Go.Hs

theorem lvProg : lvs Try.prog 55 = some [3,3,22,53] := by kernel_rfl
theorem lvStand : lvs Try.prog 91 = some [22,89] := by kernel_rfl
theorem lvWay : lvs Try.prog 94 = some [3,92] := by kernel_rfl
theorem lvMove : lvs Try.prog 100 = some [3,3] := by kernel_rfl
theorem ok_moves {n : Nat} {c : AC} (h : okC Try.prog (n + 2) 92 c) : ∃ l : List (Int × Int),c = .sl 2 (mvRows l) := by
  obtain ⟨es,rfl,h2,h3⟩ := ok_slice Try.underlying92 lvMove h
  obtain ⟨l,rfl,_⟩ := rows_of (enc := mvC) (W := fun _ => True) (fun r hr => by
    obtain ⟨c0,r0,rfl,o0,g0⟩ := okR_cons (h3 r hr)
    obtain ⟨c1,r1,rfl,o1,g1⟩ := okR_cons g0
    obtain rfl := okR_nil g1
    obtain ⟨m0,_,rfl⟩ := ok_int Try.underlying3 o0
    obtain ⟨m1,_,rfl⟩ := ok_int Try.underlying3 o1
    exact ⟨(m0,m1),rfl,trivial⟩)
  exact ⟨l,rfl⟩
theorem ok_ways {n : Nat} {c : AC} (h : okC Try.prog (n + 3) 89 c) : ∃ l : List Wy,c = .sl 2 (wyRows l) := by
  obtain ⟨es,rfl,h2,h3⟩ := ok_slice Try.underlying89 lvWay h
  obtain ⟨l,rfl,_⟩ := rows_of (enc := Wy.cs) (W := fun _ => True) (fun r hr => by
    obtain ⟨c0,r0,rfl,o0,g0⟩ := okR_cons (h3 r hr)
    obtain ⟨c1,r1,rfl,o1,g1⟩ := okR_cons g0
    obtain rfl := okR_nil g1
    obtain ⟨m0,_,rfl⟩ := ok_int Try.underlying3 o0
    obtain ⟨m1,rfl⟩ := ok_moves o1
    exact ⟨⟨m0,m1⟩,rfl,trivial⟩)
  exact ⟨l,rfl⟩
theorem ok_stands {n : Nat} {c : AC} (h : okC Try.prog (n + 4) 53 c) : ∃ l : List Sd,c = .sl 2 (sdRows l) := by
  obtain ⟨es,rfl,h2,h3⟩ := ok_slice Try.underlying53 lvStand h
  obtain ⟨l,rfl,_⟩ := rows_of (enc := Sd.cs) (W := fun _ => True) (fun r hr => by
    obtain ⟨c0,r0,rfl,o0,g0⟩ := okR_cons (h3 r hr)
    obtain ⟨c1,r1,rfl,o1,g1⟩ := okR_cons g0
    obtain rfl := okR_nil g1
    obtain ⟨m0,rfl,_,_⟩ := ok_ints Try.underlying22 lvInt Try.underlying3 o0
    obtain ⟨m1,rfl⟩ := ok_ways o1
    exact ⟨⟨m0,m1⟩,rfl,trivial⟩)
  exact ⟨l,rfl⟩
theorem lvU8 : lvs Try.prog 5 = some [5] := by kernel_rfl
section
variable {H : Type} {enc : TypeId × Value → H} {w : World} {v : Value} {d : DataW H} {ps : List MemPlace}
theorem rd_prog (hok : Value.okWide Try.prog w .any 0 55 v) (h : DataW.Trod enc Try.prog w 0 (fun _ => true) true 55 v d ps) :
    ∃ x : Pg,True ∧ RdS w (fun b => b < w.heap.size) v (.agg x.cs) := by
  obtain ⟨cs,h1,h2⟩ := rd_agg 6 (by kernel_rfl) lvProg (by kernel_rfl) hok h
  obtain ⟨c0,r0,rfl,o0,g0⟩ := okR_cons h1
  obtain ⟨c1,r1,rfl,o1,g1⟩ := okR_cons g0
  obtain ⟨c2,r2,rfl,o2,g2⟩ := okR_cons g1
  obtain ⟨c3,r3,rfl,o3,g3⟩ := okR_cons g2
  obtain rfl := okR_nil g3
  obtain ⟨m0,_,rfl⟩ := ok_int Try.underlying3 o0
  obtain ⟨m1,_,rfl⟩ := ok_int Try.underlying3 o1
  obtain ⟨m2,rfl,_,_⟩ := ok_ints Try.underlying22 lvInt Try.underlying3 o2
  obtain ⟨m3,rfl⟩ := ok_stands o3
  exact ⟨⟨m0,m1,m2,m3⟩,trivial,h2⟩
theorem rd_bytes (hok : Value.okWide Try.prog w .any 0 37 v) (h : DataW.Trod enc Try.prog w 0 (fun _ => true) true 37 v d ps) :
    ∃ l : List Int,(∀ m ∈ l,0 ≤ m ∧ m ≤ 255) ∧ RdS w (fun b => b < w.heap.size) v (.c (.sl 1 (kRows .u8 l))) := by
  obtain ⟨c,h1,h2⟩ := rd_arg 3 (by kernel_rfl) hok h
  obtain ⟨l,rfl,h3,h4⟩ := ok_ints Try.underlying37 lvU8 Try.underlying5 h1
  exact ⟨l,fun m hm => wf_u8' (h4 m hm),h2⟩
end

end Go.Proofs.Ytglgmmoomlnghaa

/-
  The statement PackTells: whatever the input, the law returns true, and the input reads as it did.
-/
namespace Go.Proofs.Ytglgmmoomlnghaa.PackTellsRow
open Go Go.Hs Go.ChangeShapes Go.WideShapes Go.ChangeAt Go.RowKit

theorem ownKnobs : ownKnob Try.prog.godebug = none := by kernel_rfl
theorem laidOut : laidOutB Try.prog = true := by kernel_rfl

set_option maxRecDepth 100000 in
theorem lifted (os : Os) (started : os.Started) (H : Type) (enc : TypeId × Value → H) :
    ReturnsInHanded {} Try.checked os 6 .any (Rows.packTellsSpec.pre6 enc Try.prog Try.f6 Rows.packTellsRow.domain false) (Rows.packTellsSpec.post enc Try.prog Try.f6 false true false false) := by
  refine returnsInHanded_of_change (C := Try.checked) ownKnobs started (by kernel_rfl) Try.func6
    (ChangeSpec.witness6 (enc := enc) (C := Try.checked) false ⟨#[],#[.agg #[.int .i64 0,.int .i64 0,.slice none 0 0,.slice none 0 0],.slice none 0 0],[]⟩ 8 (by kernel_rfl) (by kernel_rfl) (by kernel_rfl) (by kernel_rfl)) ?_
  intro W base args ds gs before hval0 hW hcnd _
  have hval : ∀ (j : Nat) t v,Try.f6.params[j]? = some t → args[j]? = some v → Value.okWide Try.prog W .any 0 t v := fun j t v h1 h2 => Value.okWide_any_base (hval0 j t v h1 h2)
  have hW' := hW
  obtain ⟨p,q,hA0,hV,rfl,hfz,hnd⟩ := hW
  have hA : DataW.TrodAll enc Try.prog W 0 (fun _ => true) true Try.f6.params.toList args.toList ds p := hA0
  rw [Try.params6] at hA hval
  obtain ⟨v0,v1,d0,d1,p0,p1,rfl,rfl,rfl,h0,h1⟩ := trodAll_two hA
  obtain ⟨x0,w0,r0⟩ := rd_prog (hval 0 55 v0 rfl rfl) h0
  obtain ⟨x1,w1,r1⟩ := rd_bytes (hval 1 37 v1 rfl rfl) h1
  exact law_done laidOut (by rw [Try.params6];decide +kernel) (by kernel_rfl) Try.underlying4 hW' rfl rfl (packTells_ok x0 x1 w1) (.cons r0 (.cons r1 .nil))

end Go.Proofs.Ytglgmmoomlnghaa.PackTellsRow
namespace Go.Proofs.Ytglgmmoomlnghaa
theorem packTells_holds : Rows.PackTellsSaid :=
  OpenClaim.holds_of_wide 6 Try.f6 rfl rfl rfl rfl rfl rfl rfl ⟨rfl,rfl,rfl,rfl,rfl⟩ rfl rfl rfl rfl rfl (by kernel_rfl) Try.func6 (by kernel_rfl)
    (of_decide_eq_true (by kernel_rfl)) (by unfold Func.isWrapper;first|(rw [if_pos (by decide +kernel)];kernel_rfl)|(rw [if_neg (by decide +kernel)];exact ⟨rfl,rfl⟩))
    (fun os started H enc _ => PackTellsRow.lifted os started H enc)
end Go.Proofs.Ytglgmmoomlnghaa
