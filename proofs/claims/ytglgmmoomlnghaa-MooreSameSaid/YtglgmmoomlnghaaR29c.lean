/-
  Parts of a proof, side by side.
-/
import Derived.Test.YtglgmmoomlnghaaHty
import Derived.Test.YtglgmmoomlnghaaHs18
import Derived.Test.YtglgmmoomlnghaaDfP
import Derived.Test.YtglgmmoomlnghaaRows
import Derived.Test.YtglgmmoomlnghaaMo14
import Derived.JoinedCond
/-
  What a law's arguments read as: numbers.
-/
set_option linter.unusedSimpArgs false
set_option maxRecDepth 10000
namespace Go.Proofs.Ytglgmmoomlnghaa
open Go Go.Hs

theorem lvInt : lvs Try.prog 3 = some [3] := by kernel_rfl
section
variable {H : Type} {enc : TypeId × Value → H} {w : World} {v : Value} {d : DataW H} {ps : List MemPlace}

end

end Go.Proofs.Ytglgmmoomlnghaa

/-
  What a law's arguments read as: machines.
-/
set_option linter.unusedSimpArgs false
set_option linter.unusedVariables false
set_option maxRecDepth 10000
namespace Go.Proofs.Ytglgmmoomlnghaa
open Go Go.Hs

theorem lvDfa : lvs Try.prog 25 = some [3,22,23] := by kernel_rfl
theorem lvState : lvs Try.prog 70 = some [3,22,68] := by kernel_rfl
theorem lvEdge : lvs Try.prog 72 = some [3,22] := by kernel_rfl
theorem ok_edges {n : Nat} {c : AC} (h : okC Try.prog (n + 3) 68 c) : ∃ l : List Ed,c = .sl 2 (edRows l) := by
  obtain ⟨es,rfl,h2,h3⟩ := ok_slice Try.underlying68 lvEdge h
  obtain ⟨l,rfl,_⟩ := rows_of (enc := Ed.cs) (W := fun _ => True) (fun r hr => by
    obtain ⟨c0,r0,rfl,o0,g0⟩ := okR_cons (h3 r hr)
    obtain ⟨c1,r1,rfl,o1,g1⟩ := okR_cons g0
    obtain rfl := okR_nil g1
    obtain ⟨m0,_,rfl⟩ := ok_int Try.underlying3 o0
    obtain ⟨m1,rfl,_,_⟩ := ok_ints Try.underlying22 lvInt Try.underlying3 o1
    exact ⟨⟨m0,m1⟩,rfl,trivial⟩)
  exact ⟨l,rfl⟩
theorem ok_states {n : Nat} {c : AC} (h : okC Try.prog (n + 4) 23 c) : ∃ l : List Sta,c = .sl 3 (stRows l) := by
  obtain ⟨es,rfl,h2,h3⟩ := ok_slice Try.underlying23 lvState h
  obtain ⟨l,rfl,_⟩ := rows_of (enc := Sta.cs) (W := fun _ => True) (fun r hr => by
    obtain ⟨c0,r0,rfl,o0,g0⟩ := okR_cons (h3 r hr)
    obtain ⟨c1,r1,rfl,o1,g1⟩ := okR_cons g0
    obtain ⟨c2,r2,rfl,o2,g2⟩ := okR_cons g1
    obtain rfl := okR_nil g2
    obtain ⟨m0,_,rfl⟩ := ok_int Try.underlying3 o0
    obtain ⟨m1,rfl,_,_⟩ := ok_ints Try.underlying22 lvInt Try.underlying3 o1
    obtain ⟨m2,rfl⟩ := ok_edges o2
    exact ⟨⟨m0,m1,m2⟩,rfl,trivial⟩)
  exact ⟨l,rfl⟩
section
variable {H : Type} {enc : TypeId × Value → H} {w : World} {v : Value} {d : DataW H} {ps : List MemPlace}
theorem rd_dfa (hok : Value.okWide Try.prog w .any 0 25 v) (h : DataW.Trod enc Try.prog w 0 (fun _ => true) true 25 v d ps) :
    ∃ x : Df,True ∧ RdS w (fun b => b < w.heap.size) v (.agg x.cs) := by
  obtain ⟨cs,h1,h2⟩ := rd_agg 6 (by kernel_rfl) lvDfa (by kernel_rfl) hok h
  obtain ⟨c0,r0,rfl,o0,g0⟩ := okR_cons h1
  obtain ⟨c1,r1,rfl,o1,g1⟩ := okR_cons g0
  obtain ⟨c2,r2,rfl,o2,g2⟩ := okR_cons g1
  obtain rfl := okR_nil g2
  obtain ⟨m0,_,rfl⟩ := ok_int Try.underlying3 o0
  obtain ⟨m1,rfl,_,_⟩ := ok_ints Try.underlying22 lvInt Try.underlying3 o1
  obtain ⟨m2,rfl⟩ := ok_states o2
  exact ⟨⟨m0,m1,m2⟩,trivial,h2⟩
end

end Go.Proofs.Ytglgmmoomlnghaa

/-
  What a law's arguments read as: bytes, three numbers (beside machines).
-/
set_option linter.unusedSimpArgs false
set_option linter.unusedVariables false
set_option maxRecDepth 10000
namespace Go.Proofs.Ytglgmmoomlnghaa
open Go Go.Hs

theorem lvU8 : lvs Try.prog 5 = some [5] := by kernel_rfl
section
variable {H : Type} {enc : TypeId × Value → H} {w : World} {v : Value} {d : DataW H} {ps : List MemPlace}
theorem rd_bytes (hok : Value.okWide Try.prog w .any 0 37 v) (h : DataW.Trod enc Try.prog w 0 (fun _ => true) true 37 v d ps) :
    ∃ l : List Int,(∀ m ∈ l,0 ≤ m ∧ m ≤ 255) ∧ RdS w (fun b => b < w.heap.size) v (.c (.sl 1 (kRows .u8 l))) := by
  obtain ⟨c,h1,h2⟩ := rd_arg 3 (by kernel_rfl) hok h
  obtain ⟨l,rfl,h3,h4⟩ := ok_ints Try.underlying37 lvU8 Try.underlying5 h1
  exact ⟨l,fun m hm => wf_u8' (h4 m hm),h2⟩
end

end Go.Proofs.Ytglgmmoomlnghaa

/-
  The statement MooreSame: whatever the input, the law returns true, and the input reads as it did.
-/
namespace Go.Proofs.Ytglgmmoomlnghaa.MooreSameRow
open Go Go.Hs Go.ChangeShapes Go.WideShapes Go.ChangeAt Go.RowKit

theorem ownKnobs : ownKnob Try.prog.godebug = none := by kernel_rfl
theorem laidOut : laidOutB Try.prog = true := by kernel_rfl

set_option maxRecDepth 100000 in
theorem lifted (os : Os) (started : os.Started) (H : Type) (enc : TypeId × Value → H) :
    ReturnsInHanded {} Try.checked os 5 .any (Rows.mooreSameSpec.pre6 enc Try.prog Try.f5 Rows.mooreSameRow.domain false) (Rows.mooreSameSpec.post enc Try.prog Try.f5 false true false false) := by
  refine returnsInHanded_of_change (C := Try.checked) ownKnobs started (by kernel_rfl) Try.func5
    (ChangeSpec.witness6 (enc := enc) (C := Try.checked) false ⟨#[],#[.agg #[.int .i64 0,.slice none 0 0,.slice none 0 0],.slice none 0 0],[]⟩ 8 (by kernel_rfl) (by kernel_rfl) (by kernel_rfl) (by kernel_rfl)) ?_
  intro W base args ds gs before hval0 hW hcnd _
  have hval : ∀ (j : Nat) t v,Try.f5.params[j]? = some t → args[j]? = some v → Value.okWide Try.prog W .any 0 t v := fun j t v h1 h2 => Value.okWide_any_base (hval0 j t v h1 h2)
  have hW' := hW
  obtain ⟨p,q,hA0,hV,rfl,hfz,hnd⟩ := hW
  have hA : DataW.TrodAll enc Try.prog W 0 (fun _ => true) true Try.f5.params.toList args.toList ds p := hA0
  rw [Try.params5] at hA hval
  obtain ⟨v0,v1,d0,d1,p0,p1,rfl,rfl,rfl,h0,h1⟩ := trodAll_two hA
  obtain ⟨x0,w0,r0⟩ := rd_dfa (hval 0 25 v0 rfl rfl) h0
  obtain ⟨x1,w1,r1⟩ := rd_bytes (hval 1 37 v1 rfl rfl) h1
  exact law_done laidOut (by rw [Try.params5];decide +kernel) (by kernel_rfl) Try.underlying4 hW' rfl rfl (mooreSame_ok x0 x1 w1) (.cons r0 (.cons r1 .nil))

end Go.Proofs.Ytglgmmoomlnghaa.MooreSameRow
namespace Go.Proofs.Ytglgmmoomlnghaa
theorem mooreSame_holds : Rows.MooreSameSaid :=
  OpenClaim.holds_of_wide 5 Try.f5 rfl rfl rfl rfl rfl rfl rfl ⟨rfl,rfl,rfl,rfl,rfl⟩ rfl rfl rfl rfl rfl (by kernel_rfl) Try.func5 (by kernel_rfl)
    (of_decide_eq_true (by kernel_rfl)) (by unfold Func.isWrapper;first|(rw [if_pos (by decide +kernel)];kernel_rfl)|(rw [if_neg (by decide +kernel)];exact ⟨rfl,rfl⟩))
    (fun os started H enc _ => MooreSameRow.lifted os started H enc)
end Go.Proofs.Ytglgmmoomlnghaa
