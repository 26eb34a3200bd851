/-
  Parts of a proof, side by side.
-/
import Derived.Test.YtfldmpmaifjcbaaLsW
import Derived.Test.YtfldmpmaifjcbaaKidsP
import Derived.Test.YtfldmpmaifjcbaaRows
import Derived.Test.YtfldmpmaifjcbaaLaw15d
import Derived.JoinedCond
/-
  What a law's arguments read as: entries, bytes, frames.
-/
set_option linter.unusedSimpArgs false
set_option linter.unusedVariables false
set_option maxRecDepth 10000
namespace Go.Proofs.Ytfldmpmaifjcbaa
open Go Go.Hs

theorem lvEntry : lvs Try.prog 56 = some [3,3,3,3] := by kernel_rfl
theorem lvU8 : lvs Try.prog 5 = some [5] := by kernel_rfl
theorem ok_ents {n : Nat} {c : AC} (h : okC Try.prog (n + 2) 39 c) : ∃ l : List En,c = .sl 4 (enRows l) ∧ l.length ≤ maxLen := by
  obtain ⟨es,rfl,h2,h3⟩ := ok_slice Try.underlying39 lvEntry h
  obtain ⟨l,rfl,hl⟩ := rows_of (enc := En.cs) (W := fun _ => True) (fun r hr => by
    obtain ⟨c0,r0,rfl,o0,g0⟩ := okR_cons (h3 r hr)
    obtain ⟨c1,r1,rfl,o1,g1⟩ := okR_cons g0
    obtain ⟨c2,r2,rfl,o2,g2⟩ := okR_cons g1
    obtain ⟨c3,r3,rfl,o3,g3⟩ := okR_cons g2
    obtain rfl := okR_nil g3
    obtain ⟨m0,w0,rfl⟩ := ok_int Try.underlying3 o0
    obtain ⟨m1,w1,rfl⟩ := ok_int Try.underlying3 o1
    obtain ⟨m2,w2,rfl⟩ := ok_int Try.underlying3 o2
    obtain ⟨m3,w3,rfl⟩ := ok_int Try.underlying3 o3
    exact ⟨⟨m0,m1,m2,m3⟩,rfl,trivial⟩)
  exact ⟨l,rfl,by simpa using h2⟩
section
variable {H : Type} {enc : TypeId × Value → H} {w : World} {v : Value} {d : DataW H} {ps : List MemPlace}

theorem rd_ents (hok : Value.okWide Try.prog w .any 0 39 v) (h : DataW.Trod enc Try.prog w 0 (fun _ => true) true 39 v d ps) :
    ∃ l : List En,(l.length ≤ maxLen) ∧ RdS w (fun b => b < w.heap.size) v (.c (.sl 4 (enRows l))) := by
  obtain ⟨c,h1,h2⟩ := rd_arg 3 (by kernel_rfl) hok h
  obtain ⟨l,rfl,h3⟩ := ok_ents h1
  exact ⟨l,h3,h2⟩
theorem rd_bytes (hok : Value.okWide Try.prog w .any 0 30 v) (h : DataW.Trod enc Try.prog w 0 (fun _ => true) true 30 v d ps) :
    ∃ l : List Int,(l.length ≤ maxLen ∧ ∀ m ∈ l,0 ≤ m ∧ m ≤ 255) ∧ RdS w (fun b => b < w.heap.size) v (.c (.sl 1 (kRows .u8 l))) := by
  obtain ⟨c,h1,h2⟩ := rd_arg 3 (by kernel_rfl) hok h
  obtain ⟨l,rfl,h3,h4⟩ := ok_ints Try.underlying30 lvU8 Try.underlying5 h1
  exact ⟨l,⟨h3,fun m hm => wf_u8' (h4 m hm)⟩,h2⟩
end

end Go.Proofs.Ytfldmpmaifjcbaa

/-
  The statement LeastAhead: whatever the input, the law returns true, and the input reads as it did.
-/
namespace Go.Proofs.Ytfldmpmaifjcbaa.LeastAheadRow
open Go Go.Hs Go.ChangeShapes Go.WideShapes Go.ChangeAt Go.RowKit

theorem ownKnobs : ownKnob Try.prog.godebug = none := by kernel_rfl
theorem laidOut : laidOutB Try.prog = true := by kernel_rfl

set_option maxRecDepth 100000 in
theorem lifted (os : Os) (started : os.Started) (H : Type) (enc : TypeId × Value → H) :
    ReturnsInHanded {} Try.checked os 14 .any (Rows.leastAheadSpec.pre6 enc Try.prog Try.f14 Rows.leastAheadRow.domain false) (Rows.leastAheadSpec.post enc Try.prog Try.f14 false true false false) := by
  refine returnsInHanded_of_change (C := Try.checked) ownKnobs started (by kernel_rfl) Try.func14
    (ChangeSpec.witness6 (enc := enc) (C := Try.checked) false ⟨#[],#[.slice none 0 0,.slice none 0 0,.slice none 0 0],[]⟩ 8 (by kernel_rfl) (by kernel_rfl) (by kernel_rfl) (by kernel_rfl)) ?_
  intro W base args ds gs before hval0 hW hcnd _
  have hval : ∀ (j : Nat) t v,Try.f14.params[j]? = some t → args[j]? = some v → Value.okWide Try.prog W .any 0 t v := fun j t v h1 h2 => Value.okWide_any_base (hval0 j t v h1 h2)
  have hW' := hW
  obtain ⟨p,q,hA0,hV,rfl,hfz,hnd⟩ := hW
  have hA : DataW.TrodAll enc Try.prog W 0 (fun _ => true) true Try.f14.params.toList args.toList ds p := hA0
  rw [Try.params14] at hA hval
  obtain ⟨v0,v1,v2,d0,d1,d2,p0,p1,p2,rfl,rfl,rfl,h0,h1,h2⟩ := trodAll_three hA
  obtain ⟨x0,w0,r0⟩ := rd_terms (hval 0 22 v0 rfl rfl) h0
  obtain ⟨x1,w1,r1⟩ := rd_bytes (hval 1 30 v1 rfl rfl) h1
  obtain ⟨x2,w2,r2⟩ := rd_ents (hval 2 39 v2 rfl rfl) h2
  exact law_done laidOut (by rw [Try.params14];decide +kernel) (by kernel_rfl) Try.underlying4 hW' rfl rfl (leastAhead_ok x0 x1 x2 w0.2 w1.2) (.cons r0 (.cons r1 (.cons r2 .nil)))

end Go.Proofs.Ytfldmpmaifjcbaa.LeastAheadRow
namespace Go.Proofs.Ytfldmpmaifjcbaa
theorem leastAhead_holds : Rows.LeastAheadSaid :=
  OpenClaim.holds_of_wide 14 Try.f14 rfl rfl rfl rfl rfl rfl rfl ⟨rfl,rfl,rfl,rfl,rfl⟩ rfl rfl rfl rfl rfl (by kernel_rfl) Try.func14 (by kernel_rfl)
    (of_decide_eq_true (by kernel_rfl)) (by unfold Func.isWrapper;first|(rw [if_pos (by decide +kernel)];kernel_rfl)|(rw [if_neg (by decide +kernel)];exact ⟨rfl,rfl⟩))
    (fun os started H enc _ => LeastAheadRow.lifted os started H enc)
end Go.Proofs.Ytfldmpmaifjcbaa
