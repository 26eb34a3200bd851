import Derived.Test.YtllemobnfpljfaaHty
import Derived.Test.YtllemobnfpljfaaRankP
import Derived.Test.YtllemobnfpljfaaTermP
import Derived.Test.YtllemobnfpljfaaRows
import Derived.Test.YtllemobnfpljfaaTrL
import Derived.JoinedCond
set_option linter.unusedSimpArgs false
set_option maxRecDepth 10000
set_option maxRecDepth 100000
set_option maxHeartbeats 8000000
namespace Go.Proofs.Ytllemobnfpljfaa
open Go Go.Hs
theorem lvInt : lvs Try.prog 3 = some [3] := by kernel_rfl
theorem supInts : supC Try.prog 3 25 = true := by kernel_rfl
section
variable {H : Type} {enc : TypeId × Value → H} {w : World} {v : Value} {d : DataW H} {ps : List MemPlace}
theorem rd_ints (hok : Value.okWide Try.prog w .any 0 25 v) (h : DataW.Trod enc Try.prog w 0 (fun _ => true) true 25 v d ps) :
    ∃ l : List Int,(l.length ≤ maxLen ∧ ∀ m,m ∈ l → -9223372036854775808 ≤ m ∧ m ≤ 9223372036854775807) ∧ RdS w (fun b => b < w.heap.size) v (.c (.sl 1 (kRows .i64 l))) := by
  obtain ⟨c,h1,h2⟩ := rd_arg 3 supInts hok h
  obtain ⟨l,rfl,h3,h4⟩ := ok_ints Try.underlying25 lvInt Try.underlying3 h1
  exact ⟨l,⟨h3,fun m hm => wf_i64 (h4 m hm)⟩,h2⟩
end
end Go.Proofs.Ytllemobnfpljfaa
set_option linter.unusedSimpArgs false
set_option maxRecDepth 10000
namespace Go.Proofs.Ytllemobnfpljfaa
open Go Go.Hs
def Tm.wf (t : Tm) : Prop := (-9223372036854775808 ≤ t.k ∧ t.k ≤ 9223372036854775807) ∧ (-9223372036854775808 ≤ t.a ∧ t.a ≤ 9223372036854775807) ∧ (-9223372036854775808 ≤ t.b ∧ t.b ≤ 9223372036854775807) ∧ (-9223372036854775808 ≤ t.n ∧ t.n ≤ 9223372036854775807) ∧
  (0 ≤ t.s0 ∧ t.s0 ≤ 18446744073709551615) ∧ (0 ≤ t.s1 ∧ t.s1 ≤ 18446744073709551615) ∧ (0 ≤ t.s2 ∧ t.s2 ≤ 18446744073709551615) ∧ (0 ≤ t.s3 ∧ t.s3 ≤ 18446744073709551615)
theorem lvTerm : lvs Try.prog 114 = some [3,3,3,3,104,104,104,104] := by kernel_rfl
theorem supTerms : supC Try.prog 3 23 = true := by kernel_rfl
theorem ok_terms {n : Nat} {c : AC} (h : okC Try.prog (n + 2) 23 c) : ∃ l : List Tm,c = .sl 8 (tRows l) ∧ l.length ≤ maxLen ∧ ∀ t,t ∈ l → t.wf := by
  obtain ⟨es,rfl,h2,h3⟩ := ok_slice Try.underlying23 lvTerm h
  obtain ⟨l,rfl,hl⟩ := rows_of (enc := Tm.cs) (W := Tm.wf) (fun r hr => by
    obtain ⟨c0,r0,rfl,o0,g0⟩ := okR_cons (h3 r hr)
    obtain ⟨c1,r1,rfl,o1,g1⟩ := okR_cons g0
    obtain ⟨c2,r2,rfl,o2,g2⟩ := okR_cons g1
    obtain ⟨c3,r3,rfl,o3,g3⟩ := okR_cons g2
    obtain ⟨c4,r4,rfl,o4,g4⟩ := okR_cons g3
    obtain ⟨c5,r5,rfl,o5,g5⟩ := okR_cons g4
    obtain ⟨c6,r6,rfl,o6,g6⟩ := okR_cons g5
    obtain ⟨c7,r7,rfl,o7,g7⟩ := okR_cons g6
    obtain rfl := okR_nil g7
    obtain ⟨m0,w0,rfl⟩ := ok_int Try.underlying3 o0
    obtain ⟨m1,w1,rfl⟩ := ok_int Try.underlying3 o1
    obtain ⟨m2,w2,rfl⟩ := ok_int Try.underlying3 o2
    obtain ⟨m3,w3,rfl⟩ := ok_int Try.underlying3 o3
    obtain ⟨m4,w4,rfl⟩ := ok_int Try.underlying104 o4
    obtain ⟨m5,w5,rfl⟩ := ok_int Try.underlying104 o5
    obtain ⟨m6,w6,rfl⟩ := ok_int Try.underlying104 o6
    obtain ⟨m7,w7,rfl⟩ := ok_int Try.underlying104 o7
    exact ⟨⟨m0,m1,m2,m3,m4,m5,m6,m7⟩,rfl,wf_i64 w0,wf_i64 w1,wf_i64 w2,wf_i64 w3,wf_u64 w4,wf_u64 w5,wf_u64 w6,wf_u64 w7⟩)
  exact ⟨l,rfl,by simpa using h2,hl⟩
section
variable {H : Type} {enc : TypeId × Value → H} {w : World} {v : Value} {d : DataW H} {ps : List MemPlace}
theorem rd_terms (hok : Value.okWide Try.prog w .any 0 23 v) (h : DataW.Trod enc Try.prog w 0 (fun _ => true) true 23 v d ps) :
    ∃ l : List Tm,(l.length ≤ maxLen ∧ ∀ t,t ∈ l → t.wf) ∧ RdS w (fun b => b < w.heap.size) v (.c (.sl 8 (tRows l))) := by
  obtain ⟨c,h1,h2⟩ := rd_arg 3 supTerms hok h
  obtain ⟨l,rfl,h3⟩ := ok_terms h1
  exact ⟨l,h3,h2⟩
end
end Go.Proofs.Ytllemobnfpljfaa
namespace Go.Proofs.Ytllemobnfpljfaa.RankTracesRow
open Go Go.Hs Go.ChangeShapes Go.WideShapes Go.ChangeAt Go.RowKit
theorem ownKnobs : ownKnob Try.prog.godebug = none := by kernel_rfl
theorem laidOut : laidOutB Try.prog = true := by kernel_rfl
set_option maxRecDepth 100000 in
theorem lifted (os : Os) (started : os.Started) (H : Type) (enc : TypeId × Value → H) :
    ReturnsInHanded {} Try.checked os 10 .any (Rows.rankTracesSpec.pre6 enc Try.prog Try.f10 Rows.rankTracesRow.domain false) (Rows.rankTracesSpec.post enc Try.prog Try.f10 false true false false) := by
  refine returnsInHanded_of_change (C := Try.checked) ownKnobs started (by kernel_rfl) Try.func10
    (ChangeSpec.witness6 (enc := enc) (C := Try.checked) false ⟨#[],#[.slice none 0 0,.slice none 0 0,.slice none 0 0],[]⟩ 8 (by kernel_rfl) (by kernel_rfl) (by kernel_rfl) (by kernel_rfl)) ?_
  intro W base args ds gs before hval0 hW hcnd _
  have hval : ∀ (j : Nat) t v,Try.f10.params[j]? = some t → args[j]? = some v → Value.okWide Try.prog W .any 0 t v := fun j t v h1 h2 => Value.okWide_any_base (hval0 j t v h1 h2)
  have hW' := hW
  obtain ⟨p,q,hA0,hV,rfl,hfz,hnd⟩ := hW
  have hA : DataW.TrodAll enc Try.prog W 0 (fun _ => true) true Try.f10.params.toList args.toList ds p := hA0
  rw [Try.params10] at hA hval
  obtain ⟨v0,v1,v2,d0,d1,d2,p0,p1,p2,rfl,rfl,rfl,h0,h1,h2⟩ := trodAll_three hA
  obtain ⟨x0,w0,r0⟩ := rd_terms (hval 0 23 v0 rfl rfl) h0
  obtain ⟨x1,w1,r1⟩ := rd_ints (hval 1 25 v1 rfl rfl) h1
  obtain ⟨x2,w2,r2⟩ := rd_ints (hval 2 25 v2 rfl rfl) h2
  exact law_done laidOut (by rw [Try.params10];decide +kernel) (by kernel_rfl) Try.underlying4 hW' rfl rfl (rankTraces_ok x0 x1 x2 w0.1 w1.1 w2.1) (.cons r0 (.cons r1 (.cons r2 .nil)))
end Go.Proofs.Ytllemobnfpljfaa.RankTracesRow
namespace Go.Proofs.Ytllemobnfpljfaa
theorem rankTraces_holds : Rows.RankTracesSaid :=
  OpenClaim.holds_of_wide 10 Try.f10 rfl rfl rfl rfl rfl rfl rfl ⟨rfl,rfl,rfl,rfl,rfl⟩ rfl rfl rfl rfl rfl (by kernel_rfl) Try.func10 (by kernel_rfl)
    (of_decide_eq_true (by kernel_rfl)) (by unfold Func.isWrapper;first|(rw [if_pos (by decide +kernel)];kernel_rfl)|(rw [if_neg (by decide +kernel)];exact ⟨rfl,rfl⟩))
    (fun os started H enc _ => RankTracesRow.lifted os started H enc)
end Go.Proofs.Ytllemobnfpljfaa
