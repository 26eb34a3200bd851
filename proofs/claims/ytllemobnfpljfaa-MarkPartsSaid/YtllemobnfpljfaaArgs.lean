/-
  Parts of a proof, side by side.
-/
import Derived.Test.YtllemobnfpljfaaHty
import Derived.Test.YtllemobnfpljfaaHs17
import Derived.Test.YtllemobnfpljfaaTermP
/-
  What a law's arguments read as: numbers.
-/
set_option linter.unusedSimpArgs false
set_option maxRecDepth 10000
namespace Go.Proofs.Ytllemobnfpljfaa
open Go Go.Hs

theorem lvInt : lvs Try.prog 3 = some [3] := by kernel_rfl
section
variable {H : Type} {enc : TypeId × Value → H} {w : World} {v : Value} {d : DataW H} {ps : List MemPlace}

end

end Go.Proofs.Ytllemobnfpljfaa

/-
  What a law's arguments read as.
-/
set_option linter.unusedSimpArgs false
set_option maxRecDepth 10000
namespace Go.Proofs.Ytllemobnfpljfaa
open Go Go.Hs

def Tm.wf (t : Tm) : Prop := (-9223372036854775808 ≤ t.k ∧ t.k ≤ 9223372036854775807) ∧ (-9223372036854775808 ≤ t.a ∧ t.a ≤ 9223372036854775807) ∧ (-9223372036854775808 ≤ t.b ∧ t.b ≤ 9223372036854775807) ∧ (-9223372036854775808 ≤ t.n ∧ t.n ≤ 9223372036854775807) ∧
  (0 ≤ t.s0 ∧ t.s0 ≤ 18446744073709551615) ∧ (0 ≤ t.s1 ∧ t.s1 ≤ 18446744073709551615) ∧ (0 ≤ t.s2 ∧ t.s2 ≤ 18446744073709551615) ∧ (0 ≤ t.s3 ∧ t.s3 ≤ 18446744073709551615)

theorem lvTerm : lvs Try.prog 114 = some [3, 3, 3, 3, 104, 104, 104, 104] := by kernel_rfl
theorem supTerms : supC Try.prog 3 23 = true := by kernel_rfl
theorem ok_terms {n : Nat} {c : AC} (h : okC Try.prog (n + 2) 23 c) : ∃ l : List Tm, c = .sl 8 (tRows l) ∧ l.length ≤ maxLen ∧ ∀ t, t ∈ l → t.wf := by
  obtain ⟨es, rfl, h2, h3⟩ := ok_slice Try.underlying23 lvTerm h
  obtain ⟨l, rfl, hl⟩ := rows_of (enc := Tm.cs) (W := Tm.wf) (fun r hr => by
    obtain ⟨c0, r0, rfl, o0, g0⟩ := okR_cons (h3 r hr)
    obtain ⟨c1, r1, rfl, o1, g1⟩ := okR_cons g0
    obtain ⟨c2, r2, rfl, o2, g2⟩ := okR_cons g1
    obtain ⟨c3, r3, rfl, o3, g3⟩ := okR_cons g2
    obtain ⟨c4, r4, rfl, o4, g4⟩ := okR_cons g3
    obtain ⟨c5, r5, rfl, o5, g5⟩ := okR_cons g4
    obtain ⟨c6, r6, rfl, o6, g6⟩ := okR_cons g5
    obtain ⟨c7, r7, rfl, o7, g7⟩ := okR_cons g6
    obtain rfl := okR_nil g7
    obtain ⟨m0, w0, rfl⟩ := ok_int Try.underlying3 o0
    obtain ⟨m1, w1, rfl⟩ := ok_int Try.underlying3 o1
    obtain ⟨m2, w2, rfl⟩ := ok_int Try.underlying3 o2
    obtain ⟨m3, w3, rfl⟩ := ok_int Try.underlying3 o3
    obtain ⟨m4, w4, rfl⟩ := ok_int Try.underlying104 o4
    obtain ⟨m5, w5, rfl⟩ := ok_int Try.underlying104 o5
    obtain ⟨m6, w6, rfl⟩ := ok_int Try.underlying104 o6
    obtain ⟨m7, w7, rfl⟩ := ok_int Try.underlying104 o7
    exact ⟨⟨m0, m1, m2, m3, m4, m5, m6, m7⟩, rfl, wf_i64 w0, wf_i64 w1, wf_i64 w2, wf_i64 w3, wf_u64 w4, wf_u64 w5, wf_u64 w6, wf_u64 w7⟩)
  exact ⟨l, rfl, by simpa using h2, hl⟩

section
variable {H : Type} {enc : TypeId × Value → H} {w : World} {v : Value} {d : DataW H} {ps : List MemPlace}

theorem rd_terms (hok : Value.okWide Try.prog w .any 0 23 v) (h : DataW.Trod enc Try.prog w 0 (fun _ => true) true 23 v d ps) :
    ∃ l : List Tm, (l.length ≤ maxLen ∧ ∀ t, t ∈ l → t.wf) ∧ RdS w (fun b => b < w.heap.size) v (.c (.sl 8 (tRows l))) := by
  obtain ⟨c, h1, h2⟩ := rd_arg 3 supTerms hok h
  obtain ⟨l, rfl, h3⟩ := ok_terms h1
  exact ⟨l, h3, h2⟩
end

end Go.Proofs.Ytllemobnfpljfaa
