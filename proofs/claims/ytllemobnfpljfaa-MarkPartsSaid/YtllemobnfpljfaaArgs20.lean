/-
  What a law's arguments read as: marks; tags, marks, and what is put for them.
-/
import Derived.Test.YtllemobnfpljfaaArgs
import Derived.Test.YtllemobnfpljfaaFrP
import Derived.Test.YtllemobnfpljfaaSpanP
set_option linter.unusedSimpArgs false
set_option linter.unusedVariables false
set_option maxRecDepth 10000
namespace Go.Proofs.Ytllemobnfpljfaa
open Go Go.Hs

theorem lvMark : lvs Try.prog 52 = some [3, 3] := by kernel_rfl
theorem lvAsk20 : lvs Try.prog 38 = some [25, 34, 3, 3, 3] := by kernel_rfl
theorem ok_marks {n : Nat} {c : AC} (h : okC Try.prog (n + 2) 34 c) : ∃ l : List Sp, c = .sl 2 (spRows l) ∧ l.length ≤ maxLen ∧ ∀ y ∈ l, in64 y.1 ∧ in64 y.2 := by
  obtain ⟨es, rfl, h2, h3⟩ := ok_slice Try.underlying34 lvMark h
  obtain ⟨l, rfl, hl⟩ := rows_of (enc := Sp.cs) (W := fun y => in64 y.1 ∧ in64 y.2) (fun r hr => by
    obtain ⟨c0, r0, rfl, o0, g0⟩ := okR_cons (h3 r hr)
    obtain ⟨c1, r1, rfl, o1, g1⟩ := okR_cons g0
    obtain rfl := okR_nil g1
    obtain ⟨m0, w0, rfl⟩ := ok_int Try.underlying3 o0
    obtain ⟨m1, w1, rfl⟩ := ok_int Try.underlying3 o1
    exact ⟨(m0, m1), rfl, wf_i64 w0, wf_i64 w1⟩)
  exact ⟨l, rfl, by simpa using h2, hl⟩
section
variable {H : Type} {enc : TypeId × Value → H} {w : World} {v : Value} {d : DataW H} {ps : List MemPlace}
theorem rd_in64 (hok : Value.okWide Try.prog w .any 0 25 v) (h : DataW.Trod enc Try.prog w 0 (fun _ => true) true 25 v d ps) :
    ∃ l : List Int, (∀ x ∈ l, in64 x) ∧ RdS w (fun b => b < w.heap.size) v (.c (.sl 1 (kRows .i64 l))) := by
  obtain ⟨c, h1, h2⟩ := rd_arg 3 (by kernel_rfl) hok h
  obtain ⟨l, rfl, h3, h4⟩ := ok_ints Try.underlying25 lvInt Try.underlying3 h1
  exact ⟨l, fun m hm => wf_i64 (h4 m hm), h2⟩
theorem rd_ask20 (hok : Value.okWide Try.prog w .any 0 38 v) (h : DataW.Trod enc Try.prog w 0 (fun _ => true) true 38 v d ps) :
    ∃ x : List Int × List Sp × Int × Int × Int, ((∀ y ∈ x.2.1, in64 y.2) ∧ in64 x.2.2.2.2 ∧ (∀ y ∈ x.1, in64 y)) ∧ RdS w (fun b => b < w.heap.size) v (.agg [.sl 1 (kRows .i64 x.1), .sl 2 (spRows x.2.1), .im (.int .i64 x.2.2.1), .im (.int .i64 x.2.2.2.1), .im (.int .i64 x.2.2.2.2)]) := by
  obtain ⟨cs, h1, h2⟩ := rd_agg 4 (by kernel_rfl) lvAsk20 (by kernel_rfl) hok h
  obtain ⟨c0, r0, rfl, o0, g0⟩ := okR_cons h1
  obtain ⟨c1, r1, rfl, o1, g1⟩ := okR_cons g0
  obtain ⟨c2, r2, rfl, o2, g2⟩ := okR_cons g1
  obtain ⟨c3, r3, rfl, o3, g3⟩ := okR_cons g2
  obtain ⟨c4, r4, rfl, o4, g4⟩ := okR_cons g3
  obtain rfl := okR_nil g4
  obtain ⟨T, rfl, _, hT⟩ := ok_ints Try.underlying25 lvInt Try.underlying3 o0
  obtain ⟨ms, rfl, _, hm⟩ := ok_marks o1
  obtain ⟨m2, w2, rfl⟩ := ok_int Try.underlying3 o2
  obtain ⟨m3, w3, rfl⟩ := ok_int Try.underlying3 o3
  obtain ⟨m4, w4, rfl⟩ := ok_int Try.underlying3 o4
  exact ⟨(T, ms, m2, m3, m4), ⟨fun y hy => (hm y hy).2, wf_i64 w4, fun y hy => wf_i64 (hT y hy)⟩, h2⟩
end

end Go.Proofs.Ytllemobnfpljfaa
