/-
  What a law's arguments read as: ranks, and what is asked of them.
-/
import Derived.Test.YtllemobnfpljfaaArgs
import Derived.Test.YtllemobnfpljfaaNextP
set_option linter.unusedSimpArgs false
set_option linter.unusedVariables false
set_option maxRecDepth 10000
namespace Go.Proofs.Ytllemobnfpljfaa
open Go Go.Hs

theorem lvInts : lvs Try.prog 25 = some [25] := by kernel_rfl
theorem ok_rows {n : Nat} {c : AC} (h : okC Try.prog (n + 3) 48 c) : ∃ m : List (List Int), c = .sl 1 (rRows m) ∧ m.length ≤ maxLen ∧ ∀ r ∈ m, r.length ≤ maxLen := by
  obtain ⟨es, rfl, h3, h4⟩ := ok_slice Try.underlying48 lvInts h
  obtain ⟨m, rfl, hm⟩ := rows_of (enc := fun r : List Int => [AC.sl 1 (kRows .i64 r)]) (W := fun r => r.length ≤ maxLen) (fun r hr => by
    obtain ⟨c, r', rfl, h5, h6⟩ := okR_cons (h4 r hr)
    obtain ⟨l, rfl, h7, h8⟩ := ok_ints Try.underlying25 lvInt Try.underlying3 h5
    obtain rfl := okR_nil h6
    exact ⟨l, rfl, h7⟩)
  exact ⟨m, rfl, by simpa using h3, hm⟩
theorem lvRank : lvs Try.prog 55 = some [48, 48] := by kernel_rfl
theorem lvHop : lvs Try.prog 69 = some [3, 3, 25] := by kernel_rfl
theorem lvAsk : lvs Try.prog 58 = some [25, 56, 3] := by kernel_rfl
theorem ok_hops {n : Nat} {c : AC} (h : okC Try.prog (n + 3) 56 c) : ∃ m : List Hp, c = .sl 3 (hRowsC m) ∧ m.length ≤ maxLen := by
  obtain ⟨es, rfl, h3, h4⟩ := ok_slice Try.underlying56 lvHop h
  obtain ⟨m, rfl, hm⟩ := rows_of (enc := fun x : Hp => [AC.im (.int .i64 x.1), AC.im (.int .i64 x.2.1), hC x.2.2]) (W := fun _ => True) (fun r hr => by
    obtain ⟨c, r', rfl, h5, h6⟩ := okR_cons (h4 r hr)
    obtain ⟨c2, r2, rfl, h7, h8⟩ := okR_cons h6
    obtain ⟨c3, r3, rfl, h9, h10⟩ := okR_cons h8
    obtain ⟨m0, w0, rfl⟩ := ok_int Try.underlying3 h5
    obtain ⟨m1, w1, rfl⟩ := ok_int Try.underlying3 h7
    obtain ⟨l, rfl, _, _⟩ := ok_ints Try.underlying25 lvInt Try.underlying3 h9
    obtain rfl := okR_nil h10
    exact ⟨(m0, m1, some l), rfl, trivial⟩)
  exact ⟨m, rfl, by simpa using h3⟩
section
variable {H : Type} {enc : TypeId × Value → H} {w : World} {v : Value} {d : DataW H} {ps : List MemPlace}

theorem rd_rank (hok : Value.okWide Try.prog w .any 0 55 v) (h : DataW.Trod enc Try.prog w 0 (fun _ => true) true 55 v d ps) :
    ∃ x : List (List Int) × List (List Int), (x.1.length ≤ maxLen ∧ x.2.length ≤ maxLen ∧ (∀ r ∈ x.1, r.length ≤ maxLen) ∧ ∀ r ∈ x.2, r.length ≤ maxLen) ∧ RdS w (fun b => b < w.heap.size) v (.agg [.sl 1 (rRows x.1), .sl 1 (rRows x.2)]) := by
  obtain ⟨cs, h1, h2⟩ := rd_agg 4 (by kernel_rfl) lvRank (by kernel_rfl) hok h
  obtain ⟨c0, r0, rfl, o0, g0⟩ := okR_cons h1
  obtain ⟨c1, r1, rfl, o1, g1⟩ := okR_cons g0
  obtain rfl := okR_nil g1
  obtain ⟨b, rfl, b1, b2⟩ := ok_rows o0
  obtain ⟨d, rfl, d1, d2⟩ := ok_rows o1
  exact ⟨(b, d), ⟨b1, d1, b2, d2⟩, h2⟩
theorem rd_ask (hok : Value.okWide Try.prog w .any 0 58 v) (h : DataW.Trod enc Try.prog w 0 (fun _ => true) true 58 v d ps) :
    ∃ x : List Int × List Hp × Int, (x.1.length ≤ maxLen ∧ x.2.1.length ≤ maxLen) ∧ RdS w (fun b => b < w.heap.size) v (.agg [.sl 1 (kRows .i64 x.1), .sl 3 (hRows x.2.1), .im (.int .i64 x.2.2)]) := by
  obtain ⟨cs, h1, h2⟩ := rd_agg 4 (by kernel_rfl) lvAsk (by kernel_rfl) hok h
  obtain ⟨c0, r0, rfl, o0, g0⟩ := okR_cons h1
  obtain ⟨c1, r1, rfl, o1, g1⟩ := okR_cons g0
  obtain ⟨c2, r2, rfl, o2, g2⟩ := okR_cons g1
  obtain rfl := okR_nil g2
  obtain ⟨l, rfl, l1, l2⟩ := ok_ints Try.underlying25 lvInt Try.underlying3 o0
  obtain ⟨m, rfl, m1⟩ := ok_hops o1
  obtain ⟨m0, w0, rfl⟩ := ok_int Try.underlying3 o2
  refine ⟨(l, m, m0), ⟨l1, m1⟩, ?_⟩
  obtain ⟨us, rfl, hl⟩ := h2
  refine ⟨us, rfl, ?_⟩
  generalize us.toList = vs at hl
  cases hl with
  | cons k1 t => cases t with
    | cons k2 t => exact .cons k1 (.cons (rd_hops k2) t)
end

end Go.Proofs.Ytllemobnfpljfaa
