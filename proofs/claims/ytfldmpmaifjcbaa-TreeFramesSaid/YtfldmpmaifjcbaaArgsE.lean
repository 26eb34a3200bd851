/-
  What a law's arguments read as: entries, bytes, frames.
-/
import Derived.Test.YtfldmpmaifjcbaaArgs
import Derived.Test.YtfldmpmaifjcbaaFrP
set_option linter.unusedSimpArgs false
set_option linter.unusedVariables false
set_option maxRecDepth 10000
namespace Go.Proofs.Ytfldmpmaifjcbaa
open Go Go.Hs

theorem lvEntry : lvs Try.prog 56 = some [3, 3, 3, 3] := by kernel_rfl
theorem lvU8 : lvs Try.prog 5 = some [5] := by kernel_rfl
theorem lvInts : lvs Try.prog 27 = some [27] := by kernel_rfl
theorem lvTwo : lvs Try.prog 45 = some [39, 43] := by kernel_rfl
theorem ok_ents {n : Nat} {c : AC} (h : okC Try.prog (n + 2) 39 c) : ∃ l : List En, c = .sl 4 (enRows l) ∧ l.length ≤ maxLen := by
  obtain ⟨es, rfl, h2, h3⟩ := ok_slice Try.underlying39 lvEntry h
  obtain ⟨l, rfl, hl⟩ := rows_of (enc := En.cs) (W := fun _ => True) (fun r hr => by
    obtain ⟨c0, r0, rfl, o0, g0⟩ := okR_cons (h3 r hr)
    obtain ⟨c1, r1, rfl, o1, g1⟩ := okR_cons g0
    obtain ⟨c2, r2, rfl, o2, g2⟩ := okR_cons g1
    obtain ⟨c3, r3, rfl, o3, g3⟩ := okR_cons g2
    obtain rfl := okR_nil g3
    obtain ⟨m0, w0, rfl⟩ := ok_int Try.underlying3 o0
    obtain ⟨m1, w1, rfl⟩ := ok_int Try.underlying3 o1
    obtain ⟨m2, w2, rfl⟩ := ok_int Try.underlying3 o2
    obtain ⟨m3, w3, rfl⟩ := ok_int Try.underlying3 o3
    exact ⟨⟨m0, m1, m2, m3⟩, rfl, trivial⟩)
  exact ⟨l, rfl, by simpa using h2⟩
theorem ok_rows {n : Nat} {c : AC} (h : okC Try.prog (n + 3) 43 c) : ∃ m : List (List Int), c = .sl 1 (rRows m) ∧ m.length ≤ maxLen ∧ ∀ r ∈ m, r.length ≤ maxLen ∧ ∀ x ∈ r, in64 x := by
  obtain ⟨es, rfl, h3, h4⟩ := ok_slice Try.underlying43 lvInts h
  obtain ⟨m, rfl, hm⟩ := rows_of (enc := fun r : List Int => [AC.sl 1 (kRows .i64 r)]) (W := fun r => r.length ≤ maxLen ∧ ∀ x ∈ r, in64 x) (fun r hr => by
    obtain ⟨c, r', rfl, h5, h6⟩ := okR_cons (h4 r hr)
    obtain ⟨l, rfl, h7, h8⟩ := ok_ints Try.underlying27 lvInt Try.underlying3 h5
    obtain rfl := okR_nil h6
    exact ⟨l, rfl, h7, fun x hx => wf_i64 (h8 x hx)⟩)
  exact ⟨m, rfl, by simpa using h3, hm⟩
section
variable {H : Type} {enc : TypeId × Value → H} {w : World} {v : Value} {d : DataW H} {ps : List MemPlace}

theorem rd_bytes (hok : Value.okWide Try.prog w .any 0 30 v) (h : DataW.Trod enc Try.prog w 0 (fun _ => true) true 30 v d ps) :
    ∃ l : List Int, (l.length ≤ maxLen ∧ ∀ m ∈ l, 0 ≤ m ∧ m ≤ 255) ∧ RdS w (fun b => b < w.heap.size) v (.c (.sl 1 (kRows .u8 l))) := by
  obtain ⟨c, h1, h2⟩ := rd_arg 3 (by kernel_rfl) hok h
  obtain ⟨l, rfl, h3, h4⟩ := ok_ints Try.underlying30 lvU8 Try.underlying5 h1
  exact ⟨l, ⟨h3, fun m hm => wf_u8' (h4 m hm)⟩, h2⟩
theorem rd_twoTF (hok : Value.okWide Try.prog w .any 0 45 v) (h : DataW.Trod enc Try.prog w 0 (fun _ => true) true 45 v d ps) :
    ∃ x : List En × List (List Int), (∀ r ∈ x.2, ∀ y ∈ r, in64 y) ∧ RdS w (fun b => b < w.heap.size) v (.agg [.sl 4 (enRows x.1), .sl 1 (rRows x.2)]) := by
  obtain ⟨cs, h1, h2⟩ := rd_agg 4 (by kernel_rfl) lvTwo (by kernel_rfl) hok h
  obtain ⟨c0, r0, rfl, o0, g0⟩ := okR_cons h1
  obtain ⟨c1, r1, rfl, o1, g1⟩ := okR_cons g0
  obtain rfl := okR_nil g1
  obtain ⟨b, rfl, b1⟩ := ok_ents o0
  obtain ⟨d, rfl, d1, d2⟩ := ok_rows o1
  exact ⟨(b, d), fun r hr => (d2 r hr).2, h2⟩
end

end Go.Proofs.Ytfldmpmaifjcbaa
