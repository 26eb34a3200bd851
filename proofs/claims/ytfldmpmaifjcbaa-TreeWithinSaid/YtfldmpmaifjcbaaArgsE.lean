/-
  What a law's arguments read as: entries, bytes, frames.
-/
import Derived.Test.YtfldmpmaifjcbaaArgs
import Derived.Test.YtfldmpmaifjcbaaFrP
set_option linter.unusedSimpArgs false
set_option linter.unusedVariables false
set_option maxRecDepth 10000
namespace Go.Proofs.Ytfldmpmaifjcbaa
open Go Go.Hs

theorem lvEntry : lvs Try.prog 56 = some [3, 3, 3, 3] := by kernel_rfl
theorem lvU8 : lvs Try.prog 5 = some [5] := by kernel_rfl
theorem ok_ents {n : Nat} {c : AC} (h : okC Try.prog (n + 2) 39 c) : ∃ l : List En, c = .sl 4 (enRows l) ∧ l.length ≤ maxLen := by
  obtain ⟨es, rfl, h2, h3⟩ := ok_slice Try.underlying39 lvEntry h
  obtain ⟨l, rfl, hl⟩ := rows_of (enc := En.cs) (W := fun _ => True) (fun r hr => by
    obtain ⟨c0, r0, rfl, o0, g0⟩ := okR_cons (h3 r hr)
    obtain ⟨c1, r1, rfl, o1, g1⟩ := okR_cons g0
    obtain ⟨c2, r2, rfl, o2, g2⟩ := okR_cons g1
    obtain ⟨c3, r3, rfl, o3, g3⟩ := okR_cons g2
    obtain rfl := okR_nil g3
    obtain ⟨m0, w0, rfl⟩ := ok_int Try.underlying3 o0
    obtain ⟨m1, w1, rfl⟩ := ok_int Try.underlying3 o1
    obtain ⟨m2, w2, rfl⟩ := ok_int Try.underlying3 o2
    obtain ⟨m3, w3, rfl⟩ := ok_int Try.underlying3 o3
    exact ⟨⟨m0, m1, m2, m3⟩, rfl, trivial⟩)
  exact ⟨l, rfl, by simpa using h2⟩
section
variable {H : Type} {enc : TypeId × Value → H} {w : World} {v : Value} {d : DataW H} {ps : List MemPlace}

theorem rd_ents (hok : Value.okWide Try.prog w .any 0 39 v) (h : DataW.Trod enc Try.prog w 0 (fun _ => true) true 39 v d ps) :
    ∃ l : List En, (l.length ≤ maxLen) ∧ RdS w (fun b => b < w.heap.size) v (.c (.sl 4 (enRows l))) := by
  obtain ⟨c, h1, h2⟩ := rd_arg 3 (by kernel_rfl) hok h
  obtain ⟨l, rfl, h3⟩ := ok_ents h1
  exact ⟨l, h3, h2⟩
theorem rd_bytes (hok : Value.okWide Try.prog w .any 0 30 v) (h : DataW.Trod enc Try.prog w 0 (fun _ => true) true 30 v d ps) :
    ∃ l : List Int, (l.length ≤ maxLen ∧ ∀ m ∈ l, 0 ≤ m ∧ m ≤ 255) ∧ RdS w (fun b => b < w.heap.size) v (.c (.sl 1 (kRows .u8 l))) := by
  obtain ⟨c, h1, h2⟩ := rd_arg 3 (by kernel_rfl) hok h
  obtain ⟨l, rfl, h3, h4⟩ := ok_ints Try.underlying30 lvU8 Try.underlying5 h1
  exact ⟨l, ⟨h3, fun m hm => wf_u8' (h4 m hm)⟩, h2⟩
end

end Go.Proofs.Ytfldmpmaifjcbaa
