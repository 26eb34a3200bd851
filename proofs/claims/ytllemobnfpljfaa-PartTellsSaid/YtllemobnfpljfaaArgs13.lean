/-
  What a law's arguments read as: sets of bytes.
-/
import Derived.Test.YtllemobnfpljfaaArgsI
import Derived.Test.YtllemobnfpljfaaPartP
set_option linter.unusedSimpArgs false
set_option maxRecDepth 10000
namespace Go.Proofs.Ytllemobnfpljfaa
open Go Go.Hs

theorem lvSet : lvs Try.prog 106 = some [104, 104, 104, 104] := by kernel_rfl
theorem ok_setR {n : Nat} {r : List AC} (h : okR Try.prog (n + 1) [104, 104, 104, 104] r) : ∃ s : St, r = s.cs ∧ s.wf := by
  obtain ⟨c0, r0, rfl, o0, g0⟩ := okR_cons h
  obtain ⟨c1, r1, rfl, o1, g1⟩ := okR_cons g0
  obtain ⟨c2, r2, rfl, o2, g2⟩ := okR_cons g1
  obtain ⟨c3, r3, rfl, o3, g3⟩ := okR_cons g2
  obtain rfl := okR_nil g3
  obtain ⟨m0, w0, rfl⟩ := ok_int Try.underlying104 o0
  obtain ⟨m1, w1, rfl⟩ := ok_int Try.underlying104 o1
  obtain ⟨m2, w2, rfl⟩ := ok_int Try.underlying104 o2
  obtain ⟨m3, w3, rfl⟩ := ok_int Try.underlying104 o3
  exact ⟨⟨m0, m1, m2, m3⟩, rfl, wf_u64 w0, wf_u64 w1, wf_u64 w2, wf_u64 w3⟩
section
variable {H : Type} {enc : TypeId × Value → H} {w : World} {v : Value} {d : DataW H} {ps : List MemPlace}

theorem rd_sets (hok : Value.okWide Try.prog w .any 0 22 v) (h : DataW.Trod enc Try.prog w 0 (fun _ => true) true 22 v d ps) :
    ∃ l : List St, (l.length ≤ maxLen ∧ ∀ s, s ∈ l → s.wf) ∧ RdS w (fun b => b < w.heap.size) v (.c (.sl 4 (sRows l))) := by
  obtain ⟨c, h1, h2⟩ := rd_arg 3 (by kernel_rfl) hok h
  obtain ⟨es, rfl, h3, h4⟩ := ok_slice Try.underlying22 lvSet h1
  obtain ⟨l, rfl, hl⟩ := rows_of (enc := St.cs) (W := St.wf) (fun r hr => ok_setR (h4 r hr))
  exact ⟨l, ⟨by simpa using h3, hl⟩, h2⟩
end

end Go.Proofs.Ytllemobnfpljfaa
