/-
  What a law's arguments read as: sets of bytes.
-/
import Derived.Test.YtgiihapbgpnkkaaArgsI
import Derived.Test.YtgiihapbgpnkkaaPartP
set_option linter.unusedSimpArgs false
set_option maxRecDepth 10000
namespace Go.Proofs.Ytgiihapbgpnkkaa
open Go Go.Hs

theorem lvSet : lvs Try.prog 42 = some [40, 40, 40, 40] := by kernel_rfl
theorem ok_setR {n : Nat} {r : List AC} (h : okR Try.prog (n + 1) [40, 40, 40, 40] r) : ∃ s : St, r = s.cs ∧ s.wf := by
  obtain ⟨c0, r0, rfl, o0, g0⟩ := okR_cons h
  obtain ⟨c1, r1, rfl, o1, g1⟩ := okR_cons g0
  obtain ⟨c2, r2, rfl, o2, g2⟩ := okR_cons g1
  obtain ⟨c3, r3, rfl, o3, g3⟩ := okR_cons g2
  obtain rfl := okR_nil g3
  obtain ⟨m0, w0, rfl⟩ := ok_int Try.underlying40 o0
  obtain ⟨m1, w1, rfl⟩ := ok_int Try.underlying40 o1
  obtain ⟨m2, w2, rfl⟩ := ok_int Try.underlying40 o2
  obtain ⟨m3, w3, rfl⟩ := ok_int Try.underlying40 o3
  exact ⟨⟨m0, m1, m2, m3⟩, rfl, wf_u64 w0, wf_u64 w1, wf_u64 w2, wf_u64 w3⟩
section
variable {H : Type} {enc : TypeId × Value → H} {w : World} {v : Value} {d : DataW H} {ps : List MemPlace}

theorem rd_sets (hok : Value.okWide Try.prog w .any 0 36 v) (h : DataW.Trod enc Try.prog w 0 (fun _ => true) true 36 v d ps) :
    ∃ l : List St, (l.length ≤ maxLen ∧ ∀ s, s ∈ l → s.wf) ∧ RdS w (fun b => b < w.heap.size) v (.c (.sl 4 (sRows l))) := by
  obtain ⟨c, h1, h2⟩ := rd_arg 3 (by kernel_rfl) hok h
  obtain ⟨es, rfl, h3, h4⟩ := ok_slice Try.underlying36 lvSet h1
  obtain ⟨l, rfl, hl⟩ := rows_of (enc := St.cs) (W := St.wf) (fun r hr => ok_setR (h4 r hr))
  exact ⟨l, ⟨by simpa using h3, hl⟩, h2⟩
theorem rd_set (hok : Value.okWide Try.prog w .any 0 42 v) (h : DataW.Trod enc Try.prog w 0 (fun _ => true) true 42 v d ps) :
    ∃ s : St, s.wf ∧ RdS w (fun b => b < w.heap.size) v (.agg s.cs) := by
  obtain ⟨cs, h1, h2⟩ := rd_agg 2 (by kernel_rfl) lvSet (by kernel_rfl) hok h
  obtain ⟨s, rfl, h3⟩ := ok_setR h1
  exact ⟨s, h3, h2⟩
theorem rd_two (hok : Value.okWide Try.prog w .any 0 44 v) (h : DataW.Trod enc Try.prog w 0 (fun _ => true) true 44 v d ps) :
    ∃ xy : Int × Int, ((0 ≤ xy.1 ∧ xy.1 ≤ 255) ∧ (0 ≤ xy.2 ∧ xy.2 ≤ 255)) ∧ RdS w (fun b => b < w.heap.size) v (.agg [.im (.int .u8 xy.1), .im (.int .u8 xy.2)]) := by
  obtain ⟨cs, h1, h2⟩ := rd_agg 2 (ts := [5, 5]) (by kernel_rfl) (by kernel_rfl) (by kernel_rfl) hok h
  obtain ⟨c0, r0, rfl, o0, g0⟩ := okR_cons h1
  obtain ⟨c1, r1, rfl, o1, g1⟩ := okR_cons g0
  obtain rfl := okR_nil g1
  obtain ⟨m0, w0, rfl⟩ := ok_int Try.underlying5 o0
  obtain ⟨m1, w1, rfl⟩ := ok_int Try.underlying5 o1
  exact ⟨(m0, m1), ⟨wf_u8' w0, wf_u8' w1⟩, h2⟩
end

end Go.Proofs.Ytgiihapbgpnkkaa
