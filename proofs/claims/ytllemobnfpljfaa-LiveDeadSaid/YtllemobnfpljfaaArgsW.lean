/-
  What a law's arguments read as: bytes, three numbers (beside machines).
-/
import Derived.Test.YtllemobnfpljfaaArgsD
set_option linter.unusedSimpArgs false
set_option linter.unusedVariables false
set_option maxRecDepth 10000
namespace Go.Proofs.Ytllemobnfpljfaa
open Go Go.Hs

theorem lvU8 : lvs Try.prog 5 = some [5] := by kernel_rfl
section
variable {H : Type} {enc : TypeId × Value → H} {w : World} {v : Value} {d : DataW H} {ps : List MemPlace}
theorem rd_bytes (hok : Value.okWide Try.prog w .any 0 45 v) (h : DataW.Trod enc Try.prog w 0 (fun _ => true) true 45 v d ps) :
    ∃ l : List Int, (∀ m ∈ l, 0 ≤ m ∧ m ≤ 255) ∧ RdS w (fun b => b < w.heap.size) v (.c (.sl 1 (kRows .u8 l))) := by
  obtain ⟨c, h1, h2⟩ := rd_arg 3 (by kernel_rfl) hok h
  obtain ⟨l, rfl, h3, h4⟩ := ok_ints Try.underlying45 lvU8 Try.underlying5 h1
  exact ⟨l, fun m hm => wf_u8' (h4 m hm), h2⟩
theorem wf_u16 {n : Int} (h : (Lit.int .u16 n).wf = true) : 0 ≤ n ∧ n ≤ 65535 := by
  simpa [Lit.wf, IntKind.min, IntKind.max, IntKind.signed, IntKind.bits] using h
theorem rd_three16 (hok : Value.okWide Try.prog w .any 0 97 v) (h : DataW.Trod enc Try.prog w 0 (fun _ => true) true 97 v d ps) :
    ∃ x : Int × Int × Int, ((0 ≤ x.1 ∧ x.1 ≤ 65535) ∧ (0 ≤ x.2.1 ∧ x.2.1 ≤ 65535) ∧ (0 ≤ x.2.2 ∧ x.2.2 ≤ 65535)) ∧ RdS w (fun b => b < w.heap.size) v (.agg [.im (.int .u16 x.1), .im (.int .u16 x.2.1), .im (.int .u16 x.2.2)]) := by
  obtain ⟨cs, h1, h2⟩ := rd_agg 2 (ts := [96, 96, 96]) (by kernel_rfl) (by kernel_rfl) (by kernel_rfl) hok h
  obtain ⟨c0, r0, rfl, o0, g0⟩ := okR_cons h1
  obtain ⟨c1, r1, rfl, o1, g1⟩ := okR_cons g0
  obtain ⟨c2, r2, rfl, o2, g2⟩ := okR_cons g1
  obtain rfl := okR_nil g2
  obtain ⟨m0, w0, rfl⟩ := ok_int Try.underlying96 o0
  obtain ⟨m1, w1, rfl⟩ := ok_int Try.underlying96 o1
  obtain ⟨m2, w2, rfl⟩ := ok_int Try.underlying96 o2
  exact ⟨(m0, m1, m2), ⟨wf_u16 w0, wf_u16 w1, wf_u16 w2⟩, h2⟩
end

end Go.Proofs.Ytllemobnfpljfaa
