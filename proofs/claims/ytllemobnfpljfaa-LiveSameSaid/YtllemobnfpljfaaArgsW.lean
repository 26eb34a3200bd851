/-
  What a law's arguments read as: bytes, three numbers (beside machines).
-/
import Derived.Test.YtllemobnfpljfaaArgsD
set_option linter.unusedSimpArgs false
set_option linter.unusedVariables false
set_option maxRecDepth 10000
namespace Go.Proofs.Ytllemobnfpljfaa
open Go Go.Hs

theorem lvU8 : lvs Try.prog 5 = some [5] := by kernel_rfl
section
variable {H : Type} {enc : TypeId × Value → H} {w : World} {v : Value} {d : DataW H} {ps : List MemPlace}
theorem rd_bytes (hok : Value.okWide Try.prog w .any 0 45 v) (h : DataW.Trod enc Try.prog w 0 (fun _ => true) true 45 v d ps) :
    ∃ l : List Int, (∀ m ∈ l, 0 ≤ m ∧ m ≤ 255) ∧ RdS w (fun b => b < w.heap.size) v (.c (.sl 1 (kRows .u8 l))) := by
  obtain ⟨c, h1, h2⟩ := rd_arg 3 (by kernel_rfl) hok h
  obtain ⟨l, rfl, h3, h4⟩ := ok_ints Try.underlying45 lvU8 Try.underlying5 h1
  exact ⟨l, fun m hm => wf_u8' (h4 m hm), h2⟩
end

end Go.Proofs.Ytllemobnfpljfaa
