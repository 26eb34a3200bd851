/-
  What a law's arguments read as: marks; tags, marks, and what is put for them.
-/
import Derived.Test.YtllemobnfpljfaaArgs
import Derived.Test.YtllemobnfpljfaaFrP
import Derived.Test.YtllemobnfpljfaaSpanP
set_option linter.unusedSimpArgs false
set_option linter.unusedVariables false
set_option maxRecDepth 10000
namespace Go.Proofs.Ytllemobnfpljfaa
open Go Go.Hs

section
variable {H : Type} {enc : TypeId × Value → H} {w : World} {v : Value} {d : DataW H} {ps : List MemPlace}
theorem rd_in64 (hok : Value.okWide Try.prog w .any 0 25 v) (h : DataW.Trod enc Try.prog w 0 (fun _ => true) true 25 v d ps) :
    ∃ l : List Int, (∀ x ∈ l, in64 x) ∧ RdS w (fun b => b < w.heap.size) v (.c (.sl 1 (kRows .i64 l))) := by
  obtain ⟨c, h1, h2⟩ := rd_arg 3 (by kernel_rfl) hok h
  obtain ⟨l, rfl, h3, h4⟩ := ok_ints Try.underlying25 lvInt Try.underlying3 h1
  exact ⟨l, fun m hm => wf_i64 (h4 m hm), h2⟩
end

end Go.Proofs.Ytllemobnfpljfaa
