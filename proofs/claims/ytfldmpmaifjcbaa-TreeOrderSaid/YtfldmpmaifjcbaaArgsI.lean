/-
  What a law's arguments read as: numbers.
-/
import Derived.Test.YtfldmpmaifjcbaaHty
import Derived.Test.YtfldmpmaifjcbaaHs18
set_option linter.unusedSimpArgs false
set_option maxRecDepth 10000
namespace Go.Proofs.Ytfldmpmaifjcbaa
open Go Go.Hs

theorem lvInt : lvs Try.prog 3 = some [3] := by kernel_rfl
theorem supInts : supC Try.prog 3 27 = true := by kernel_rfl
theorem supInt : supC Try.prog 1 3 = true := by kernel_rfl

section
variable {H : Type} {enc : TypeId × Value → H} {w : World} {v : Value} {d : DataW H} {ps : List MemPlace}

theorem rd_ints (hok : Value.okWide Try.prog w .any 0 27 v) (h : DataW.Trod enc Try.prog w 0 (fun _ => true) true 27 v d ps) :
    ∃ l : List Int, (l.length ≤ maxLen ∧ ∀ m, m ∈ l → -9223372036854775808 ≤ m ∧ m ≤ 9223372036854775807) ∧ RdS w (fun b => b < w.heap.size) v (.c (.sl 1 (kRows .i64 l))) := by
  obtain ⟨c, h1, h2⟩ := rd_arg 3 supInts hok h
  obtain ⟨l, rfl, h3, h4⟩ := ok_ints Try.underlying27 lvInt Try.underlying3 h1
  exact ⟨l, ⟨h3, fun m hm => wf_i64 (h4 m hm)⟩, h2⟩
theorem rd_int (hok : Value.okWide Try.prog w .any 0 3 v) (h : DataW.Trod enc Try.prog w 0 (fun _ => true) true 3 v d ps) :
    ∃ m : Int, (-9223372036854775808 ≤ m ∧ m ≤ 9223372036854775807) ∧ RdS w (fun b => b < w.heap.size) v (.c (.im (.int .i64 m))) := by
  obtain ⟨c, h1, h2⟩ := rd_arg 1 supInt hok h
  obtain ⟨m, h3, rfl⟩ := ok_int Try.underlying3 h1
  exact ⟨m, wf_i64 h3, h2⟩
theorem rd_u8 (hok : Value.okWide Try.prog w .any 0 5 v) (h : DataW.Trod enc Try.prog w 0 (fun _ => true) true 5 v d ps) :
    ∃ m : Int, (0 ≤ m ∧ m ≤ 255) ∧ RdS w (fun b => b < w.heap.size) v (.c (.im (.int .u8 m))) := by
  obtain ⟨c, h1, h2⟩ := rd_arg 1 (by kernel_rfl) hok h
  obtain ⟨m, h3, rfl⟩ := ok_int Try.underlying5 h1
  exact ⟨m, wf_u8' h3, h2⟩
end

end Go.Proofs.Ytfldmpmaifjcbaa
