/-
  What a law's arguments read as: three numbers.
-/
import Derived.Test.YtgiihapbgpnkkaaArgs
set_option linter.unusedSimpArgs false
set_option maxRecDepth 10000
namespace Go.Proofs.Ytgiihapbgpnkkaa
open Go Go.Hs
section
variable {H : Type} {enc : TypeId × Value → H} {w : World} {v : Value} {d : DataW H} {ps : List MemPlace}
theorem rd_three (hok : Value.okWide Try.prog w .any 0 56 v) (h : DataW.Trod enc Try.prog w 0 (fun _ => true) true 56 v d ps) :
    ∃ x : Int × Int × Int, True ∧ RdS w (fun b => b < w.heap.size) v (.agg [.im (.int .i64 x.1), .im (.int .i64 x.2.1), .im (.int .i64 x.2.2)]) := by
  obtain ⟨cs, h1, h2⟩ := rd_agg 2 (ts := [3, 3, 3]) (by kernel_rfl) (by kernel_rfl) (by kernel_rfl) hok h
  obtain ⟨c0, r0, rfl, o0, g0⟩ := okR_cons h1
  obtain ⟨c1, r1, rfl, o1, g1⟩ := okR_cons g0
  obtain ⟨c2, r2, rfl, o2, g2⟩ := okR_cons g1
  obtain rfl := okR_nil g2
  obtain ⟨m0, w0, rfl⟩ := ok_int Try.underlying3 o0
  obtain ⟨m1, w1, rfl⟩ := ok_int Try.underlying3 o1
  obtain ⟨m2, w2, rfl⟩ := ok_int Try.underlying3 o2
  exact ⟨(m0, m1, m2), trivial, h2⟩
end
end Go.Proofs.Ytgiihapbgpnkkaa
