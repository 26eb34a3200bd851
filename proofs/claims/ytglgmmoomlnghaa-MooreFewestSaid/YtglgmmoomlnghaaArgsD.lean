/-
  What a law's arguments read as: machines.
-/
import Derived.Test.YtglgmmoomlnghaaArgsI
import Derived.Test.YtglgmmoomlnghaaDfP
set_option linter.unusedSimpArgs false
set_option linter.unusedVariables false
set_option maxRecDepth 10000
namespace Go.Proofs.Ytglgmmoomlnghaa
open Go Go.Hs

theorem lvDfa : lvs Try.prog 25 = some [3,22,23] := by kernel_rfl
theorem lvState : lvs Try.prog 70 = some [3,22,68] := by kernel_rfl
theorem lvEdge : lvs Try.prog 72 = some [3,22] := by kernel_rfl
theorem ok_edges {n : Nat} {c : AC} (h : okC Try.prog (n + 3) 68 c) : ∃ l : List Ed,c = .sl 2 (edRows l) := by
  obtain ⟨es,rfl,h2,h3⟩ := ok_slice Try.underlying68 lvEdge h
  obtain ⟨l,rfl,_⟩ := rows_of (enc := Ed.cs) (W := fun _ => True) (fun r hr => by
    obtain ⟨c0,r0,rfl,o0,g0⟩ := okR_cons (h3 r hr)
    obtain ⟨c1,r1,rfl,o1,g1⟩ := okR_cons g0
    obtain rfl := okR_nil g1
    obtain ⟨m0,_,rfl⟩ := ok_int Try.underlying3 o0
    obtain ⟨m1,rfl,_,_⟩ := ok_ints Try.underlying22 lvInt Try.underlying3 o1
    exact ⟨⟨m0,m1⟩,rfl,trivial⟩)
  exact ⟨l,rfl⟩
theorem ok_states {n : Nat} {c : AC} (h : okC Try.prog (n + 4) 23 c) : ∃ l : List Sta,c = .sl 3 (stRows l) := by
  obtain ⟨es,rfl,h2,h3⟩ := ok_slice Try.underlying23 lvState h
  obtain ⟨l,rfl,_⟩ := rows_of (enc := Sta.cs) (W := fun _ => True) (fun r hr => by
    obtain ⟨c0,r0,rfl,o0,g0⟩ := okR_cons (h3 r hr)
    obtain ⟨c1,r1,rfl,o1,g1⟩ := okR_cons g0
    obtain ⟨c2,r2,rfl,o2,g2⟩ := okR_cons g1
    obtain rfl := okR_nil g2
    obtain ⟨m0,_,rfl⟩ := ok_int Try.underlying3 o0
    obtain ⟨m1,rfl,_,_⟩ := ok_ints Try.underlying22 lvInt Try.underlying3 o1
    obtain ⟨m2,rfl⟩ := ok_edges o2
    exact ⟨⟨m0,m1,m2⟩,rfl,trivial⟩)
  exact ⟨l,rfl⟩
section
variable {H : Type} {enc : TypeId × Value → H} {w : World} {v : Value} {d : DataW H} {ps : List MemPlace}
theorem rd_dfa (hok : Value.okWide Try.prog w .any 0 25 v) (h : DataW.Trod enc Try.prog w 0 (fun _ => true) true 25 v d ps) :
    ∃ x : Df,True ∧ RdS w (fun b => b < w.heap.size) v (.agg x.cs) := by
  obtain ⟨cs,h1,h2⟩ := rd_agg 6 (by kernel_rfl) lvDfa (by kernel_rfl) hok h
  obtain ⟨c0,r0,rfl,o0,g0⟩ := okR_cons h1
  obtain ⟨c1,r1,rfl,o1,g1⟩ := okR_cons g0
  obtain ⟨c2,r2,rfl,o2,g2⟩ := okR_cons g1
  obtain rfl := okR_nil g2
  obtain ⟨m0,_,rfl⟩ := ok_int Try.underlying3 o0
  obtain ⟨m1,rfl,_,_⟩ := ok_ints Try.underlying22 lvInt Try.underlying3 o1
  obtain ⟨m2,rfl⟩ := ok_states o2
  exact ⟨⟨m0,m1,m2⟩,trivial,h2⟩
end

end Go.Proofs.Ytglgmmoomlnghaa
