/-
  PLAIN: a machine without the registers that do not matter, beside the machine.
-/
import Derived.Test.YtllemobnfpljfaaLiveP
import Derived.Test.YtllemobnfpljfaaDrP
set_option linter.unusedSimpArgs false
set_option linter.unusedVariables false
namespace Go.Proofs.Ytllemobnfpljfaa
open Go Go.Hs

theorem getD_out {l : List Bool} {n : Nat} (h : l.getD n false = true) : n < l.length := by
  by_cases c : n < l.length
  · exact c
  · rw [List.getD_eq_getElem?_getD, List.getElem?_eq_none (by omega)] at h; cases h

section
variable {d : Df} {T : List (List Bool)}
open Classical in
/-! Two cars, one by the machine, one by that without what does not matter. -/
structure Sim (d : Df) (T : List (List Bool)) (c e : Cr) : Prop where
  pos : e.pos = c.pos
  st : e.st = c.st
  tags : e.tags = c.tags
  to : e.to = c.to
  regs : 0 ≤ c.st → ∀ n, bGet T c.st.toNat n = true → e.regs.getD (namesN (bAt T c.st.toNat) n) 0 = c.regs.getD n 0
theorem eachF_get {p : Int} {r l : List Int} {t : Nat} (h : t < l.length) : (eachF p r l).getD t 0 = hereF p r (l.getD t 0) := by
  unfold eachF
  rw [List.getD_eq_getElem?_getD, List.getElem?_map, List.getElem?_eq_getElem h, List.getD_eq_getElem?_getD, List.getElem?_eq_getElem h]; rfl
theorem list_ext_getD {a b : List Int} (h : a.length = b.length) (g : ∀ t, t < a.length → a.getD t 0 = b.getD t 0) : a = b :=
  List.ext_getElem h fun i h1 h2 => by
    have := g i h1
    rwa [List.getD_eq_getElem?_getD, List.getElem?_eq_getElem h1, List.getD_eq_getElem?_getD, List.getElem?_eq_getElem h2] at this
theorem find_eq {c e : Cr} (h1 : e.tags = c.tags) (h2 : e.to = c.to) : crFind e = crFind c := by
  unfold crFind; rw [h1, h2]
end

end Go.Proofs.Ytllemobnfpljfaa
