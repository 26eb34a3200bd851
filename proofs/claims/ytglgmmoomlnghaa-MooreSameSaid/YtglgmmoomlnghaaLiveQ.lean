/-
  PLAIN: a machine without the registers that do not matter, beside the machine.
-/
import Derived.Test.YtglgmmoomlnghaaLiveP
import Derived.Test.YtglgmmoomlnghaaDrP
set_option linter.unusedSimpArgs false
set_option linter.unusedVariables false
namespace Go.Proofs.Ytglgmmoomlnghaa
open Go Go.Hs

section
variable {d : Df} {T : List (List Bool)}
open Classical in
/-! Two cars, one by the machine, one by that without what does not matter. -/
structure Sim (d : Df) (T : List (List Bool)) (c e : Cr) : Prop where
  pos : e.pos = c.pos
  st : e.st = c.st
  tags : e.tags = c.tags
  to : e.to = c.to
  regs : 0 ≤ c.st → ∀ n,bGet T c.st.toNat n = true → e.regs.getD (namesN (bAt T c.st.toNat) n) 0 = c.regs.getD n 0
theorem list_ext_getD {a b : List Int} (h : a.length = b.length) (g : ∀ t,t < a.length → a.getD t 0 = b.getD t 0) : a = b :=
  List.ext_getElem h fun i h1 h2 => by
    have := g i h1
    rwa [List.getD_eq_getElem?_getD,List.getElem?_eq_getElem h1,List.getD_eq_getElem?_getD,List.getElem?_eq_getElem h2] at this
end

end Go.Proofs.Ytglgmmoomlnghaa
