/-
  THE HEAP SEMANTICS, part 18: more rules: what a function does with rows that are handed over, told for a nil slice in their place.
-/
import Derived.Test.YtglgmmoomlnghaaHs17
namespace Go.Hs
open Go Go.RowKit

section
variable {P : Program} {w : World} {p : Nat → Prop}

theorem rdAs_nilSl {sz : Nat} {bs : List AV} : ∀ {as : List AV} {vs : List Value}, RdAs w p vs (as ++ .c .nil :: bs) → RdAs w p vs (as ++ .c (.sl sz []) :: bs)
  | [], _, h => by
    cases h with
    | cons h t =>
      refine .cons ?_ t
      have h' : RdC w p _ .nil := h
      cases h'
      exact RdC.nilS sz 0
  | a :: as, _, h => by
    cases h with
    | cons h t => exact .cons h (rdAs_nilSl t)

/-- A nil slice is a slice of no rows. -/
theorem ContractH.nilArg {f : FuncId} (as : List AV) {bs : List AV} {sz : Nat} {H : Env} {R : AV → Env → Prop} (h : ContractH P f (as ++ .c (.sl sz []) :: bs) H R) : ContractH P f (as ++ .c .nil :: bs) H R :=
  ⟨h.callable, fun w p vs ow hp ha hO => h.calls w p vs ow hp (rdAs_nilSl ha) hO⟩

end
end Go.Hs
