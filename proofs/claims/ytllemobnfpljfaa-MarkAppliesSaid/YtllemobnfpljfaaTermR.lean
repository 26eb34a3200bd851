/-
  PLAIN: two terms, one behind the other, and a node of which they are the parts.
-/
import Derived.Test.YtllemobnfpljfaaTermP
import Derived.Test.YtllemobnfpljfaaTerm6
set_option linter.unusedSimpArgs false
namespace Go.Proofs.Ytllemobnfpljfaa
open Go Go.Hs

section
variable {k : Int} {a b : List Tm}

/-! How deep the nodes lie in it. -/
/-! Its greatest group. -/
def lastG (ys : List Tm) : Nat → Int
  | 0 => 0
  | n + 1 => if ys.any (hasG n) then n else lastG ys n
theorem lastG_eq {ys : List Tm} : ∀ n, (groupsN ys n).getD ((groupsN ys n).length - 1) 0 = lastG ys n
  | 0 => rfl
  | n + 1 => by
    rw [groupsN_succ]
    simp only [lastG]
    split
    · exact getD_snoc_eq (by simp)
    · exact lastG_eq n
theorem lastG_le {ys : List Tm} : ∀ n, 0 ≤ lastG ys n ∧ lastG ys n ≤ n
  | 0 => by simp [lastG]
  | n + 1 => by
    have := lastG_le (ys := ys) n
    simp only [lastG]; split <;> omega
end

end Go.Proofs.Ytllemobnfpljfaa
