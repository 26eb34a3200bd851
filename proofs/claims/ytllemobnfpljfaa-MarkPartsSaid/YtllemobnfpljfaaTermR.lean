/-
  PLAIN: two terms, one behind the other, and a node of which they are the parts.
-/
import Derived.Test.YtllemobnfpljfaaTermP
import Derived.Test.YtllemobnfpljfaaTerm6
set_option linter.unusedSimpArgs false
namespace Go.Proofs.Ytllemobnfpljfaa
open Go Go.Hs

section
variable {k : Int} {a b : List Tm}

/-! How deep the nodes lie in it. -/
/-! Its greatest group. -/
def lastG (ys : List Tm) : Nat → Int
  | 0 => 0
  | n + 1 => if ys.any (hasG n) then n else lastG ys n
theorem lastG_eq {ys : List Tm} : ∀ n, (groupsN ys n).getD ((groupsN ys n).length - 1) 0 = lastG ys n
  | 0 => rfl
  | n + 1 => by
    rw [groupsN_succ]
    simp only [lastG]
    split
    · exact getD_snoc_eq (by simp)
    · exact lastG_eq n
theorem lastG_le {ys : List Tm} : ∀ n, 0 ≤ lastG ys n ∧ lastG ys n ≤ n
  | 0 => by simp [lastG]
  | n + 1 => by
    have := lastG_le (ys := ys) n
    simp only [lastG]; split <;> omega
theorem topF_eq {l : List Tm} (h : rightF l = true) : topF l = lastG l 10 := by
  have ht := term_of_right h
  have hpos := ht.pos
  unfold topF
  have e : groupsF l ((l.length : Int) - 1) = groupsN l 10 := by
    have hl := ht.len
    rw [groupsF, if_pos (by omega), nodesF]
    rw [show ((l.length : Int) - 1).toNat = l.length - 1 by omega, ht.root, show ((l.length : Int) - 1 + 1).toNat = l.length by omega]
    rw [Int.toNat_zero, ex_all]
  rw [e, lastG_eq]
end

end Go.Proofs.Ytllemobnfpljfaa
