/-
  PLAIN: where two halves meet.
-/
import Derived.Test.YtfldmpmaifjcbaaLsB
import Derived.Test.YtfldmpmaifjcbaaLsG
set_option linter.unusedSimpArgs false
set_option linter.unusedVariables false
namespace Go.Proofs.Ytfldmpmaifjcbaa
open Go Go.Hs

theorem splitD_hit {f g : Nat → Bool} {i : Nat} : ∀ m t,t < m → f (i + t) = true → g (i + t) = true → f (splitD f g i m) = true ∧ g (splitD f g i m) = true ∧ i + t ≤ splitD f g i m
  | 0,_,h,_,_ => absurd h (Nat.not_lt_zero _)
  | m + 1,t,h,h1,h2 => by
    rw [splitD]
    split
    · rename_i c
      exact ⟨c.1,c.2,by omega⟩
    · rename_i c
      by_cases e : t = m
      · subst e;exact absurd ⟨h1,h2⟩ c
      · exact splitD_hit m t (by omega) h1 h2
/-- Where two halves meet. -/
structure Meet (l : List Tm) (w : List Int) (a c i j s : Nat) : Prop where
  ge : i ≤ s
  le : s ≤ j
  fst : bT l w a i s = true
  snd : bT l w c s j = true
theorem meet_of {l : List Tm} {w : List Int} {a c i j t : Nat} (hij : i ≤ j) (ht : i + t ≤ j) (h1 : bT l w a i (i + t) = true) (h2 : bT l w c (i + t) j = true) : Meet l w a c i j (splitF (rT l w a) (rT l w c) i j) ∧ i + t ≤ splitF (rT l w a) (rT l w c) i j := by
  have h := splitD_hit (f := fun k => bitR (rT l w a) i k) (g := fun k => bitR (rT l w c) k j) (i := i) (j + 1 - i) t (by omega) h1 h2
  exact ⟨⟨splitF_ge,splitF_le hij,h.1,h.2.1⟩,h.2.2⟩

end Go.Proofs.Ytfldmpmaifjcbaa
