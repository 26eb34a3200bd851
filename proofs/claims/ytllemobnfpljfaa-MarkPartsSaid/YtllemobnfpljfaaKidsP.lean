/-
  PLAIN: what lies in a parse tree; what opens and closes in it makes it again.
-/
import Derived.Test.YtllemobnfpljfaaFrP
set_option linter.unusedSimpArgs false
set_option linter.unusedVariables false
namespace Go.Proofs.Ytllemobnfpljfaa
open Go Go.Hs

/-- Entries side by side at depth d + 1, and all in them, from a place to another one; with what opens and closes. -/
inductive Kids (n : Nat) : Int → Int → Int → List En → List (Int × Int) → Prop where
  | nil {d a b : Int} (h : a ≤ b) : Kids n d a b [] []
  | cons {d a b : Int} {x : En} {s1 s2 : List En} {S1 S2 : List (Int × Int)} (hd : x.d = d + 1) (hn : 0 ≤ x.n ∧ x.n < n) (ha : a ≤ x.f) (hf : x.f ≤ x.t) (h1 : Kids n (d + 1) x.f x.t s1 S1) (h2 : Kids n d x.t b s2 S2) :
      Kids n d a b (x :: (s1 ++ s2)) ((x.f, 2 * x.n) :: (S1 ++ (x.t, 2 * x.n + 1) :: S2))
theorem Kids.le {n : Nat} {d a b : Int} {s : List En} {S : List (Int × Int)} (h : Kids n d a b s S) : a ≤ b := by
  induction h with
  | nil h => exact h
  | cons hd hn ha hf h1 h2 i1 i2 => omega
end Go.Proofs.Ytllemobnfpljfaa
