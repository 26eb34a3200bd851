/-
  tree.checker: next, kid, whole, row.
-/
import Derived.Test.YtllemobnfpljfaaTree1
import Derived.Test.YtllemobnfpljfaaTermP
import Derived.Test.YtllemobnfpljfaaHs17
import Derived.Test.YtllemobnfpljfaaNext
set_option linter.unusedSimpArgs false
set_option linter.unusedVariables false
namespace Go.Proofs.Ytllemobnfpljfaa
open Go Go.Hs


theorem gopO_fb {P : Program} {n : Nat} {S : Env} {pu : Bool} {d : Nat} {c : Call} {pos : String} {after : Array Edge} {gd : Option (Nat × Bool)} {K : Env → Prop} (h : d < n ∧ K (S.set d (.opt false (.c (.im (.bool false)))))) : gopO P n pu S { dst := some d, op := .call c, type := 4, pos := pos, after := after, guard := gd } false K :=
  .inr ⟨fun h => absurd h (by decide), fun _ => ⟨h.1, _, rfl, h.2⟩⟩
theorem dltT {a b : Int} (h : a < b) : decide (a < b) = true := decide_eq_true h
theorem dltF {a b : Int} (h : ¬ a < b) : decide (a < b) = false := decide_eq_false h
theorem eqT {a b : Int} (h : a = b) : decide (a = b) = true := decide_eq_true h
theorem eqF {a b : Int} (h : a ≠ b) : decide (a = b) = false := decide_eq_false h
theorem beT {a b : Int} (h : a = b) : (a == b) = true := by simpa using h
theorem beF {a b : Int} (h : a ≠ b) : (a == b) = false := by simpa using h

def nxOk (w : List Int) (x : En) (dp nd fr : Int) : Bool := x.d == dp && x.n == nd && x.f == fr && decide (fr ≤ x.t) && decide (x.t ≤ w.length)
def nxF (w : List Int) (t : List En) (i : Nat) (dp nd fr : Int) : En × Bool × Nat := if i < t.length then (enAt t i, nxOk w (enAt t i) dp nd fr, i + 1) else (En.z, false, i)
/-- An entry that may be gone through. -/
def EOk (l : List Tm) (w : List Int) (e : En) : Prop := (0 ≤ e.d ∧ e.d + e.n ≤ l.length) ∧ 0 ≤ e.n ∧ e.n < l.length ∧ 0 ≤ e.f ∧ e.f ≤ e.t ∧ e.t ≤ w.length
theorem nx_ok {l : List Tm} {w : List Int} {t : List En} {i : Nat} {dp nd fr : Int} (h : (nxF w t i dp nd fr).2.1 = true) (hd : 0 ≤ dp ∧ dp + nd ≤ l.length) (h0 : 0 ≤ nd) (h1 : nd < l.length) (hf : 0 ≤ fr) : EOk l w (nxF w t i dp nd fr).1 ∧ (nxF w t i dp nd fr).1.n = nd ∧ (nxF w t i dp nd fr).1.f = fr := by
  unfold nxF at h ⊢
  split at h
  · rename_i h2
    rw [if_pos h2]
    simp only [nxOk, Bool.and_eq_true, beq_iff_eq, decide_eq_true_eq] at h
    obtain ⟨⟨⟨⟨a1, a2⟩, a3⟩, a4⟩, a5⟩ := h
    exact ⟨⟨by simp only [a1, a2]; exact hd, by simp only [a2]; exact h0, by simp only [a2]; exact h1, by simp only [a3]; exact hf, by simp only [a3]; exact a4, a5⟩, a2, a3⟩
  · cases h
theorem nx_le {w : List Int} {t : List En} {i : Nat} {dp nd fr : Int} (h : i ≤ t.length) : (nxF w t i dp nd fr).2.2 ≤ t.length := by
  unfold nxF; split
  · show i + 1 ≤ _; omega
  · exact h
def kidF (nf : En → Nat → Bool × Nat) (w : List Int) (t : List En) (e : En) (nd fr : Int) (i : Nat) : Int × Bool × Nat :=
  if (nxF w t i (e.d + 1) nd fr).2.1 = true ∧ (nxF w t i (e.d + 1) nd fr).1.t ≤ e.t then
    (if (nf (nxF w t i (e.d + 1) nd fr).1 (nxF w t i (e.d + 1) nd fr).2.2).1 = true then ((nxF w t i (e.d + 1) nd fr).1.t, true, (nf (nxF w t i (e.d + 1) nd fr).1 (nxF w t i (e.d + 1) nd fr).2.2).2) else (0, false, (nf (nxF w t i (e.d + 1) nd fr).1 (nxF w t i (e.d + 1) nd fr).2.2).2))
  else (0, false, (nxF w t i (e.d + 1) nd fr).2.2)
def wholeF (nf : En → Nat → Bool × Nat) (w : List Int) (t : List En) (e : En) (nd : Int) (i : Nat) : Bool × Nat :=
  ((kidF nf w t e nd e.f i).2.1 && ((kidF nf w t e nd e.f i).1 == e.t), (kidF nf w t e nd e.f i).2.2)
def rowF (nf : En → Nat → Bool × Nat) (w : List Int) (t : List En) (e : En) (nd : Int) : Nat → Int → Nat → Bool × Nat
  | 0, _, i => (true, i)
  | m + 1, at', i => if at' < e.t then
      (if (kidF nf w t e nd at' i).2.1 = true ∧ (kidF nf w t e nd at' i).1 ≠ at' then rowF nf w t e nd m (kidF nf w t e nd at' i).1 (kidF nf w t e nd at' i).2.2 else (false, (kidF nf w t e nd at' i).2.2))
    else (true, i)

theorem kid_to {l : List Tm} {w : List Int} {t : List En} {n : Int} {nf : En → Nat → Bool × Nat} {e : En} {nd fr : Int} {i : Nat} (h : (kidF nf w t e nd fr i).2.1 = true) (he : 0 ≤ e.d ∧ e.d + 1 + nd ≤ l.length) (h0 : 0 ≤ nd) (h1 : nd < l.length) (hf : 0 ≤ fr) : fr ≤ (kidF nf w t e nd fr i).1 ∧ (kidF nf w t e nd fr i).1 ≤ e.t := by
  unfold kidF at h ⊢
  split at h
  · rename_i h2
    rw [if_pos h2]
    split at h
    · rename_i h3
      rw [if_pos h3]
      have := nx_ok (l := l) (w := w) h2.1 (by omega) h0 h1 hf
      obtain ⟨⟨_, a1, a2, a3, a4, a5⟩, a6, a7⟩ := this
      exact ⟨by show fr ≤ (nxF w t i (e.d + 1) nd fr).1.t; omega, h2.2⟩
    · cases h
  · cases h
end Go.Proofs.Ytllemobnfpljfaa
