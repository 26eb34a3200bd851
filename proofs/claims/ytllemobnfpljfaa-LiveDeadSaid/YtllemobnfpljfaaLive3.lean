/-
  The document's Of: gone through till nothing is new. Printed by gen_live3.py.
-/
import Derived.Test.YtllemobnfpljfaaLive1
set_option linter.unusedSimpArgs false
set_option linter.unusedVariables false
namespace Go.Proofs.Ytllemobnfpljfaa
open Go Go.Hs
/-- Rows that are there, and such as are not yet. -/
def nB (R : List (Blk × List Bool)) (m : Nat) : List (List AC) := boO R ++ List.replicate m [AC.nil]
theorem length_nB {R : List (Blk × List Bool)} {m : Nat} : (nB R m).length = R.length + m := by simp [nB, boO]
theorem getNB {z : AC} {R : List (Blk × List Bool)} {m q : Nat} (h : q < R.length) : getC z (nB R m) q 0 = .own (bB R q) 4 1 (boRows (bV R q)) := by
  rw [← getBO (z := z) h]
  unfold getC nB
  rw [List.getElem?_append_left (by rw [length_boO]; exact h)]
/-- One pass: what was gone through is closed, unless something is new. -/
structure Pass (d : Df) (R R' : List (Blk × List Bool)) (mo : Bool) (f0 : Nat) (P : Nat → Nat → Nat → Prop) : Prop where
  len : R'.length = d.sts.length
  inv : Inv d (R'.map (·.2))
  le' : fal (R'.map (·.2)) ≤ f0
  lt : mo = true → fal (R'.map (·.2)) < f0
  same : mo = false → ∀ i c k, i < d.sts.length → c < (stAt d.sts i).eds.length → k < (edAt (stAt d.sts i).eds c).src.length → P i c k → CloAt d (R'.map (·.2)) i c k
theorem Pass.start {d : Df} {R : List (Blk × List Bool)} {f0 : Nat} {P : Nat → Nat → Nat → Prop} (h : R.length = d.sts.length) (hI : Inv d (R.map (·.2))) (hf : fal (R.map (·.2)) = f0) (hP : ∀ i c k, P i c k → False) : Pass d R R false f0 P :=
  ⟨h, hI, by omega, fun h => (by cases h), fun _ i c k _ _ _ h => (hP i c k h).elim⟩
theorem Pass.upto {d : Df} {R R' : List (Blk × List Bool)} {mo : Bool} {f0 : Nat} {P P' : Nat → Nat → Nat → Prop} (h : Pass d R R' mo f0 P) (g : ∀ i c k, i < d.sts.length → c < (stAt d.sts i).eds.length → k < (edAt (stAt d.sts i).eds c).src.length → P' i c k → P i c k) : Pass d R R' mo f0 P' :=
  ⟨h.len, h.inv, h.le', h.lt, fun hm i c k h1 h2 h3 hp => h.same hm i c k h1 h2 h3 (g i c k h1 h2 h3 hp)⟩
theorem Pass.mono {d : Df} {R R' : List (Blk × List Bool)} {mo : Bool} {f0 : Nat} {P P' : Nat → Nat → Nat → Prop} (h : Pass d R R' mo f0 P) (g : ∀ i c k, P' i c k → P i c k) : Pass d R R' mo f0 P' := h.upto fun i c k _ _ _ => g i c k
theorem Pass.next {d : Df} {R R' : List (Blk × List Bool)} {mo : Bool} {f0 i c k : Nat} {P P' : Nat → Nat → Nat → Prop} (h : Pass d R R' mo f0 P) (cl : CloAt d (R'.map (·.2)) i c k) (g : ∀ i' c' k', P' i' c' k' → P i' c' k' ∨ (i' = i ∧ c' = c ∧ k' = k)) : Pass d R R' mo f0 P' :=
  ⟨h.len, h.inv, h.le', h.lt, fun hm i' c' k' h1 h2 h3 hp => by
    rcases g i' c' k' hp with g | ⟨rfl, rfl, rfl⟩
    · exact h.same hm i' c' k' h1 h2 h3 g
    · exact cl⟩
theorem Pass.new {d : Df} {R R' R2 : List (Blk × List Bool)} {mo : Bool} {f0 : Nat} {P P' : Nat → Nat → Nat → Prop} (h : Pass d R R' mo f0 P) (hi : Inv d (R2.map (·.2))) (hf : fal (R2.map (·.2)) + 1 = fal (R'.map (·.2))) (hl : R2.length = d.sts.length) : Pass d R R2 true f0 P' :=
  ⟨hl, hi, by have := h.le'; omega, fun _ => by have := h.le'; omega, fun h => (by cases h)⟩
attribute [local go_sem] AV.isS Ed.cs Sta.cs Df.cs length_edRows length_stRows gEd0' gEd0 gEd1 gEdR gSt0' gSt0 gSt1 gSt2 gStR xltT xltF xleT xleF xeqT xeqF xbeT xbeF xbnT xbnF length_boO length_nB getNB getBO updBO boSnoc frzBO frzBO' boRows_frz

end Go.Proofs.Ytllemobnfpljfaa
