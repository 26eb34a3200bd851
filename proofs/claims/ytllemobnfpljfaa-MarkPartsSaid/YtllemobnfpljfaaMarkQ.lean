/-
  PLAIN: tags behind marks; of a parse tree's frames, frame by frame, what its groups span.
-/
import Derived.Test.YtllemobnfpljfaaSpanP
import Derived.Test.YtllemobnfpljfaaPtP
import Derived.Test.YtllemobnfpljfaaOfP
set_option linter.unusedSimpArgs false
set_option linter.unusedVariables false
namespace Go.Proofs.Ytllemobnfpljfaa
open Go Go.Hs

def mkOf (l : List Tm) (s : Int) : List Sp :=
  if s < 0 ∨ (l.length : Int) ≤ s / 2 then []
  else if (tAt l (s / 2).toNat).k = 7 then [(1 + s % 2, (tAt l (s / 2).toNat).n)]
  else if (tAt l (s / 2).toNat).k = 8 ∧ s % 2 = 0 then (groupsF l (s / 2)).map fun g => (3, g)
  else []
def marksF (l : List Tm) (st : List Int) : List Sp := if rightF l = true then st.flatMap (mkOf l) else []
def apStep (now none : Int) (o : List Int) (m : Sp) : List Int :=
  if m.2 < 1 ∨ (o.length : Int) ≤ 2 * m.2 then o
  else if m.1 = 1 then o.set (2 * m.2 - 1).toNat now
  else if m.1 = 2 then o.set (2 * m.2).toNat now
  else if m.1 = 3 then (o.set (2 * m.2 - 1).toNat none).set (2 * m.2).toNat none
  else o
def applyF (tags : List Int) (ms : List Sp) (now none : Int) : List Int := ms.foldl (apStep now none) tags
theorem apStep_len {now none : Int} {o : List Int} {m : Sp} : (apStep now none o m).length = o.length := by
  unfold apStep; repeat' split
  all_goals simp
theorem applyF_len {now none : Int} : ∀ {ms : List Sp} {o : List Int}, (applyF o ms now none).length = o.length
  | [], o => rfl
  | m :: ms, o => by
    show (applyF (apStep now none o m) ms now none).length = _
    rw [applyF_len, apStep_len]
theorem applyF_app {now none : Int} {a b : List Sp} {o : List Int} : applyF o (a ++ b) now none = applyF (applyF o a now none) b now none := List.foldl_append
theorem marksF_app {l : List Tm} {a b : List Int} : marksF l (a ++ b) = marksF l a ++ marksF l b := by
  unfold marksF; split
  · exact List.flatMap_append
  · rfl
def sp2 (a b : Int) : Sp := if a < 0 ∨ b < 0 then (-1, -1) else (a, b)
def msAt (T : List Int) (to : Int) (g : Nat) : Sp := if g = 0 then sp2 (T.getD 0 0) to else sp2 (T.getD (2 * g - 1) 0) (T.getD (2 * g) 0)
def mSpansF (T : List Int) (to : Int) : List Sp := if T.length % 2 = 0 then [] else (List.range ((T.length + 1) / 2)).map (msAt T to)

end Go.Proofs.Ytllemobnfpljfaa
