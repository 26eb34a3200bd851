/-
  gimletlaw26.LiveSame.
-/
import Derived.Test.YtllemobnfpljfaaLive8
import Derived.Test.YtllemobnfpljfaaLiveQ
import Derived.Test.YtllemobnfpljfaaDr4
set_option linter.unusedSimpArgs false
set_option linter.unusedVariables false
namespace Go.Proofs.Ytllemobnfpljfaa
open Go Go.Hs
theorem span_ok (a : List Sp) (ha : a.length ≤ 100000) : Contract Try.prog 31 [.c (.sl 2 (spRows a)), .c (.sl 2 (spRows a))] (.c (.im (.bool true))) := by
  have := Spanned_ok a a ha ha
  rw [decide_eq_true rfl] at this; exact this
theorem mSp_len {T : List Int} {to : Int} : (mSpansF T to).length ≤ T.length + 1 := by
  unfold mSpansF; split <;> simp <;> omega
theorem find_len {c : Cr} (h : c.tags.length ≤ 1000) : (crFind c).1.length ≤ 100000 := by
  unfold crFind
  split
  · simp
  · have := mSp_len (T := c.tags) (to := c.to)
    show (mSpansF c.tags c.to).length ≤ _
    omega
theorem search_len {d : Df} (B : Bd d) (hm : mB d = true) {w : List Int} (hw : ∀ x ∈ w, 0 ≤ x ∧ x ≤ 255) : (searchD d w).1.length ≤ 100000 := find_len (VC.fold B hm (VC.new B hm) hw).tl
attribute [local go_sem] AV.isS Ed.cs Sta.cs Df.cs length_edRows length_stRows gEd0' gEd0 gEd1 gEdR gSt0' gSt0 gSt1 gSt2 gStR xltT xltF xleT xleF xeqT xeqF xbeT xbeF xbnT xbnF bne_self_eq_false length_bRows getBR frzBO frzBO' boRows_frz bRows_frz edRows_frz stRows_frz length_spRows spRows_frz spTake spRows_flat exSp

end Go.Proofs.Ytllemobnfpljfaa
