/-
  gimletlaw26.LiveTells.
-/
import Derived.Test.YtllemobnfpljfaaLive7
set_option linter.unusedSimpArgs false
set_option linter.unusedVariables false
namespace Go.Proofs.Ytllemobnfpljfaa
open Go Go.Hs
theorem trim1_ok (d : Df) (B : Bd d) (hm : mB d = true) {T : List (List Bool)} (hT : Live d T) : Contract Try.prog 62 [.agg d.cs] (.tup [.ag (trimD d T).cs, .c (.im (.int .i64 0))]) :=
  hmono (Trim_ok d B) (by
    rintro r H (⟨h, _⟩ | ⟨_, T', hL, h⟩)
    · rw [hm] at h; cases h
    · rw [hL.unique hT] at h; exact h)
attribute [local go_sem] AV.isS Ed.cs Sta.cs Df.cs length_edRows length_stRows gEd0' gEd0 gEd1 gEdR gSt0' gSt0 gSt1 gSt2 gStR xltT xltF xleT xleF xeqT xeqF xbeT xbeF xbnT xbnF bne_self_eq_false length_bRows getBR frzBO frzBO' boRows_frz bRows_frz edRows_frz stRows_frz

end Go.Proofs.Ytllemobnfpljfaa
