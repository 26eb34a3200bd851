/-
  gimletlaw20: MarkTrees.
-/
import Derived.Test.YtllemobnfpljfaaLaw20
import Derived.Test.YtllemobnfpljfaaTree9
import Derived.Test.YtllemobnfpljfaaArgs
set_option linter.unusedSimpArgs false
set_option linter.unusedVariables false
namespace Go.Proofs.Ytllemobnfpljfaa
open Go Go.Hs
theorem spRows_flat : ∀ {l : List Sp}, AC.flat.flatLL (spRows l) = true
  | [] => rfl
  | x :: l => by
    have := spRows_flat (l := l)
    simp only [spRows, List.map_cons, Sp.cs, AC.flat.flatLL, AC.flat.flatL, AC.flat, Bool.true_and] at this ⊢
    exact this
theorem mk_in {l : List Tm} {st : List Int} (hr : rightF l = true) : ∀ x ∈ marksF l st, in64 x.2 := by
  have tl := top_le (l := l)
  intro x hx
  rw [marksF, if_pos hr] at hx
  obtain ⟨s, _, hs⟩ := List.mem_flatMap.1 hx
  unfold mkOf at hs
  split at hs
  · cases hs
  · split at hs
    · rename_i h1 h7
      have := grp_in hr (q := (s / 2).toNat) (by omega) h7
      simp only [List.mem_singleton] at hs
      subst hs
      unfold in64; simp only; omega
    · split at hs
      · obtain ⟨g, hg, rfl⟩ := List.mem_map.1 hs
        have := gs_in hr g hg
        unfold in64; simp only; omega
      · cases hs
attribute [local go_sem] AV.isS length_tRows tRows_ex tRows_frz wrap_in Sp.cs En.cs length_kRows dltT dltF dleT dleF eqT eqF beT beF bneT bneF length_spRows spRows_frz spTake spRows_per exSp takeRep exRep List.length_replicate length_enRows length_rRows getRowT spRows_flat true_and

end Go.Proofs.Ytllemobnfpljfaa
