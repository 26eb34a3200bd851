/-
  place.Join.
-/
import Derived.Test.YtllemobnfpljfaaJoinX
set_option linter.unusedSimpArgs false
namespace Go.Proofs.Ytllemobnfpljfaa
open Go Go.Hs

theorem Join_ok (l : List Tm) (a b : Int) (hl : l.length ≤ 1000) : Contract Try.prog 95 [.c (.sl 8 (tRows l)), .c (.im (.int .i64 a)), .c (.im (.int .i64 b))] (.c (.im (.int .i64 (joinF2 l a b)))) := by
  refine ⟨⟨Try.f95, Try.func95, by first | rfl | decide, by first | rfl | kernel_rfl⟩, ?_⟩
  intro w p vs ow hp ha hO
  cases ha with
  | cons h0 ha =>
    cases ha with
    | cons h1 ha =>
      cases ha with
      | cons h2 ha =>
        cases ha
        have e1 := RdS_im h1
        have e2 := RdS_im h2
        subst e1 e2
        refine (Join_w l a b hl w p _ h0 hp).mono ?_
        rintro e w' ⟨rfl, hb⟩
        have hno : ∀ (ow : Nat → List Nat) x, ¬ InH [] ow x := by rintro ow x ⟨d, v, h, _⟩; cases h
        refine ⟨_, p, _, [], fun _ => [], [], rfl, rfl, rfl, (Chg.of_below hb).mono fun _ h => h.elim, fun _ h => h, fun x hx => ⟨Nat.lt_of_lt_of_le (hp x hx) hb.size, .inl hx⟩, RdO.per (.im _ rfl) .nil, ⟨by simp, by simp, by simp, by simp⟩, .nil, by simp, fun x hx => (hno _ x hx).elim⟩

end Go.Proofs.Ytllemobnfpljfaa
