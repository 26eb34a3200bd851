/-
  THE HEAP SEMANTICS, part 18: more rules: what a function does with rows that are handed over, told for a nil slice in their place.
-/
import Derived.Test.YtfldmpmaifjcbaaHs17
namespace Go.Hs
open Go Go.RowKit

section
variable {P : Program} {w : World} {p : Nat → Prop}

theorem rdAs_nilRef {g sz : Nat} {bs : List AV} : ∀ {as : List AV} {vs : List Value}, RdAs w p vs (as ++ .c .nil :: bs) → RdAs w p vs (as ++ .c (.ref g [] none sz 0 0) :: bs)
  | [], _, h => by
    cases h with
    | cons h t =>
      refine .cons ?_ t
      have h' : RdC w p _ .nil := h
      cases h'
      exact RdC.refN g [] sz
  | a :: as, _, h => by
    cases h with
    | cons h t => exact .cons h (rdAs_nilRef t)

theorem rdAs_nilSl {sz : Nat} {bs : List AV} : ∀ {as : List AV} {vs : List Value}, RdAs w p vs (as ++ .c .nil :: bs) → RdAs w p vs (as ++ .c (.sl sz []) :: bs)
  | [], _, h => by
    cases h with
    | cons h t =>
      refine .cons ?_ t
      have h' : RdC w p _ .nil := h
      cases h'
      exact RdC.nilS sz 0
  | a :: as, _, h => by
    cases h with
    | cons h t => exact .cons h (rdAs_nilSl t)

/-- A nil slice is a slice of no rows. -/
theorem ContractH.nilArg {f : FuncId} (as : List AV) {bs : List AV} {sz : Nat} {H : Env} {R : AV → Env → Prop} (h : ContractH P f (as ++ .c (.sl sz []) :: bs) H R) : ContractH P f (as ++ .c .nil :: bs) H R :=
  ⟨h.callable, fun w p vs ow hp ha hO => h.calls w p vs ow hp (rdAs_nilSl ha) hO⟩

/-- **FROM NIL ON**: a function that puts something behind rows that are handed over makes rows of its own out of nil. -/
theorem ContractH.ofNil {f : FuncId} {as bs : List AV} {g e sz : Nat} {R : List (List AC) → Prop}
    (h : ContractH P f (as ++ .c (.ref g [] none sz 0 0) :: bs) [(g, .row none e sz [])] (fun r H => ∃ b es, r = .c (.ref g [] b sz 0 es.length) ∧ H = [(g, .row b e sz es)] ∧ R es)) :
    ContractR P f (as ++ .c .nil :: bs) (fun r => ∃ b es, r = .c (.own b e sz es) ∧ R es) := by
  refine ⟨h.callable, ?_⟩
  intro w p vs ow hp ha _
  have hO : Owns [(g, AV.row none e sz [])] w p (fun _ => []) := by
    refine ⟨?_, ?_, ?_, ?_⟩
    · intro d v hm
      simp at hm
      obtain ⟨rfl, rfl⟩ := hm
      exact ⟨rfl, fun u => ⟨[], [], ⟨by simp, rfl⟩, by simp, .nil, rfl⟩⟩
    · intro d d' v v' b _ _ _ hb; cases hb
    · intro d v _; exact .nil
    · intro d v _ b hb; cases hb
  refine (h.calls w p vs _ hp (rdAs_nilRef ha) hO).mono ?_
  rintro e' w' ⟨v, p', r, H', ow', O, ⟨b, es, rfl, rfl, hr⟩, _, rfl, hch, hpp, hp', hrd, hO', hnd, hfr, hin⟩
  have hin0 : ∀ b, ¬ InH [(g, AV.row none e sz [])] (fun _ => []) b := by rintro b ⟨d, v, _, hb⟩; cases hb
  have hnil : ∀ (ow : Nat → List Nat) b, ¬ InH [] ow b := by rintro ow b ⟨d, v, h, _⟩; cases h
  have hm : (g, AV.row b e sz es) ∈ [(g, AV.row b e sz es)] := List.mem_singleton.2 rfl
  have hv := (hO'.vals g _ hm).2 v
  obtain ⟨xs, O', h1, h2, h3, h4⟩ := (hv : RdOb w' p' ⟨b, e, sz, es⟩ (ow' g))
  have hrd' : RdO w' p' [v] [.ref g [] b sz 0 es.length] O := hrd
  obtain ⟨hc, rfl⟩ := hrd'.one rfl
  have hval : v = sliceV b es.length := by
    generalize hn : es.length = nn at hc
    cases hc with
    | refN => rfl
    | ref _ _ k cap _ _ _ o ho hc =>
      have := ho.2 rfl
      subst this
      rfl
  refine ⟨v, p', .c (.own b e sz es), [], fun _ => [], ow' g, ⟨b, es, rfl, hr⟩, rfl, rfl, hch.mono fun b hb => (hin0 b hb).elim, hpp, fun b hb => ?_, ?_, ⟨by simp, by simp, by simp, by simp⟩, hO'.nod g _ hm, ?_, ?_⟩
  · obtain ⟨k1, k2⟩ := hp' b hb
    refine ⟨k1, ?_⟩
    rcases k2 with k2 | k2 | k2
    · exact .inl k2
    · exact (hin0 b k2).elim
    · exact .inr (.inr k2)
  · show RdO w' p' [v] [.own b e sz es] (ow' g)
    have := RdO.own h1 h2 h3 (RdO.nil (w := w') (p := p'))
    rw [hval, h4]
    simpa using this
  · intro b' hb'
    obtain ⟨k1, k2⟩ := hO'.fresh g _ hm b' hb'
    refine ⟨k1, k2, ?_, hnil _ b'⟩
    rcases hin b' ⟨g, _, hm, hb'⟩ with k | k
    · exact (hin0 b' k).elim
    · exact .inr k
  · intro b hb; exact (hnil _ b hb).elim
theorem rdL_ints {w : World} {p : Nat → Prop} {k : IntKind} : ∀ {l : List Int} {xs : List Value}, RdL w p xs (kRows k l).flatten → xs = l.map fun n => .int k n
  | [], xs, h => by cases h; rfl
  | x :: l, xs, h => by
    have h' : RdL w p xs (.im (.int k x) :: (kRows k l).flatten) := by simpa [kRows] using h
    cases h' with
    | cons h1 t =>
      rw [rdL_ints t]
      cases h1
      rfl

end
end Go.Hs
