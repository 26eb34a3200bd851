/-
  PLAIN: rows that are nil or owned, read from now on as rows.
-/
import Derived.Test.YtfldmpmaifjcbaaFrP
set_option linter.unusedSimpArgs false
set_option linter.unusedVariables false
namespace Go.Proofs.Ytfldmpmaifjcbaa
open Go Go.Hs

def roFC : RO → AC
  | none => .nil
  | some x => .sl 1 (kRows .i64 x.2)
def roF (R : List RO) : List (List AC) := R.map fun o => [roFC o]
theorem frz_kR {k : IntKind} {l : List Int} : frzLL (kRows k l) = kRows k l := by
  rw [frzLL_eq]
  simp only [kRows, List.map_map]
  rfl
theorem frz_roR {R : List RO} : frzLL (roR R) = roF R := by
  rw [frzLL_eq]
  simp only [roR, roF, List.map_map]
  refine List.map_congr_left fun o _ => ?_
  show frzL [roC o] = [roFC o]
  rw [frzL_eq]
  cases o with
  | none => rfl
  | some x => simp only [roC, roFC, List.map_cons, List.map_nil, AC.frz, frz_kR]
theorem frz_roR' {R : List RO} : AC.frz.frzLL (roR R) = roF R := frz_roR
theorem rd_roC {w : World} {p : Nat → Prop} {v : Value} {o : RO} (h : RdC w p v (roFC o)) : RdC w p v (.sl 1 (kRows .i64 (roV o))) := by
  cases o with
  | none =>
    have h' : RdC w p v .nil := h
    cases h'
    exact .nilS _ _
  | some x => exact h
theorem rd_roF {w : World} {p : Nat → Prop} {v : Value} {R : List RO} (hr : RdC w p v (.sl 1 (roF R))) : RdC w p v (.sl 1 (rRows (rV R))) := by
  have hl : (rRows (rV R)).length = (roF R).length := by simp [rRows, roF, rV]
  have hrow : ∀ (i : Nat) e, (rRows (rV R))[i]? = some e → ∃ o : RO, e = [.sl 1 (kRows .i64 (roV o))] ∧ (roF R)[i]? = some [roFC o] := by
    intro i e he
    simp only [rRows, roF, rV, List.getElem?_map] at he ⊢
    cases hx : R[i]? with
    | none => rw [hx] at he; cases he
    | some x => rw [hx] at he; simp at he; exact ⟨x, he.symm, rfl⟩
  generalize roF R = es at hr hl hrow
  generalize rRows (rV R) = es' at hl hrow ⊢
  cases hr with
  | nilS sz cap =>
    have : es' = [] := List.eq_nil_of_length_eq_zero hl
    subst this
    exact .nilS _ _
  | sl a n cap _ _ us hn hcap hsz hp hc hr =>
    refine .sl a n cap 1 es' us (by rw [hl]; exact hn) hcap (fun e he => ?_) (fun hne => hp ?_) (fun i e j hi hj => ?_) (fun i e j c hi hj => ?_)
    · obtain ⟨i, hi⟩ := List.mem_iff_getElem?.1 he
      obtain ⟨x, rfl, _⟩ := hrow i e hi
      rfl
    · intro h0; apply hne; rw [h0] at hl; exact List.eq_nil_of_length_eq_zero hl
    · obtain ⟨x, rfl, hx⟩ := hrow i e hi
      exact hc i _ j hx hj
    · obtain ⟨x, rfl, hx⟩ := hrow i e hi
      match j, hj with
      | 0, hj => simp at hj; subst hj; exact rd_roC (o := x) (hr i _ 0 _ hx rfl)
      | j + 1, hj => simp at hj
theorem rows_done {P : Program} {f : FuncId} {args : List AV} {o : List (List Int)} (h : ContractR P f args (fun r => (∃ R, r = .c (.sl 1 (roF R)) ∧ rV R = o) ∨ (o = [] ∧ ∃ e, r = .c (.own none e 1 [])))) : Contract P f args (.c (.sl 1 (rRows o))) := by
  refine ⟨h.callable, fun w p vs ow hp ha hO => (h.calls w p vs ow hp ha hO).mono ?_⟩
  rintro e w' ⟨v, p', r, H', ow', O, ⟨R, rfl, rfl⟩ | ⟨rfl, e2, rfl⟩, hk, he, hch, hpp, hp', hrd, rest⟩
  · refine ⟨v, p', _, H', ow', O, rfl, hk, he, hch, hpp, hp', ?_, rest⟩
    have hrd' : RdO w' p' [v] [.sl 1 (roF R)] O := hrd
    obtain ⟨hc, rfl⟩ := hrd'.one rfl
    show RdO w' p' [v] [.sl 1 (rRows (rV R))] []
    exact .per (rd_roF hc) .nil
  · refine ⟨v, p', _, H', ow', O, rfl, hk, he, hch, hpp, hp', ?_, rest⟩
    have hrd' : RdO w' p' [v] [.own none e2 1 []] O := hrd
    show RdO w' p' [v] [.sl 1 []] O
    generalize hvs : [v] = vs at hrd'
    cases hrd' with
    | per h t => cases h
    | own ho hs h t =>
      simp only [List.cons.injEq] at hvs
      obtain ⟨rfl, rfl⟩ := hvs
      cases h
      cases t
      exact .per (.nilS _ _) .nil

/-- What is handed back as owned may be handed back as only read. -/
theorem pubOwn {P : Program} {f : FuncId} {args : List AV} {R R' : AV → Prop} (h : ContractR P f args R) (hm : ∀ r, R r → ∃ b e sz es, r = .c (.own b e sz es) ∧ R' (.c (.sl sz (frzLL es)))) : ContractR P f args R' := by
  refine ⟨h.callable, fun w p vs ow hp ha hO => (h.calls w p vs ow hp ha hO).mono ?_⟩
  rintro e w' ⟨v, p', r, H', ow', O, hr, hk, he, hch, hpp, hp', hrd, hO', hnd, hfr, hin⟩
  obtain ⟨b, e2, sz, es, rfl, hR'⟩ := hm r hr
  have hH : H' = [] := by
    cases H' with
    | nil => rfl
    | cons x y => simp [Env.keys] at hk
  subst hH
  have hrd' : RdO w' p' [v] [.own b e2 sz es] O := hrd
  have hfz := hrd'.frz (p' := fun b => p' b ∨ b ∈ O) (fun _ h => .inl h) (fun _ h => .inr h)
  have hc : RdC w' (fun b => p' b ∨ b ∈ O) v (.sl sz (frzLL es)) := by
    obtain ⟨u, hu, hr⟩ := hfz.get 0 (.sl sz (frzLL es)) rfl
    simp only [List.getElem?_cons_zero, Option.some.injEq] at hu
    rw [hu]; exact hr
  refine ⟨v, _, _, [], ow', [], hR', rfl, he, hch, fun b hb => .inl (hpp b hb), ?_, .per hc .nil, ?_, .nil, by simp, hin⟩
  · rintro b (hb | hb)
    · exact hp' b hb
    · have := hfr b hb
      exact ⟨this.1, this.2.2.1.elim (fun h => .inr (.inl h)) (fun h => .inr (.inr h))⟩
  · refine ⟨?_, ?_, ?_, ?_⟩
    · intro d v hm; cases hm
    · intro d d' v v' b h; cases h
    · intro d v h; cases h
    · intro d v h; cases h

end Go.Proofs.Ytfldmpmaifjcbaa
