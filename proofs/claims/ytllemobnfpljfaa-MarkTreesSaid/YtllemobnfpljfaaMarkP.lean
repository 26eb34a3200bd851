/-
  PLAIN: what becomes of groups by steps; of a parse tree's frames, what its groups span.
-/
import Derived.Test.YtllemobnfpljfaaSpanP
import Derived.Test.YtllemobnfpljfaaPtP
import Derived.Test.YtllemobnfpljfaaOfP
set_option linter.unusedSimpArgs false
set_option linter.unusedVariables false
namespace Go.Proofs.Ytllemobnfpljfaa
open Go Go.Hs

theorem tAt_mem {l : List Tm} {i : Nat} (h : i < l.length) : tAt l i ∈ l := by
  rw [tAt, List.getD_eq_getElem?_getD, List.getElem?_eq_getElem h]; exact List.getElem_mem _
/-! A group is not in another one of its number. -/
theorem lowsG_at {l : List Tm} : ∀ {n : Nat} {o : List Int}, lowsG l n = some o → ∀ i, i < n → o.getD i 0 = lowF (tAt l i) (o.take i) i
  | 0, o, _, i, hi => by omega
  | n + 1, o, h, i, hi => by
    simp only [lowsG] at h
    split at h
    · cases h
    · rename_i o1 h1
      split at h
      · cases h
      · simp only [Option.some.injEq] at h
        subst h
        have hl := lowsG_length h1
        by_cases hin : i = n
        · subst hin
          rw [getD_snoc_eq hl.symm, List.take_append_of_le_length (by omega), List.take_of_length_le (by omega)]
        · rw [getD_snoc_lt (by omega), List.take_append_of_le_length (by omega)]
          exact lowsG_at h1 i (by omega)
theorem lowsF_some {l : List Tm} (h : rightF l = true) : lowsG l l.length = some (lowsF l) := by
  unfold rightF at h
  have h' : lowsF l ≠ [] := by intro e; rw [e] at h; cases h
  unfold lowsF at h' ⊢
  split at h'
  · exact absurd rfl h'
  · rename_i h1
    rw [if_neg h1]
    split at h'
    · exact absurd rfl h'
    · rename_i o ho
      split at h'
      · exact absurd rfl h'
      · rename_i h2
        rw [if_neg h2]
        exact ho
def InS (l : List Tm) (q i : Nat) : Prop := (lowsF l).getD q 0 ≤ (i : Int) ∧ i ≤ q
theorem group_once {l : List Tm} (hr : rightF l = true) {q : Nat} (hq : q < l.length) (hk : (tAt l q).k = 7) {i : Nat} (hi : InS l q i) (hne : i < q) (hk2 : (tAt l i).k = 7) : (tAt l i).n ≠ (tAt l q).n := by
  have ho := lowsF_some hr
  have ht := term_of_right hr
  have hl := ht.len
  have h0 := ht.low q
  have h3 := (lowsG_nodes ho q hq).2.2 ((lowsF l).take q) (by rw [List.length_take]; omega) rfl
  rw [← lowsG_at ho q hq] at h3
  intro hn
  have hx : tAt (ex l ((lowsF l).getD q 0).toNat q) (i - ((lowsF l).getD q 0).toNat) = tAt l i := by
    rw [tAt_ex (by rw [length_ex]; have := hi.1; omega)]
    congr 1
    have := hi.1; omega
  have hm : tAt l i ∈ ex l ((lowsF l).getD q 0).toNat q := by
    rw [← hx]
    have hlt : i - ((lowsF l).getD q 0).toNat < (ex l ((lowsF l).getD q 0).toNat q).length := by rw [length_ex]; have := hi.1; omega
    exact tAt_mem hlt
  have : againF (tAt l q) (ex l ((lowsF l).getD q 0).toNat q) = true := by
    rw [againF, List.any_eq_true]
    exact ⟨_, hm, by simp [againB, hk, hk2, hn]⟩
  rw [this] at h3
  cases h3
theorem ins_self {l : List Tm} (hr : rightF l = true) {q : Nat} : InS l q q := ⟨((term_of_right hr).low q).2, Nat.le_refl _⟩
theorem ins_part {l : List Tm} (hr : rightF l = true) {q a : Nat} (hq : q < l.length) (ha : (tAt l q).a = a ∨ (tAt l q).b = a) {i : Nat} (hi : InS l a i) : InS l q i ∧ i < q := by
  unfold InS at hi ⊢
  have lo := (term_of_right hr).low
  rcases (term_of_right hr).node q hq with ⟨g1, g2, g3, g4⟩ | ⟨g1, c, d, g2, g3, g4, g5, g6⟩ | ⟨g1, d, g2, g3, g4, g5⟩
  · omega
  · rcases ha with h | h
    · have e : a = c := by omega
      subst e
      have := lo d
      omega
    · have e : a = d := by omega
      subst e
      have := lo c
      omega
  · have e : a = d := by omega
    subst e
    omega
/-- Group g lies in node q. -/
def GIn (l : List Tm) (q : Nat) (g : Int) : Prop := ∃ i, InS l q i ∧ (tAt l i).k = 7 ∧ (tAt l i).n = g
theorem gin_of_groups {l : List Tm} (hr : rightF l = true) {q : Nat} (hq : q < l.length) {g : Int} (h : g ∈ groupsF l q) : GIn l q g := by
  have ht := term_of_right hr
  have hl := ht.len
  have h0 := ht.low q
  rw [groupsF, if_pos (by omega)] at h
  unfold groupsN at h
  obtain ⟨n, hn, rfl⟩ := List.mem_map.1 h
  obtain ⟨h1, h2⟩ := List.mem_filter.1 hn
  obtain ⟨x, hx, h3⟩ := List.any_eq_true.1 h2
  simp only [hasG, Bool.and_eq_true, beq_iff_eq] at h3
  obtain ⟨k, hk, e⟩ := List.mem_iff_getElem.1 hx
  have et : tAt (nodesF l q) k = x := by simp [tAt, hk, e]
  have hk' : k < (ex l ((lowsF l).getD (q : Int).toNat 0).toNat ((q : Int) + 1).toNat).length := hk
  rw [nodesF, tAt_ex hk'] at et
  rw [length_ex] at hk'
  simp only [Int.toNat_natCast] at et hk'
  refine ⟨((lowsF l).getD q 0).toNat + k, ⟨by omega, by omega⟩, ?_, ?_⟩
  · rw [et]; exact h3.1
  · rw [et]; exact h3.2

/-! One group at a time. -/
def evG (l : List Tm) (g : Int) (x : Int × Int) (p : Int × Int) : Int × Int :=
  if (tAt l (p.2 / 2).toNat).k = 7 ∧ (tAt l (p.2 / 2).toNat).n = g then (if p.2 % 2 = 0 then (p.1, x.2) else (x.1, p.1))
  else if (tAt l (p.2 / 2).toNat).k = 8 ∧ p.2 % 2 = 0 ∧ g ∈ groupsF l (p.2 / 2) then (-1, -1) else x
def spG (l : List Tm) (g : Int) (x : Int × Int) (e : En) : Int × Int :=
  if (tAt l e.n.toNat).k = 7 ∧ (tAt l e.n.toNat).n = g then (e.f, e.t)
  else if (tAt l e.n.toNat).k = 8 ∧ g ∈ groupsF l e.n then (-1, -1) else x
theorem ev_open {l : List Tm} {g : Int} {x : Int × Int} {q : Nat} {i : Int} : evG l g x (i, 2 * (q : Int)) = if (tAt l q).k = 7 ∧ (tAt l q).n = g then (i, x.2) else if (tAt l q).k = 8 ∧ g ∈ groupsF l q then (-1, -1) else x := by
  unfold evG
  have e1 : (2 * (q : Int)) / 2 = q := by omega
  have e2 : (2 * (q : Int)) % 2 = 0 := by omega
  simp only [e1, e2, Int.toNat_natCast, true_and, if_true]
theorem ev_shut {l : List Tm} {g : Int} {x : Int × Int} {q : Nat} {i : Int} : evG l g x (i, 2 * (q : Int) + 1) = if (tAt l q).k = 7 ∧ (tAt l q).n = g then (x.1, i) else x := by
  unfold evG
  have e1 : (2 * (q : Int) + 1) / 2 = q := by omega
  have e2 : (2 * (q : Int) + 1) % 2 = 1 := by omega
  simp only [e1, e2, Int.toNat_natCast]
  split
  · rw [if_neg (by omega)]
  · rw [if_neg (by omega)]
theorem sp_at {l : List Tm} {g : Int} {x : Int × Int} {q : Nat} {d i j : Int} : spG l g x ⟨d, q, i, j⟩ = if (tAt l q).k = 7 ∧ (tAt l q).n = g then (i, j) else if (tAt l q).k = 8 ∧ g ∈ groupsF l q then (-1, -1) else x := by
  unfold spG
  simp only [Int.toNat_natCast]

/-- **What opens and closes in a parse tree does to each group what its entries do**; a group that lies in none of its nodes stays. -/
theorem pt_marks {l : List Tm} {w : List Int} (hr : rightF l = true) {r : Bool} {q : Nat} {d i j : Int} {s : List En} (h : PT l w r q d i j s) :
    ∃ S, Kids l.length (d - 1) i j s S ∧ (∀ g x, S.foldl (evG l g) x = s.foldl (spG l g) x) ∧ ∀ g, ¬ GIn l q g → ∀ x, S.foldl (evG l g) x = x := by
  have flat : ∀ {q : Nat} {d i j : Int}, q < l.length → i ≤ j → ((tAt l q).k ≠ 7 ∧ (tAt l q).k ≠ 8) → ∃ S, Kids l.length (d - 1) i j [(⟨d, q, i, j⟩ : En)] S ∧ (∀ g x, S.foldl (evG l g) x = [(⟨d, q, i, j⟩ : En)].foldl (spG l g) x) ∧ ∀ g, ¬ GIn l q g → ∀ x, S.foldl (evG l g) x = x := by
    intro q d i j hq hij hk
    have k := Kids.cons (n := l.length) (d := d - 1) (a := i) (b := j) (x := ⟨d, q, i, j⟩) (s1 := []) (s2 := []) (S1 := []) (S2 := []) (by simp) (by constructor <;> simp <;> omega) (Int.le_refl _) hij (.nil hij) (.nil (Int.le_refl _))
    refine ⟨_, k, ?_, ?_⟩
    · intro g x
      simp only [List.nil_append, List.foldl_cons, List.foldl_nil]
      simp only [ev_open, ev_shut, sp_at, hk.1, hk.2, false_and, if_false]
    · intro g _ x
      simp only [List.nil_append, List.foldl_cons, List.foldl_nil]
      simp only [ev_open, ev_shut, hk.1, hk.2, false_and, if_false]
  -- a node with parts in it
  have inner : ∀ {q : Nat} {d i j : Int} {s : List En} {S : List (Int × Int)}, q < l.length → i ≤ j → Kids l.length d i j s S → (∀ g x, S.foldl (evG l g) x = s.foldl (spG l g) x) → (∀ g, ¬ GIn l q g → ∀ x, S.foldl (evG l g) x = x) → ((tAt l q).k = 7 → ∀ x, S.foldl (evG l (tAt l q).n) x = x) →
      ∃ S', Kids l.length (d - 1) i j (⟨d, q, i, j⟩ :: s) S' ∧ (∀ g x, S'.foldl (evG l g) x = (⟨d, q, i, j⟩ :: s : List En).foldl (spG l g) x) ∧ ∀ g, ¬ GIn l q g → ∀ x, S'.foldl (evG l g) x = x := by
    intro q d i j s S hq hij hK h1 h2 h3
    have k := Kids.cons (n := l.length) (d := d - 1) (a := i) (b := j) (x := ⟨d, q, i, j⟩) (s1 := s) (s2 := []) (S1 := S) (S2 := []) (by simp) (by constructor <;> simp <;> omega) (Int.le_refl _) hij (by rw [show d - 1 + 1 = d by omega]; exact hK) (.nil (Int.le_refl _))
    rw [List.append_nil] at k
    refine ⟨_, k, ?_, ?_⟩
    · intro g x
      rw [List.foldl_cons, List.foldl_append, List.foldl_cons, List.foldl_nil, List.foldl_cons, ev_open, ev_shut, sp_at]
      by_cases c : (tAt l q).k = 7 ∧ (tAt l q).n = g
      · rw [if_pos c, if_pos c, if_pos c]
        have := h3 c.1
        rw [c.2] at this
        rw [this, ← h1, this]
      · rw [if_neg c, if_neg c, if_neg c]
        rw [h1]
    · intro g hg x
      have c : ¬ ((tAt l q).k = 7 ∧ (tAt l q).n = g) := fun h => hg ⟨q, ins_self hr, h.1, h.2⟩
      have c2 : ¬ ((tAt l q).k = 8 ∧ g ∈ groupsF l q) := fun h => hg (gin_of_groups hr hq h.2)
      rw [List.foldl_cons, List.foldl_append, List.foldl_cons, List.foldl_nil, ev_open, ev_shut, if_neg c, if_neg c, if_neg c2, h2 g hg]
  have up : ∀ {q a : Nat}, q < l.length → ((tAt l q).a = a ∨ (tAt l q).b = a) → ∀ g, ¬ GIn l q g → ¬ GIn l a g := fun hq ha g hg ⟨i, h1, h2, h3⟩ => hg ⟨i, (ins_part hr hq ha h1).1, h2, h3⟩
  have once : ∀ {q a : Nat}, q < l.length → ((tAt l q).a = a ∨ (tAt l q).b = a) → (tAt l q).k = 7 → ¬ GIn l a (tAt l q).n := fun hq ha hk ⟨i, h1, h2, h3⟩ => group_once hr hq hk (ins_part hr hq ha h1).1 (ins_part hr hq ha h1).2 h2 h3
  induction h with
  | eps hk hq h0 => exact flat hq (Int.le_refl _) (by omega)
  | leaf hk hq h0 hb => exact flat hq (by omega) (by omega)
  | may hk hq h0 => exact flat hq (Int.le_refl _) (by omega)
  | @cat q a b d i m j s1 s2 hk hq ha hb h1 h2 i1 i2 =>
    obtain ⟨S1, a1, a2, a3⟩ := i1
    obtain ⟨S2, b1, b2, b3⟩ := i2
    have l1 := h1.le
    have l2 := h2.le
    rw [show d + 1 - 1 = d by omega] at a1 b1
    refine inner hq (by omega) (a1.app b1) ?_ ?_ (fun h => by omega)
    · intro g x; rw [List.foldl_append, List.foldl_append, a2, b2]
    · intro g hg x; rw [List.foldl_append, a3 g (up hq (.inl ha) g hg), b3 g (up hq (.inr hb) g hg)]
  | @alt q a d i j s hk hq ha h1 i1 =>
    obtain ⟨S1, a1, a2, a3⟩ := i1
    have l1 := h1.le
    rw [show d + 1 - 1 = d by omega] at a1
    exact inner hq (by omega) a1 a2 (fun g hg x => a3 g (up hq ha g hg) x) (fun h => by omega)
  | @star q a d i j s hk hq ha h1 i1 =>
    obtain ⟨S1, a1, a2, a3⟩ := i1
    have l1 := h1.le
    rw [show d + 1 - 1 = d by omega] at a1
    exact inner hq (by omega) a1 a2 (fun g hg x => a3 g (up hq (.inl ha) g hg) x) (fun h => by omega)
  | @one q a d i j s hk hq ha h1 i1 =>
    obtain ⟨S1, a1, a2, a3⟩ := i1
    have l1 := h1.le
    rw [show d + 1 - 1 = d by omega] at a1
    exact inner hq (by omega) a1 a2 (fun g hg x => a3 g (up hq (.inl ha) g hg) x) (fun h x => a3 _ (once hq (.inl ha) h) x)
  | rnil h0 => exact ⟨[], .nil (Int.le_refl _), fun _ _ => rfl, fun _ _ _ => rfl⟩
  | @rcons q d i m j s1 s2 h1 hm h2 i1 i2 =>
    obtain ⟨S1, a1, a2, a3⟩ := i1
    obtain ⟨S2, b1, b2, b3⟩ := i2
    refine ⟨S1 ++ S2, a1.app b1, ?_, ?_⟩
    · intro g x; rw [List.foldl_append, List.foldl_append, a2, b2]
    · intro g hg x; rw [List.foldl_append, a3 g hg, b3 g hg]

end Go.Proofs.Ytllemobnfpljfaa
