/-
  PLAIN: two terms, one behind the other, and a node of which they are the parts.
-/
import Derived.Test.YtgiihapbgpnkkaaTermQ
set_option linter.unusedSimpArgs false
namespace Go.Proofs.Ytgiihapbgpnkkaa
open Go Go.Hs

def shP (m x : Int) : Int := if 0 ≤ x then x + m else x
def Tm.sh (m : Nat) (t : Tm) : Tm := { t with a := shP m t.a, b := shP m t.b }
def joinF (k : Int) (a b : List Tm) : List Tm := a ++ b.map (Tm.sh a.length) ++ [⟨k, (a.length : Int) - 1, (a.length : Int) + b.length - 1, 0, 0, 0, 0, 0⟩]

theorem tAt_left {a c : List Tm} {i : Nat} (h : i < a.length) : tAt (a ++ c) i = tAt a i := by
  simp only [tAt, List.getD_eq_getElem?_getD, List.getElem?_append_left h]
theorem tAt_right {a c : List Tm} {i : Nat} : tAt (a ++ c) (a.length + i) = tAt c i := by
  simp only [tAt, List.getD_eq_getElem?_getD]
  rw [List.getElem?_append_right (by omega)]
  simp
theorem tAt_map {b : List Tm} {m i : Nat} (h : i < b.length) : tAt (b.map (Tm.sh m)) i = (tAt b i).sh m := by
  simp only [tAt, List.getD_eq_getElem?_getD, List.getElem?_map, List.getElem?_eq_getElem h, Option.map_some, Option.getD_some]

section
variable {k : Int} {a b : List Tm}

theorem join_length : (joinF k a b).length = a.length + b.length + 1 := by simp [joinF]; omega
theorem join_a {i : Nat} (h : i < a.length) : tAt (joinF k a b) i = tAt a i := by
  rw [joinF, List.append_assoc, tAt_left h]
theorem join_b {i : Nat} (h : i < b.length) : tAt (joinF k a b) (a.length + i) = (tAt b i).sh a.length := by
  rw [joinF, List.append_assoc, tAt_right, tAt_left (by simpa using h), tAt_map h]
theorem join_root : tAt (joinF k a b) (a.length + b.length) = ⟨k, (a.length : Int) - 1, (a.length : Int) + b.length - 1, 0, 0, 0, 0, 0⟩ := by
  rw [joinF]
  have : a.length + b.length = (a ++ b.map (Tm.sh a.length)).length + 0 := by simp
  rw [this, tAt_right]; rfl

/-- Whether a Group is in one of its number hangs on what the nodes are there. -/
theorem again_same {l l' : List Tm} {t t' : Tm} {v v' i i' : Nat} (hi : i ≤ l.length) (hi' : i' ≤ l'.length) (hw : v ≤ i → i - v = i' - v' ∧ v' ≤ i') (hv : i < v → i' ≤ v') (ht : ∀ j j', v ≤ j → j < i → j' = v' + (j - v) → againB t (tAt l j) = againB t' (tAt l' j')) : againF t (ex l v i) = againF t' (ex l' v' i') := by
  cases h : againF t' (ex l' v' i') with
  | true =>
    obtain ⟨j', h1, h2, h3⟩ := (againF_extract hi').1 h
    by_cases hvi : v ≤ i
    · obtain ⟨h4, h5⟩ := hw hvi
      refine (againF_extract hi).2 ⟨v + (j' - v'), by omega, by omega, ?_⟩
      rw [ht (v + (j' - v')) j' (by omega) (by omega) (by omega)]
      exact h3
    · have := hv (by omega); omega
  | false =>
    cases h' : againF t (ex l v i) with
    | false => rfl
    | true =>
      obtain ⟨j, h1, h2, h3⟩ := (againF_extract hi).1 h'
      obtain ⟨h4, h5⟩ := hw (by omega)
      have : againF t' (ex l' v' i') = true := (againF_extract hi').2 ⟨v' + (j - v), by omega, by omega, by rw [← ht j _ h1 h2 rfl]; exact h3⟩
      rw [h] at this; cases this

theorem lowsG_join_a : ∀ {i : Nat}, i ≤ a.length → lowsG (joinF k a b) i = lowsG a i
  | 0, _ => rfl
  | i + 1, hi => by
    have hjl := join_length (k := k) (a := a) (b := b)
    simp only [lowsG, lowsG_join_a (i := i) (by omega)]
    cases h : lowsG a i with
    | none => rfl
    | some o =>
      have hja : tAt (joinF k a b) i = tAt a i := join_a (by omega)
      simp only [hja]
      have e : againF (tAt a i) (ex (joinF k a b) (lowF (tAt a i) o i).toNat i) = againF (tAt a i) (ex a (lowF (tAt a i) o i).toNat i) :=
        again_same (by omega) (by omega) (fun h => ⟨rfl, h⟩) (fun h => by omega) (fun j j' h1 h2 h3 => by rw [show j' = j by omega, join_a (by omega)])
      rw [e]

theorem sh_fields {m : Nat} {t : Tm} : fieldsF (t.sh m) = fieldsF t := rfl

theorem lowF_leaf {t : Tm} {o : List Int} {i : Nat} (h1 : t.k = 1 ∨ t.k = 2) (h2 : t.a = -1) (h3 : t.b = -1) : lowF t o i = i := by
  unfold lowF; rw [if_pos h1, if_pos ⟨h2, h3⟩]
theorem lowF_bin {t : Tm} {o : List Int} {i : Nat} (h1 : t.k = 3 ∨ t.k = 4) (h2 : 0 ≤ t.b) (h3 : t.b = i - 1) (h4 : 0 ≤ t.a) (h5 : t.a = o.getD t.b.toNat 0 - 1) : lowF t o i = o.getD t.a.toNat 0 := by
  unfold lowF; rw [if_neg (by omega), if_pos h1, if_pos ⟨h2, h3, h4, h5⟩]
theorem lowF_un {t : Tm} {o : List Int} {i : Nat} (h1 : t.k = 5 ∨ t.k = 6 ∨ t.k = 7 ∨ t.k = 8) (h2 : t.b = -1) (h3 : 0 ≤ t.a) (h4 : t.a = i - 1) : lowF t o i = o.getD t.a.toNat 0 := by
  unfold lowF; rw [if_neg (by omega), if_neg (by omega), if_pos h1, if_pos ⟨h2, h3, h4⟩]
theorem lowF_cases {t : Tm} {o : List Int} {i : Nat} (h : ¬ lowF t o i < 0) : ((t.k = 1 ∨ t.k = 2) ∧ t.a = -1 ∧ t.b = -1) ∨ ((t.k = 3 ∨ t.k = 4) ∧ 0 ≤ t.b ∧ t.b = i - 1 ∧ 0 ≤ t.a ∧ t.a = o.getD t.b.toNat 0 - 1) ∨ ((t.k = 5 ∨ t.k = 6 ∨ t.k = 7 ∨ t.k = 8) ∧ t.b = -1 ∧ 0 ≤ t.a ∧ t.a = i - 1) := by
  unfold lowF at h
  split at h
  · rename_i h1
    split at h
    · rename_i h2; exact .inl ⟨h1, h2⟩
    · omega
  · split at h
    · rename_i h1
      split at h
      · rename_i h2; exact .inr (.inl ⟨h1, h2⟩)
      · omega
    · split at h
      · rename_i h1
        split at h
        · rename_i h2; exact .inr (.inr ⟨h1, h2⟩)
        · omega
      · omega

theorem lowF_sh {m i : Nat} {t : Tm} {oa o : List Int} (hm : oa.length = m) (hl : o.length = i) (ho : Low0 o) (h : ¬ lowF t o i < 0) : lowF (t.sh m) (oa ++ o.map (· + (m : Int))) (m + i) = lowF t o i + m := by
  have g : ∀ j : Nat, j < i → (oa ++ o.map (· + (m : Int))).getD (m + j) 0 = o.getD j 0 + m := by
    intro j hj
    simp only [List.getD_eq_getElem?_getD]
    rw [List.getElem?_append_right (by omega), List.getElem?_map, show m + j - oa.length = j by omega, List.getElem?_eq_getElem (by omega)]
    simp
  have sp : ∀ x : Int, 0 ≤ x → shP m x = x + m := fun x hx => if_pos hx
  have sn : ∀ x : Int, x < 0 → shP m x = x := fun x hx => if_neg (by omega)
  rcases lowF_cases h with ⟨h1, h2, h3⟩ | ⟨h1, h2, h3, h4, h5⟩ | ⟨h1, h2, h3, h4⟩
  · rw [lowF_leaf h1 h2 h3, lowF_leaf (t := t.sh m) h1 ((sn _ (by omega)).trans h2) ((sn _ (by omega)).trans h3)]
    omega
  · have hb := ho t.b.toNat
    have eb : (t.sh m).b = t.b + m := sp _ h2
    have ea : (t.sh m).a = t.a + m := sp _ h4
    have e1 : (t.b + (m : Int)).toNat = m + t.b.toNat := by omega
    have e2 : (t.a + (m : Int)).toNat = m + t.a.toNat := by omega
    rw [lowF_bin h1 h2 h3 h4 h5, lowF_bin (t := t.sh m) h1 (by omega) (by omega) (by omega) (by rw [ea, eb, e1, g _ (by omega)]; omega), ea, e2, g _ (by omega)]
  · have eb : (t.sh m).b = -1 := (sn _ (by omega)).trans h2
    have ea : (t.sh m).a = t.a + m := sp _ h3
    have e2 : (t.a + (m : Int)).toNat = m + t.a.toNat := by omega
    rw [lowF_un h1 h2 h3 h4, lowF_un (t := t.sh m) h1 eb (by omega) (by omega), ea, e2, g _ (by omega)]

theorem lowsG_some {l : List Tm} {i : Nat} {o1 : List Int} (h : lowsG l (i + 1) = some o1) : ∃ o, lowsG l i = some o ∧ ¬ lowF (tAt l i) o i < 0 ∧ fieldsF (tAt l i) = true ∧ againF (tAt l i) (ex l (lowF (tAt l i) o i).toNat i) = false ∧ o1 = o ++ [lowF (tAt l i) o i] := by
  simp only [lowsG] at h
  split at h
  · cases h
  · rename_i o ho
    split at h
    · cases h
    · rename_i hn
      simp only [Option.some.injEq] at h
      refine ⟨o, ho, by omega, ?_, ?_, h.symm⟩
      · cases hf : fieldsF (tAt l i) with
        | true => rfl
        | false => exact absurd (.inr (.inl hf)) hn
      · cases hf : againF (tAt l i) (ex l (lowF (tAt l i) o i).toNat i) with
        | false => rfl
        | true => exact absurd (.inr (.inr hf)) hn

theorem lowsG_join_b {oa : List Int} (ha : lowsG a a.length = some oa) : ∀ {i : Nat} {o : List Int}, i ≤ b.length → lowsG b i = some o → lowsG (joinF k a b) (a.length + i) = some (oa ++ o.map (· + (a.length : Int)))
  | 0, o, _, h => by
    simp [lowsG] at h; subst h
    rw [Nat.add_zero, lowsG_join_a (Nat.le_refl _), ha]; simp
  | i + 1, o1, hi, h => by
    obtain ⟨o, h1, h2, h3, h4, rfl⟩ := lowsG_some h
    have ih := lowsG_join_b ha (i := i) (by omega) h1
    have hjl := join_length (k := k) (a := a) (b := b)
    have hol := lowsG_length h1
    have hlow := lowF_sh (lowsG_length ha) hol (lowsG_low0 h1) h2
    have hle := lowF_le (t := tAt b i) (i := i) (lowsG_low0 h1)
    rw [← Nat.add_assoc]
    simp only [lowsG, ih, join_b (k := k) (a := a) (i := i) (show i < b.length by omega), hlow]
    have ea : againF ((tAt b i).sh a.length) (ex (joinF k a b) (lowF (tAt b i) o i + (a.length : Int)).toNat (a.length + i)) = false := by
      rw [← h4]
      refine again_same (by omega) (by omega) (fun h => ⟨by omega, by omega⟩) (fun h => by omega) (fun j j' g1 g2 g3 => ?_)
      have : tAt (joinF k a b) j = (tAt b j').sh a.length := by
        rw [show j = a.length + j' by omega, join_b (by omega)]
      rw [this]; rfl
    rw [if_neg]
    · simp
    · rintro (h | h | h)
      · omega
      · rw [sh_fields, h3] at h; cases h
      · rw [ea] at h; cases h

theorem leaves_join_a : ∀ {i : Nat}, i ≤ a.length → leavesF (joinF k a b) i = leavesF a i
  | 0, _ => rfl
  | i + 1, hi => by
    have hja : tAt (joinF k a b) i = tAt a i := join_a (by omega)
    simp only [leavesF, hja, leaves_join_a (i := i) (by omega)]
theorem leaves_join_b : ∀ {i : Nat}, i ≤ b.length → leavesF (joinF k a b) (a.length + i) = leavesF a a.length + leavesF b i
  | 0, _ => by rw [Nat.add_zero, leaves_join_a (Nat.le_refl _)]; rfl
  | i + 1, hi => by
    rw [← Nat.add_assoc]
    simp only [leavesF, leaves_join_b (i := i) (by omega), join_b (k := k) (a := a) (i := i) (show i < b.length by omega), Tm.sh]
    split <;> omega

theorem lows_of_right {l : List Tm} (h : rightF l = true) : lowsG l l.length = some (lowsF l) := by
  unfold rightF at h
  have h' : lowsF l ≠ [] := by intro e; rw [e] at h; cases h
  unfold lowsF at h' ⊢
  split at h'
  · exact absurd rfl h'
  · rename_i h1
    rw [if_neg h1]
    split at h'
    · exact absurd rfl h'
    · rename_i o ho
      split at h'
      · exact absurd rfl h'
      · rename_i h2
        rw [if_neg h2]; exact ho

theorem leaves_join (hk : k = 3 ∨ k = 4) : leavesF (joinF k a b) (joinF k a b).length = leavesF a a.length + leavesF b b.length := by
  rw [join_length]
  simp only [leavesF, join_root, leaves_join_b (Nat.le_refl _)]
  rw [if_neg (by omega)]

/-- Two terms are one, unless they have too many Leafs. -/
theorem join_right (hk : k = 3 ∨ k = 4) (ha : rightF a = true) (hb : rightF b = true) (h400 : a.length + b.length + 1 ≤ 400) : rightF (joinF k a b) = decide (leavesF a a.length + leavesF b b.length ≤ 64) := by
  have hjl := join_length (k := k) (a := a) (b := b)
  have hta := term_of_right ha
  have htb := term_of_right hb
  have hla := lows_of_right ha
  have hlb := lows_of_right hb
  have hj := lowsG_join_b (k := k) hla (Nat.le_refl _) hlb
  have hpa := hta.pos
  have hpb := htb.pos
  have hroot : lowF (tAt (joinF k a b) (a.length + b.length)) (lowsF a ++ (lowsF b).map (· + (a.length : Int))) (a.length + b.length) = 0 := by
    rw [join_root]
    have g1 : (lowsF a ++ (lowsF b).map (· + (a.length : Int))).getD ((a.length : Int) + b.length - 1).toNat 0 = a.length := by
      have e : ((a.length : Int) + b.length - 1).toNat = a.length + (b.length - 1) := by omega
      rw [e, List.getD_eq_getElem?_getD, List.getElem?_append_right (by rw [hta.len]; omega), List.getElem?_map, hta.len, show a.length + (b.length - 1) - a.length = b.length - 1 by omega]
      have := htb.root
      rw [List.getD_eq_getElem?_getD, List.getElem?_eq_getElem (by rw [htb.len]; omega)] at this
      rw [List.getElem?_eq_getElem (by rw [htb.len]; omega)]
      simp only [Option.getD_some] at this
      simp [this]
    have g2 : (lowsF a ++ (lowsF b).map (· + (a.length : Int))).getD ((a.length : Int) - 1).toNat 0 = 0 := by
      have e : ((a.length : Int) - 1).toNat = a.length - 1 := by omega
      rw [e, List.getD_eq_getElem?_getD, List.getElem?_append_left (by rw [hta.len]; omega), ← List.getD_eq_getElem?_getD, hta.root]
    rw [lowF_bin hk]
    · exact g2
    all_goals simp only
    · omega
    · omega
    · omega
    · rw [g1]
  have hagain : ∀ v i, againF (tAt (joinF k a b) (a.length + b.length)) (ex (joinF k a b) v i) = false := by
    intro v i
    rw [join_root]
    unfold againF
    rw [List.any_eq_false]
    intro y _
    simp [againB]
    omega
  have hall : lowsG (joinF k a b) (joinF k a b).length = some (lowsF a ++ (lowsF b).map (· + (a.length : Int)) ++ [0]) := by
    rw [hjl]
    simp only [lowsG, hj, hroot, hagain]
    rw [if_neg]
    rintro (h | h | h)
    · omega
    · rw [join_root] at h; simp [fieldsF, Tm.noSet] at h; omega
    · cases h
  unfold rightF lowsF
  rw [if_neg (by omega), hall]
  simp only
  have hlast : (lowsF a ++ (lowsF b).map (· + (a.length : Int)) ++ [0]).getD ((joinF k a b).length - 1) 0 = 0 :=
    getD_snoc_eq (by rw [hjl]; simp [hta.len, htb.len])
  rw [hlast, leaves_join hk]
  by_cases h64 : leavesF a a.length + leavesF b b.length ≤ 64
  · rw [if_neg (by omega), decide_eq_true h64]; simp
  · rw [if_pos (by omega), decide_eq_false h64]; rfl

/-! How deep the nodes lie in it. -/
theorem par_join_a {j p : Nat} (hp : p < a.length) (h : IsPar a j p) : IsPar (joinF k a b) j p := by
  unfold IsPar; rw [join_a hp]; exact h
theorem par_join_b {j p : Nat} (hp : p < b.length) (h : IsPar b j p) : IsPar (joinF k a b) (a.length + j) (a.length + p) := by
  unfold IsPar at h ⊢
  rw [join_b hp]
  simp only [Tm.sh, shP]
  rcases h with h | h
  · left; rw [h, if_pos (by omega)]; omega
  · right; rw [h, if_pos (by omega)]; omega

theorem deep_join_a (hr : rightF (joinF k a b) = true) (ha : rightF a = true) : ∀ (m j : Nat), a.length - 1 - j ≤ m → j < a.length → (deepF (joinF k a b)).getD j 0 = (deepF a).getD j 0 + 1 := by
  have hjl := join_length (k := k) (a := a) (b := b)
  have hta := term_of_right ha
  intro m
  induction m with
  | zero =>
    intro j hj hja
    have e : j = a.length - 1 := by omega
    subst e
    have h1 := deep_part (j := a.length - 1) (p := a.length + b.length) hr (by omega) (by unfold IsPar; rw [join_root]; left; simp only; omega)
    have h2 := deep_root hr
    have h3 := deep_root ha
    rw [h1.2, h3.2, show a.length + b.length = (joinF k a b).length - 1 by omega, h2.2]
  | succ m ih =>
    intro j hj hja
    by_cases e : j = a.length - 1
    · exact ih j (by omega) hja
    · obtain ⟨p, p1, p2, p3⟩ := hta.par (j := j) (by omega)
      rw [(deep_part ha p2 p3).2, (deep_part hr (by omega) (par_join_a p2 p3)).2, ih p (by omega) p2]

theorem deep_join_b (hr : rightF (joinF k a b) = true) (hb : rightF b = true) : ∀ (m j : Nat), b.length - 1 - j ≤ m → j < b.length → (deepF (joinF k a b)).getD (a.length + j) 0 = (deepF b).getD j 0 + 1 := by
  have hjl := join_length (k := k) (a := a) (b := b)
  have htb := term_of_right hb
  intro m
  induction m with
  | zero =>
    intro j hj hjb
    have e : j = b.length - 1 := by omega
    subst e
    have h1 := deep_part (j := a.length + (b.length - 1)) (p := a.length + b.length) hr (by omega) (by unfold IsPar; rw [join_root]; right; simp only; omega)
    have h2 := deep_root hr
    have h3 := deep_root hb
    rw [h1.2, h3.2, show a.length + b.length = (joinF k a b).length - 1 by omega, h2.2]
  | succ m ih =>
    intro j hj hjb
    by_cases e : j = b.length - 1
    · exact ih j (by omega) hjb
    · obtain ⟨p, p1, p2, p3⟩ := htb.par (j := j) (by omega)
      rw [(deep_part hb p2 p3).2, (deep_part hr (by omega) (par_join_b p2 p3)).2, ih p (by omega) p2]

/-! Its greatest group. -/
def lastG (ys : List Tm) : Nat → Int
  | 0 => 0
  | n + 1 => if ys.any (hasG n) then n else lastG ys n
theorem lastG_eq {ys : List Tm} : ∀ n, (groupsN ys n).getD ((groupsN ys n).length - 1) 0 = lastG ys n
  | 0 => rfl
  | n + 1 => by
    rw [groupsN_succ]
    simp only [lastG]
    split
    · exact getD_snoc_eq (by simp)
    · exact lastG_eq n
theorem lastG_le {ys : List Tm} : ∀ n, 0 ≤ lastG ys n ∧ lastG ys n ≤ n
  | 0 => by simp [lastG]
  | n + 1 => by
    have := lastG_le (ys := ys) n
    simp only [lastG]; split <;> omega
theorem topF_eq {l : List Tm} (h : rightF l = true) : topF l = lastG l 10 := by
  have ht := term_of_right h
  have hpos := ht.pos
  unfold topF
  have e : groupsF l ((l.length : Int) - 1) = groupsN l 10 := by
    have hl := ht.len
    rw [groupsF, if_pos (by omega), nodesF]
    rw [show ((l.length : Int) - 1).toNat = l.length - 1 by omega, ht.root, show ((l.length : Int) - 1 + 1).toNat = l.length by omega]
    rw [Int.toNat_zero, ex_all]
  rw [e, lastG_eq]
theorem lastG_join (hk : k = 3 ∨ k = 4) : ∀ n, lastG (joinF k a b) n = max (lastG a n) (lastG b n)
  | 0 => rfl
  | n + 1 => by
    have h1 := lastG_join hk n
    have ha := lastG_le (ys := a) n
    have hb := lastG_le (ys := b) n
    have e : (joinF k a b).any (hasG n) = (a.any (hasG n) || b.any (hasG n)) := by
      unfold joinF
      rw [List.any_append, List.any_append, List.any_map]
      have e1 : (hasG n ∘ Tm.sh a.length) = hasG n := rfl
      have e2 : hasG n ⟨k, (a.length : Int) - 1, (a.length : Int) + b.length - 1, 0, 0, 0, 0, 0⟩ = false := by
        simp [hasG]; omega
      rw [e1]
      simp [e2]
    simp only [lastG, e]
    cases a.any (hasG n) <;> cases b.any (hasG n) <;> simp <;> omega
theorem top_join (hk : k = 3 ∨ k = 4) (hr : rightF (joinF k a b) = true) (ha : rightF a = true) (hb : rightF b = true) : topF (joinF k a b) = max (topF a) (topF b) := by
  rw [topF_eq hr, topF_eq ha, topF_eq hb, lastG_join hk]
end

end Go.Proofs.Ytgiihapbgpnkkaa
