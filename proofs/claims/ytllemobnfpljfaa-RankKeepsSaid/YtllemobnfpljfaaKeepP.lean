/-
  PLAIN: what is true of ranks whatever the document says.
-/
import Derived.Test.YtllemobnfpljfaaNextP
set_option linter.unusedSimpArgs false
set_option linter.unusedVariables false
namespace Go.Proofs.Ytllemobnfpljfaa
open Go Go.Hs

theorem rAt_with {m : List (List Int)} {v : Int} {z : List Int} {i : Nat} : rAt (m.map (· ++ [v]) ++ [z]) i = if i < m.length then rAt m i ++ [v] else if i = m.length then z else [] := by
  unfold rAt
  by_cases h : i < m.length
  · rw [if_pos h]
    have e2 : i < (m.map (· ++ [v])).length := by simp [h]
    simp [List.getD_eq_getElem?_getD, h, List.getElem?_append_left e2]
  · rw [if_neg h]
    by_cases e : i = m.length
    · subst e; simp [List.getD_eq_getElem?_getD]
    · rw [if_neg e]
      rw [List.getD_eq_getElem?_getD, List.getElem?_eq_none (by simp; omega)]; rfl
theorem getD_snoc' {r : List Int} {v : Int} {k : Nat} : (r ++ [v]).getD k 0 = if k < r.length then r.getD k 0 else if k = r.length then v else 0 := by
  by_cases h : k < r.length
  · simp [List.getD_eq_getElem?_getD, h, List.getElem?_append_left h]
  · rw [if_neg h]
    by_cases e : k = r.length
    · subst e; simp [List.getD_eq_getElem?_getD]
    · rw [if_neg e, List.getD_eq_getElem?_getD, List.getElem?_eq_none (by simp; omega)]; rfl
theorem getD_rep {n k : Nat} {v : Int} : (List.replicate n v).getD k 0 = if k < n then v else 0 := by
  simp only [List.getD_eq_getElem?_getD, List.getElem?_replicate]
  split <;> rfl
theorem rGet_withB {b : List (List Int)} (hb : ∀ i, i < b.length → (rAt b i).length = b.length) {i k : Nat} (hi : i ≤ b.length) (hk : k ≤ b.length) : rGet (withB b) i k = if i < b.length ∧ k < b.length then rGet b i k else 0 := by
  unfold rGet withB
  rw [rAt_with]
  by_cases h : i < b.length
  · rw [if_pos h, getD_snoc', hb i h]
    by_cases h2 : k < b.length
    · rw [if_pos h2, if_pos ⟨h, h2⟩]
    · rw [if_neg h2, if_neg (show ¬ (i < b.length ∧ k < b.length) from fun e => h2 e.2)]
      split <;> rfl
  · rw [if_neg h, if_pos (by omega), if_neg (show ¬ (i < b.length ∧ k < b.length) from fun e => h e.1), getD_rep]
    split <;> rfl
theorem rGet_withD {d : List (List Int)} (hd : ∀ i, i < d.length → (rAt d i).length = d.length) {i k : Nat} (hi : i ≤ d.length) (hk : k ≤ d.length) : rGet (withD d) i k = if i < d.length then (if k < d.length then rGet d i k else 1) else if k < d.length then -1 else 0 := by
  unfold rGet withD
  rw [rAt_with]
  by_cases h : i < d.length
  · rw [if_pos h, if_pos h, getD_snoc', hd i h]
    by_cases h2 : k < d.length
    · rw [if_pos h2, if_pos h2]
    · rw [if_neg h2, if_neg h2, if_pos (by omega)]
  · rw [if_neg h, if_neg h, if_pos (by omega), getD_snoc', List.length_replicate]
    by_cases h2 : k < d.length
    · rw [if_pos h2, if_pos h2, getD_rep, if_pos h2]
    · rw [if_neg h2, if_neg h2]
      split <;> rfl
theorem rk_of {b d : List (List Int)} {n : Nat} (h1 : b.length = n) (h2 : d.length = n) (h3 : ∀ i, i < n → (rAt b i).length = n) (h4 : ∀ i, i < n → (rAt d i).length = n)
    (h5 : ∀ i k, i < n → k < n → 0 ≤ rGet b i k ∧ (i = k → rGet b i k = 0 ∧ rGet d i k = 0) ∧ (i ≠ k → (rGet d i k = 1 ∨ rGet d i k = -1) ∧ rGet d k i = - rGet d i k)) : RkOk b d n := by
  refine ⟨⟨by omega, fun i hi => by rw [h3 i (by omega)]⟩, ⟨by omega, fun i hi => by rw [h4 i (by omega)]⟩, fun i hi => ?_⟩
  have hi2 : i < n := by simpa using hi
  refine ⟨((h5 i i hi2 hi2).2.1 rfl).1, ((h5 i i hi2 hi2).2.1 rfl).2, fun k hk => ?_⟩
  have hk2 : k < n := by simpa using hk
  refine ⟨(h5 i k hi2 hk2).1, ?_⟩
  by_cases e : i = k
  · exact .inl e
  · exact .inr ((h5 i k hi2 hk2).2.2 e)

theorem with_rk {b d : List (List Int)} (h : RkOk b d b.length) : RkOk (withB b) (withD d) ((b.length + 1 : Nat) : Int) := by
  obtain ⟨l1, l2, l3, l4⟩ := rk_lens h
  have rb := fun i k hi hk => rGet_withB (b := b) l3 (i := i) (k := k) hi hk
  have rd := fun i k hi hk => rGet_withD (d := d) (fun i hi => by rw [l2]; exact l4 i (by omega)) (i := i) (k := k) hi hk
  refine rk_of (by simp [withB]) (by simp [withD, l2]) ?_ ?_ ?_
  · intro i hi
    rw [withB, rAt_with]
    by_cases e : i < b.length
    · rw [if_pos e]; simp [l3 i e]
    · rw [if_neg e, if_pos (by omega)]; simp
  · intro i hi
    rw [withD, rAt_with]
    by_cases e : i < d.length
    · rw [if_pos e]; simp [l4 i (by omega)]
    · rw [if_neg e, if_pos (by omega)]; simp [l2]
  · intro i k hi hk
    rw [rb i k (by omega) (by omega), rd i k (by omega) (by omega), rd k i (by omega) (by omega)]
    by_cases e1 : i < b.length
    · by_cases e2 : k < b.length
      · have c := rk_cell h e1 e2
        rw [if_pos ⟨e1, e2⟩, if_pos (by omega), if_pos (by omega), if_pos (by omega), if_pos (by omega)]
        exact c
      · rw [if_neg (fun e => e2 e.2), if_pos (by omega), if_neg (by omega), if_neg (by omega), if_pos (by omega)]
        exact ⟨by omega, fun e => by omega, fun _ => ⟨.inl rfl, rfl⟩⟩
    · rw [if_neg (fun e => e1 e.1), if_neg (by omega)]
      by_cases e2 : k < b.length
      · rw [if_pos (by omega), if_pos (by omega), if_neg (by omega)]
        exact ⟨by omega, fun e => by omega, fun _ => ⟨.inr rfl, rfl⟩⟩
      · rw [if_neg (by omega)]
        exact ⟨by omega, fun _ => ⟨rfl, rfl⟩, fun e => by omega⟩
theorem with_best {b d : List (List Int)} (h : RkOk b d b.length) (h0 : 0 < b.length) : bestF (withB b) (withD d) [(b.length : Int), 0] = 0 := by
  obtain ⟨l1, l2, l3, l4⟩ := rk_lens h
  have rd := fun i k hi hk => rGet_withD (d := d) (fun i hi => by rw [l2]; exact l4 i (by omega)) (i := i) (k := k) hi hk
  have lw : (withB b).length = b.length + 1 := by simp [withB]
  have hr : rkB (withB b) (withD d) ((withB b).length : Int) = true := by rw [lw]; exact rkB_iff.2 (with_rk h)
  rw [bestF, if_pos hr]
  have e1 : bestN (withB b) (withD d) [(b.length : Int), 0] 1 = b.length := by
    unfold bestN
    rw [if_pos]
    · rfl
    · refine ⟨⟨?_, ?_⟩, .inl ?_⟩
      · show (0 : Int) ≤ (b.length : Int); omega
      · show (b.length : Int) < _; rw [lw]; omega
      · unfold bestN; omega
  show bestN (withB b) (withD d) [(b.length : Int), 0] 2 = 0
  unfold bestN
  rw [e1, if_pos]
  · rfl
  · refine ⟨⟨?_, ?_⟩, .inr ?_⟩
    · show (0 : Int) ≤ 0; omega
    · show (0 : Int) < _; rw [lw]; omega
    · show 0 < rGet (withD d) 0 (b.length : Int).toNat
      rw [Int.toNat_natCast, rd 0 b.length (by omega) (by omega), if_pos (by omega), if_neg (by omega)]
      decide

/-- The one that is ahead of all others is the best. -/
theorem best_first {b d : List (List Int)} {o : List Int} (h : RkOk b d b.length) (hin : ∀ i, i < o.length → hasR b (o.getD i 0)) {i : Nat} (hi : i < o.length)
    (hf : ∀ k, k < o.length → o.getD k 0 = o.getD i 0 ∨ rGet d (o.getD i 0).toNat (o.getD k 0).toNat = 1) : bestF b d o = o.getD i 0 := by
  rw [bestF, if_pos (rkB_iff.2 h)]
  have hb : ∀ j, bestN b d o j < 0 ∨ ∃ k, k < j ∧ bestN b d o j = o.getD k 0 := by
    intro j
    induction j with
    | zero => left; unfold bestN; omega
    | succ j ih =>
      unfold bestN
      split
      · exact .inr ⟨j, by omega, rfl⟩
      · rcases ih with ih | ⟨k, h1, h2⟩
        · exact .inl ih
        · exact .inr ⟨k, by omega, h2⟩
  have hai := hin i hi
  have key : ∀ m, i + 1 + m ≤ o.length → bestN b d o (i + 1 + m) = o.getD i 0 := by
    intro m
    induction m with
    | zero =>
      intro hm
      show bestN b d o (i + 1) = _
      unfold bestN
      split
      · rfl
      · rename_i hn
        rcases hb i with hb | ⟨k, h1, h2⟩
        · exact absurd ⟨hai, .inl hb⟩ hn
        · rw [h2] at hn ⊢
          rcases hf k (by omega) with h3 | h3
          · exact h3
          · exact absurd ⟨hai, .inr (by rw [h3]; decide)⟩ hn
    | succ m ih =>
      intro hm
      show bestN b d o ((i + 1 + m) + 1) = _
      have e := ih (by omega)
      unfold bestN
      rw [e, if_neg]
      rintro ⟨_, h2 | h2⟩
      · have := hai.1; omega
      · have hk := hin (i + 1 + m) (by omega)
        unfold hasR at hk hai
        rcases hf (i + 1 + m) (by omega) with h3 | h3
        · rw [h3] at h2
          have := (rk_cell h (i := (o.getD i 0).toNat) (k := (o.getD i 0).toNat) (by omega) (by omega)).2.1 rfl
          omega
        · by_cases e4 : (o.getD i 0).toNat = (o.getD (i + 1 + m) 0).toNat
          · rw [e4] at h3 h2
            have := (rk_cell h (i := (o.getD (i + 1 + m) 0).toNat) (k := (o.getD (i + 1 + m) 0).toNat) (by omega) (by omega)).2.1 rfl
            omega
          · have := (rk_cell h (i := (o.getD i 0).toNat) (k := (o.getD (i + 1 + m) 0).toNat) (by omega) (by omega)).2.2 e4
            omega
  have := key (o.length - (i + 1)) (by omega)
  rwa [show i + 1 + (o.length - (i + 1)) = o.length by omega] at this

theorem len_tab {n : Nat} {f : Nat → Nat → Int} : (tabF n f).length = n := by simp [tabF]
theorem rAt_tab {n : Nat} {f : Nat → Nat → Int} {i : Nat} (h : i < n) : rAt (tabF n f) i = (List.range n).map fun k => f i k := by
  unfold rAt tabF
  simp [List.getD_eq_getElem?_getD, h]
theorem rGet_tab {n : Nat} {f : Nat → Nat → Int} {i k : Nat} (h : i < n) (hk : k < n) : rGet (tabF n f) i k = f i k := by
  unfold rGet
  rw [rAt_tab h]
  simp [List.getD_eq_getElem?_getD, hk]
theorem ag_swap {b d : List (List Int)} {fr : List Int} {h : List Hp} {i k : Nat} (hd : rGet d (fr.getD k 0).toNat (fr.getD i 0).toNat = - rGet d (fr.getD i 0).toNat (fr.getD k 0).toNat) : agF b d fr h k i = - agF b d fr h i k := by
  unfold agF
  by_cases e1 : lowH b fr h k i < lowH b fr h i k
  · have e1' : ¬ lowH b fr h i k < lowH b fr h k i := by omega
    simp only [e1, e1', ↓reduceIte]
  · by_cases e2 : lowH b fr h i k < lowH b fr h k i
    · simp only [e1, e2, ↓reduceIte]; rfl
    · simp only [e1, e2, ↓reduceIte, hd]
theorem ag_one {b d : List (List Int)} {fr : List Int} {h : List Hp} {i k : Nat} (hd : rGet d (fr.getD i 0).toNat (fr.getD k 0).toNat = 1 ∨ rGet d (fr.getD i 0).toNat (fr.getD k 0).toNat = -1) : agF b d fr h i k = 1 ∨ agF b d fr h i k = -1 := by
  unfold agF
  split
  · exact .inl rfl
  · split
    · exact .inr rfl
    · exact hd
theorem num_pos {b t : Int} (h : 0 ≤ b) (ht : 0 ≤ t) : 0 ≤ numF b t := by unfold numF; split <;> omega
theorem num_zero {t : Int} (ht : 0 ≤ t) : numF 0 t = 0 := by unfold numF; rw [if_pos (by omega)]
theorem fork_pos {l : List Tm} {x y : Int × Int} (hd : ∀ q, 0 ≤ (deepF l).getD q 0) (hx : 0 ≤ x.2) (hy : 0 ≤ y.2) : 0 ≤ (forkF l x y).1 := by
  have h1 : 0 ≤ forkD l x.1 y.1 := by unfold forkD; have := hd (forkQ l x.1 y.1).toNat; omega
  unfold forkF
  split
  · decide
  · split
    · show 0 ≤ x.2 + 1; omega
    · split
      · show 0 ≤ x.2 + 1; omega
      · split
        · exact h1
        · dsimp only
          split <;> omega
theorem fork_one {l : List Tm} {x y : Int × Int} (h : inP l x.1 = true ∧ inP l y.1 = true ∧ x.1 ≠ y.1) : (forkF l x y).2.2 = 1 ∨ (forkF l x y).2.2 = -1 := by
  unfold forkF
  rw [if_neg (not_not_intro h)]
  split
  · exact .inl rfl
  · split
    · exact .inr rfl
    · split
      · exact .inr rfl
      · exact .inl rfl
theorem next_rk {l : List Tm} {b d : List (List Int)} {fr : List Int} {h : List Hp} (hr : RkOk b d b.length) (hin : ∀ i, i < fr.length → hasR b (fr.getD i 0)) (hd : ∀ q, 0 ≤ (deepF l).getD q 0)
    (ht : ∀ i, i < fr.length → 0 ≤ (hAt h i).2) (hp : ∀ i, i < fr.length → inP l (hAt h i).1 = true) (hn : ∀ i k, i < fr.length → k < i → (hAt h k).1 ≠ (hAt h i).1) : RkOk (nextB l b d fr h) (nextD l b d fr h) (fr.length : Int) := by
  have hto : ∀ i k, i < fr.length → k < fr.length → i ≠ k → (hAt h i).1 ≠ (hAt h k).1 := by
    intro i k hi hk e
    rcases Nat.lt_or_ge i k with h1 | h1
    · exact hn k i hk h1
    · exact fun e2 => hn i k hi (by omega) e2.symm
  refine rk_of len_tab len_tab (fun i hi => by rw [nextB, rAt_tab hi]; simp) (fun i hi => by rw [nextD, rAt_tab hi]; simp) fun i k hi hk => ?_
  rw [nextB, nextD, rGet_tab hi hk, rGet_tab hi hk, rGet_tab hk hi]
  have ai := hin i hi
  have ak := hin k hk
  unfold hasR at ai ak
  unfold nxB nxD
  by_cases e : i = k
  · subst e
    simp
  · have e' : ¬ k = i := fun h => e h.symm
    by_cases e2 : fr.getD i 0 = fr.getD k 0
    · have e2' : fr.getD k 0 = fr.getD i 0 := e2.symm
      simp only [e, e', e2, ↓reduceIte]
      refine ⟨fork_pos hd (ht i hi) (ht k hk), fun h => h.elim, fun _ => ⟨fork_one ⟨hp i hi, hp k hk, hto i k hi hk e⟩, ?_⟩⟩
      rw [fork_swap (x := hAt h i) (y := hAt h k)]
    · have e2' : ¬ fr.getD k 0 = fr.getD i 0 := fun h => e2 h.symm
      have c := rk_cell hr (i := (fr.getD i 0).toNat) (k := (fr.getD k 0).toNat) (by omega) (by omega)
      have c2 := c.2.2 (by omega)
      simp only [e, e', e2, e2', ↓reduceIte]
      exact ⟨num_pos c.1 (ht i hi), fun h => h.elim, fun _ => ⟨ag_one c2.1, ag_swap c2.2⟩⟩
theorem next_as {l : List Tm} {b d : List (List Int)} {fr : List Int} {h : List Hp} {i k : Nat} (hr : RkOk b d b.length) (hi : i < fr.length) (hk : k < fr.length) (hin : ∀ i, i < fr.length → hasR b (fr.getD i 0))
    (ht : ∀ i, i < fr.length → 0 ≤ (hAt h i).2) (hne : fr.getD i 0 ≠ fr.getD k 0) (h1 : rGet b (fr.getD i 0).toNat (fr.getD k 0).toNat = 0) (h2 : rGet b (fr.getD k 0).toNat (fr.getD i 0).toNat = 0) :
    rGet (nextB l b d fr h) i k = 0 ∧ rGet (nextD l b d fr h) i k = rGet d (fr.getD i 0).toNat (fr.getD k 0).toNat := by
  have e : i ≠ k := fun e => hne (by rw [e])
  have l1 : lowH b fr h i k = 0 := by unfold lowH; rw [h1, num_zero (ht i hi)]
  have l2 : lowH b fr h k i = 0 := by unfold lowH; rw [h2, num_zero (ht k hk)]
  rw [nextB, nextD, rGet_tab hi hk, rGet_tab hi hk, nxB, nxD, if_neg e, if_neg e, if_neg hne, if_neg hne, l1, agF, l1, l2]
  exact ⟨rfl, rfl⟩

end Go.Proofs.Ytllemobnfpljfaa
