/-
  PLAIN: tags behind marks; of a parse tree's frames, frame by frame, what its groups span.
-/
import Derived.Test.YtllemobnfpljfaaMarkP
set_option linter.unusedSimpArgs false
set_option linter.unusedVariables false
namespace Go.Proofs.Ytllemobnfpljfaa
open Go Go.Hs

def mkOf (l : List Tm) (s : Int) : List Sp :=
  if s < 0 ∨ (l.length : Int) ≤ s / 2 then []
  else if (tAt l (s / 2).toNat).k = 7 then [(1 + s % 2, (tAt l (s / 2).toNat).n)]
  else if (tAt l (s / 2).toNat).k = 8 ∧ s % 2 = 0 then (groupsF l (s / 2)).map fun g => (3, g)
  else []
def marksF (l : List Tm) (st : List Int) : List Sp := if rightF l = true then st.flatMap (mkOf l) else []
def apStep (now none : Int) (o : List Int) (m : Sp) : List Int :=
  if m.2 < 1 ∨ (o.length : Int) ≤ 2 * m.2 then o
  else if m.1 = 1 then o.set (2 * m.2 - 1).toNat now
  else if m.1 = 2 then o.set (2 * m.2).toNat now
  else if m.1 = 3 then (o.set (2 * m.2 - 1).toNat none).set (2 * m.2).toNat none
  else o
def applyF (tags : List Int) (ms : List Sp) (now none : Int) : List Int := ms.foldl (apStep now none) tags
theorem apStep_len {now none : Int} {o : List Int} {m : Sp} : (apStep now none o m).length = o.length := by
  unfold apStep; repeat' split
  all_goals simp
theorem applyF_len {now none : Int} : ∀ {ms : List Sp} {o : List Int}, (applyF o ms now none).length = o.length
  | [], o => rfl
  | m :: ms, o => by
    show (applyF (apStep now none o m) ms now none).length = _
    rw [applyF_len, apStep_len]
theorem applyF_app {now none : Int} {a b : List Sp} {o : List Int} : applyF o (a ++ b) now none = applyF (applyF o a now none) b now none := List.foldl_append
theorem marksF_app {l : List Tm} {a b : List Int} : marksF l (a ++ b) = marksF l a ++ marksF l b := by
  unfold marksF; split
  · exact List.flatMap_append
  · rfl
def sp2 (a b : Int) : Sp := if a < 0 ∨ b < 0 then (-1, -1) else (a, b)
def msAt (T : List Int) (to : Int) (g : Nat) : Sp := if g = 0 then sp2 (T.getD 0 0) to else sp2 (T.getD (2 * g - 1) 0) (T.getD (2 * g) 0)
def mSpansF (T : List Int) (to : Int) : List Sp := if T.length % 2 = 0 then [] else (List.range ((T.length + 1) / 2)).map (msAt T to)

def prT (T : List Int) (g : Nat) : Int × Int := (T.getD (2 * g - 1) 0, T.getD (2 * g) 0)
theorem getD_set {l : List Int} {i j : Nat} {x : Int} (h : j < l.length) : (l.set i x).getD j 0 = if i = j then x else l.getD j 0 := by
  by_cases e : i = j
  · subst e; rw [if_pos rfl, getD_set_same h]
  · rw [if_neg e, getD_set_other e]
theorem ap_zero {T : List Int} {now none : Int} {m : Sp} (h0 : 0 < T.length) : (apStep now none T m).getD 0 0 = T.getD 0 0 := by
  unfold apStep
  split
  · rfl
  · split
    · rw [getD_set h0, if_neg (by omega)]
    · split
      · rw [getD_set h0, if_neg (by omega)]
      · split
        · rw [getD_set (by simpa using h0), if_neg (by omega), getD_set h0, if_neg (by omega)]
        · rfl
theorem apply_zero {now none : Int} : ∀ {ms : List Sp} {T : List Int}, 0 < T.length → (applyF T ms now none).getD 0 0 = T.getD 0 0
  | [], T, _ => rfl
  | m :: ms, T, h => by
    show (applyF (apStep now none T m) ms now none).getD 0 0 = _
    rw [apply_zero (by rw [apStep_len]; exact h), ap_zero h]
theorem pr_ap {T : List Int} {now none : Int} {m : Sp} {g : Nat} (hg : 1 ≤ g) (hT : 2 * g < T.length) (hm : 1 ≤ m.2 ∧ 2 * m.2 < T.length) :
    prT (apStep now none T m) g = if m.2 = g then (if m.1 = 1 then (now, (prT T g).2) else if m.1 = 2 then ((prT T g).1, now) else if m.1 = 3 then (none, none) else prT T g) else prT T g := by
  unfold apStep prT
  rw [if_neg (by omega)]
  by_cases c : m.2 = g
  · rw [if_pos c]
    have e1 : (2 * m.2 - 1).toNat = 2 * g - 1 := by omega
    have e2 : (2 * m.2).toNat = 2 * g := by omega
    rw [e1, e2]
    split
    · rw [getD_set (by omega), getD_set (by omega), if_pos rfl, if_neg (by omega)]
    · split
      · rw [getD_set (by omega), getD_set (by omega), if_pos rfl, if_neg (by omega)]
      · split
        · simp [List.getD_eq_getElem?_getD, List.getElem?_set, show 2 * g - 1 < T.length by omega, hT, show ¬ 2 * g = 2 * g - 1 by omega, show ¬ 2 * g - 1 = 2 * g by omega]
        · rfl
  · rw [if_neg c]
    split
    · rw [getD_set (by omega), getD_set (by omega), if_neg (by omega), if_neg (by omega)]
    · split
      · rw [getD_set (by omega), getD_set (by omega), if_neg (by omega), if_neg (by omega)]
      · split
        · rw [getD_set_other (by omega), getD_set_other (by omega), getD_set_other (by omega), getD_set_other (by omega)]
        · rfl
theorem pr_uns {g : Nat} (hg : 1 ≤ g) {now : Int} : ∀ {gs : List Int} {T : List Int}, 2 * g < T.length → (∀ x ∈ gs, 1 ≤ x ∧ 2 * x < T.length) →
    prT (applyF T (gs.map fun g => (3, g)) now (-1)) g = if (g : Int) ∈ gs then (-1, -1) else prT T g
  | [], T, hT, _ => by simp [applyF]
  | x :: gs, T, hT, h => by
    show prT (applyF (apStep now (-1) T (3, x)) (gs.map fun g => (3, g)) now (-1)) g = _
    have e3 : prT (apStep now (-1) T (3, x)) g = if x = (g : Int) then (-1, -1) else prT T g := by
      rw [pr_ap hg hT (h x (List.mem_cons_self ..))]; simp
    rw [pr_uns hg (by rw [apStep_len]; exact hT) (fun y hy => by rw [apStep_len]; exact h y (List.mem_cons_of_mem _ hy)), e3]
    simp only [List.mem_cons]
    by_cases c1 : (g : Int) ∈ gs
    · rw [if_pos c1, if_pos (.inr c1)]
    · rw [if_neg c1]
      by_cases c2 : x = (g : Int)
      · rw [if_pos c2, if_pos (.inl c2.symm)]
      · rw [if_neg c2, if_neg (by rintro (h | h); exact c2 h.symm; exact c1 h)]
theorem pr_step {l : List Tm} (hr : rightF l = true) {T : List Int} (hT : (T.length : Int) = 1 + 2 * topF l) {g : Nat} (hg : 1 ≤ g ∧ (g : Int) ≤ topF l) {s now : Int} (hs : 0 ≤ s ∧ s / 2 < l.length) :
    prT (applyF T (mkOf l s) now (-1)) g = evG l g (prT T g) (now, s) := by
  unfold mkOf evG
  dsimp only
  rw [if_neg (by omega)]
  by_cases c7 : (tAt l (s / 2).toNat).k = 7
  · have hin := grp_in hr (q := (s / 2).toNat) (by omega) c7
    rw [if_pos c7]
    show prT (apStep now (-1) T (1 + s % 2, (tAt l (s / 2).toNat).n)) g = _
    have e3 := pr_ap (T := T) (now := now) (none := -1) (m := (1 + s % 2, (tAt l (s / 2).toNat).n)) hg.1 (by omega) (by dsimp only; omega)
    dsimp only at e3
    rw [e3]
    by_cases c : (tAt l (s / 2).toNat).n = g
    · by_cases e : s % 2 = 0
      · simp [c, c7, e]
      · have e : s % 2 = 1 := by omega
        simp [c, c7, e]
    · simp [c, c7]
  · rw [if_neg c7]
    by_cases c8 : (tAt l (s / 2).toNat).k = 8 ∧ s % 2 = 0
    · rw [if_pos c8, pr_uns hg.1 (by omega) (fun x hx => by have := gs_in hr x hx; omega)]
      by_cases c : (g : Int) ∈ groupsF l (s / 2)
      · simp [c, c7, c8.1, c8.2]
      · simp [c, c7]
    · rw [if_neg c8, if_neg (fun h : _ ∧ _ => c7 h.1), if_neg (fun h : _ ∧ _ => c8 ⟨h.1, h.2.1⟩)]; rfl

/-- Tags behind what opens and closes, one by one. -/
def evF (l : List Tm) (T : List Int) (S : List (Int × Int)) : List Int := S.foldl (fun T p => applyF T (mkOf l p.2) p.1 (-1)) T
theorem evF_len {l : List Tm} : ∀ {S : List (Int × Int)} {T : List Int}, (evF l T S).length = T.length
  | [], T => rfl
  | p :: S, T => by
    show (evF l (applyF T (mkOf l p.2) p.1 (-1)) S).length = _
    rw [evF_len, applyF_len]
theorem evF_zero {l : List Tm} : ∀ {S : List (Int × Int)} {T : List Int}, 0 < T.length → (evF l T S).getD 0 0 = T.getD 0 0
  | [], T, _ => rfl
  | p :: S, T, h => by
    show (evF l (applyF T (mkOf l p.2) p.1 (-1)) S).getD 0 0 = _
    rw [evF_zero (by rw [applyF_len]; exact h), apply_zero h]
theorem pr_evF {l : List Tm} (hr : rightF l = true) {g : Nat} (hg : 1 ≤ g ∧ (g : Int) ≤ topF l) : ∀ {S : List (Int × Int)} {T : List Int}, (T.length : Int) = 1 + 2 * topF l → (∀ p ∈ S, 0 ≤ p.2 ∧ p.2 / 2 < l.length) → prT (evF l T S) g = S.foldl (evG l g) (prT T g)
  | [], T, _, _ => rfl
  | p :: S, T, hT, h => by
    show prT (evF l (applyF T (mkOf l p.2) p.1 (-1)) S) g = _
    rw [pr_evF hr hg (by rw [applyF_len]; exact hT) (fun x hx => h x (List.mem_cons_of_mem _ hx)), pr_step hr hT hg (h p (List.mem_cons_self ..))]
    rfl
/-- Frame by frame. -/
def frF (l : List Tm) : Nat → List (List Int) → List Int → List Int
  | _, [], T => T
  | i, f :: fs, T => frF l (i + 1) fs (applyF T (marksF l f) i (-1))
theorem row_evF {l : List Tm} (hr : rightF l = true) {i : Int} : ∀ {f : List Int} {T : List Int}, applyF T (marksF l f) i (-1) = evF l T (f.map fun s => (i, s))
  | [], T => by rw [marksF, if_pos hr]; rfl
  | s :: f, T => by
    rw [show s :: f = [s] ++ f from rfl, marksF_app, applyF_app, row_evF hr (f := f), List.map_append]
    show evF l (applyF T (marksF l [s]) i (-1)) _ = evF l (applyF T (mkOf l s) i (-1)) _
    congr 2
    rw [marksF, if_pos hr]
    simp
theorem fr_evF {l : List Tm} (hr : rightF l = true) : ∀ {fs : List (List Int)} {i : Nat} {T : List Int}, frF l i fs T = evF l T (tag i fs)
  | [], i, T => rfl
  | f :: fs, i, T => by
    rw [frF, fr_evF hr, row_evF hr, tag]
    exact (List.foldl_append (l := f.map fun s => ((i : Int), s))).symm
theorem frF_take {l : List Tm} {fs : List (List Int)} {T : List Int} : ∀ {i : Nat}, i < fs.length → frF l 0 (fs.take (i + 1)) T = applyF (frF l 0 (fs.take i) T) (marksF l (rAt fs i)) i (-1) := by
  have app : ∀ {a b : List (List Int)} {i : Nat} {T : List Int}, frF l i (a ++ b) T = frF l (i + a.length) b (frF l i a T) := by
    intro a
    induction a with
    | nil => intro b i T; rfl
    | cons f a ih =>
      intro b i T
      rw [List.cons_append, frF, ih, frF, List.length_cons]
      congr 1; omega
  intro i hi
  rw [List.take_succ_eq_append_getElem hi, app]
  rw [List.length_take, Nat.min_eq_left (by omega), Nat.zero_add]
  simp [frF, rAt, List.getD_eq_getElem?_getD, hi]

theorem kids_ev {n : Nat} {d a b : Int} {s : List En} {S : List (Int × Int)} (h : Kids n d a b s S) : ∀ p ∈ S, 0 ≤ p.2 ∧ p.2 / 2 < n := by
  induction h with
  | nil h => intro p hp; cases hp
  | @cons d a b x s1 s2 S1 S2 hd hn ha hf h1 h2 i1 i2 =>
    intro p hp
    rcases List.mem_cons.1 hp with rfl | hp
    · simp only; omega
    · rcases List.mem_append.1 hp with hp | hp
      · exact i1 p hp
      · rcases List.mem_cons.1 hp with rfl | hp
        · simp only; omega
        · exact i2 p hp
theorem sp_step {l : List Tm} {o : List Sp} {x : En} {g : Nat} (hr : rightF l = true) (hg : 1 ≤ g ∧ g < o.length) (hx : 0 ≤ x.n ∧ x.n < l.length) : spAt (spStep l o x) g = spG l g (spAt o g) x := by
  unfold spStep spG
  rw [if_neg (by omega)]
  by_cases c7 : (tAt l x.n.toNat).k = 7
  · have hin := grp_in hr (q := x.n.toNat) (by omega) c7
    rw [if_pos c7, spAt_set hg.2]
    by_cases c : (tAt l x.n.toNat).n = g
    · rw [if_pos (by omega), if_pos ⟨c7, c⟩]
    · rw [if_neg (by omega), if_neg (fun h => c h.2), if_neg (by omega)]
  · rw [if_neg c7, if_neg (c := _ ∧ (tAt l x.n.toNat).n = (g : Int)) (fun h => c7 h.1)]
    by_cases c8 : (tAt l x.n.toNat).k = 8
    · rw [if_pos c8]
      have hgs := gs_in hr (q := x.n)
      have : ∀ (gs : List Int) (o : List Sp), g < o.length → (∀ x ∈ gs, 1 ≤ x ∧ x ≤ topF l) → spAt (gs.foldl unsG o) g = if (g : Int) ∈ gs then (-1, -1) else spAt o g := by
        intro gs
        induction gs with
        | nil => intro o _ _; simp
        | cons y gs ih =>
          intro o ho hy
          have hy0 := hy y (List.mem_cons_self ..)
          rw [List.foldl_cons, ih _ (by rw [unsG, List.length_set]; exact ho) (fun z hz => hy z (List.mem_cons_of_mem _ hz)), unsG, spAt_set ho]
          simp only [List.mem_cons]
          by_cases c1 : (g : Int) ∈ gs
          · rw [if_pos c1, if_pos (.inr c1)]
          · rw [if_neg c1]
            by_cases c2 : y = (g : Int)
            · rw [if_pos (by omega), if_pos (.inl c2.symm)]
            · rw [if_neg (by omega), if_neg (by rintro (h | h); exact c2 h.symm; exact c1 h)]
      rw [this _ _ hg.2 hgs]
      by_cases c : (g : Int) ∈ groupsF l x.n
      · rw [if_pos c, if_pos ⟨c8, c⟩]
      · rw [if_neg c, if_neg (fun h => c h.2)]
    · rw [if_neg c8, if_neg (fun h => c8 h.1)]
theorem sp_fold {l : List Tm} {g : Nat} (hr : rightF l = true) : ∀ {t : List En} {o : List Sp}, 1 ≤ g → g < o.length → (∀ x ∈ t, 0 ≤ x.n ∧ x.n < l.length) → spAt (t.foldl (spStep l) o) g = t.foldl (spG l g) (spAt o g)
  | [], o, _, _, _ => rfl
  | x :: t, o, h1, h2, h => by
    rw [List.foldl_cons, sp_fold hr h1 (by rw [step_splen]; exact h2) (fun y hy => h y (List.mem_cons_of_mem _ hy)), sp_step hr ⟨h1, h2⟩ (h x (List.mem_cons_self ..))]
    rfl

/-- **THE THEOREM OF STAGE 20.** -/
theorem mark_tree {l : List Tm} {w : List Int} {t : List En} (h : tRight l w t = true) :
    mSpansF (frF l 0 (framesF l w t) (0 :: List.replicate (2 * topF l).toNat (-1))) w.length = spansF l t := by
  obtain ⟨hr, hp⟩ := tree_pt h
  have tl := top_le (l := l)
  obtain ⟨S, kt, kf, _⟩ := pt_marks hr hp
  rw [show (1 : Int) - 1 = 0 by omega] at kt
  have t0 : 0 < t.length := by
    obtain ⟨_, s', e⟩ := hp.head
    rw [e]; simp
  have ep : procS t [] = S := by
    have := proc_kids kt (by omega) [] [] (fun y h => by cases h) (fun y r h => by cases h)
    rw [List.append_nil] at this
    rw [this]
    exact List.append_nil _
  have hemp : ∀ k : Nat, (List.replicate (w.length + 1) ([] : List Int)).getD k [] = [] := by
    intro k
    by_cases hk : k < w.length + 1
    · rw [List.getD_eq_getElem?_getD, List.getElem?_replicate_of_lt hk]; rfl
    · rw [List.getD_eq_getElem?_getD, List.getElem?_eq_none (by simpa using hk)]; rfl
  have et : tag 0 (framesF l w t) = S := by
    rw [framesF, if_pos h, frames_proc, ep, tag_all (kids_mono kt) (Int.le_refl _) (by simp; omega) (fun k _ => hemp k), tag_nil hemp, List.nil_append]
  rw [fr_evF hr, et]
  have hlen : (evF l (0 :: List.replicate (2 * topF l).toNat (-1)) S).length = 1 + 2 * (topF l).toNat := by
    rw [evF_len]; simp; omega
  have hT0 : (((0 : Int) :: List.replicate (2 * topF l).toNat (-1)).length : Int) = 1 + 2 * topF l := by simp; omega
  have hpr := fun (g : Nat) hg => pr_evF hr (g := g) hg hT0 (kids_ev kt)
  have hz := evF_zero (l := l) (S := S) (T := 0 :: List.replicate (2 * topF l).toNat (-1)) (by simp)
  generalize evF l (0 :: List.replicate (2 * topF l).toNat (-1)) S = T at hlen hpr hz
  have hsl : (spansF l t).length = (topF l).toNat + 1 := by
    rw [spansF, if_pos hr, walk_len]; omega
  have hi := SpI.walk hr (l := l) (t := t) (Nat.le_refl _)
  have h0 := walk_zero hr (l := l) (t := t) t0 (Nat.le_refl _)
  have hE : ∀ x ∈ t, 0 ≤ x.n ∧ x.n < l.length ∧ 0 ≤ x.f ∧ x.f ≤ x.t := fun x hx => by
    have := kt.mem x hx; omega
  have hx0 : (enAt t 0).f = 0 ∧ (enAt t 0).t = w.length := by
    obtain ⟨_, s', e⟩ := hp.head
    rw [e]; exact ⟨rfl, rfl⟩
  rw [mSpansF, if_neg (by omega)]
  refine List.ext_getElem (by simp; omega) fun g g1 g2 => ?_
  simp only [List.getElem_map, List.getElem_range]
  have eg : (spansF l t)[g] = spAt (spansF l t) g := by simp [spAt, List.getD_eq_getElem?_getD, g2]
  rw [eg]
  have es : spansF l t = spWalk l t t.length := by rw [spansF, if_pos hr]
  unfold msAt
  by_cases e : g = 0
  · subst e
    rw [if_pos rfl, hz, es, h0, hx0.1, hx0.2, sp2]
    rw [if_neg (by simp)]; rfl
  · rw [if_neg e]
    have g1' : g < (T.length + 1) / 2 := by simpa using g1
    have hgt : (g : Int) ≤ topF l := by omega
    have hp1 := hpr g ⟨by omega, hgt⟩
    have p0 : prT (0 :: List.replicate (2 * topF l).toNat (-1)) g = (-1, -1) := by
      unfold prT
      obtain ⟨k, rfl⟩ : ∃ k, g = k + 1 := ⟨g - 1, by omega⟩
      rw [show 2 * (k + 1) - 1 = 2 * k + 1 by omega, show 2 * (k + 1) = 2 * k + 1 + 1 by omega]
      simp only [List.getD_cons_succ]
      rw [List.getD_eq_getElem?_getD, List.getD_eq_getElem?_getD, List.getElem?_replicate_of_lt (by omega), List.getElem?_replicate_of_lt (by omega)]; rfl
    have hs : spAt (spansF l t) g = t.foldl (spG l g) (-1, -1) := by
      rw [es, spWalk, List.take_length, sp_fold hr (by omega) (by rw [init_len]; omega) (fun x hx => ⟨(hE x hx).1, (hE x hx).2.1⟩)]
      congr 1
      unfold spInit
      rw [if_neg (by omega), spAt_set (by simp; omega), if_neg (by omega)]
      rw [spAt, List.getD_eq_getElem?_getD, List.getElem?_replicate_of_lt (by omega)]; rfl
    rw [p0, kf, ← hs] at hp1
    have q1 : T.getD (2 * g - 1) 0 = (spAt (spansF l t) g).1 := congrArg Prod.fst hp1
    have q2 : T.getD (2 * g) 0 = (spAt (spansF l t) g).2 := congrArg Prod.snd hp1
    rw [q1, q2]
    rcases hi g (by omega) (by rw [walk_len]; omega) with h | ⟨j, hj, _, _, h⟩
    · rw [es, h]; rfl
    · have hm : enAt t j ∈ t := by
        unfold enAt; rw [List.getD_eq_getElem?_getD, List.getElem?_eq_getElem hj]; exact List.getElem_mem _
      have := hE _ hm
      rw [es, h, sp2, if_neg (by simp only; omega)]

end Go.Proofs.Ytllemobnfpljfaa
