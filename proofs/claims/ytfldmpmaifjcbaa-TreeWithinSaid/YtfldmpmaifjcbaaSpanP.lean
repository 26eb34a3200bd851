/-
  PLAIN: what groups span in a list of entries; each entry lies in the one next above it.
-/
import Derived.Test.YtfldmpmaifjcbaaKidsP
import Derived.Test.YtfldmpmaifjcbaaTree5
import Derived.Test.YtfldmpmaifjcbaaTermR
set_option linter.unusedSimpArgs false
set_option linter.unusedVariables false
namespace Go.Proofs.Ytfldmpmaifjcbaa
open Go Go.Hs

abbrev Sp := Int × Int
def Sp.cs (p : Sp) : List AC := [.im (.int .i64 p.1), .im (.int .i64 p.2)]
def spRows (l : List Sp) : List (List AC) := l.map Sp.cs
def spAt (l : List Sp) (i : Nat) : Sp := l.getD i (0, 0)
theorem length_spRows {l : List Sp} : (spRows l).length = l.length := by simp [spRows]
theorem getS0 {z : AC} {l : List Sp} {i : Nat} (h : i < l.length) : getC z (spRows l) i 0 = .im (.int .i64 (spAt l i).1) := by
  unfold getC spAt
  simp [spRows, Sp.cs, List.getD_eq_getElem?_getD, h]
theorem getS1 {z : AC} {l : List Sp} {i : Nat} (h : i < l.length) : getC z (spRows l) i 1 = .im (.int .i64 (spAt l i).2) := by
  unfold getC spAt
  simp [spRows, Sp.cs, List.getD_eq_getElem?_getD, h]
theorem getSR {z : List AC} {l : List Sp} {i : Nat} (h : i < l.length) : getR z (spRows l) i 0 2 = [.im (.int .i64 (spAt l i).1), .im (.int .i64 (spAt l i).2)] := by
  unfold getR spAt
  simp [spRows, Sp.cs, List.getD_eq_getElem?_getD, h]
theorem getSD {l : List Sp} {i : Nat} (h : i < l.length) : (spRows l).getD i [] = [.im (.int .i64 (spAt l i).1), .im (.int .i64 (spAt l i).2)] := by
  unfold spAt
  simp [spRows, Sp.cs, List.getD_eq_getElem?_getD, h]
theorem setSp {l : List Sp} {i : Nat} {a b : Int} : (spRows l).set i [.im (.int .i64 a), .im (.int .i64 b)] = spRows (l.set i (a, b)) := by
  simp [spRows, Sp.cs, List.map_set]
theorem spSnoc {l : List Sp} {a b : Int} : spRows l ++ [[.im (.int .i64 a), .im (.int .i64 b)]] = spRows (l ++ [(a, b)]) := by
  simp [spRows, Sp.cs]
theorem splice2 {x y a b : AC} : splice [x, y] 0 [a, b] = [a, b] := rfl
theorem spRows_frz {l : List Sp} : AC.frz.frzLL (spRows l) = spRows l := by
  show frzLL _ = _
  rw [frzLL_eq]
  simp [spRows, Sp.cs, frzL_eq, AC.frz]
theorem repSp {n : Nat} : List.replicate n (-1, -1) ++ [((-1 : Int), (-1 : Int))] = List.replicate (n + 1) (-1, -1) := by
  rw [List.replicate_succ']

def unsG (o : List Sp) (g : Int) : List Sp := o.set g.toNat (-1, -1)
def spStep (l : List Tm) (o : List Sp) (x : En) : List Sp :=
  if x.n < 0 ∨ (l.length : Int) ≤ x.n then o
  else if (tAt l x.n.toNat).k = 7 then o.set (tAt l x.n.toNat).n.toNat (x.f, x.t)
  else if (tAt l x.n.toNat).k = 8 then (groupsF l x.n).foldl unsG o
  else o
def spInit (l : List Tm) (t : List En) : List Sp := if t.length = 0 then List.replicate (topF l + 1).toNat (-1, -1) else (List.replicate (topF l + 1).toNat (-1, -1)).set 0 ((enAt t 0).f, (enAt t 0).t)
def spWalk (l : List Tm) (t : List En) (i : Nat) : List Sp := (t.take i).foldl (spStep l) (spInit l t)
def spansF (l : List Tm) (t : List En) : List Sp := if rightF l = true then spWalk l t t.length else []

theorem uns_len {gs : List Int} : ∀ {o : List Sp}, (gs.foldl unsG o).length = o.length := by
  induction gs with
  | nil => intro o; rfl
  | cons g gs ih => intro o; rw [List.foldl_cons, ih, unsG, List.length_set]
theorem step_splen {l : List Tm} {o : List Sp} {x : En} : (spStep l o x).length = o.length := by
  unfold spStep
  split
  · rfl
  · split
    · rw [List.length_set]
    · split
      · exact uns_len
      · rfl
theorem fold_splen {l : List Tm} : ∀ {t : List En} {o : List Sp}, (t.foldl (spStep l) o).length = o.length
  | [], o => rfl
  | x :: t, o => by rw [List.foldl_cons, fold_splen, step_splen]
theorem init_len {l : List Tm} {t : List En} : (spInit l t).length = (topF l + 1).toNat := by
  unfold spInit; split <;> simp
theorem walk_len {l : List Tm} {t : List En} {i : Nat} : (spWalk l t i).length = (topF l + 1).toNat := by
  rw [spWalk, fold_splen, init_len]
theorem walk_succ {l : List Tm} {t : List En} {i : Nat} (h : i < t.length) : spWalk l t (i + 1) = spStep l (spWalk l t i) (enAt t i) := by
  unfold spWalk
  rw [List.take_succ_eq_append_getElem h, List.foldl_append]
  simp [enAt, List.getD_eq_getElem?_getD, h]
theorem take_uns {gs : List Int} {o : List Sp} {i : Nat} (h : i < gs.length) : (gs.take (i + 1)).foldl unsG o = unsG ((gs.take i).foldl unsG o) (gs.getD i 0) := by
  rw [List.take_succ_eq_append_getElem h, List.foldl_append]
  simp [List.getD_eq_getElem?_getD, h]

theorem lastG_ge {ys : List Tm} {m : Nat} (h : ys.any (hasG m) = true) : ∀ {n : Nat}, m < n → (m : Int) ≤ lastG ys n
  | 0, hn => by omega
  | n + 1, hn => by
    simp only [lastG]
    split
    · omega
    · rename_i h2
      have : m ≠ n := fun e => h2 (e ▸ h)
      exact lastG_ge h (by omega)
theorem top_le {l : List Tm} : 0 ≤ topF l ∧ topF l ≤ 9 := by
  unfold topF groupsF
  split
  · rw [lastG_eq]
    have h9 : ∀ ys : List Tm, lastG ys 10 ≤ 9 := by
      intro ys
      show (if ys.any (hasG 9) then ((9 : Nat) : Int) else lastG ys 9) ≤ 9
      have := lastG_le (ys := ys) 9
      split <;> omega
    exact ⟨(lastG_le 10).1, h9 _⟩
  · simp
theorem tm_in {l : List Tm} (hr : rightF l = true) {x : Tm} (hx : x ∈ l) (hk : x.k = 7) : 1 ≤ x.n ∧ x.n ≤ topF l := by
  obtain ⟨i, hi, e⟩ := List.mem_iff_getElem.1 hx
  have e' : tAt l i = x := by simp [tAt, hi, e]
  have h7 := fields7 ((term_of_right hr).fields i hi)
  rw [e'] at h7
  have h7 := h7 hk
  refine ⟨h7.1, ?_⟩
  rw [topF_eq hr]
  have := lastG_ge (ys := l) (m := x.n.toNat) (by
    rw [List.any_eq_true]
    refine ⟨x, hx, ?_⟩
    simp only [hasG, Bool.and_eq_true, beq_iff_eq]
    exact ⟨hk, by omega⟩) (n := 10) (by omega)
  omega
theorem grp_in {l : List Tm} (hr : rightF l = true) {q : Nat} (hq : q < l.length) (hk : (tAt l q).k = 7) : 1 ≤ (tAt l q).n ∧ (tAt l q).n ≤ topF l :=
  tm_in hr (by unfold tAt; rw [List.getD_eq_getElem?_getD, List.getElem?_eq_getElem hq]; exact List.getElem_mem _) hk
theorem gs_in {l : List Tm} (hr : rightF l = true) {q : Int} : ∀ g ∈ groupsF l q, 1 ≤ g ∧ g ≤ topF l := by
  intro g hg
  unfold groupsF at hg
  split at hg
  · unfold groupsN at hg
    obtain ⟨n, hn, rfl⟩ := List.mem_map.1 hg
    obtain ⟨h1, h2⟩ := List.mem_filter.1 hn
    obtain ⟨x, hx, h3⟩ := List.any_eq_true.1 h2
    simp only [hasG, Bool.and_eq_true, beq_iff_eq] at h3
    have hxl : x ∈ l := by
      unfold nodesF at hx
      rw [ex_eq] at hx
      exact List.mem_of_mem_drop (List.mem_of_mem_take hx)
    have := tm_in hr hxl h3.1
    omega
  · cases hg
theorem gs_at {l : List Tm} (hr : rightF l = true) {q : Int} {i : Nat} (hi : i < (groupsF l q).length) : 1 ≤ (groupsF l q).getD i 0 ∧ (groupsF l q).getD i 0 ≤ topF l :=
  gs_in hr _ (by rw [List.getD_eq_getElem?_getD, List.getElem?_eq_getElem hi]; exact List.getElem_mem _)

/-! Each entry lies in the one next above it. -/
theorem kids_near {n : Nat} {d a b : Int} {s : List En} {S : List (Int × Int)} (h : Kids n d a b s S) : ∀ (x : En) (m : List En), x.d = d → x.f ≤ a → b ≤ x.t → (∀ z ∈ m, d + 1 ≤ z.d) → ∀ s1 y s2, s = s1 ++ y :: s2 →
    ∃ u k v, x :: (m ++ s1) = u ++ k :: v ∧ k.d + 1 = y.d ∧ k.f ≤ y.f ∧ y.t ≤ k.t ∧ ∀ z ∈ v, y.d ≤ z.d := by
  induction h with
  | nil h => intro x m _ _ _ _ s1 y s2 e; simp at e
  | @cons d a b y0 A B SA SB hd hn ha hf h1 h2 i1 i2 =>
    intro x m hx hxa hxb hm s1 y s2 e
    have l2 := h2.le
    cases s1 with
    | nil =>
      simp only [List.nil_append, List.cons.injEq] at e
      obtain ⟨rfl, _⟩ := e
      exact ⟨[], x, m, by simp, by omega, by omega, by omega, fun z hz => by have := hm z hz; omega⟩
    | cons z0 s1 =>
      simp only [List.cons_append, List.cons.injEq] at e
      obtain ⟨rfl, e⟩ := e
      rcases List.append_eq_append_iff.1 e with ⟨c, e1, e2⟩ | ⟨c, e1, e2⟩
      · obtain ⟨u, k, v, g1, g2, g3, g4, g5⟩ := i2 x (m ++ y0 :: A) hx (by omega) hxb (by
          intro z hz
          rcases List.mem_append.1 hz with hz | hz
          · exact hm z hz
          · rcases List.mem_cons.1 hz with rfl | hz
            · omega
            · have := (h1.mem z hz).1; omega) c y s2 e2
        refine ⟨u, k, v, ?_, g2, g3, g4, g5⟩
        rw [← g1, e1]; simp
      · cases c with
        | nil =>
          simp only [List.append_nil, List.nil_append] at e1 e2
          obtain ⟨u, k, v, g1, g2, g3, g4, g5⟩ := i2 x (m ++ y0 :: A) hx (by omega) hxb (by
            intro z hz
            rcases List.mem_append.1 hz with hz | hz
            · exact hm z hz
            · rcases List.mem_cons.1 hz with rfl | hz
              · omega
              · have := (h1.mem z hz).1; omega) [] y s2 e2.symm
          refine ⟨u, k, v, ?_, g2, g3, g4, g5⟩
          rw [← g1, ← e1]; simp
        | cons c0 c =>
          simp only [List.cons_append, List.cons.injEq] at e2
          obtain ⟨rfl, e2⟩ := e2
          obtain ⟨u, k, v, g1, g2, g3, g4, g5⟩ := i1 y0 [] (by omega) (by omega) (by omega) (by simp) s1 y c e1
          refine ⟨x :: (m ++ u), k, v, ?_, g2, g3, g4, g5⟩
          simp only [List.nil_append] at g1
          simp [g1]

/-- The entry next above entry i. -/
theorem tree_near {l : List Tm} {w : List Int} {t : List En} (h : tRight l w t = true) {i : Nat} (h0 : 1 ≤ i) (hi : i < t.length) :
    ∃ k, k < i ∧ (enAt t k).d + 1 = (enAt t i).d ∧ (enAt t k).f ≤ (enAt t i).f ∧ (enAt t i).t ≤ (enAt t k).t ∧ ∀ j, k < j → j < i → (enAt t i).d ≤ (enAt t j).d := by
  obtain ⟨hr, x, s, S, rfl, g1, g2, g3, g4, g5, g6⟩ := tree_kids h
  obtain ⟨i, rfl⟩ : ∃ m, i = m + 1 := ⟨i - 1, by omega⟩
  simp only [List.length_cons, Nat.add_lt_add_iff_right] at hi
  have e : s = s.take i ++ s[i] :: s.drop (i + 1) := by
    rw [← List.drop_eq_getElem_cons hi, List.take_append_drop]
  have ey : enAt (x :: s) (i + 1) = s[i] := by simp [enAt, List.getD_eq_getElem?_getD, hi]
  obtain ⟨u, k, v, e1, k1, k2, k3, k4⟩ := kids_near g6 x [] g1 (by omega) (by omega) (by simp) _ _ _ e
  simp only [List.nil_append] at e1
  have hlen : u.length + v.length = i := by
    have := congrArg List.length e1
    simp at this
    omega
  have eat : ∀ j, j < i + 1 → enAt (x :: s) j = enAt (u ++ k :: v) j := by
    intro j hj
    rw [← e1]
    cases j with
    | zero => rfl
    | succ j =>
      simp only [enAt, List.getD_eq_getElem?_getD, List.getElem?_cons_succ]
      rw [List.getElem?_take, if_pos (by omega)]
  refine ⟨u.length, by omega, ?_⟩
  rw [eat u.length (by omega), ey]
  have ek : enAt (u ++ k :: v) u.length = k := by simp [enAt, List.getD_eq_getElem?_getD]
  rw [ek]
  refine ⟨k1, k2, k3, fun j hj1 hj2 => ?_⟩
  rw [eat j hj2]
  refine k4 _ ?_
  have : enAt (u ++ k :: v) j = v.getD (j - u.length - 1) En.z := by
    simp only [enAt, List.getD_eq_getElem?_getD]
    rw [List.getElem?_append_right (by omega)]
    rw [show j - u.length = (j - u.length - 1) + 1 by omega, List.getElem?_cons_succ]
    simp
  rw [this, List.getD_eq_getElem?_getD, List.getElem?_eq_getElem (by omega)]
  exact List.getElem_mem _

/-! What a group spans is nothing, or what an entry of it does. -/
theorem spAt_set {o : List Sp} {i j : Nat} {p : Sp} (h : j < o.length) : spAt (o.set i p) j = if i = j then p else spAt o j := by
  unfold spAt
  simp only [List.getD_eq_getElem?_getD, List.getElem?_set]
  by_cases e : i = j
  · subst e; simp [h]
  · simp [e]
def SpI (l : List Tm) (t : List En) (i : Nat) (o : List Sp) : Prop := ∀ g, 1 ≤ g → g < o.length → spAt o g = (-1, -1) ∨ ∃ j, j < i ∧ (tAt l (enAt t j).n.toNat).k = 7 ∧ (tAt l (enAt t j).n.toNat).n = g ∧ spAt o g = ((enAt t j).f, (enAt t j).t)
theorem SpI.uns {l : List Tm} {t : List En} {i : Nat} : ∀ {gs : List Int} {o : List Sp}, SpI l t i o → SpI l t i (gs.foldl unsG o)
  | [], o, h => h
  | g :: gs, o, h => by
    rw [List.foldl_cons]
    refine SpI.uns ?_
    intro j h1 h2
    rw [unsG, List.length_set] at h2
    rw [unsG, spAt_set h2]
    by_cases e : g.toNat = j
    · rw [if_pos e]; exact .inl rfl
    · rw [if_neg e]; exact h j h1 h2
theorem SpI.walk {l : List Tm} {t : List En} (hr : rightF l = true) : ∀ {i : Nat}, i ≤ t.length → SpI l t i (spWalk l t i)
  | 0, _ => by
    intro g h1 h2
    refine .inl ?_
    rw [walk_len] at h2
    show spAt (spInit l t) g = _
    unfold spInit
    split
    · simp [spAt, List.getD_eq_getElem?_getD, h2]
    · rw [spAt_set (by simpa using h2), if_neg (by omega)]
      simp [spAt, List.getD_eq_getElem?_getD, h2]
  | i + 1, hi => by
    have ih := SpI.walk hr (l := l) (t := t) (i := i) (by omega)
    have ih' : SpI l t (i + 1) (spWalk l t i) := by
      intro g h1 h2
      rcases ih g h1 h2 with h | ⟨j, hj, h⟩
      · exact .inl h
      · exact .inr ⟨j, by omega, h⟩
    rw [walk_succ (by omega)]
    unfold spStep
    split
    · exact ih'
    · rename_i hn
      split
      · rename_i h7
        have hin := grp_in hr (q := (enAt t i).n.toNat) (by omega) h7
        intro g h1 h2
        rw [List.length_set] at h2
        rw [spAt_set h2]
        by_cases e : (tAt l (enAt t i).n.toNat).n.toNat = g
        · rw [if_pos e]
          exact .inr ⟨i, by omega, h7, by omega, rfl⟩
        · rw [if_neg e]; exact ih' g h1 h2
      · split
        · exact ih'.uns
        · exact ih'
theorem walk_zero {l : List Tm} {t : List En} (hr : rightF l = true) (h0 : 0 < t.length) : ∀ {i : Nat}, i ≤ t.length → spAt (spWalk l t i) 0 = ((enAt t 0).f, (enAt t 0).t)
  | 0, _ => by
    have := top_le (l := l)
    show spAt (spInit l t) 0 = _
    rw [spInit, if_neg (by omega), spAt_set (by simp; omega), if_pos rfl]
  | i + 1, hi => by
    have ih := walk_zero hr (l := l) (t := t) h0 (i := i) (by omega)
    have tl := top_le (l := l)
    have hlen := walk_len (l := l) (t := t) (i := i)
    rw [walk_succ (by omega)]
    unfold spStep
    split
    · exact ih
    · rename_i hn
      split
      · rename_i h7
        have hin := grp_in hr (q := (enAt t i).n.toNat) (by omega) h7
        rw [spAt_set (by omega), if_neg (by omega), ih]
      · split
        · have : ∀ (gs : List Int) (o : List Sp), (∀ g ∈ gs, 1 ≤ g) → 0 < o.length → spAt (gs.foldl unsG o) 0 = spAt o 0 := by
            intro gs
            induction gs with
            | nil => intro o _ _; rfl
            | cons g gs ih2 =>
              intro o hg ho
              have hg0 := hg g (List.mem_cons_self ..)
              rw [List.foldl_cons, ih2 _ (fun g hg' => hg g (List.mem_cons_of_mem _ hg')) (by rw [unsG, List.length_set]; exact ho), unsG, spAt_set ho, if_neg (by omega)]
          rw [this _ _ (fun g hg => (gs_in hr g hg).1) (by omega), ih]
        · exact ih

end Go.Proofs.Ytfldmpmaifjcbaa
