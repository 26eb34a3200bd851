/-
  PLAIN: what opens and closes in a parse tree makes it again.
-/
import Derived.Test.YtfldmpmaifjcbaaKidsP
import Derived.Test.YtfldmpmaifjcbaaTree7
set_option linter.unusedSimpArgs false
set_option linter.unusedVariables false
namespace Go.Proofs.Ytfldmpmaifjcbaa
open Go Go.Hs

def closesS (deep : Int) : List En → List (Int × Int) × List En
  | [] => ([], [])
  | x :: st => if deep ≤ x.d then ((x.t, 2 * x.n + 1) :: (closesS deep st).1, (closesS deep st).2) else ([], x :: st)
def procS : List En → List En → List (Int × Int)
  | [], st => (closesS 0 st).1
  | x :: t, st => (closesS x.d st).1 ++ (x.f, 2 * x.n) :: procS t (x :: (closesS x.d st).2)
def addAll (o : List (List Int)) (L : List (Int × Int)) : List (List Int) := L.foldl (fun o p => addO o p.1.toNat p.2) o
theorem addAll_app {o : List (List Int)} {A B : List (Int × Int)} : addAll o (A ++ B) = addAll (addAll o A) B := List.foldl_append
theorem addAll_len {A : List (Int × Int)} : ∀ {o : List (List Int)}, (addAll o A).length = o.length := by
  induction A with
  | nil => intro o; rfl
  | cons p A ih => intro o; exact (ih (o := addO o p.1.toNat p.2)).trans addO_length
theorem shut_closes {deep : Int} : ∀ {st : List En} {o : List (List Int)}, shutF deep st o = ((closesS deep st).2, addAll o (closesS deep st).1)
  | [], _ => rfl
  | x :: st, o => by
    unfold shutF closesS
    split
    · exact shut_closes
    · rfl
theorem frames_proc : ∀ {t st : List En} {o : List (List Int)}, framesL t st o = addAll o (procS t st)
  | [], st, o => by rw [framesL, procS, shut_closes]
  | x :: t, st, o => by
    rw [framesL, procS, shut_closes, frames_proc, addAll_app]; rfl
theorem closes_none {deep : Int} {st : List En} (h : ∀ y ∈ st, y.d < deep) : closesS deep st = ([], st) := by
  cases st with
  | nil => rfl
  | cons x st => rw [closesS, if_neg (by have := h x (List.mem_cons_self ..); omega)]
theorem kids_head {n : Nat} {d a b : Int} {s : List En} {S : List (Int × Int)} (h : Kids n d a b s S) {rest : List En} (hr : ∀ y r, rest = y :: r → y.d ≤ d + 1) : ∀ y r, s ++ rest = y :: r → y.d ≤ d + 1 := by
  intro y r e
  cases h with
  | nil h => exact hr y r e
  | cons hd hn ha hf h1 h2 =>
    simp only [List.cons_append, List.cons.injEq] at e
    rw [← e.1]; omega
theorem proc_kids {n : Nat} {d a b : Int} {s : List En} {S : List (Int × Int)} (h : Kids n d a b s S) : 0 ≤ d → ∀ (st rest : List En), (∀ y ∈ st, y.d ≤ d) → (∀ y r, rest = y :: r → y.d ≤ d + 1) → procS (s ++ rest) st = S ++ procS rest st := by
  induction h with
  | nil h => intro _ st rest _ _; rfl
  | @cons d a b x s1 s2 S1 S2 hd hn ha hf h1 h2 i1 i2 =>
    intro d0 st rest hst hrest
    have hh := kids_head h2 hrest
    have key : procS (s2 ++ rest) (x :: st) = (x.t, 2 * x.n + 1) :: procS (s2 ++ rest) st := by
      generalize s2 ++ rest = q at hh
      cases q with
      | nil => rw [procS, procS, closesS, if_pos (by omega)]
      | cons y r =>
        have := hh y r rfl
        rw [procS, procS, closesS, if_pos (by omega)]; rfl
    rw [List.cons_append, procS, closes_none (fun y hy => by have := hst y hy; omega), List.nil_append, List.append_assoc]
    simp only []
    rw [i1 (by omega) (x :: st) (s2 ++ rest) (fun y hy => by
      rcases List.mem_cons.1 hy with rfl | hy
      · omega
      · have := hst y hy; omega) (fun y r e => by have := hh y r e; omega), key, i2 d0 st rest hst hrest]
    simp

def runS : List (Int × Int) → List En → List Nat → Bool × List En × List Nat
  | [], out, op => (true, out, op)
  | p :: S, out, op => if (stepF p.2 p.1 out op).1 = true then runS S (stepF p.2 p.1 out op).2.1 (stepF p.2 p.1 out op).2.2 else (false, [], [])
theorem step_open {n f : Int} {out : List En} {op : List Nat} (hn : 0 ≤ n) (h : ¬ (op = [] ∧ out ≠ [])) : stepF (2 * n) f out op = (true, out ++ [⟨((op.length + 1 : Nat) : Int), n, f, 0⟩], out.length :: op) := by
  unfold stepF
  rw [if_neg (by rintro (g | g); omega; exact h g), if_pos (by omega), show 2 * n / 2 = n by omega]
theorem step_close {n f : Int} {out : List En} {op : List Nat} {j : Nat} (hn : 0 ≤ n) (hj : (enAt out j).n = n) : stepF (2 * n + 1) f out (j :: op) = (true, out.set j ⟨(enAt out j).d, (enAt out j).n, (enAt out j).f, f⟩, op) := by
  unfold stepF
  rw [if_neg (by rintro (g | g); omega; cases g.1), if_neg (by omega), show (2 * n + 1) / 2 = n by omega]
  simp [hj]
theorem enAt_mid {out s : List En} {x : En} : enAt (out ++ [x] ++ s) out.length = x := by
  unfold enAt
  rw [List.getD_eq_getElem?_getD, List.append_assoc, List.getElem?_append_right (Nat.le_refl _)]
  simp
theorem set_mid {out s : List En} {x y : En} : (out ++ [x] ++ s).set out.length y = out ++ [y] ++ s := by simp
theorem run_kids {n : Nat} {d a b : Int} {s : List En} {S : List (Int × Int)} (h : Kids n d a b s S) : ∀ (out : List En) (op : List Nat) (R : List (Int × Int)), op ≠ [] → (op.length : Int) = d → runS (S ++ R) out op = runS R (out ++ s) op := by
  induction h with
  | nil h => intro out op R _ _; simp
  | @cons d a b x s1 s2 S1 S2 hd hn ha hf h1 h2 i1 i2 =>
    intro out op R hop hl
    rw [List.cons_append, runS]
    simp only []
    rw [step_open hn.1 (fun h => hop h.1), if_pos rfl, List.append_assoc]
    simp only []
    rw [i1 _ (out.length :: op) _ (by simp) (by simp; omega), List.cons_append, runS]
    simp only []
    rw [step_close hn.1 (by rw [enAt_mid]), if_pos rfl, enAt_mid]
    simp only []
    rw [set_mid, i2 _ op R hop hl]
    have ex : (⟨((op.length + 1 : Nat) : Int), x.n, x.f, x.t⟩ : En) = x := by
      rw [show ((op.length + 1 : Nat) : Int) = x.d by omega]
    rw [ex]
    simp
theorem run_tree {n : Nat} {b : Int} {x : En} {s : List En} {S : List (Int × Int)} (hd : x.d = 1) (hn : 0 ≤ x.n) (h1 : Kids n 1 x.f x.t s S) : runS ((x.f, 2 * x.n) :: (S ++ [(x.t, 2 * x.n + 1)])) [] [] = (true, x :: s, []) := by
  rw [runS]
  simp only []
  rw [step_open hn (fun h => h.2 rfl), if_pos rfl]
  simp only []
  rw [run_kids h1 _ _ _ (by simp) (by simp), runS]
  simp only []
  have e := enAt_mid (out := []) (s := s) (x := ⟨(([] : List Nat).length + 1 : Nat), x.n, x.f, 0⟩)
  rw [step_close hn (by rw [e]), if_pos rfl, e]
  simp only []
  rw [set_mid, runS]
  have ex : (⟨((([] : List Nat).length + 1 : Nat) : Int), x.n, x.f, x.t⟩ : En) = x := by
    rw [show ((([] : List Nat).length + 1 : Nat) : Int) = x.d by rw [hd]; rfl]
  rw [ex]; rfl

def tag : Nat → List (List Int) → List (Int × Int)
  | _, [] => []
  | i, f :: fs => f.map (fun s => ((i : Int), s)) ++ tag (i + 1) fs
theorem row_run {i : Int} : ∀ {f : List Int} {out : List En} {op : List Nat}, ofRow i f out op = runS (f.map fun s => (i, s)) out op
  | [], _, _ => rfl
  | s :: f, out, op => by
    rw [ofRow, List.map_cons, runS]
    split
    · exact row_run
    · rfl
theorem run_app : ∀ {A B : List (Int × Int)} {out : List En} {op : List Nat}, runS (A ++ B) out op = if (runS A out op).1 = true then runS B (runS A out op).2.1 (runS A out op).2.2 else (false, [], [])
  | [], B, out, op => by rw [List.nil_append, runS, if_pos rfl]
  | p :: A, B, out, op => by
    rw [List.cons_append, runS, runS]
    split
    · exact run_app
    · rw [if_neg (by simp)]
theorem tag_ne {fs : List (List Int)} : ∀ {i : Nat}, fs ≠ [] → fs.getD (fs.length - 1) [] ≠ [] → tag i fs ≠ [] := by
  induction fs with
  | nil => intro i h; exact absurd rfl h
  | cons f fs ih =>
    intro i _ h
    rw [tag]
    cases fs with
    | nil =>
      simp at h
      simp [tag, h]
    | cons g r =>
      have := ih (i := i + 1) (by simp) (by simpa using h)
      intro h2
      exact this (List.append_eq_nil_iff.1 h2).2
theorem run_first {S : List (Int × Int)} {out : List En} {op : List Nat} (hS : S ≠ []) (h : (runS S out op).1 = true) : ¬ (0 < out.length ∧ op.length = 0) := by
  cases S with
  | nil => exact absurd rfl hS
  | cons p S =>
    rintro ⟨h1, h2⟩
    have h3 : stepF p.2 p.1 out op = (false, out, op) := by
      unfold stepF
      rw [if_pos (.inr ⟨List.length_eq_zero_iff.1 h2, fun h => by rw [h] at h1; simp at h1⟩)]
    rw [runS, h3, if_neg (by simp)] at h
    cases h
theorem ofRows_run {n : Nat} : ∀ {fs : List (List Int)} {i : Nat} {out : List En} {op : List Nat}, i + fs.length = n → (runS (tag i fs) out op).1 = true → (fs ≠ [] → fs.getD (fs.length - 1) [] ≠ []) → ofRows n i fs out op = runS (tag i fs) out op := by
  intro fs
  induction fs with
  | nil => intro i out op _ _ _; rfl
  | cons f fs ih =>
    intro i out op hn h hl
    rw [tag, run_app, ← row_run] at h ⊢
    by_cases c : (ofRow (i : Int) f out op).1 = true
    · rw [if_pos c] at h ⊢
      have hl2 : fs ≠ [] → fs.getD (fs.length - 1) [] ≠ [] := by
        intro hne
        cases fs with
        | nil => exact absurd rfl hne
        | cons g r => simpa using hl (by simp)
      have hg : ¬ (0 < (ofRow (i : Int) f out op).2.1.length ∧ (ofRow (i : Int) f out op).2.2.length = 0 ∧ i + 1 < n) := by
        rintro ⟨g1, g2, g3⟩
        have hne : fs ≠ [] := by intro h0; rw [h0] at hn; simp at hn; omega
        exact run_first (tag_ne hne (hl2 hne)) h ⟨g1, g2⟩
      rw [ofRows, if_pos ⟨c, hg⟩]
      exact ih (by simp at hn; omega) h hl2
    · rw [if_neg c] at h
      cases h

def Mono (b : Int) : Int → List (Int × Int) → Prop
  | a, [] => a ≤ b
  | a, p :: S => a ≤ p.1 ∧ Mono b p.1 S
theorem Mono.le {b : Int} : ∀ {a : Int} {S : List (Int × Int)}, Mono b a S → a ≤ b
  | _, [], h => h
  | _, _ :: _, h => Int.le_trans h.1 (Mono.le h.2)
theorem Mono.wk {a a' b : Int} (h : a' ≤ a) : ∀ {S : List (Int × Int)}, Mono b a S → Mono b a' S
  | [], g => Int.le_trans h g
  | _ :: _, g => ⟨Int.le_trans h g.1, g.2⟩
theorem Mono.app {b c : Int} {T : List (Int × Int)} (g : Mono c b T) : ∀ {a : Int} {S : List (Int × Int)}, Mono b a S → Mono c a (S ++ T)
  | _, [], h => g.wk h
  | _, _ :: _, h => ⟨h.1, Mono.app g h.2⟩
theorem kids_mono {n : Nat} {d a b : Int} {s : List En} {S : List (Int × Int)} (h : Kids n d a b s S) : Mono b a S := by
  induction h with
  | nil h => exact h
  | @cons d a b x s1 s2 S1 S2 hd hn ha hf h1 h2 i1 i2 =>
    have h3 : Mono b x.t ((x.t, 2 * x.n + 1) :: S2) := ⟨Int.le_refl _, i2⟩
    exact ⟨ha, Mono.app h3 i1⟩
theorem tag_nil : ∀ {o : List (List Int)} {i : Nat}, (∀ k, o.getD k [] = []) → tag i o = []
  | [], _, _ => rfl
  | f :: o, i, h => by
    have h0 := h 0
    simp at h0
    rw [tag, h0, tag_nil (fun k => by have := h (k + 1); simpa using this)]; rfl
theorem tag_add {v : Int} : ∀ {o : List (List Int)} {i p : Nat}, i ≤ p → p < i + o.length → (∀ k, p < i + k → o.getD k [] = []) → tag i (addO o (p - i) v) = tag i o ++ [((p : Int), v)]
  | [], i, p, h1, h2, _ => by simp at h2; omega
  | f :: o, i, p, h1, h2, h3 => by
    by_cases e : p = i
    · subst e
      rw [Nat.sub_self, show addO (f :: o) 0 v = (f ++ [v]) :: o from rfl, tag, tag, tag_nil (o := o) (fun k => by have := h3 (k + 1) (by omega); simpa using this)]
      simp
    · obtain ⟨k, hk⟩ : ∃ k, p - i = k + 1 := ⟨p - i - 1, by omega⟩
      have ea : addO (f :: o) (k + 1) v = f :: addO o k v := by simp [addO]
      have ek : k = p - (i + 1) := by omega
      rw [hk, ea, tag, tag, ek, tag_add (by omega) (by simp at h2; omega) (fun k hk => by have := h3 (k + 1) (by omega); simpa using this), List.append_assoc]
theorem addO_other {o : List (List Int)} {i k : Nat} {v : Int} (h : k ≠ i) : (addO o i v).getD k [] = o.getD k [] := by
  unfold addO
  rw [List.getD_eq_getElem?_getD, List.getElem?_set_ne (fun e => h e.symm), ← List.getD_eq_getElem?_getD]
theorem tag_all {b : Int} : ∀ {S : List (Int × Int)} {o : List (List Int)} {a : Int}, Mono b a S → 0 ≤ a → b < o.length → (∀ k : Nat, a < k → o.getD k [] = []) → tag 0 (addAll o S) = tag 0 o ++ S
  | [], o, a, _, _, _, _ => by rw [List.append_nil]; rfl
  | p :: S, o, a, h, ha, hb, hk => by
    have hp : a ≤ p.1 := h.1
    have hpb := Mono.le h.2
    have e1 := tag_add (v := p.2) (o := o) (i := 0) (p := p.1.toNat) (Nat.zero_le _) (by omega) (fun k hk2 => hk k (by omega))
    rw [Nat.sub_zero, Int.toNat_of_nonneg (by omega)] at e1
    show tag 0 (addAll (addO o p.1.toNat p.2) S) = _
    rw [tag_all h.2 (by omega) (by rw [addO_length]; exact hb) (fun k hk2 => by rw [addO_other (by omega)]; exact hk k (by omega)), e1, List.append_assoc]
    rfl

/-- **THE TREE AGAIN.** -/
theorem of_frames {l : List Tm} {w : List Int} {t : List En} (h : tRight l w t = true) : ofF (framesF l w t) = (true, t) := by
  obtain ⟨hr, x, s, S, rfl, g1, g2, g3, g4, g5, g6⟩ := tree_kids h
  have kt : Kids l.length 0 0 w.length (x :: (s ++ [])) ((x.f, 2 * x.n) :: (S ++ (x.t, 2 * x.n + 1) :: [])) :=
    .cons (by omega) ⟨g2, g3⟩ (by omega) (by omega) (by rw [g4, g5]; exact g6) (.nil (by omega))
  rw [List.append_nil] at kt
  have k1 : Kids l.length 1 x.f x.t s S := by rw [g4, g5]; exact g6
  have ep : procS (x :: s) [] = (x.f, 2 * x.n) :: (S ++ [(x.t, 2 * x.n + 1)]) := by
    have := proc_kids kt (by omega) [] [] (fun y h => by cases h) (fun y r h => by cases h)
    rw [List.append_nil] at this
    rw [this]
    exact List.append_nil _
  have eF : framesF l w (x :: s) = addAll (List.replicate (w.length + 1) []) ((x.f, 2 * x.n) :: (S ++ [(x.t, 2 * x.n + 1)])) := by rw [framesF, if_pos h, frames_proc, ep]
  have hemp : ∀ k : Nat, (List.replicate (w.length + 1) ([] : List Int)).getD k [] = [] := by
    intro k
    by_cases hk : k < w.length + 1
    · rw [List.getD_eq_getElem?_getD, List.getElem?_replicate_of_lt hk]; rfl
    · rw [List.getD_eq_getElem?_getD, List.getElem?_eq_none (by simpa using hk)]; rfl
  have et : tag 0 (framesF l w (x :: s)) = (x.f, 2 * x.n) :: (S ++ [(x.t, 2 * x.n + 1)]) := by
    rw [eF, tag_all (kids_mono kt) (Int.le_refl _) (by simp; omega) (fun k _ => hemp k), tag_nil hemp, List.nil_append]
  have hlen : (framesF l w (x :: s)).length = w.length + 1 := by rw [eF, addAll_len]; simp
  have hlast : (framesF l w (x :: s)).getD ((framesF l w (x :: s)).length - 1) [] ≠ [] := by
    rw [hlen, eF, ← List.cons_append, addAll_app]
    show (addO (addAll _ _) x.t.toNat _).getD (w.length + 1 - 1) [] ≠ []
    rw [show w.length + 1 - 1 = x.t.toNat by omega]
    unfold addO
    rw [List.getD_eq_getElem?_getD, List.getElem?_set_self (by rw [addAll_len]; simp; omega)]
    simp
  have er := run_tree (b := 0) g1 g2 k1
  have e0 : ofRows (framesF l w (x :: s)).length 0 (framesF l w (x :: s)) [] [] = (true, x :: s, []) := by
    rw [ofRows_run (by omega) (by rw [et, er]) (fun _ => hlast), et, er]
  rw [ofF, e0, if_pos ⟨rfl, by simp, rfl⟩]

theorem closes_len {deep : Int} : ∀ {st : List En}, (closesS deep st).1.length + (closesS deep st).2.length = st.length
  | [] => rfl
  | x :: st => by
    unfold closesS
    split
    · have := closes_len (deep := deep) (st := st)
      simp; omega
    · simp
theorem proc_len : ∀ {t st : List En}, (procS t st).length ≤ 2 * t.length + st.length
  | [], st => by
    have := closes_len (deep := 0) (st := st)
    rw [procS]; simp; omega
  | x :: t, st => by
    have := closes_len (deep := x.d) (st := st)
    have h := proc_len (t := t) (st := x :: (closesS x.d st).2)
    rw [procS]
    simp at h ⊢; omega
theorem closes_mem {deep : Int} : ∀ {st : List En}, (∀ p ∈ (closesS deep st).1, ∃ x ∈ st, p.2 = 2 * x.n + 1) ∧ ∀ y ∈ (closesS deep st).2, y ∈ st
  | [] => ⟨fun p h => (by cases h), fun y h => h⟩
  | x :: st => by
    unfold closesS
    have ih := closes_mem (deep := deep) (st := st)
    split
    · refine ⟨fun p h => ?_, fun y h => List.mem_cons_of_mem _ (ih.2 y h)⟩
      rcases List.mem_cons.1 h with rfl | h
      · exact ⟨x, List.mem_cons_self .., rfl⟩
      · obtain ⟨y, hy, e⟩ := ih.1 p h
        exact ⟨y, List.mem_cons_of_mem _ hy, e⟩
    · exact ⟨fun p h => (by cases h), fun y h => h⟩
theorem proc_mem : ∀ {t st : List En}, ∀ p ∈ procS t st, ∃ x, (x ∈ t ∨ x ∈ st) ∧ (p.2 = 2 * x.n ∨ p.2 = 2 * x.n + 1)
  | [], st, p, h => by
    rw [procS] at h
    obtain ⟨x, hx, e⟩ := closes_mem.1 p h
    exact ⟨x, .inr hx, .inr e⟩
  | y :: t, st, p, h => by
    rw [procS] at h
    rcases List.mem_append.1 h with h | h
    · obtain ⟨x, hx, e⟩ := closes_mem.1 p h
      exact ⟨x, .inr hx, .inr e⟩
    · rcases List.mem_cons.1 h with rfl | h
      · exact ⟨y, .inl (List.mem_cons_self ..), .inl rfl⟩
      · obtain ⟨x, hx, e⟩ := proc_mem p h
        refine ⟨x, ?_, e⟩
        rcases hx with hx | hx
        · exact .inl (List.mem_cons_of_mem _ hx)
        · rcases List.mem_cons.1 hx with rfl | hx
          · exact .inl (List.mem_cons_self ..)
          · exact .inr (closes_mem.2 x hx)
theorem sum_set : ∀ {o : List (List Int)} {i : Nat} {v : Int}, ((addO o i v).map List.length).sum ≤ (o.map List.length).sum + 1
  | [], i, v => by simp [addO]
  | f :: o, 0, v => by simp [addO]; omega
  | f :: o, i + 1, v => by
    have := sum_set (o := o) (i := i) (v := v)
    have e : addO (f :: o) (i + 1) v = f :: addO o i v := by simp [addO]
    rw [e]; simp only [List.map_cons, List.sum_cons]; omega
theorem addAll_sum : ∀ {S : List (Int × Int)} {o : List (List Int)}, ((addAll o S).map List.length).sum ≤ (o.map List.length).sum + S.length
  | [], o => Nat.le_refl _
  | p :: S, o => by
    have h1 := addAll_sum (S := S) (o := addO o p.1.toNat p.2)
    have h2 := sum_set (o := o) (i := p.1.toNat) (v := p.2)
    show ((addAll (addO o p.1.toNat p.2) S).map List.length).sum ≤ _
    simp only [List.length_cons]; omega
theorem addO_mem {o : List (List Int)} {i : Nat} {v x : Int} {r : List Int} (h : r ∈ addO o i v) (hx : x ∈ r) : (∃ r' ∈ o, x ∈ r') ∨ x = v := by
  unfold addO at h
  rcases List.mem_or_eq_of_mem_set h with h | h
  · exact .inl ⟨r, h, hx⟩
  · rw [h] at hx
    rcases List.mem_append.1 hx with hx | hx
    · by_cases hi : i < o.length
      · rw [List.getD_eq_getElem?_getD, List.getElem?_eq_getElem hi] at hx
        exact .inl ⟨_, List.getElem_mem hi, hx⟩
      · rw [List.getD_eq_getElem?_getD, List.getElem?_eq_none (by omega)] at hx
        cases hx
    · exact .inr (by simpa using hx)
theorem addAll_mem : ∀ {S : List (Int × Int)} {o : List (List Int)} {r : List Int} {x : Int}, r ∈ addAll o S → x ∈ r → (∃ r' ∈ o, x ∈ r') ∨ ∃ p ∈ S, x = p.2
  | [], o, r, x, h, hx => .inl ⟨r, h, hx⟩
  | p :: S, o, r, x, h, hx => by
    rcases addAll_mem (S := S) (o := addO o p.1.toNat p.2) h hx with ⟨r', h1, h2⟩ | ⟨q, h1, h2⟩
    · rcases addO_mem h1 h2 with h3 | h3
      · exact .inl h3
      · exact .inr ⟨p, List.mem_cons_self .., h3⟩
    · exact .inr ⟨q, List.mem_cons_of_mem _ h1, h2⟩
theorem sum_rep {n : Nat} : ((List.replicate n ([] : List Int)).map List.length).sum = 0 := by simp
theorem frames_len {l : List Tm} {w : List Int} {t : List En} : (framesF l w t).length ≤ w.length + 1 ∧ (0 < (framesF l w t).length → tRight l w t = true) := by
  unfold framesF
  split
  · rename_i h
    rw [frames_proc, addAll_len]
    exact ⟨by simp, fun _ => h⟩
  · exact ⟨by simp, fun h => by simp at h⟩
theorem frames_sum {l : List Tm} {w : List Int} {t : List En} : ((framesF l w t).map List.length).sum ≤ 2 * t.length := by
  unfold framesF
  split
  · rw [frames_proc]
    have h1 := addAll_sum (S := procS t []) (o := List.replicate (w.length + 1) [])
    have h2 := proc_len (t := t) (st := [])
    rw [sum_rep] at h1
    simp at h2; omega
  · simp
theorem frames_in {l : List Tm} {w : List Int} {t : List En} (hl : l.length ≤ 1000) : ∀ r ∈ framesF l w t, ∀ x ∈ r, in64 x := by
  intro r hr x hx
  unfold framesF at hr
  split at hr
  · rename_i h
    have hE := tree_ok h hl
    rw [frames_proc] at hr
    rcases addAll_mem hr hx with ⟨r', h1, h2⟩ | ⟨p, h1, h2⟩
    · rw [List.mem_replicate] at h1
      rw [h1.2] at h2; cases h2
    · obtain ⟨y, hy, e⟩ := proc_mem p h1
      have hy : y ∈ t := hy.elim id (fun h => by cases h)
      obtain ⟨_, n0, n1, _, _, _⟩ := hE y hy
      unfold in64
      omega
  · cases hr
theorem ofRow_len {i : Int} : ∀ {f : List Int} {out : List En} {op : List Nat}, (ofRow i f out op).2.1.length ≤ out.length + f.length
  | [], _, _ => Nat.le_refl _
  | s :: f, out, op => by
    unfold ofRow
    split
    · have h1 := ofRow_len (i := i) (f := f) (out := (stepF s i out op).2.1) (op := (stepF s i out op).2.2)
      have h2 := (step_len (s := s) (fr := i) (out := out) (op := op)).1
      simp only [List.length_cons]; omega
    · simp
theorem ofRows_len {n : Nat} : ∀ {fs : List (List Int)} {i : Nat} {out : List En} {op : List Nat}, (ofRows n i fs out op).2.1.length ≤ out.length + (fs.map List.length).sum
  | [], _, _, _ => Nat.le_refl _
  | f :: fs, i, out, op => by
    unfold ofRows
    split
    · have h1 := ofRows_len (n := n) (fs := fs) (i := i + 1) (out := (ofRow (i : Int) f out op).2.1) (op := (ofRow (i : Int) f out op).2.2)
      have h2 := ofRow_len (i := (i : Int)) (f := f) (out := out) (op := op)
      simp only [List.map_cons, List.sum_cons]; omega
    · simp
theorem ofF_len {fr : List (List Int)} : (ofF fr).2.length ≤ (fr.map List.length).sum := by
  unfold ofF
  split
  · have := ofRows_len (n := fr.length) (fs := fr) (i := 0) (out := []) (op := [])
    simpa using this
  · simp

end Go.Proofs.Ytfldmpmaifjcbaa
