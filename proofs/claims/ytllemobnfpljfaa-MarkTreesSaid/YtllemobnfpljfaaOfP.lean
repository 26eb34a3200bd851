/-
  PLAIN: what opens and closes in a parse tree makes it again.
-/
import Derived.Test.YtllemobnfpljfaaKidsP
import Derived.Test.YtllemobnfpljfaaTree7
set_option linter.unusedSimpArgs false
set_option linter.unusedVariables false
namespace Go.Proofs.Ytllemobnfpljfaa
open Go Go.Hs

def closesS (deep : Int) : List En → List (Int × Int) × List En
  | [] => ([], [])
  | x :: st => if deep ≤ x.d then ((x.t, 2 * x.n + 1) :: (closesS deep st).1, (closesS deep st).2) else ([], x :: st)
def procS : List En → List En → List (Int × Int)
  | [], st => (closesS 0 st).1
  | x :: t, st => (closesS x.d st).1 ++ (x.f, 2 * x.n) :: procS t (x :: (closesS x.d st).2)
def addAll (o : List (List Int)) (L : List (Int × Int)) : List (List Int) := L.foldl (fun o p => addO o p.1.toNat p.2) o
theorem addAll_app {o : List (List Int)} {A B : List (Int × Int)} : addAll o (A ++ B) = addAll (addAll o A) B := List.foldl_append
theorem addAll_len {A : List (Int × Int)} : ∀ {o : List (List Int)}, (addAll o A).length = o.length := by
  induction A with
  | nil => intro o; rfl
  | cons p A ih => intro o; exact (ih (o := addO o p.1.toNat p.2)).trans addO_length
theorem shut_closes {deep : Int} : ∀ {st : List En} {o : List (List Int)}, shutF deep st o = ((closesS deep st).2, addAll o (closesS deep st).1)
  | [], _ => rfl
  | x :: st, o => by
    unfold shutF closesS
    split
    · exact shut_closes
    · rfl
theorem frames_proc : ∀ {t st : List En} {o : List (List Int)}, framesL t st o = addAll o (procS t st)
  | [], st, o => by rw [framesL, procS, shut_closes]
  | x :: t, st, o => by
    rw [framesL, procS, shut_closes, frames_proc, addAll_app]; rfl
theorem closes_none {deep : Int} {st : List En} (h : ∀ y ∈ st, y.d < deep) : closesS deep st = ([], st) := by
  cases st with
  | nil => rfl
  | cons x st => rw [closesS, if_neg (by have := h x (List.mem_cons_self ..); omega)]
theorem kids_head {n : Nat} {d a b : Int} {s : List En} {S : List (Int × Int)} (h : Kids n d a b s S) {rest : List En} (hr : ∀ y r, rest = y :: r → y.d ≤ d + 1) : ∀ y r, s ++ rest = y :: r → y.d ≤ d + 1 := by
  intro y r e
  cases h with
  | nil h => exact hr y r e
  | cons hd hn ha hf h1 h2 =>
    simp only [List.cons_append, List.cons.injEq] at e
    rw [← e.1]; omega
theorem proc_kids {n : Nat} {d a b : Int} {s : List En} {S : List (Int × Int)} (h : Kids n d a b s S) : 0 ≤ d → ∀ (st rest : List En), (∀ y ∈ st, y.d ≤ d) → (∀ y r, rest = y :: r → y.d ≤ d + 1) → procS (s ++ rest) st = S ++ procS rest st := by
  induction h with
  | nil h => intro _ st rest _ _; rfl
  | @cons d a b x s1 s2 S1 S2 hd hn ha hf h1 h2 i1 i2 =>
    intro d0 st rest hst hrest
    have hh := kids_head h2 hrest
    have key : procS (s2 ++ rest) (x :: st) = (x.t, 2 * x.n + 1) :: procS (s2 ++ rest) st := by
      generalize s2 ++ rest = q at hh
      cases q with
      | nil => rw [procS, procS, closesS, if_pos (by omega)]
      | cons y r =>
        have := hh y r rfl
        rw [procS, procS, closesS, if_pos (by omega)]; rfl
    rw [List.cons_append, procS, closes_none (fun y hy => by have := hst y hy; omega), List.nil_append, List.append_assoc]
    simp only []
    rw [i1 (by omega) (x :: st) (s2 ++ rest) (fun y hy => by
      rcases List.mem_cons.1 hy with rfl | hy
      · omega
      · have := hst y hy; omega) (fun y r e => by have := hh y r e; omega), key, i2 d0 st rest hst hrest]
    simp

def tag : Nat → List (List Int) → List (Int × Int)
  | _, [] => []
  | i, f :: fs => f.map (fun s => ((i : Int), s)) ++ tag (i + 1) fs
def Mono (b : Int) : Int → List (Int × Int) → Prop
  | a, [] => a ≤ b
  | a, p :: S => a ≤ p.1 ∧ Mono b p.1 S
theorem Mono.le {b : Int} : ∀ {a : Int} {S : List (Int × Int)}, Mono b a S → a ≤ b
  | _, [], h => h
  | _, _ :: _, h => Int.le_trans h.1 (Mono.le h.2)
theorem Mono.wk {a a' b : Int} (h : a' ≤ a) : ∀ {S : List (Int × Int)}, Mono b a S → Mono b a' S
  | [], g => Int.le_trans h g
  | _ :: _, g => ⟨Int.le_trans h g.1, g.2⟩
theorem Mono.app {b c : Int} {T : List (Int × Int)} (g : Mono c b T) : ∀ {a : Int} {S : List (Int × Int)}, Mono b a S → Mono c a (S ++ T)
  | _, [], h => g.wk h
  | _, _ :: _, h => ⟨h.1, Mono.app g h.2⟩
theorem kids_mono {n : Nat} {d a b : Int} {s : List En} {S : List (Int × Int)} (h : Kids n d a b s S) : Mono b a S := by
  induction h with
  | nil h => exact h
  | @cons d a b x s1 s2 S1 S2 hd hn ha hf h1 h2 i1 i2 =>
    have h3 : Mono b x.t ((x.t, 2 * x.n + 1) :: S2) := ⟨Int.le_refl _, i2⟩
    exact ⟨ha, Mono.app h3 i1⟩
theorem tag_nil : ∀ {o : List (List Int)} {i : Nat}, (∀ k, o.getD k [] = []) → tag i o = []
  | [], _, _ => rfl
  | f :: o, i, h => by
    have h0 := h 0
    simp at h0
    rw [tag, h0, tag_nil (fun k => by have := h (k + 1); simpa using this)]; rfl
theorem tag_add {v : Int} : ∀ {o : List (List Int)} {i p : Nat}, i ≤ p → p < i + o.length → (∀ k, p < i + k → o.getD k [] = []) → tag i (addO o (p - i) v) = tag i o ++ [((p : Int), v)]
  | [], i, p, h1, h2, _ => by simp at h2; omega
  | f :: o, i, p, h1, h2, h3 => by
    by_cases e : p = i
    · subst e
      rw [Nat.sub_self, show addO (f :: o) 0 v = (f ++ [v]) :: o from rfl, tag, tag, tag_nil (o := o) (fun k => by have := h3 (k + 1) (by omega); simpa using this)]
      simp
    · obtain ⟨k, hk⟩ : ∃ k, p - i = k + 1 := ⟨p - i - 1, by omega⟩
      have ea : addO (f :: o) (k + 1) v = f :: addO o k v := by simp [addO]
      have ek : k = p - (i + 1) := by omega
      rw [hk, ea, tag, tag, ek, tag_add (by omega) (by simp at h2; omega) (fun k hk => by have := h3 (k + 1) (by omega); simpa using this), List.append_assoc]
theorem addO_other {o : List (List Int)} {i k : Nat} {v : Int} (h : k ≠ i) : (addO o i v).getD k [] = o.getD k [] := by
  unfold addO
  rw [List.getD_eq_getElem?_getD, List.getElem?_set_ne (fun e => h e.symm), ← List.getD_eq_getElem?_getD]
theorem tag_all {b : Int} : ∀ {S : List (Int × Int)} {o : List (List Int)} {a : Int}, Mono b a S → 0 ≤ a → b < o.length → (∀ k : Nat, a < k → o.getD k [] = []) → tag 0 (addAll o S) = tag 0 o ++ S
  | [], o, a, _, _, _, _ => by rw [List.append_nil]; rfl
  | p :: S, o, a, h, ha, hb, hk => by
    have hp : a ≤ p.1 := h.1
    have hpb := Mono.le h.2
    have e1 := tag_add (v := p.2) (o := o) (i := 0) (p := p.1.toNat) (Nat.zero_le _) (by omega) (fun k hk2 => hk k (by omega))
    rw [Nat.sub_zero, Int.toNat_of_nonneg (by omega)] at e1
    show tag 0 (addAll (addO o p.1.toNat p.2) S) = _
    rw [tag_all h.2 (by omega) (by rw [addO_length]; exact hb) (fun k hk2 => by rw [addO_other (by omega)]; exact hk k (by omega)), e1, List.append_assoc]
    rfl

theorem closes_len {deep : Int} : ∀ {st : List En}, (closesS deep st).1.length + (closesS deep st).2.length = st.length
  | [] => rfl
  | x :: st => by
    unfold closesS
    split
    · have := closes_len (deep := deep) (st := st)
      simp; omega
    · simp
theorem proc_len : ∀ {t st : List En}, (procS t st).length ≤ 2 * t.length + st.length
  | [], st => by
    have := closes_len (deep := 0) (st := st)
    rw [procS]; simp; omega
  | x :: t, st => by
    have := closes_len (deep := x.d) (st := st)
    have h := proc_len (t := t) (st := x :: (closesS x.d st).2)
    rw [procS]
    simp at h ⊢; omega
theorem closes_mem {deep : Int} : ∀ {st : List En}, (∀ p ∈ (closesS deep st).1, ∃ x ∈ st, p.2 = 2 * x.n + 1) ∧ ∀ y ∈ (closesS deep st).2, y ∈ st
  | [] => ⟨fun p h => (by cases h), fun y h => h⟩
  | x :: st => by
    unfold closesS
    have ih := closes_mem (deep := deep) (st := st)
    split
    · refine ⟨fun p h => ?_, fun y h => List.mem_cons_of_mem _ (ih.2 y h)⟩
      rcases List.mem_cons.1 h with rfl | h
      · exact ⟨x, List.mem_cons_self .., rfl⟩
      · obtain ⟨y, hy, e⟩ := ih.1 p h
        exact ⟨y, List.mem_cons_of_mem _ hy, e⟩
    · exact ⟨fun p h => (by cases h), fun y h => h⟩
theorem proc_mem : ∀ {t st : List En}, ∀ p ∈ procS t st, ∃ x, (x ∈ t ∨ x ∈ st) ∧ (p.2 = 2 * x.n ∨ p.2 = 2 * x.n + 1)
  | [], st, p, h => by
    rw [procS] at h
    obtain ⟨x, hx, e⟩ := closes_mem.1 p h
    exact ⟨x, .inr hx, .inr e⟩
  | y :: t, st, p, h => by
    rw [procS] at h
    rcases List.mem_append.1 h with h | h
    · obtain ⟨x, hx, e⟩ := closes_mem.1 p h
      exact ⟨x, .inr hx, .inr e⟩
    · rcases List.mem_cons.1 h with rfl | h
      · exact ⟨y, .inl (List.mem_cons_self ..), .inl rfl⟩
      · obtain ⟨x, hx, e⟩ := proc_mem p h
        refine ⟨x, ?_, e⟩
        rcases hx with hx | hx
        · exact .inl (List.mem_cons_of_mem _ hx)
        · rcases List.mem_cons.1 hx with rfl | hx
          · exact .inl (List.mem_cons_self ..)
          · exact .inr (closes_mem.2 x hx)
theorem sum_set : ∀ {o : List (List Int)} {i : Nat} {v : Int}, ((addO o i v).map List.length).sum ≤ (o.map List.length).sum + 1
  | [], i, v => by simp [addO]
  | f :: o, 0, v => by simp [addO]; omega
  | f :: o, i + 1, v => by
    have := sum_set (o := o) (i := i) (v := v)
    have e : addO (f :: o) (i + 1) v = f :: addO o i v := by simp [addO]
    rw [e]; simp only [List.map_cons, List.sum_cons]; omega
theorem addAll_sum : ∀ {S : List (Int × Int)} {o : List (List Int)}, ((addAll o S).map List.length).sum ≤ (o.map List.length).sum + S.length
  | [], o => Nat.le_refl _
  | p :: S, o => by
    have h1 := addAll_sum (S := S) (o := addO o p.1.toNat p.2)
    have h2 := sum_set (o := o) (i := p.1.toNat) (v := p.2)
    show ((addAll (addO o p.1.toNat p.2) S).map List.length).sum ≤ _
    simp only [List.length_cons]; omega
theorem addO_mem {o : List (List Int)} {i : Nat} {v x : Int} {r : List Int} (h : r ∈ addO o i v) (hx : x ∈ r) : (∃ r' ∈ o, x ∈ r') ∨ x = v := by
  unfold addO at h
  rcases List.mem_or_eq_of_mem_set h with h | h
  · exact .inl ⟨r, h, hx⟩
  · rw [h] at hx
    rcases List.mem_append.1 hx with hx | hx
    · by_cases hi : i < o.length
      · rw [List.getD_eq_getElem?_getD, List.getElem?_eq_getElem hi] at hx
        exact .inl ⟨_, List.getElem_mem hi, hx⟩
      · rw [List.getD_eq_getElem?_getD, List.getElem?_eq_none (by omega)] at hx
        cases hx
    · exact .inr (by simpa using hx)
theorem addAll_mem : ∀ {S : List (Int × Int)} {o : List (List Int)} {r : List Int} {x : Int}, r ∈ addAll o S → x ∈ r → (∃ r' ∈ o, x ∈ r') ∨ ∃ p ∈ S, x = p.2
  | [], o, r, x, h, hx => .inl ⟨r, h, hx⟩
  | p :: S, o, r, x, h, hx => by
    rcases addAll_mem (S := S) (o := addO o p.1.toNat p.2) h hx with ⟨r', h1, h2⟩ | ⟨q, h1, h2⟩
    · rcases addO_mem h1 h2 with h3 | h3
      · exact .inl h3
      · exact .inr ⟨p, List.mem_cons_self .., h3⟩
    · exact .inr ⟨q, List.mem_cons_of_mem _ h1, h2⟩
theorem sum_rep {n : Nat} : ((List.replicate n ([] : List Int)).map List.length).sum = 0 := by simp
theorem frames_len {l : List Tm} {w : List Int} {t : List En} : (framesF l w t).length ≤ w.length + 1 ∧ (0 < (framesF l w t).length → tRight l w t = true) := by
  unfold framesF
  split
  · rename_i h
    rw [frames_proc, addAll_len]
    exact ⟨by simp, fun _ => h⟩
  · exact ⟨by simp, fun h => by simp at h⟩
theorem frames_sum {l : List Tm} {w : List Int} {t : List En} : ((framesF l w t).map List.length).sum ≤ 2 * t.length := by
  unfold framesF
  split
  · rw [frames_proc]
    have h1 := addAll_sum (S := procS t []) (o := List.replicate (w.length + 1) [])
    have h2 := proc_len (t := t) (st := [])
    rw [sum_rep] at h1
    simp at h2; omega
  · simp
theorem frames_in {l : List Tm} {w : List Int} {t : List En} (hl : l.length ≤ 1000) : ∀ r ∈ framesF l w t, ∀ x ∈ r, in64 x := by
  intro r hr x hx
  unfold framesF at hr
  split at hr
  · rename_i h
    have hE := tree_ok h hl
    rw [frames_proc] at hr
    rcases addAll_mem hr hx with ⟨r', h1, h2⟩ | ⟨p, h1, h2⟩
    · rw [List.mem_replicate] at h1
      rw [h1.2] at h2; cases h2
    · obtain ⟨y, hy, e⟩ := proc_mem p h1
      have hy : y ∈ t := hy.elim id (fun h => by cases h)
      obtain ⟨_, n0, n1, _, _, _⟩ := hE y hy
      unfold in64
      omega
  · cases hr
end Go.Proofs.Ytllemobnfpljfaa
