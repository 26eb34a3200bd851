/-
  PLAIN: what is found begins nowhere ahead, and goes nowhere farther.
-/
import Derived.Test.YtfldmpmaifjcbaaLsX
import Derived.Test.YtfldmpmaifjcbaaLsU
set_option linter.unusedSimpArgs false
set_option linter.unusedVariables false
namespace Go.Proofs.Ytfldmpmaifjcbaa
open Go Go.Hs

theorem pt_in {l : List Tm} {w : List Int} {r : Bool} {q : Nat} {d a b : Int} {s : List En} (h : PT l w r q d a b s) : ∀ x ∈ s,0 ≤ x.f ∧ x.f ≤ x.t ∧ x.t ≤ w.length := by
  have key : ∀ {e : En} {s : List En},(0 ≤ e.f ∧ e.f ≤ e.t ∧ e.t ≤ w.length) → (∀ x ∈ s,0 ≤ x.f ∧ x.f ≤ x.t ∧ x.t ≤ w.length) → ∀ x ∈ e :: s,0 ≤ x.f ∧ x.f ≤ x.t ∧ x.t ≤ w.length := by
    intro e s h1 h2 x hx
    rcases List.mem_cons.1 hx with h|h
    · rw [h];exact h1
    · exact h2 x h
  have app : ∀ {s s' : List En},(∀ x ∈ s,0 ≤ x.f ∧ x.f ≤ x.t ∧ x.t ≤ w.length) → (∀ x ∈ s',0 ≤ x.f ∧ x.f ≤ x.t ∧ x.t ≤ w.length) → ∀ x ∈ s ++ s',0 ≤ x.f ∧ x.f ≤ x.t ∧ x.t ≤ w.length := by
    intro s s' h1 h2 x hx
    rcases List.mem_append.1 hx with h|h
    · exact h1 x h
    · exact h2 x h
  induction h with
  | eps hk hq h0 => exact key ⟨h0.1,Int.le_refl _,h0.2⟩ (by simp)
  | @leaf q d i hk hq h0 hb => exact key ⟨h0.1,by show i ≤ i + 1;omega,h0.2⟩ (by simp)
  | @cat q a b d i m j s1 s2 hk hq ha hb h1 h2 i1 i2 => exact key ⟨h1.le.1,by have := h1.le;have := h2.le;show i ≤ j;omega,h2.le.2.2⟩ (app i1 i2)
  | alt hk hq ha h1 i1 => exact key h1.le i1
  | star hk hq ha h1 i1 => exact key h1.le i1
  | may hk hq h0 => exact key ⟨h0.1,Int.le_refl _,h0.2⟩ (by simp)
  | one hk hq ha h1 i1 => exact key h1.le i1
  | rnil h0 => simp
  | rcons h1 hm h2 i1 i2 => exact app i1 i2
theorem uns_mem {gs : List Int} : ∀ {o : List Sp} {v : Sp},v ∈ gs.foldl unsG o → v ∈ o ∨ v = (-1,-1) := by
  induction gs with
  | nil => intro o v h;exact .inl h
  | cons g gs ih =>
    intro o v h
    rcases ih h with h|h
    · exact List.mem_or_eq_of_mem_set h
    · exact .inr h
theorem step_mem {l : List Tm} {o : List Sp} {x : En} {v : Sp} (h : v ∈ spStep l o x) : v ∈ o ∨ v = (-1,-1) ∨ v = (x.f,x.t) := by
  unfold spStep at h
  split at h
  · exact .inl h
  · split at h
    · rcases List.mem_or_eq_of_mem_set h with h|h
      · exact .inl h
      · exact .inr (.inr h)
    · split at h
      · rcases uns_mem h with h|h
        · exact .inl h
        · exact .inr (.inl h)
      · exact .inl h
theorem spans_mem {l : List Tm} {t : List En} {v : Sp} (h : v ∈ spansF l t) : v = (-1,-1) ∨ ∃ x ∈ t,v = (x.f,x.t) := by
  have fold : ∀ (t : List En) (o : List Sp),v ∈ t.foldl (spStep l) o → v ∈ o ∨ v = (-1,-1) ∨ ∃ x ∈ t,v = (x.f,x.t) := by
    intro t
    induction t with
    | nil => intro o h;exact .inl h
    | cons y t ih =>
      intro o h
      rcases ih _ h with h|h|⟨x,h1,h2⟩
      · rcases step_mem h with h|h|h
        · exact .inl h
        · exact .inr (.inl h)
        · exact .inr (.inr ⟨y,by simp,h⟩)
      · exact .inr (.inl h)
      · exact .inr (.inr ⟨x,by simp [h1],h2⟩)
  unfold spansF at h
  split at h
  · unfold spWalk at h
    rw [List.take_of_length_le (Nat.le_refl _)] at h
    rcases fold _ _ h with h|h|h
    · unfold spInit at h
      split at h
      · exact .inl (List.mem_replicate.1 h).2
      · rename_i hn
        rcases List.mem_or_eq_of_mem_set h with h|h
        · exact .inl (List.mem_replicate.1 h).2
        · refine .inr ⟨enAt t 0,?_,h⟩
          unfold enAt;rw [List.getD_eq_getElem?_getD,List.getElem?_eq_getElem (show 0 < t.length by omega)];exact List.getElem_mem _
    · exact .inl h
    · exact .inr h
  · cases h
abbrev bR (l : List Tm) (w : List Int) (i j : Nat) : Bool := bT l w (l.length - 1) i j
theorem findI_some {l : List Tm} {w : List Int} {i j : Nat} : ∀ m,findI l w i m = some j → i ≤ j ∧ j < i + m ∧ bR l w i j = true ∧ ∀ j',j < j' → j' < i + m → bR l w i j' = false
  | 0,h => by cases h
  | m + 1,h => by
    rw [findI] at h
    split at h
    · rename_i c
      cases h
      exact ⟨by omega,by omega,c,fun j' h1 h2 => by omega⟩
    · rename_i c
      obtain ⟨g1,g2,g3,g4⟩ := findI_some m h
      refine ⟨g1,by omega,g3,fun j' h1 h2 => ?_⟩
      by_cases e : j' = i + m
      · subst e;exact Bool.eq_false_iff.2 c
      · exact g4 j' h1 (by omega)
theorem findI_none {l : List Tm} {w : List Int} {i : Nat} : ∀ m,findI l w i m = none → ∀ j',i ≤ j' → j' < i + m → bR l w i j' = false
  | 0,_,j',h1,h2 => by omega
  | m + 1,h,j',h1,h2 => by
    rw [findI] at h
    split at h
    · cases h
    · rename_i c
      by_cases e : j' = i + m
      · subst e;exact Bool.eq_false_iff.2 c
      · exact findI_none m h j' h1 (by omega)
theorem findD_some {l : List Tm} {w : List Int} {i j : Nat} : ∀ m,m ≤ w.length + 1 → findD l w m = some (i,j) → i ≤ j ∧ j ≤ w.length ∧ bR l w i j = true ∧ (∀ j',j < j' → j' ≤ w.length → bR l w i j' = false) ∧ ∀ i' j',w.length + 1 - m ≤ i' → i' < i → i' ≤ j' → j' ≤ w.length → bR l w i' j' = false
  | 0,_,h => by cases h
  | m + 1,hm,h => by
    rw [findD] at h
    split at h
    · rename_i j0 c
      cases h
      obtain ⟨g1,g2,g3,g4⟩ := findI_some _ c
      exact ⟨g1,by omega,g3,fun j' h1 h2 => g4 j' h1 (by omega),fun i' j' h1 h2 h3 h4 => by omega⟩
    · rename_i c
      obtain ⟨g1,g2,g3,g4,g5⟩ := findD_some m (by omega) h
      refine ⟨g1,g2,g3,g4,fun i' j' h1 h2 h3 h4 => ?_⟩
      by_cases e : i' = w.length - m
      · subst e;exact findI_none _ c j' h3 (by omega)
      · exact g5 i' j' (by omega) h2 h3 h4
theorem findD_none {l : List Tm} {w : List Int} : ∀ m,m ≤ w.length + 1 → findD l w m = none → ∀ i' j',w.length + 1 - m ≤ i' → i' ≤ j' → j' ≤ w.length → bR l w i' j' = false
  | 0,_,_,i',j',h1,h2,h3 => by omega
  | m + 1,hm,h,i',j',h1,h2,h3 => by
    rw [findD] at h
    split at h
    · cases h
    · rename_i c
      by_cases e : i' = w.length - m
      · subst e;exact findI_none _ c j' h2 (by omega)
      · exact findD_none m (by omega) h i' j' (by omega) h2 h3
theorem can_root {l : List Tm} {w : List Int} {x y : Int} (hr : rightF l = true) (hw : w.length ≤ 64) (h : (canL l w ((l.length : Int) - 1) x y).1 = true) : 0 ≤ x ∧ x ≤ y ∧ y ≤ w.length ∧ bR l w x.toNat y.toNat = true := by
  unfold canL at h
  rw [if_pos ⟨hr,hw⟩] at h
  split at h
  · cases h
  · rename_i c
    rw [show ((l.length : Int) - 1).toNat = l.length - 1 by omega] at h
    exact ⟨by omega,by omega,by omega,h⟩
/-- What LeastFirst asks. -/
theorem first_none {l : List Tm} {w : List Int} {x y : Int} (hr : rightF l = true) (hw : w.length ≤ 64) (h : findD l w (w.length + 1) = none) : findL l w = ([],7) ∧ (canL l w ((l.length : Int) - 1) x y).1 = false := by
  refine ⟨by rw [findL,if_pos ⟨hr,hw⟩,h],?_⟩
  rw [Bool.eq_false_iff]
  intro hc
  obtain ⟨g1,g2,g3,g4⟩ := can_root hr hw hc
  rw [findD_none _ (Nat.le_refl _) h x.toNat y.toNat (by omega) (by omega) (by omega)] at g4
  cases g4
structure First (l : List Tm) (w : List Int) (x y : Int) (a B : List Sp) : Prop where
  find : findL l w = (a,0)
  pos : 0 < a.length
  f0 : 0 ≤ (spAt a 0).1
  f1 : (spAt a 0).1 ≤ (spAt a 0).2
  f2 : (spAt a 0).2 ≤ w.length
  no : (canL l w ((l.length : Int) - 1) x y).1 = true → ¬ x < (spAt a 0).1 ∧ (x = (spAt a 0).1 → ¬ (spAt a 0).2 < y)
  mat : matchL l (ex w (spAt a 0).1.toNat (spAt a 0).2.toNat) = (B,0)
  len : B.length = a.length
  sh : a = B.map (shS (spAt a 0).1)
  bd : ∀ p,p < B.length → -1 ≤ (spAt B p).1 ∧ (spAt B p).1 ≤ 64 ∧ -1 ≤ (spAt B p).2 ∧ (spAt B p).2 ≤ 64
theorem first_some {l : List Tm} {w : List Int} {x y : Int} {i j : Nat} (hr : rightF l = true) (hw : w.length ≤ 64) (h : findD l w (w.length + 1) = some (i,j)) : ∃ a B,First l w x y a B := by
  have ht := term_of_right hr
  have hp := ht.pos
  obtain ⟨g1,g2,g3,g4,g5⟩ := findD_some _ (Nat.le_refl _) h
  obtain ⟨s,hs⟩ := grow_head (l := l) (M := tabM l w l.length) (m := l.length) (q := l.length - 1) (i := i) (j := j) (d := 1) (by omega)
  obtain ⟨f1,f2⟩ := spans_first hr (x := ⟨1,(l.length - 1 : Nat),i,j⟩) (t := s)
  rw [← hs] at f1 f2
  obtain ⟨t1,t2⟩ := win_tree ht hw g1 g2 (q := l.length - 1) (by omega) 1 g3
  have hwl := win_len (w := w) g1 g2
  have p3 := grow_pt (w := ex w i j) ht (by omega) l.length (l.length - 1) 1 0 (j - i) (by omega) (by omega) (by omega) (by omega) t1
  have hz := fun x hx => (pt_in p3 x hx).1
  have e := spans_sh (l := l) (c := (i : Int)) hz
  rw [t2] at e
  refine ⟨spansF l (growR l (tabM l w l.length) l.length (l.length - 1) 1 i j),spansF l (growR l (tabM l (ex w i j) l.length) l.length (l.length - 1) 1 0 (j - i)),?_,f1,?_,?_,?_,?_,?_,?_,?_,?_⟩
  · rw [findL,if_pos ⟨hr,hw⟩,h]
  · rw [f2];show (0 : Int) ≤ i;omega
  · rw [f2];show (i : Int) ≤ j;omega
  · rw [f2];show (j : Int) ≤ w.length;omega
  · intro hc
    obtain ⟨k1,k2,k3,k4⟩ := can_root hr hw hc
    rw [f2]
    refine ⟨fun hx => ?_,fun hx hy => ?_⟩
    · rw [g5 x.toNat y.toNat (by omega) (by have : x < i := hx;omega) (by omega) (by omega)] at k4
      cases k4
    · have hx : x = i := hx
      have hy : (j : Int) < y := hy
      rw [show x.toNat = i by omega,g4 y.toNat (by omega) (by omega)] at k4
      cases k4
  · rw [f2]
    show matchL l (ex w ((i : Int)).toNat ((j : Int)).toNat) = _
    have et : treeL l (ex w i j) = (growR l (tabM l (ex w i j) l.length) l.length (l.length - 1) 1 0 (j - i),0) := by
      rw [treeL,if_pos ⟨hr,by omega⟩,hwl,if_pos (by exact t1)]
    rw [Int.toNat_natCast,Int.toNat_natCast,matchL,et,if_pos rfl]
  · rw [e,List.length_map]
  · rw [f2];exact e
  · intro p hp
    have hm : spAt (spansF l (growR l (tabM l (ex w i j) l.length) l.length (l.length - 1) 1 0 (j - i))) p ∈ spansF l (growR l (tabM l (ex w i j) l.length) l.length (l.length - 1) 1 0 (j - i)) := by
      unfold spAt;rw [List.getD_eq_getElem?_getD,List.getElem?_eq_getElem hp];exact List.getElem_mem _
    rcases spans_mem hm with e|⟨x,hx,e⟩
    · rw [e];decide
    · have := pt_in p3 x hx
      rw [e]
      show -1 ≤ x.f ∧ x.f ≤ 64 ∧ -1 ≤ x.t ∧ x.t ≤ 64
      omega

end Go.Proofs.Ytfldmpmaifjcbaa
