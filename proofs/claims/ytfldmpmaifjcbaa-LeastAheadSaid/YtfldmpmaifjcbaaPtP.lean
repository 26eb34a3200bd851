/-
  PLAIN: parse trees, as they are made of parts; a list that is right is one, and one is right.
-/
import Derived.Test.YtfldmpmaifjcbaaKidsP
import Derived.Test.YtfldmpmaifjcbaaTree4
set_option linter.unusedSimpArgs false
set_option linter.unusedVariables false
namespace Go.Proofs.Ytfldmpmaifjcbaa
open Go Go.Hs

/-- false: the entries of node q, at depth d, from i to j; true: those of a row of nodes q, each a byte at least. -/
inductive PT (l : List Tm) (w : List Int) : Bool → Nat → Int → Int → Int → List En → Prop where
  | eps {q : Nat} {d i : Int} (hk : (tAt l q).k = 1) (hq : q < l.length) (h0 : 0 ≤ i ∧ i ≤ w.length) : PT l w false q d i i [⟨d,q,i,i⟩]
  | leaf {q : Nat} {d i : Int} (hk : (tAt l q).k = 2) (hq : q < l.length) (h0 : 0 ≤ i ∧ i + 1 ≤ w.length) (hb : hasB (stOf (tAt l q)) (w.getD i.toNat 0).toNat = true) : PT l w false q d i (i + 1) [⟨d,q,i,i + 1⟩]
  | cat {q a b : Nat} {d i m j : Int} {s1 s2 : List En} (hk : (tAt l q).k = 3) (hq : q < l.length) (ha : (tAt l q).a = a) (hb : (tAt l q).b = b) (h1 : PT l w false a (d + 1) i m s1) (h2 : PT l w false b (d + 1) m j s2) : PT l w false q d i j (⟨d,q,i,j⟩ :: (s1 ++ s2))
  | alt {q a : Nat} {d i j : Int} {s : List En} (hk : (tAt l q).k = 4) (hq : q < l.length) (ha : (tAt l q).a = a ∨ (tAt l q).b = a) (h1 : PT l w false a (d + 1) i j s) : PT l w false q d i j (⟨d,q,i,j⟩ :: s)
  | star {q a : Nat} {d i j : Int} {s : List En} (hk : (tAt l q).k = 5) (hq : q < l.length) (ha : (tAt l q).a = a) (h1 : PT l w true a (d + 1) i j s) : PT l w false q d i j (⟨d,q,i,j⟩ :: s)
  | may {q : Nat} {d i : Int} (hk : (tAt l q).k = 6) (hq : q < l.length) (h0 : 0 ≤ i ∧ i ≤ w.length) : PT l w false q d i i [⟨d,q,i,i⟩]
  | one {q a : Nat} {d i j : Int} {s : List En} (hk : (tAt l q).k = 6 ∧ i < j ∨ (tAt l q).k = 7 ∨ (tAt l q).k = 8) (hq : q < l.length) (ha : (tAt l q).a = a) (h1 : PT l w false a (d + 1) i j s) : PT l w false q d i j (⟨d,q,i,j⟩ :: s)
  | rnil {q : Nat} {d i : Int} (h0 : 0 ≤ i ∧ i ≤ w.length) : PT l w true q d i i []
  | rcons {q : Nat} {d i m j : Int} {s1 s2 : List En} (h1 : PT l w false q d i m s1) (hm : i < m) (h2 : PT l w true q d m j s2) : PT l w true q d i j (s1 ++ s2)

theorem PT.le {l : List Tm} {w : List Int} {r : Bool} {q : Nat} {d i j : Int} {s : List En} (h : PT l w r q d i j s) : 0 ≤ i ∧ i ≤ j ∧ j ≤ w.length := by
  induction h <;> omega
theorem PT.head {l : List Tm} {w : List Int} {q : Nat} {d i j : Int} {s : List En} (h : PT l w false q d i j s) : q < l.length ∧ ∃ s',s = ⟨d,q,i,j⟩ :: s' := by
  cases h <;> exact ⟨by assumption,_,rfl⟩

theorem node_kind {l : List Tm} {lo : List Int} (ht : Term l lo) {i : Nat} (hi : i < l.length) : 1 ≤ (tAt l i).k ∧ (tAt l i).k ≤ 8 := by
  rcases ht.node i hi with ⟨g1,g2,g3,g4⟩|⟨g1,c,d,g2,g3,g4,g5,g6⟩|⟨g1,d,g2,g3,g4,g5⟩ <;> omega

/-- What is known of what goes through a node. -/
def PC (l : List Tm) (w : List Int) (t : List En) (n : Int) (nf : En → Nat → Bool × Nat) : Prop := ∀ (e : En) (i : Nat),EOk l w e → e.n < n → i ≤ t.length → (nf e i).1 = true → i ≤ (nf e i).2 ∧ (nf e i).2 ≤ t.length ∧ PT l w false e.n.toNat e.d e.f e.t (e :: seg t i (nf e i).2)
theorem kid_pt {l : List Tm} {w : List Int} {t : List En} {n : Int} {nf : En → Nat → Bool × Nat} (N : PC l w t n nf) {e : En} {nd fr : Int} {i : Nat} (h : (kidF nf w t e nd fr i).2.1 = true) (he : 0 ≤ e.d ∧ e.d + 1 + nd ≤ l.length) (h0 : 0 ≤ nd) (h1 : nd < l.length) (hn : nd < n) (hf : 0 ≤ fr) :
    i ≤ (kidF nf w t e nd fr i).2.2 ∧ (kidF nf w t e nd fr i).2.2 ≤ t.length ∧ fr ≤ (kidF nf w t e nd fr i).1 ∧ (kidF nf w t e nd fr i).1 ≤ e.t ∧ PT l w false nd.toNat (e.d + 1) fr (kidF nf w t e nd fr i).1 (seg t i (kidF nf w t e nd fr i).2.2) := by
  unfold kidF at h ⊢
  split at h
  · rename_i h2
    rw [if_pos h2]
    split at h
    · rename_i h3
      rw [if_pos h3]
      obtain ⟨ek,en,ef⟩ := nx_ok (l := l) (w := w) h2.1 (by omega) h0 h1 hf
      have hi : i < t.length := by
        refine Nat.lt_of_not_le fun hh => ?_
        have := h2.1
        rw [nxF,if_neg (by omega)] at this
        cases this
      have ex : nxF w t i (e.d + 1) nd fr = (enAt t i,nxOk w (enAt t i) (e.d + 1) nd fr,i + 1) := by rw [nxF,if_pos hi]
      have ed : (enAt t i).d = e.d + 1 := by
        have := h2.1
        rw [ex] at this
        simp only [nxOk,Bool.and_eq_true,beq_iff_eq,decide_eq_true_eq] at this
        exact this.1.1.1.1
      rw [ex] at ek en ef h2 h3 ⊢
      simp only at ek en ef h2 h3 ⊢
      obtain ⟨g1,g2,g3⟩ := N (enAt t i) (i + 1) ek (by omega) (by omega) h3
      refine ⟨by omega,g2,?_,h2.2,?_⟩
      · have := ek.2.2.2.2.1;omega
      · rw [seg_cons hi (by omega)]
        rw [en,ed,ef] at g3
        exact g3
    · cases h
  · cases h
theorem row_pt {l : List Tm} {w : List Int} {t : List En} {n : Int} {nf : En → Nat → Bool × Nat} (N : PC l w t n nf) {e : En} {nd : Int} (he : 0 ≤ e.d ∧ e.d + 1 + nd ≤ l.length) (h0 : 0 ≤ nd) (h1 : nd < l.length) (hn : nd < n) (hew : e.t ≤ w.length) :
    ∀ (m : Nat) (a : Int) (i : Nat),0 ≤ a → a ≤ e.t → e.t - a ≤ m → i ≤ t.length → (rowF nf w t e nd m a i).1 = true → i ≤ (rowF nf w t e nd m a i).2 ∧ (rowF nf w t e nd m a i).2 ≤ t.length ∧ PT l w true nd.toNat (e.d + 1) a e.t (seg t i (rowF nf w t e nd m a i).2)
  | 0,a,i,ha,hae,hm,hi,_ => by
    rw [rowF]
    have : a = e.t := by omega
    subst this
    exact ⟨Nat.le_refl _,hi,by rw [seg_nil];exact .rnil (by omega)⟩
  | m + 1,a,i,ha,hae,hm,hi,h => by
    unfold rowF at h ⊢
    split at h
    · rename_i c1
      rw [if_pos c1]
      split at h
      · rename_i c2
        rw [if_pos c2]
        obtain ⟨g1,g2,g3,g4,g5⟩ := kid_pt N c2.1 he h0 h1 hn ha
        have c3 := c2.2
        obtain ⟨k1,k2,k3⟩ := row_pt N he h0 h1 hn hew m _ _ (by omega) g4 (by omega) g2 h
        refine ⟨by omega,k2,?_⟩
        rw [seg_app g1 k1]
        exact .rcons g5 (by omega) k3
      · cases h
    · rename_i c1
      rw [if_neg c1]
      have : a = e.t := by omega
      subst this
      exact ⟨Nat.le_refl _,hi,by rw [seg_nil];exact .rnil (by omega)⟩
theorem node_pt {l : List Tm} {w : List Int} {t : List En} (hr : rightF l = true) : ∀ m : Nat,PC l w t m (nodeF l w t m)
  | 0 => fun e i he hn => by have := he.2.1;omega
  | m + 1 => by
    have N := node_pt (w := w) (t := t) hr m
    intro e i he hn hi h
    obtain ⟨⟨d0,d1⟩,n0,n1,f0,f1,f2⟩ := he
    have hq : e.n.toNat < l.length := by omega
    have kd := kidsA (term_of_right hr) (i := e.n.toNat) (by omega)
    have ee : e = ⟨e.d,(e.n.toNat : Int),e.f,e.t⟩ := by rw [Int.toNat_of_nonneg n0]
    have close : ∀ x,x = e.t → PT l w false e.n.toNat e.d e.f x [⟨e.d,(e.n.toNat : Int),e.f,x⟩] → PT l w false e.n.toNat e.d e.f e.t [e] := by
      intro x hx h
      subst hx
      rw [← ee] at h
      exact h
    have cast : ∀ {x : Int},0 ≤ x → x = (x.toNat : Int) := fun h => (Int.toNat_of_nonneg h).symm
    have whole : ∀ nd,0 ≤ nd → nd < e.n → (wholeF (nodeF l w t m) w t e nd i).1 = true → i ≤ (wholeF (nodeF l w t m) w t e nd i).2 ∧ (wholeF (nodeF l w t m) w t e nd i).2 ≤ t.length ∧ PT l w false nd.toNat (e.d + 1) e.f e.t (seg t i (wholeF (nodeF l w t m) w t e nd i).2) := by
      intro nd a0 a1 hw
      simp only [wholeF,Bool.and_eq_true,beq_iff_eq] at hw
      obtain ⟨g1,g2,g3,g4,g5⟩ := kid_pt N hw.1 (by omega) a0 (by omega) (by omega) f0
      rw [hw.2] at g5
      exact ⟨g1,g2,g5⟩
    by_cases k1 : (tAt l e.n.toNat).k = 1
    · rw [nodeF,if_pos k1] at h ⊢
      simp only [beq_iff_eq] at h
      refine ⟨Nat.le_refl _,hi,?_⟩
      rw [seg_nil]
      exact close _ h (PT.eps (w := w) (d := e.d) (i := e.f) k1 hq (by omega))
    by_cases k2 : (tAt l e.n.toNat).k = 2
    · rw [nodeF,if_neg k1,if_pos k2] at h ⊢
      simp only [Bool.and_eq_true,beq_iff_eq] at h
      refine ⟨Nat.le_refl _,hi,?_⟩
      rw [seg_nil]
      exact close _ (by omega) (PT.leaf (w := w) (d := e.d) (i := e.f) k2 hq (by omega) h.2)
    by_cases k3 : (tAt l e.n.toNat).k = 3
    · have kd3 := kd.1 (.inl k3)
      rw [nodeF3 k3] at h ⊢
      split at h
      · rename_i c
        rw [if_pos c]
        simp only [Bool.and_eq_true,beq_iff_eq] at h
        obtain ⟨g1,g2,g3,g4,g5⟩ := kid_pt N c (by omega) (by omega) (by omega) (by omega) f0
        obtain ⟨p1,p2,p3,p4,p5⟩ := kid_pt N h.1 (by omega) (by omega) (by omega) (by omega) (by omega)
        rw [h.2] at p5
        refine ⟨by show i ≤ _;omega,p2,?_⟩
        show PT _ _ _ _ _ _ _ (e :: seg t i _)
        rw [seg_app g1 p1]
        have := PT.cat k3 hq (cast kd3.1.1) (cast kd3.2.1) g5 p5
        rw [← ee] at this
        exact this
      · cases h
    by_cases k4 : (tAt l e.n.toNat).k = 4
    · have kd4 := kd.1 (.inr k4)
      rw [nodeF,if_neg k1,if_neg k2,if_neg k3,if_pos k4] at h ⊢
      split at h
      · rename_i c;rw [if_pos c]
        obtain ⟨g1,g2,g3⟩ := whole _ (by omega) (by omega) h
        have := PT.alt k4 hq (.inr (cast kd4.2.1)) g3
        rw [← ee] at this
        exact ⟨g1,g2,this⟩
      · rename_i c;rw [if_neg c]
        obtain ⟨g1,g2,g3⟩ := whole _ (by omega) (by omega) h
        have := PT.alt k4 hq (.inl (cast kd4.1.1)) g3
        rw [← ee] at this
        exact ⟨g1,g2,this⟩
    have kd5 := kd.2 k1 k2 k3 k4
    by_cases k5 : (tAt l e.n.toNat).k = 5
    · rw [nodeF,if_neg k1,if_neg k2,if_neg k3,if_neg k4,if_pos k5] at h ⊢
      obtain ⟨g1,g2,g3⟩ := row_pt N (by omega) (by omega) (by omega) (by omega) f2 _ _ _ f0 f1 (by omega) hi h
      have := PT.star k5 hq (cast kd5.1) g3
      rw [← ee] at this
      exact ⟨g1,g2,this⟩
    have k678 : (tAt l e.n.toNat).k = 6 ∨ (tAt l e.n.toNat).k = 7 ∨ (tAt l e.n.toNat).k = 8 := by
      have := node_kind (term_of_right hr) (i := e.n.toNat) (by omega)
      omega
    rw [nodeF,if_neg k1,if_neg k2,if_neg k3,if_neg k4,if_neg k5] at h ⊢
    split at h
    · rename_i c;rw [if_pos c]
      refine ⟨Nat.le_refl _,hi,?_⟩
      rw [seg_nil]
      exact close _ c.2 (PT.may (w := w) (d := e.d) (i := e.f) c.1 hq (by omega))
    · rename_i c;rw [if_neg c]
      obtain ⟨g1,g2,g3⟩ := whole _ (by omega) (by omega) h
      have := PT.one (by
        rcases k678 with h|h
        · exact .inl ⟨h,by have : e.f ≠ e.t := fun e => c ⟨h,e⟩;omega⟩
        · exact .inr h) hq (cast kd5.1) g3
      rw [← ee] at this
      exact ⟨g1,g2,this⟩
theorem tree_pt {l : List Tm} {w : List Int} {t : List En} (h : tRight l w t = true) : rightF l = true ∧ PT l w false (l.length - 1) 1 0 w.length t := by
  unfold tRight at h
  simp only [Bool.and_eq_true,beq_iff_eq] at h
  obtain ⟨hr,⟨⟨h1,h2⟩,h3⟩,h4⟩ := h
  have l0 : 0 < l.length := (term_of_right hr).pos
  have h0 : 0 < t.length := by
    refine Nat.lt_of_not_le fun hh => ?_
    rw [nxF,if_neg (by omega)] at h1
    cases h1
  obtain ⟨ek,en,ef⟩ := nx_ok (l := l) (w := w) h1 (by omega) (by omega) (by omega) (by omega)
  have ex : nxF w t 0 1 ((l.length : Int) - 1) 0 = (enAt t 0,nxOk w (enAt t 0) 1 ((l.length : Int) - 1) 0,1) := by rw [nxF,if_pos h0]
  rw [ex] at h1 h2 h3 h4 ek en ef
  simp only at h1 h2 h3 h4 ek en ef
  simp only [nxOk,Bool.and_eq_true,beq_iff_eq,decide_eq_true_eq] at h1
  obtain ⟨g1,g2,g3⟩ := node_pt (w := w) (t := t) hr l.length (enAt t 0) 1 ek (by omega) (by omega) h3
  have e4 : (nodeF l w t l.length (enAt t 0) 1).2 = t.length := by omega
  rw [e4,ef,h2,h1.1.1.1.1,en,← seg_cons h0 (by omega),seg_all,show ((l.length : Int) - 1).toNat = l.length - 1 by omega] at g3
  exact ⟨hr,g3⟩

end Go.Proofs.Ytfldmpmaifjcbaa
