/-
  PLAIN: a parse tree is right; the tree that is grown is one, and it is ahead of all.
-/
import Derived.Test.YtfldmpmaifjcbaaLsB
import Derived.Test.YtfldmpmaifjcbaaLsM
import Derived.Test.YtfldmpmaifjcbaaLsN
import Derived.Test.YtfldmpmaifjcbaaPtP
import Derived.Test.YtfldmpmaifjcbaaOfP
set_option linter.unusedSimpArgs false
set_option linter.unusedVariables false
namespace Go.Proofs.Ytfldmpmaifjcbaa
open Go Go.Hs

/-! Lists of which one is ahead, whatever comes behind. -/
def SA (a b : List En) : Prop := ∃ p x y s t,a = p ++ x :: s ∧ b = p ++ y :: t ∧ vsF x y = -1
theorem SA.cons {a b : List En} (e : En) : SA a b → SA (e :: a) (e :: b)
  | ⟨p,x,y,s,t,h1,h2,h3⟩ => ⟨e :: p,x,y,s,t,by rw [h1];rfl,by rw [h2];rfl,h3⟩
theorem SA.app {a b : List En} (c d : List En) : SA a b → SA (a ++ c) (b ++ d)
  | ⟨p,x,y,s,t,h1,h2,h3⟩ => ⟨p,x,y,s ++ c,t ++ d,by rw [h1];simp,by rw [h2];simp,h3⟩
theorem SA.pre {a b : List En} (c : List En) : SA a b → SA (c ++ a) (c ++ b)
  | ⟨p,x,y,s,t,h1,h2,h3⟩ => ⟨c ++ p,x,y,s,t,by rw [h1];simp,by rw [h2];simp,h3⟩
theorem aheadN_app {p a b : List En} : ∀ N,N ≤ p.length → aheadN (p ++ a) (p ++ b) N = none
  | 0,_ => rfl
  | N + 1,h => by
    have e : enAt (p ++ a) N = enAt (p ++ b) N := by
      simp only [enAt,List.getD_eq_getElem?_getD,List.getElem?_append_left (show N < p.length by omega)]
    rw [aheadN_s,aheadN_app N (by omega),e,vsF_refl];rfl
theorem aheadN_stay {a b : List En} {N : Nat} {r : Int} (h : aheadN a b N = some r) : ∀ M,aheadN a b (N + M) = some r
  | 0 => h
  | M + 1 => by rw [show N + (M + 1) = N + M + 1 by omega,aheadN_s,aheadN_stay h M]
theorem SA.ahead {a b : List En} : SA a b → aheadF a b = -1
  | ⟨p,x,y,s,t,h1,h2,h3⟩ => by
    have e1 : enAt a p.length = x := by rw [h1];simp [enAt]
    have e2 : enAt b p.length = y := by rw [h2];simp [enAt]
    have h4 : aheadN a b p.length = none := by rw [h1,h2];exact aheadN_app _ (Nat.le_refl _)
    have h5 : aheadN a b (p.length + 1) = some (-1) := by
      rw [aheadN_s,h4,e1,e2,h3];rfl
    have hl : a.length = p.length + 1 + s.length := by rw [h1];simp;omega
    rw [aheadF_at' (Nat.le_refl _),show max a.length b.length = p.length + 1 + (max a.length b.length - (p.length + 1)) by omega,aheadN_stay h5];rfl
theorem vs_to {d : Int} {n : Int} {f x y : Int} (h : y < x) : vsF ⟨d,n,f,x⟩ ⟨d,n,f,y⟩ = -1 := by
  simp [vsF,sg];omega
theorem vs_node {d : Int} {n n' : Int} {f x y f' : Int} (h : n < n') : vsF ⟨d,n,f,x⟩ ⟨d,n',f',y⟩ = -1 := by
  have h2 : ¬ n' < n := by omega
  simp [vsF,sg,h,h2]

/-! A parse tree is right. -/
theorem kid_go {l : List Tm} {w : List Int} {t : List En} {m q : Nat} {d i j : Int} {s R : List En} {e : En} {p : Nat} (N : ∀ s',s = ⟨d,q,i,j⟩ :: s' → ∀ p R,t.drop p = s' ++ R → nodeF l w t m ⟨d,q,i,j⟩ p = (true,p + s'.length)) (h : PT l w false q d i j s) (hd : e.d + 1 = d) (hj : j ≤ e.t) (ht : t.drop p = s ++ R) :
    kidF (nodeF l w t m) w t e q i p = (j,true,p + s.length) := by
  obtain ⟨hq,s',rfl⟩ := h.head
  have hle := h.le
  have hp : p < t.length := by
    refine Nat.lt_of_not_le fun hh => ?_
    rw [List.drop_of_length_le hh] at ht;cases ht
  rw [List.drop_eq_getElem_cons hp,List.cons_append] at ht
  obtain ⟨ht1,ht2⟩ := List.cons.inj ht
  have he : enAt t p = ⟨d,q,i,j⟩ := by
    unfold enAt;rw [List.getD_eq_getElem?_getD,List.getElem?_eq_getElem hp];exact ht1
  have hx : nxOk w ⟨d,q,i,j⟩ (e.d + 1) q i = true := by
    simp only [nxOk,hd,beq_self_eq_true,Bool.true_and,Bool.and_eq_true,decide_eq_true_eq];omega
  have hn : nxF w t p (e.d + 1) q i = (⟨d,q,i,j⟩,true,p + 1) := by
    rw [nxF,if_pos hp,he,hx]
  have := N s' rfl (p + 1) R ht2
  unfold kidF
  simp only [hn,this,hj,and_self,if_true,List.length_cons]
  congr 2;omega
theorem row_go {l : List Tm} {w : List Int} {t : List En} {m q : Nat} {e : En} (N : ∀ d i j s',PT l w false q d i j (⟨d,q,i,j⟩ :: s') → ∀ p R,t.drop p = s' ++ R → nodeF l w t m ⟨d,q,i,j⟩ p = (true,p + s'.length)) :
    ∀ {n : Nat} {d a z : Int} {s R : List En} {p : Nat},PT l w true q d a z s → d = e.d + 1 → z = e.t → e.t - a ≤ n → t.drop p = s ++ R → rowF (nodeF l w t m) w t e q n a p = (true,p + s.length)
  | 0,d,a,z,s,R,p,h,hd,hz,hn,ht => by
    cases h with
    | rnil h0 => rfl
    | rcons h1 hm h2 => have := h1.le;have := h2.le;omega
  | n + 1,d,a,z,s,R,p,h,hd,hz,hn,ht => by
    cases h with
    | rnil h0 => rw [rowF,if_neg (by omega)];rfl
    | @rcons _ _ _ mm _ s1 s2 h1 hm h2 =>
      have hl2 := h2.le
      have k := kid_go (t := t) (m := m) (e := e) (p := p) (R := s2 ++ R) (fun s' hs' => N _ _ _ s' (hs' ▸ h1)) h1 hd.symm (by omega) (by rw [ht,List.append_assoc])
      have dr : t.drop (p + s1.length) = s2 ++ R := by
        rw [← List.drop_drop,ht,List.append_assoc,List.drop_left]
      have r := row_go (p := p + s1.length) N h2 hd hz (n := n) (by omega) dr
      rw [rowF,if_pos (by omega)]
      simp only [k]
      rw [if_pos ⟨trivial,by omega⟩,r,List.length_append]
      congr 1;omega
theorem pt_node {l : List Tm} {w : List Int} {t : List En} {lo : List Int} (htm : Term l lo) : ∀ (m q : Nat) (d i j : Int) (s : List En),q < m → PT l w false q d i j s → ∀ s',s = ⟨d,q,i,j⟩ :: s' → ∀ p R,t.drop p = s' ++ R → nodeF l w t m ⟨d,q,i,j⟩ p = (true,p + s'.length)
  | 0,_,_,_,_,_,h,_ => absurd h (Nat.not_lt_zero _)
  | m + 1,q,d,i,j,s,hm,h => by
    intro s' hs p R ht
    obtain ⟨hq,_⟩ := h.head
    have kd := kidsA htm (i := q) hq
    have ih := fun q' hq' d i j s (h : PT l w false q' d i j s) => pt_node (t := t) htm m q' d i j s hq' h
    have tn : ((q : Int)).toNat = q := Int.toNat_natCast q
    cases h with
    | eps hk _ h0 =>
      obtain rfl := (List.cons.inj hs).2
      rw [nodeF];simp only [tn];rw [if_pos hk];simp
    | leaf hk _ h0 hb =>
      obtain rfl := (List.cons.inj hs).2
      rw [nodeF];simp only [tn];rw [if_neg (by omega),if_pos hk,hb];simp
      omega
    | @cat _ a b _ _ mm _ s1 s2 hk _ ha hb h1 h2 =>
      obtain rfl := (List.cons.inj hs).2
      have kd3 := kd.1 (.inl hk)
      have l2 := h2.le
      have k1 := kid_go (t := t) (m := m) (e := ⟨d,q,i,j⟩) (p := p) (R := s2 ++ R) (ih a (by omega) _ _ _ _ h1) h1 rfl l2.2.1 (by rw [ht,List.append_assoc])
      have dr : t.drop (p + s1.length) = s2 ++ R := by
        rw [← List.drop_drop,ht,List.append_assoc,List.drop_left]
      have k2 := kid_go (t := t) (m := m) (e := ⟨d,q,i,j⟩) (p := p + s1.length) (R := R) (ih b (by omega) _ _ _ _ h2) h2 rfl (Int.le_refl _) dr
      rw [nodeF3 (by simp only [tn];exact hk)]
      simp only [tn,ha,hb,k1,k2,if_true,beq_self_eq_true,Bool.and_self,List.length_append]
      congr 1;omega
    | @alt _ a _ _ _ s1 hk _ ha h1 =>
      obtain rfl := (List.cons.inj hs).2
      have kd4 := kd.1 (.inr hk)
      have k1 := kid_go (t := t) (m := m) (e := ⟨d,q,i,j⟩) (p := p) (R := R) (ih a (by omega) _ _ _ _ h1) h1 rfl (Int.le_refl _) ht
      obtain ⟨_,s2,hs2⟩ := h1.head
      have hp : p < t.length := by
        refine Nat.lt_of_not_le fun hh => ?_
        rw [List.drop_of_length_le hh,hs2] at ht;cases ht
      have hn : (enAt t p).n = a := by
        rw [List.drop_eq_getElem_cons hp,hs2,List.cons_append] at ht
        have := (List.cons.inj ht).1
        unfold enAt;rw [List.getD_eq_getElem?_getD,List.getElem?_eq_getElem hp]
        show (t[p]).n = a
        rw [this]
      rw [nodeF];simp only [tn]
      rw [if_neg (by omega),if_neg (by omega),if_neg (by omega),if_pos hk]
      by_cases c : (tAt l q).b = a
      · rw [if_pos ⟨hp,by rw [hn,c]⟩,c]
        simp only [wholeF,k1,beq_self_eq_true,Bool.and_self]
      · have ha' : (tAt l q).a = a := by rcases ha with h|h
                                         · exact h
                                         · exact absurd h c
        rw [if_neg (by rw [hn];exact fun h => c h.2.symm),ha']
        simp only [wholeF,k1,beq_self_eq_true,Bool.and_self]
    | @star _ a _ _ _ s1 hk _ ha h1 =>
      obtain rfl := (List.cons.inj hs).2
      have kd5 := kd.2 (by omega) (by omega) (by omega) (by omega)
      have hl := h1.le
      have r := row_go (t := t) (m := m) (e := ⟨d,q,i,j⟩) (p := p) (R := R) (fun d i j s' h => ih a (by omega) d i j _ h s' rfl) h1 rfl rfl (n := (j - i).toNat) (by show j - i ≤ _;omega) ht
      rw [nodeF];simp only [tn]
      rw [if_neg (by omega),if_neg (by omega),if_neg (by omega),if_neg (by omega),if_pos hk,ha,r]
    | may hk _ h0 =>
      obtain rfl := (List.cons.inj hs).2
      rw [nodeF];simp only [tn]
      rw [if_neg (by omega),if_neg (by omega),if_neg (by omega),if_neg (by omega),if_neg (by omega),if_pos ⟨hk,trivial⟩];rfl
    | @one _ a _ _ _ s1 hk _ ha h1 =>
      obtain rfl := (List.cons.inj hs).2
      have kd6 := kd.2 (by omega) (by omega) (by omega) (by omega)
      have k1 := kid_go (t := t) (m := m) (e := ⟨d,q,i,j⟩) (p := p) (R := R) (ih a (by omega) _ _ _ _ h1) h1 rfl (Int.le_refl _) ht
      rw [nodeF];simp only [tn]
      rw [if_neg (by omega),if_neg (by omega),if_neg (by omega),if_neg (by omega),if_neg (by omega),if_neg (by omega),ha]
      simp only [wholeF,k1,beq_self_eq_true,Bool.and_self]
theorem pt_tree {l : List Tm} {w : List Int} {s : List En} (hr : rightF l = true) (h : PT l w false (l.length - 1) 1 0 w.length s) : tRight l w s = true := by
  have htm := term_of_right hr
  have hp := htm.pos
  have hle := h.le
  obtain ⟨hq,s',rfl⟩ := h.head
  have hn := pt_node (t := (⟨1,(l.length - 1 : Nat),0,w.length⟩ :: s')) htm l.length (l.length - 1) 1 0 w.length _ (by omega) h s' rfl 1 [] (by simp)
  have hx : nxF w (⟨1,(l.length - 1 : Nat),0,w.length⟩ :: s') 0 1 ((l.length : Int) - 1) 0 = (⟨1,(l.length - 1 : Nat),0,w.length⟩,true,1) := by
    rw [nxF,if_pos (by simp)]
    simp only [enAt,List.getD_eq_getElem?_getD,List.getElem?_cons_zero,Option.getD_some,nxOk]
    have e : ((l.length - 1 : Nat) : Int) = (l.length : Int) - 1 := by omega
    have e2 : (0 : Int) ≤ w.length := by omega
    simp [e,e2]
  unfold tRight
  rw [hx]
  simp only [hn,hr]
  simp [Nat.add_comm]

/-! What has a tree has its bit. -/
theorem pt_bit {l : List Tm} {w : List Int} {lo : List Int} (htm : Term l lo) (hw : w.length ≤ 64) {r : Bool} {q : Nat} {d x y : Int} {s : List En} (h : PT l w r q d x y s) :
    (r = false → bT l w q x.toNat y.toNat = true) ∧ (r = true → starF (fun a b => bT l w q a b) w.length x.toNat y.toNat = true) := by
  induction h with
  | eps hk hq h0 => exact ⟨fun _ => by rw [bT1 htm hq hw hk (by omega) (by omega)];simp,fun h => by cases h⟩
  | leaf hk hq h0 hb => exact ⟨fun _ => by rw [bT2 htm hq hw hk (by omega) (by omega),hb];simp;omega,fun h => by cases h⟩
  | @cat q a b d i m j s1 s2 hk hq ha hb h1 h2 i1 i2 =>
    refine ⟨fun _ => ?_,fun h => by cases h⟩
    have l1 := h1.le
    have l2 := h2.le
    rw [bT3 htm hq hw hk (by omega) (by omega),anyK_true,ha,hb]
    refine ⟨m.toNat - i.toNat,by omega,?_⟩
    rw [show i.toNat + (m.toNat - i.toNat) = m.toNat by omega,Int.toNat_natCast,Int.toNat_natCast,i1.1 rfl,i2.1 rfl];rfl
  | @alt q a d i j s hk hq ha h1 i1 =>
    refine ⟨fun _ => ?_,fun h => by cases h⟩
    have l1 := h1.le
    rw [bT4 htm hq hw hk (by omega) (by omega)]
    rcases ha with ha|ha
    · rw [ha,Int.toNat_natCast,i1.1 rfl];rfl
    · rw [ha,Int.toNat_natCast,i1.1 rfl,Bool.or_true]
  | @star q a d i j s hk hq ha h1 i1 =>
    refine ⟨fun _ => ?_,fun h => by cases h⟩
    have l1 := h1.le
    rw [bT5 htm hq hw hk (by omega) (by omega),ha,Int.toNat_natCast]
    exact i1.2 rfl
  | may hk hq h0 => exact ⟨fun _ => by rw [bT6 htm hq hw hk (by omega) (by omega)];simp,fun h => by cases h⟩
  | @one q a d i j s hk hq ha h1 i1 =>
    refine ⟨fun _ => ?_,fun h => by cases h⟩
    have l1 := h1.le
    rcases hk with hk|hk
    · rw [bT6 htm hq hw hk.1 (by omega) (by omega),ha,Int.toNat_natCast,i1.1 rfl,Bool.or_true]
    · rw [bT7 htm hq hk,ha,Int.toNat_natCast];exact i1.1 rfl
  | rnil h0 => exact ⟨fun h => (by cases h),fun _ => by rw [starF_eq];simp⟩
  | @rcons q d i m j s1 s2 h1 hm h2 i1 i2 =>
    refine ⟨fun h => (by cases h),fun _ => ?_⟩
    have l1 := h1.le
    have l2 := h2.le
    rw [starF_eq,Bool.or_eq_true]
    refine .inr (anyK_true.2 ⟨m.toNat - (i.toNat + 1),by omega,?_⟩)
    rw [show i.toNat + 1 + (m.toNat - (i.toNat + 1)) = m.toNat by omega,i1.1 rfl,i2.2 rfl];rfl

/-! The tree that is grown is one. -/
theorem star_pt {l : List Tm} {w : List Int} {lo : List Int} (htm : Term l lo) (hw : w.length ≤ 64) {a q : Nat} {d : Int} {g : Nat → Nat → List En} {j : Nat} (hj : j ≤ w.length)
    (hQ : ∀ i,i ≤ w.length → bT l w q i j = starF (fun x y => bT l w a x y) w.length i j) (G : ∀ i k : Nat,i ≤ k → k ≤ w.length → bT l w a i k = true → PT l w false a d i k (g i k)) :
    ∀ f i,j - i ≤ f → i ≤ j → bT l w q i j = true → PT l w true a d i j (starR g (rT l w a) (rT l w q) j f i)
  | 0,i,hf,hi,hb => by
    have : i = j := by omega
    subst this
    exact .rnil (by omega)
  | f + 1,i,hf,hi,hb => by
    rw [starR]
    by_cases c : i = j
    · subst c
      rw [if_neg (by omega)]
      exact .rnil (by omega)
    · have hs := hb
      rw [hQ i (by omega),starF_eq,Bool.or_eq_true] at hs
      obtain ⟨t,h1,h2⟩ := anyK_true.1 (hs.resolve_left (by simp [c]))
      rw [Bool.and_eq_true] at h2
      have ht : i + 1 + t ≤ j := by
        refine Nat.le_of_not_lt fun hh => ?_
        rw [star_back _ _ (Nat.le_refl _) hh] at h2
        cases h2.2
      obtain ⟨M,hge⟩ := meet_of (c := q) hi (t := 1 + t) (by omega) (by rw [← Nat.add_assoc];exact h2.1) (by rw [← Nat.add_assoc,hQ _ (by omega)];exact h2.2)
      rw [if_pos ⟨by omega,by omega⟩]
      exact .rcons (G _ _ M.ge (by have := M.le;omega) M.fst) (by omega) (star_pt htm hw hj hQ G f _ (by omega) M.le M.snd)
theorem grow_pt {l : List Tm} {w : List Int} {lo : List Int} (htm : Term l lo) (hw : w.length ≤ 64) : ∀ (m q : Nat) (d : Int) (i j : Nat),q < m → q < l.length → i ≤ j → j ≤ w.length → bT l w q i j = true → PT l w false q d i j (growR l (tabM l w l.length) m q d i j)
  | 0,_,_,_,_,h,_,_,_,_ => absurd h (Nat.not_lt_zero _)
  | m + 1,q,d,i,j,hm,hq,hij,hj,hb => by
    have kd := kidsA htm hq
    have ih := fun q' h1 h2 d i j h3 h4 h5 => grow_pt (w := w) htm hw m q' d i j h1 h2 h3 h4 h5
    have cast : ∀ {x : Int},0 ≤ x → x = (x.toNat : Int) := fun h => (Int.toNat_of_nonneg h).symm
    rw [growR]
    rcases htm.node q hq with ⟨g1,_⟩|⟨g1,_⟩|⟨g1,_⟩
    · rw [if_neg (by omega),if_neg (by omega),if_neg (by omega),if_neg (by omega),if_neg (by omega)]
      rcases g1 with g1|g1
      · rw [bT1 htm hq hw g1 (by omega) hj,decide_eq_true_eq] at hb
        subst hb
        exact .eps g1 hq (by omega)
      · rw [bT2 htm hq hw g1 (by omega) hj,Bool.and_eq_true,decide_eq_true_eq] at hb
        obtain ⟨hb1,hb2⟩ := hb
        subst hb1
        exact PT.leaf (d := d) (i := (i : Int)) g1 hq (by omega) hb2
    · have k2 := kd.1 g1
      rcases g1 with g1|g1
      · rw [if_pos g1]
        rw [bT3 htm hq hw g1 (by omega) hj,anyK_true] at hb
        obtain ⟨t,ht,hb⟩ := hb
        rw [Bool.and_eq_true] at hb
        have hte : i + t ≤ j := by
          refine Nat.le_of_not_lt fun hh => ?_
          rw [bT_back htm hw (l.length) (tAt l q).b.toNat (i + t) j (by omega) (by omega) (by omega) hh] at hb
          cases hb.2
        obtain ⟨M,hge⟩ := meet_of hij hte hb.1 hb.2
        exact .cat g1 hq (cast (by omega)) (cast (by omega)) (ih _ (by omega) (by omega) _ _ _ M.ge (Nat.le_trans M.le hj) M.fst) (ih _ (by omega) (by omega) _ _ _ M.le hj M.snd)
      · rw [if_neg (by omega),if_pos g1]
        rw [bT4 htm hq hw g1 (by omega) hj,Bool.or_eq_true] at hb
        by_cases c : bT l w (tAt l q).a.toNat i j = true
        · rw [if_pos (by exact c)]
          exact .alt g1 hq (.inl (cast (by omega))) (ih _ (by omega) (by omega) _ _ _ hij hj c)
        · rw [if_neg (by exact c)]
          exact .alt g1 hq (.inr (cast (by omega))) (ih _ (by omega) (by omega) _ _ _ hij hj (hb.resolve_left c))
    · have k2 := kd.2 (by omega) (by omega) (by omega) (by omega)
      rw [if_neg (by omega),if_neg (by omega)]
      rcases g1 with g1|g1|g1|g1
      · rw [if_pos g1]
        exact .star g1 hq (cast (by omega)) (star_pt htm hw hj (fun i hi => bT5 htm hq hw g1 hi hj) (fun i k h1 h2 h3 => ih _ (by omega) (by omega) _ _ _ h1 h2 h3) _ _ (Nat.le_refl _) hij hb)
      · rw [if_neg (by omega),if_pos g1]
        rw [bT6 htm hq hw g1 (by omega) hj,Bool.or_eq_true,decide_eq_true_eq] at hb
        by_cases c : i < j
        · rw [if_pos c]
          exact .one (.inl ⟨g1,by omega⟩) hq (cast (by omega)) (ih _ (by omega) (by omega) _ _ _ hij hj (hb.resolve_left (by omega)))
        · rw [if_neg c]
          have : i = j := by omega
          subst this
          exact .may g1 hq (by omega)
      · rw [if_neg (by omega),if_neg (by omega),if_pos (.inl g1)]
        rw [bT7 htm hq (.inl g1)] at hb
        exact .one (.inr (.inl g1)) hq (cast (by omega)) (ih _ (by omega) (by omega) _ _ _ hij hj hb)
      · rw [if_neg (by omega),if_neg (by omega),if_pos (.inr g1)]
        rw [bT7 htm hq (.inr g1)] at hb
        exact .one (.inr (.inr g1)) hq (cast (by omega)) (ih _ (by omega) (by omega) _ _ _ hij hj hb)

/-! It is ahead of all. -/
theorem grow_head {l : List Tm} {M : List (List Int)} {m q i j : Nat} {d : Int} (hm : q < m) : ∃ s,growR l M m q d i j = ⟨d,q,i,j⟩ :: s := by
  cases m with
  | zero => omega
  | succ m => exact ⟨_,rfl⟩
theorem star_least {l : List Tm} {w : List Int} {lo : List Int} (htm : Term l lo) (hw : w.length ≤ 64) {a q : Nat} {g : Nat → Nat → List En} {J : Nat} (hJ : J ≤ w.length)
    (hQ : ∀ i,i ≤ w.length → bT l w q i J = starF (fun x y => bT l w a x y) w.length i J) {d : Int} (G : ∀ i k : Nat,∃ s,g i k = ⟨d,a,i,k⟩ :: s) (L : ∀ (x y : Int) s,PT l w false a d x y s → g x.toNat y.toNat = s ∨ SA (g x.toNat y.toNat) s) :
    ∀ (f : Nat) (x y : Int) (s : List En),PT l w true a d x y s → y = J → J - x.toNat ≤ f → starR g (rT l w a) (rT l w q) J f x.toNat = s ∨ SA (starR g (rT l w a) (rT l w q) J f x.toNat) s
  | 0,x,y,s,h,hy,hf => by
    cases h with
    | rnil h0 => exact .inl rfl
    | rcons h1 hm h2 => have := h1.le;have := h2.le;omega
  | f + 1,x,y,s,h,hy,hf => by
    cases h with
    | rnil h0 =>
      rw [starR,if_neg (by omega)]
      exact .inl rfl
    | @rcons _ _ _ mm _ s1 s2 h1 hm h2 =>
      have l1 := h1.le
      have l2 := h2.le
      have b1 := (pt_bit htm hw h1).1 rfl
      have b2 := (pt_bit htm hw h2).2 rfl
      rw [hy,Int.toNat_natCast,← hQ _ (by omega)] at b2
      obtain ⟨M,hge⟩ := meet_of (c := q) (i := x.toNat) (j := J) (by omega) (t := mm.toNat - x.toNat) (by omega) (by rw [show x.toNat + (mm.toNat - x.toNat) = mm.toNat by omega];exact b1) (by rw [show x.toNat + (mm.toNat - x.toNat) = mm.toNat by omega];exact b2)
      rw [starR,if_pos ⟨by omega,by omega⟩]
      generalize hS : splitF (rT l w a) (rT l w q) x.toNat J = S at M hge
      by_cases c : S = mm.toNat
      · rw [c]
        rcases L _ _ _ h1 with e|e
        · rw [e]
          rcases star_least htm hw hJ hQ G L f _ _ _ h2 hy (by omega) with e2|e2
          · exact .inl (by rw [e2])
          · exact .inr (e2.pre _)
        · exact .inr (e.app _ _)
      · obtain ⟨t1,e1⟩ := G x.toNat S
        obtain ⟨_,t2,e2⟩ := h1.head
        refine .inr ⟨[],⟨d,a,x.toNat,S⟩,⟨d,a,x,mm⟩,t1 ++ _,t2 ++ s2,by rw [e1];rfl,by rw [e2];rfl,?_⟩
        rw [Int.toNat_of_nonneg l1.1]
        exact vs_to (by omega)
theorem grow_least {l : List Tm} {w : List Int} {lo : List Int} (htm : Term l lo) (hw : w.length ≤ 64) : ∀ (m q : Nat) (d x y : Int) (s : List En),q < m → PT l w false q d x y s → growR l (tabM l w l.length) m q d x.toNat y.toNat = s ∨ SA (growR l (tabM l w l.length) m q d x.toNat y.toNat) s
  | 0,_,_,_,_,_,h,_ => absurd h (Nat.not_lt_zero _)
  | m + 1,q,d,x,y,s,hm,h => by
    obtain ⟨hq,_⟩ := h.head
    have kd := kidsA htm hq
    have hle := h.le
    have ih := fun q' h1 d x y s h => grow_least (w := w) htm hw m q' d x y s h1 h
    have X : ((x.toNat : Nat) : Int) = x := Int.toNat_of_nonneg hle.1
    have Y : ((y.toNat : Nat) : Int) = y := Int.toNat_of_nonneg (by omega)
    have lift : ∀ {a b : List En} (e : En),(a = b ∨ SA a b) → (e :: a = e :: b ∨ SA (e :: a) (e :: b)) := by
      intro a b e h
      rcases h with h|h
      · exact .inl (by rw [h])
      · exact .inr (h.cons e)
    rw [growR,X,Y]
    cases h with
    | eps hk _ h0 =>
      rw [if_neg (by omega),if_neg (by omega),if_neg (by omega),if_neg (by omega),if_neg (by omega)];exact .inl rfl
    | leaf hk _ h0 hb =>
      rw [if_neg (by omega),if_neg (by omega),if_neg (by omega),if_neg (by omega),if_neg (by omega)];exact .inl rfl
    | @cat _ a b _ _ mm _ s1 s2 hk _ ha hb h1 h2 =>
      have k3 := kd.1 (.inl hk)
      have l1 := h1.le
      have l2 := h2.le
      rw [if_pos hk,ha,hb,Int.toNat_natCast,Int.toNat_natCast]
      refine lift _ ?_
      obtain ⟨M,hge⟩ := meet_of (a := a) (c := b) (i := x.toNat) (j := y.toNat) (by omega) (t := mm.toNat - x.toNat) (by omega) (by rw [show x.toNat + (mm.toNat - x.toNat) = mm.toNat by omega];exact (pt_bit htm hw h1).1 rfl) (by rw [show x.toNat + (mm.toNat - x.toNat) = mm.toNat by omega];exact (pt_bit htm hw h2).1 rfl)
      change _ ++ _ = _ ∨ SA (_ ++ _) _
      generalize hS : splitF (rT l w a) (rT l w b) x.toNat y.toNat = S at M hge
      have hS' : splitF (mAt (tabM l w l.length) a) (mAt (tabM l w l.length) b) x.toNat y.toNat = S := hS
      rw [hS']
      by_cases c : S = mm.toNat
      · rw [c]
        rcases ih a (by omega) _ _ _ _ h1 with e|e
        · rw [e]
          rcases ih b (by omega) _ _ _ _ h2 with e2|e2
          · exact .inl (by rw [e2])
          · exact .inr (e2.pre _)
        · exact .inr (e.app _ _)
      · obtain ⟨t1,e1⟩ := grow_head (l := l) (M := tabM l w l.length) (m := m) (q := a) (i := x.toNat) (j := S) (d := d + 1) (by omega)
        obtain ⟨_,t2,e2⟩ := h1.head
        refine .inr ⟨[],⟨d + 1,a,x.toNat,S⟩,⟨d + 1,a,x,mm⟩,t1 ++ _,t2 ++ s2,by rw [e1];rfl,by rw [e2];rfl,?_⟩
        rw [X]
        exact vs_to (by omega)
    | @alt _ a _ _ _ s1 hk _ ha h1 =>
      have k4 := kd.1 (.inr hk)
      have b1 := (pt_bit htm hw h1).1 rfl
      rw [if_neg (by omega),if_pos hk]
      refine lift _ ?_
      by_cases c : bT l w (tAt l q).a.toNat x.toNat y.toNat = true
      · rw [if_pos (by exact c)]
        by_cases e : (tAt l q).a = a
        · rw [e,Int.toNat_natCast]
          exact ih a (by omega) _ _ _ _ h1
        · have hb : (tAt l q).b = a := ha.resolve_left e
          obtain ⟨t1,e1⟩ := grow_head (l := l) (M := tabM l w l.length) (m := m) (q := (tAt l q).a.toNat) (i := x.toNat) (j := y.toNat) (d := d + 1) (by omega)
          obtain ⟨_,t2,e2⟩ := h1.head
          have lt : (tAt l q).a.toNat < a := by
            rcases htm.node q hq with ⟨g1,_⟩|⟨g1,c,d,g2,g3,g4,g5,g6⟩|⟨g1,_⟩
            · omega
            · have := htm.low d
              omega
            · omega
          exact .inr ⟨[],_,_,t1,t2,e1,e2,vs_node (by omega)⟩
      · rw [if_neg (by exact c)]
        have hb : (tAt l q).b = a := by
          rcases ha with ha|ha
          · rw [ha,Int.toNat_natCast] at c;exact absurd b1 c
          · exact ha
        rw [hb,Int.toNat_natCast]
        exact ih a (by omega) _ _ _ _ h1
    | @star _ a _ _ _ s1 hk _ ha h1 =>
      have k5 := kd.2 (by omega) (by omega) (by omega) (by omega)
      rw [if_neg (by omega),if_neg (by omega),if_pos hk,ha,Int.toNat_natCast]
      refine lift _ ?_
      exact star_least (q := q) htm hw (by omega) (fun i hi => by rw [bT5 htm hq hw hk hi (by omega),ha,Int.toNat_natCast]) (fun i k => grow_head (by omega)) (fun x y s h => ih a (by omega) _ x y s h) _ _ _ _ h1 Y.symm (by omega)
    | may hk _ h0 =>
      rw [if_neg (by omega),if_neg (by omega),if_neg (by omega),if_pos hk,if_neg (by omega)];exact .inl rfl
    | @one _ a _ _ _ s1 hk _ ha h1 =>
      have k6 := kd.2 (by omega) (by omega) (by omega) (by omega)
      rw [if_neg (by omega),if_neg (by omega),if_neg (by omega),ha,Int.toNat_natCast]
      refine lift _ ?_
      rcases hk with hk|hk
      · rw [if_pos hk.1,if_pos (by omega)]
        exact ih a (by omega) _ _ _ _ h1
      · rw [if_neg (by omega),if_pos hk]
        exact ih a (by omega) _ _ _ _ h1

end Go.Proofs.Ytfldmpmaifjcbaa
