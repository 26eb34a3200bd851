/-
  PLAIN: the least machine: its states, its classes, its cars.
-/
import Derived.Test.YtglgmmoomlnghaaMoQ
set_option linter.unusedSimpArgs false
set_option linter.unusedVariables false
namespace Go.Proofs.Ytglgmmoomlnghaa
open Go Go.Hs

def mvE (F : List Int) (x : Ed) : Ed := ⟨if x.to < 0 then x.to else F.getD x.to.toNat 0,x.src⟩
def mvS (F : List Int) (s : Sta) : Sta := ⟨s.regs,s.acc,s.eds.map (mvE F)⟩
/-- The states whose class is new. -/
def lsV (d : Df) (F : List Int) : Nat → List Sta
  | 0 => []
  | i + 1 => if F.getD i 0 = (lsV d F i).length then lsV d F i ++ [mvS F (stAt d.sts i)] else lsV d F i
def lstD (d : Df) : Df := ⟨d.tags,d.cls,lsV d (finD d) d.sts.length⟩

theorem edAt_map {F : List Int} {l : List Ed} {c : Nat} (h : c < l.length) : edAt (l.map (mvE F)) c = mvE F (edAt l c) := by
  unfold edAt
  rw [List.getD_eq_getElem?_getD,List.getElem?_map,List.getElem?_eq_getElem h,List.getD_eq_getElem?_getD,List.getElem?_eq_getElem h];rfl
theorem edAt_mem {l : List Ed} {x : Ed} (h : x ∈ l) : ∃ c,c < l.length ∧ edAt l c = x := by
  obtain ⟨c,hc,e⟩ := List.mem_iff_getElem.1 h
  exact ⟨c,hc,by unfold edAt;rw [List.getD_eq_getElem?_getD,List.getElem?_eq_getElem hc];exact e⟩
theorem stAt_app {a b : List Sta} {i : Nat} (h : i < a.length) : stAt (a ++ b) i = stAt a i := by
  unfold stAt
  rw [List.getD_eq_getElem?_getD,List.getElem?_append_left h,← List.getD_eq_getElem?_getD]
theorem stAt_last {a : List Sta} {s : Sta} : stAt (a ++ [s]) a.length = s := by
  unfold stAt
  rw [List.getD_eq_getElem?_getD,List.getElem?_append_right (Nat.le_refl _),Nat.sub_self];rfl
/-! The same key: the same state, by classes. -/
theorem edgeL_inj {F : List Int} : ∀ {a b : List Ed},a.length = b.length → (∀ x ∈ a,x.to < 0 → x.to = -1) → (∀ x ∈ b,x.to < 0 → x.to = -1) → a.flatMap (edgeL F) = b.flatMap (edgeL F) → a.map (mvE F) = b.map (mvE F)
  | [],[],_,_,_,_ => rfl
  | [],_ :: _,h,_,_,_ => by cases h
  | _ :: _,[],h,_,_,_ => by cases h
  | x :: a,y :: b,h,ha,hb,e => by
    simp only [List.flatMap_cons,edgeL,List.cons_append] at e
    obtain ⟨e1,e⟩ := List.cons.inj e
    obtain ⟨e2,e⟩ := List.cons.inj e
    obtain ⟨e3,e⟩ := List.append_inj e (by omega)
    have ih := edgeL_inj (by simpa using h) (fun z hz => ha z (by simp [hz])) (fun z hz => hb z (by simp [hz])) e
    rw [List.map_cons,List.map_cons,ih]
    congr 1
    have hx := ha x (by simp)
    have hy := hb y (by simp)
    unfold mvE
    rw [e3]
    congr 1
    by_cases c1 : x.to < 0
    · have := hx c1
      rw [if_pos c1] at e1 ⊢
      by_cases c2 : y.to < 0
      · rw [if_pos c2];have := hy c2;omega
      · rw [if_neg c2] at e1 ⊢;omega
    · rw [if_neg c1] at e1 ⊢
      by_cases c2 : y.to < 0
      · rw [if_pos c2] at e1 ⊢;have := hy c2;omega
      · rw [if_neg c2] at e1 ⊢;exact e1
theorem lo_edge {d : Df} (hm : mB d = true) {i : Nat} (hi : i < d.sts.length) : ∀ x ∈ (stAt d.sts i).eds,x.to < 0 → x.to = -1 := fun x hx h0 => by
  obtain ⟨c,hc,e⟩ := edAt_mem hx
  rcases mr_edge hm hi hc with ⟨g,_⟩|⟨_,g,_⟩
  · rw [e] at g;exact g
  · rw [e] at g;omega
theorem look_mv {d : Df} (hm : mB d = true) {F : List Int} {i k : Nat} (hi : i < d.sts.length) (hk : k < d.sts.length) (h : keyD d F i = keyD d F k) : mvS F (stAt d.sts i) = mvS F (stAt d.sts k) := by
  unfold keyD lookL at h
  obtain ⟨_,h⟩ := List.cons.inj h
  obtain ⟨h1,h⟩ := List.cons.inj h
  obtain ⟨h2,h⟩ := List.cons.inj h
  obtain ⟨h3,h⟩ := List.append_inj h (by omega)
  have l1 := (mr_st hm hi).1.2.2
  have l2 := (mr_st hm hk).1.2.2
  have := edgeL_inj (by omega) (lo_edge hm hi) (lo_edge hm hk) h
  unfold mvS
  rw [h1,h3,this]

theorem fin_len {d : Df} : (finD d).length = d.sts.length := mcl_len
def mnyF (d : Df) : Nat := (clsK d (d.sts.length + 1)).2
def k0 (d : Df) (i : Nat) : Int := (finD d).getD i 0
theorem fin_self {d : Df} : canV (k0 d) d.sts.length = clsK d (d.sts.length + 1) := mcl_self
theorem fin_rng {d : Df} {i : Nat} (h : i < d.sts.length) : 0 ≤ (finD d).getD i 0 ∧ (finD d).getD i 0 < mnyF d := mcl_rng h
theorem fin_get {d : Df} {n i : Nat} (hn : n ≤ d.sts.length) (hi : i < n) : (canV (k0 d) n).1.getD i 0 = (finD d).getD i 0 := by
  rw [← can_get hn hi,fin_self];rfl
theorem fin_next {d : Df} {i : Nat} (h : i < d.sts.length) : (finD d).getD i 0 = match (List.range i).find? (fun k => decide (k0 d k = k0 d i)) with
    | some k => (canV (k0 d) i).1.getD k 0
    | none => ((canV (k0 d) i).2 : Int) := by
  have := can_last (key := k0 d) (n := i)
  rw [fin_get (by omega) (by omega)] at this
  exact this

theorem lsV_ok {d : Df} (hm : mB d = true) : ∀ n,n ≤ d.sts.length → (lsV d (finD d) n).length = (canV (k0 d) n).2 ∧ ∀ j,j < n → ((finD d).getD j 0).toNat < (lsV d (finD d) n).length ∧ stAt (lsV d (finD d) n) ((finD d).getD j 0).toNat = mvS (finD d) (stAt d.sts j)
  | 0,_ => ⟨rfl,fun j hj => by omega⟩
  | n + 1,hn => by
    obtain ⟨h1,h2⟩ := lsV_ok hm n (by omega)
    have hx := fin_next (d := d) (i := n) (by omega)
    rw [lsV,can_succ]
    cases hf : (List.range n).find? (fun k => decide (k0 d k = k0 d n)) with
    | some k =>
      rw [hf] at hx
      obtain ⟨f1,f2⟩ := find_range hf
      have f2 : k0 d k = k0 d n := of_decide_eq_true f2
      have lt := ((can_ok (key := k0 d) n).1 k f1).2
      simp only at hx
      rw [if_neg (by omega)]
      refine ⟨h1,fun j hj => ?_⟩
      by_cases e : j = n
      · subst e
        have g := h2 k f1
        have f3 : (finD d).getD k 0 = (finD d).getD j 0 := f2
        rw [← f3]
        refine ⟨g.1,g.2.trans ?_⟩
        exact look_mv hm (by omega) (by omega) ((fin_key (by omega) (by omega)).1 f3)
      · exact h2 j (by omega)
    | none =>
      rw [hf] at hx
      simp only at hx
      rw [if_pos (by omega)]
      refine ⟨by simp [h1],fun j hj => ?_⟩
      by_cases e : j = n
      · subst e
        have : ((finD d).getD j 0).toNat = (lsV d (finD d) j).length := by omega
        rw [this,List.length_append]
        exact ⟨by simp,stAt_last⟩
      · obtain ⟨g1,g2⟩ := h2 j (by omega)
        rw [stAt_app g1,List.length_append]
        exact ⟨by omega,g2⟩
theorem lst_len {d : Df} (hm : mB d = true) : (lstD d).sts.length = mnyF d := by
  show (lsV d (finD d) d.sts.length).length = _
  rw [(lsV_ok hm _ (Nat.le_refl _)).1,fin_self];rfl
theorem lst_at {d : Df} (hm : mB d = true) {j : Nat} (hj : j < d.sts.length) : ((finD d).getD j 0).toNat < (lstD d).sts.length ∧ stAt (lstD d).sts ((finD d).getD j 0).toNat = mvS (finD d) (stAt d.sts j) :=
  (lsV_ok hm _ (Nat.le_refl _)).2 j hj
theorem lst_onto {d : Df} (hm : mB d = true) {c : Nat} (hc : c < (lstD d).sts.length) : ∃ j,j < d.sts.length ∧ ((finD d).getD j 0).toNat = c := by
  rw [lst_len hm] at hc
  obtain ⟨i,h1,h2⟩ := (can_ok (key := keyD d (clsK d d.sts.length).1) d.sts.length).2.2.2 c hc
  refine ⟨i,h1,?_⟩
  have : (finD d).getD i 0 = c := h2
  omega
theorem fin_zero {d : Df} (hm : mB d = true) : (finD d).getD 0 0 = 0 := by
  have := (mr_ok hm).1.2.2.2.1
  rw [fin_next (by omega)];rfl
theorem lst_le {d : Df} (hm : mB d = true) : (lstD d).sts.length ≤ d.sts.length := by
  rw [lst_len hm];exact mcl_le
theorem lst_m {d : Df} (hm : mB d = true) : mB (lstD d) = true := by
  have m := mr_ok hm
  have hle := lst_le hm
  have h0 := lst_at hm (j := 0) (by have := m.1.2.2.2.1;omega)
  rw [fin_zero hm] at h0
  refine decide_eq_true ⟨⟨m.1.1,m.1.2.1,m.1.2.2.1,by have := h0.1;omega,by have := m.1.2.2.2.2.1;omega,m.1.2.2.2.2.2⟩,?_,fun c hc => ?_⟩
  · have := h0.2
    rw [show (0 : Int).toNat = 0 from rfl] at this
    rw [this];exact m.2.1
  · obtain ⟨j,hj,e⟩ := lst_onto hm hc
    subst e
    rw [(lst_at hm hj).2]
    have st := mr_st hm hj
    refine decide_eq_true ⟨⟨st.1.1,st.1.2.1,?_⟩,?_,fun k hk => ?_⟩
    · show ((stAt d.sts j).eds.map _).length = _
      rw [List.length_map];exact st.1.2.2
    · exact decide_eq_true (of_decide_eq_true st.2.1 : AccOk (stAt d.sts j) d.tags)
    · have hk : k < ((stAt d.sts j).eds.map (mvE (finD d))).length := hk
      rw [List.length_map] at hk
      show edgeB (lstD d) (edAt ((stAt d.sts j).eds.map (mvE (finD d))) k) (stAt d.sts j).regs = true
      rw [edAt_map hk]
      refine decide_eq_true ?_
      rcases mr_edge hm hj hk with ⟨g1,g2⟩|⟨g1,g2,g3,g4,g5⟩
      · exact .inl ⟨by show (if (edAt (stAt d.sts j).eds k).to < 0 then (edAt (stAt d.sts j).eds k).to else _) = _;rw [if_pos (by omega)];exact g1,g2⟩
      · have to : (mvE (finD d) (edAt (stAt d.sts j).eds k)).to = (finD d).getD (edAt (stAt d.sts j).eds k).to.toNat 0 := by
          exact if_neg (by omega)
        have hr := fin_rng (d := d) (i := (edAt (stAt d.sts j).eds k).to.toNat) (by omega)
        have ha := lst_at hm (j := (edAt (stAt d.sts j).eds k).to.toNat) (by omega)
        refine .inr ⟨by omega,by omega,by rw [to,lst_len hm];exact hr.2,?_,g5⟩
        rw [to,ha.2];exact g4
theorem lst_bd {d : Df} (B : Bd d) (hm : mB d = true) : Bd (lstD d) := by
  have hle := lst_le hm
  refine ⟨by have := B.sts;omega,B.cls,fun i hi => ?_,fun i hi => ?_,fun i hi k hk => ?_⟩
  · obtain ⟨j,hj,e⟩ := lst_onto hm hi
    subst e;rw [(lst_at hm hj).2];exact B.acc j hj
  · obtain ⟨j,hj,e⟩ := lst_onto hm hi
    subst e;rw [(lst_at hm hj).2]
    show ((stAt d.sts j).eds.map _).length ≤ _
    rw [List.length_map];exact B.eds j hj
  · obtain ⟨j,hj,e⟩ := lst_onto hm hi
    subst e;rw [(lst_at hm hj).2] at hk ⊢
    have hk : k < ((stAt d.sts j).eds.map (mvE (finD d))).length := hk
    rw [List.length_map] at hk
    show (edAt ((stAt d.sts j).eds.map (mvE (finD d))) k).src.length ≤ _
    rw [edAt_map hk];exact B.src j hj k hk

/-! The classes of the least machine. -/
theorem can_pull {α : Type} [DecidableEq α] {f : Nat → Nat} {key1 key2 : Nat → α} {N : Nat} (hf : ∀ n,n ≤ N → ∀ i,i < n → (canV f n).1.getD i 0 = f i) (h : ∀ i,i < N → key1 i = key2 (f i)) :
    ∀ n,n ≤ N → (canV key1 n).2 = (canV key2 (canV f n).2).2 ∧ ∀ j,j < n → (canV key1 n).1.getD j 0 = (canV key2 (canV f n).2).1.getD (f j) 0
  | 0,_ => ⟨rfl,fun j hj => by omega⟩
  | n + 1,hn => by
    obtain ⟨h1,h2⟩ := can_pull hf h n (by omega)
    have lt : ∀ j,j < n → f j < (canV f n).2 := fun j hj => by
      have := ((can_ok (key := f) n).1 j hj).2
      rw [hf n (by omega) j hj] at this;omega
    have hl := hf (n + 1) hn n (by omega)
    rw [can_last] at hl
    have g1 := fun {j : Nat} (hj : j < n) => can_get (key := key1) (n := n) (m := n + 1) (by omega) hj
    have l1 := can_last (key := key1) (n := n)
    cases ef : (List.range n).find? (fun k => decide (f k = f n)) with
    | some k0 =>
      obtain ⟨f1,f2⟩ := find_range ef
      have f2 : f k0 = f n := of_decide_eq_true f2
      have ec : (canV f (n + 1)).2 = (canV f n).2 := by rw [can_succ,ef]
      rw [ec]
      cases e1 : (List.range n).find? (fun k => decide (key1 k = key1 n)) with
      | none =>
        have := find_none e1 k0 f1
        exact absurd (by rw [h k0 (by omega),h n (by omega),f2]) (of_decide_eq_false this)
      | some k =>
        obtain ⟨q1,q2⟩ := find_range e1
        have q2 : key1 k = key1 n := of_decide_eq_true q2
        rw [e1] at l1
        have em : (canV key1 (n + 1)).2 = (canV key1 n).2 := by rw [can_succ,e1]
        refine ⟨by rw [em,h1],fun j hj => ?_⟩
        by_cases e : j = n
        · subst e
          rw [l1,← f2,← h2 k0 f1]
          exact ((can_ok (key := key1) j).2.1 k k0 q1 f1).2 (by rw [q2,h j (by omega),h k0 (by omega),f2])
        · rw [g1 (by omega),h2 j (by omega)]
    | none =>
      rw [ef] at hl
      simp only at hl
      have hc : f n = (canV f n).2 := by omega
      have ec : (canV f (n + 1)).2 = (canV f n).2 + 1 := by rw [can_succ,ef]
      rw [ec]
      have l2 := can_last (key := key2) (n := (canV f n).2)
      have g2 := fun {j : Nat} (hj : j < (canV f n).2) => can_get (key := key2) (n := (canV f n).2) (m := (canV f n).2 + 1) (by omega) hj
      have kn : key1 n = key2 (canV f n).2 := by rw [h n (by omega),hc]
      cases e1 : (List.range n).find? (fun k => decide (key1 k = key1 n)) with
      | some k =>
        obtain ⟨q1,q2⟩ := find_range e1
        have q2 : key1 k = key1 n := of_decide_eq_true q2
        rw [e1] at l1
        have em : (canV key1 (n + 1)).2 = (canV key1 n).2 := by rw [can_succ,e1]
        have ek : key2 (f k) = key2 (canV f n).2 := by rw [← h k (by omega),q2,kn]
        cases e2 : (List.range (canV f n).2).find? (fun k => decide (key2 k = key2 (canV f n).2)) with
        | none => exact absurd ek (of_decide_eq_false (find_none e2 (f k) (lt k q1)))
        | some k' =>
          obtain ⟨p1,p2⟩ := find_range e2
          have p2 : key2 k' = key2 (canV f n).2 := of_decide_eq_true p2
          rw [e2] at l2
          have em2 : (canV key2 ((canV f n).2 + 1)).2 = (canV key2 (canV f n).2).2 := by rw [can_succ,e2]
          refine ⟨by rw [em,em2,h1],fun j hj => ?_⟩
          by_cases e : j = n
          · subst e
            rw [l1,hc,l2]
            simp only
            rw [h2 k q1]
            exact ((can_ok (key := key2) (canV f j).2).2.1 (f k) k' (lt k q1) p1).2 (by rw [ek,p2])
          · rw [g1 (by omega),h2 j (by omega),g2 (lt j (by omega))]
      | none =>
        rw [e1] at l1
        have em : (canV key1 (n + 1)).2 = (canV key1 n).2 + 1 := by rw [can_succ,e1]
        cases e2 : (List.range (canV f n).2).find? (fun k => decide (key2 k = key2 (canV f n).2)) with
        | some c =>
          exfalso
          obtain ⟨p1,p2⟩ := find_range e2
          have p2 : key2 c = key2 (canV f n).2 := of_decide_eq_true p2
          obtain ⟨i,i1,i2⟩ := (can_ok (key := f) n).2.2.2 c p1
          rw [hf n (by omega) i i1] at i2
          have i2 : f i = c := by omega
          exact of_decide_eq_false (find_none e1 i i1) (by rw [h i (by omega),i2,p2,kn])
        | none =>
          rw [e2] at l2
          have em2 : (canV key2 ((canV f n).2 + 1)).2 = (canV key2 (canV f n).2).2 + 1 := by rw [can_succ,e2]
          refine ⟨by rw [em,em2,h1],fun j hj => ?_⟩
          by_cases e : j = n
          · subst e
            rw [l1,hc,l2]
            simp only
            rw [h1]
          · rw [g1 (by omega),h2 j (by omega),g2 (lt j (by omega))]
def fN (d : Df) (i : Nat) : Nat := ((finD d).getD i 0).toNat
theorem fN_can {d : Df} {n : Nat} (hn : n ≤ d.sts.length) : canV (fN d) n = canV (k0 d) n :=
  can_congr n fun i k hi hk => by
    have a := fin_rng (d := d) (i := i) (by omega)
    have b := fin_rng (d := d) (i := k) (by omega)
    unfold fN k0;omega
theorem fN_get {d : Df} : ∀ n,n ≤ d.sts.length → ∀ i,i < n → (canV (fN d) n).1.getD i 0 = fN d i := fun n hn i hi => by
  rw [fN_can hn,fin_get hn hi]
  have a := fin_rng (d := d) (i := i) (by omega)
  unfold fN;omega
theorem fN_many {d : Df} (hm : mB d = true) : (canV (fN d) d.sts.length).2 = (lstD d).sts.length := by
  rw [fN_can (Nat.le_refl _),fin_self,lst_len hm];rfl
theorem key_mv {d : Df} (hm : mB d = true) {C C' : List Int} (hC : ∀ i,i < d.sts.length → C.getD i 0 = C'.getD (fN d i) 0) {i : Nat} (hi : i < d.sts.length) : keyD d C i = keyD (lstD d) C' (fN d i) := by
  unfold keyD
  show _ = lookL (stAt (lstD d).sts ((finD d).getD i 0).toNat) C' (fN d i)
  rw [(lst_at hm hi).2]
  unfold lookL
  rw [hC i hi]
  show _ = C'.getD (fN d i) 0 :: (stAt d.sts i).regs :: ((stAt d.sts i).acc.length : Int) :: ((stAt d.sts i).acc ++ ((stAt d.sts i).eds.map (mvE (finD d))).flatMap (edgeL C'))
  congr 4
  rw [List.flatMap_map]
  have : ∀ l : List Ed,(∀ x ∈ l,x ∈ (stAt d.sts i).eds) → l.flatMap (edgeL C) = l.flatMap (fun x => edgeL C' (mvE (finD d) x)) := fun l => by
    induction l with
    | nil => intro _;rfl
    | cons x l ih =>
      intro hl
      rw [List.flatMap_cons,List.flatMap_cons,ih (fun y hy => hl y (by simp [hy]))]
      congr 1
      obtain ⟨c,hc,e⟩ := edAt_mem (hl x (by simp))
      have es : (mvE (finD d) x).src = x.src := rfl
      unfold edgeL
      rw [es]
      congr 1
      rcases mr_edge hm hi hc with ⟨g,_⟩|⟨_,g1,g2,_⟩
      · rw [e] at g
        have et : (mvE (finD d) x).to = x.to := if_pos (by omega)
        rw [et,if_pos (by omega),if_pos (by omega)]
      · rw [e] at g1 g2
        have et : (mvE (finD d) x).to = (finD d).getD x.to.toNat 0 := if_neg (by omega)
        have := fin_rng (d := d) (i := x.to.toNat) (by omega)
        rw [et,if_neg (by omega),if_neg (by omega),hC _ (by omega)];rfl
  exact this _ (fun x hx => hx)
theorem cls_pull {d : Df} (hm : mB d = true) : ∀ n i,i < d.sts.length → (clsK d n).1.getD i 0 = (clsK (lstD d) n).1.getD (fN d i) 0
  | 0,i,hi => by
    have := (can_pull (key1 := fun _ => ()) (key2 := fun _ => ()) fN_get (fun _ _ => rfl) d.sts.length (Nat.le_refl _)).2 i hi
    rw [fN_many hm] at this
    exact this
  | n + 1,i,hi => by
    have ih := cls_pull hm n
    have := (can_pull (key1 := keyD d (clsK d n).1) (key2 := keyD (lstD d) (clsK (lstD d) n).1) fN_get (fun i hi => key_mv hm ih hi) d.sts.length (Nat.le_refl _)).2 i hi
    rw [fN_many hm] at this
    exact this
/-- No two states of the least machine are alike. -/
theorem lst_fin {d : Df} (hm : mB d = true) {c : Nat} (hc : c < (lstD d).sts.length) : (finD (lstD d)).getD c 0 = c := by
  obtain ⟨i,hi,e⟩ := lst_onto hm hc
  have p := cls_pull hm (d.sts.length + 1) i hi
  have hle := lst_le hm
  have st : (clsK (lstD d) (d.sts.length + 1)).1 = finD (lstD d) := mcl_stay (n := (lstD d).sts.length + 1) fin_stays (d.sts.length + 1) (by omega)
  rw [st] at p
  have p : (finD d).getD i 0 = (finD (lstD d)).getD (fN d i) 0 := p
  have e : fN d i = c := e
  rw [e] at p
  rw [← p,← e]
  have := fin_rng (d := d) (i := i) hi
  unfold fN;omega
theorem mvS_id {d : Df} (hm : mB d = true) {F : List Int} (hF : ∀ c,c < d.sts.length → F.getD c 0 = c) {i : Nat} (hi : i < d.sts.length) : mvS F (stAt d.sts i) = stAt d.sts i := by
  have : (stAt d.sts i).eds.map (mvE F) = (stAt d.sts i).eds := by
    refine (List.map_congr_left fun x hx => ?_).trans (List.map_id _)
    obtain ⟨c,hc,e⟩ := edAt_mem hx
    unfold mvE
    rcases mr_edge hm hi hc with ⟨g,_⟩|⟨_,g1,g2,_⟩
    · rw [e] at g
      rw [if_pos (by omega)];rfl
    · rw [e] at g1 g2
      rw [if_neg (by omega),hF _ (by omega),Int.toNat_of_nonneg g1];rfl
  unfold mvS
  rw [this]
theorem lsV_id {d : Df} (hm : mB d = true) (hF : ∀ c,c < d.sts.length → (finD d).getD c 0 = c) : ∀ n,n ≤ d.sts.length → lsV d (finD d) n = d.sts.take n
  | 0,_ => rfl
  | n + 1,hn => by
    have ih := lsV_id hm hF n (by omega)
    rw [lsV,ih,hF n (by omega),List.length_take,if_pos (by rw [Nat.min_eq_left (by omega)]),mvS_id hm hF (by omega),List.take_succ_eq_append_getElem (by omega)]
    congr 2
    unfold stAt
    rw [List.getD_eq_getElem?_getD,List.getElem?_eq_getElem (by omega)];rfl
theorem lst_lst {d : Df} (hm : mB d = true) : lstD (lstD d) = lstD d := by
  have := lsV_id (lst_m hm) (fun c hc => lst_fin hm hc) (lstD d).sts.length (Nat.le_refl _)
  rw [List.take_of_length_le (Nat.le_refl _)] at this
  show (⟨d.tags,d.cls,lsV (lstD d) (finD (lstD d)) (lstD d).sts.length⟩ : Df) = lstD d
  rw [this];rfl

/-! Cars. -/
/-! Keys, part by part. -/
end Go.Proofs.Ytglgmmoomlnghaa
