/-
  PLAIN: the least machine: its states, its classes, its cars.
-/
import Derived.Test.YtglgmmoomlnghaaMoQ
set_option linter.unusedSimpArgs false
set_option linter.unusedVariables false
namespace Go.Proofs.Ytglgmmoomlnghaa
open Go Go.Hs

def mvE (F : List Int) (x : Ed) : Ed := ⟨if x.to < 0 then x.to else F.getD x.to.toNat 0,x.src⟩
def mvS (F : List Int) (s : Sta) : Sta := ⟨s.regs,s.acc,s.eds.map (mvE F)⟩
/-- The states whose class is new. -/
def lsV (d : Df) (F : List Int) : Nat → List Sta
  | 0 => []
  | i + 1 => if F.getD i 0 = (lsV d F i).length then lsV d F i ++ [mvS F (stAt d.sts i)] else lsV d F i
def lstD (d : Df) : Df := ⟨d.tags,d.cls,lsV d (finD d) d.sts.length⟩

theorem edAt_map {F : List Int} {l : List Ed} {c : Nat} (h : c < l.length) : edAt (l.map (mvE F)) c = mvE F (edAt l c) := by
  unfold edAt
  rw [List.getD_eq_getElem?_getD,List.getElem?_map,List.getElem?_eq_getElem h,List.getD_eq_getElem?_getD,List.getElem?_eq_getElem h];rfl
theorem edAt_mem {l : List Ed} {x : Ed} (h : x ∈ l) : ∃ c,c < l.length ∧ edAt l c = x := by
  obtain ⟨c,hc,e⟩ := List.mem_iff_getElem.1 h
  exact ⟨c,hc,by unfold edAt;rw [List.getD_eq_getElem?_getD,List.getElem?_eq_getElem hc];exact e⟩
theorem stAt_app {a b : List Sta} {i : Nat} (h : i < a.length) : stAt (a ++ b) i = stAt a i := by
  unfold stAt
  rw [List.getD_eq_getElem?_getD,List.getElem?_append_left h,← List.getD_eq_getElem?_getD]
theorem stAt_last {a : List Sta} {s : Sta} : stAt (a ++ [s]) a.length = s := by
  unfold stAt
  rw [List.getD_eq_getElem?_getD,List.getElem?_append_right (Nat.le_refl _),Nat.sub_self];rfl
/-! The same key: the same state, by classes. -/
theorem edgeL_inj {F : List Int} : ∀ {a b : List Ed},a.length = b.length → (∀ x ∈ a,x.to < 0 → x.to = -1) → (∀ x ∈ b,x.to < 0 → x.to = -1) → a.flatMap (edgeL F) = b.flatMap (edgeL F) → a.map (mvE F) = b.map (mvE F)
  | [],[],_,_,_,_ => rfl
  | [],_ :: _,h,_,_,_ => by cases h
  | _ :: _,[],h,_,_,_ => by cases h
  | x :: a,y :: b,h,ha,hb,e => by
    simp only [List.flatMap_cons,edgeL,List.cons_append] at e
    obtain ⟨e1,e⟩ := List.cons.inj e
    obtain ⟨e2,e⟩ := List.cons.inj e
    obtain ⟨e3,e⟩ := List.append_inj e (by omega)
    have ih := edgeL_inj (by simpa using h) (fun z hz => ha z (by simp [hz])) (fun z hz => hb z (by simp [hz])) e
    rw [List.map_cons,List.map_cons,ih]
    congr 1
    have hx := ha x (by simp)
    have hy := hb y (by simp)
    unfold mvE
    rw [e3]
    congr 1
    by_cases c1 : x.to < 0
    · have := hx c1
      rw [if_pos c1] at e1 ⊢
      by_cases c2 : y.to < 0
      · rw [if_pos c2];have := hy c2;omega
      · rw [if_neg c2] at e1 ⊢;omega
    · rw [if_neg c1] at e1 ⊢
      by_cases c2 : y.to < 0
      · rw [if_pos c2] at e1 ⊢;have := hy c2;omega
      · rw [if_neg c2] at e1 ⊢;exact e1
theorem lo_edge {d : Df} (hm : mB d = true) {i : Nat} (hi : i < d.sts.length) : ∀ x ∈ (stAt d.sts i).eds,x.to < 0 → x.to = -1 := fun x hx h0 => by
  obtain ⟨c,hc,e⟩ := edAt_mem hx
  rcases mr_edge hm hi hc with ⟨g,_⟩|⟨_,g,_⟩
  · rw [e] at g;exact g
  · rw [e] at g;omega
theorem look_mv {d : Df} (hm : mB d = true) {F : List Int} {i k : Nat} (hi : i < d.sts.length) (hk : k < d.sts.length) (h : keyD d F i = keyD d F k) : mvS F (stAt d.sts i) = mvS F (stAt d.sts k) := by
  unfold keyD lookL at h
  obtain ⟨_,h⟩ := List.cons.inj h
  obtain ⟨h1,h⟩ := List.cons.inj h
  obtain ⟨h2,h⟩ := List.cons.inj h
  obtain ⟨h3,h⟩ := List.append_inj h (by omega)
  have l1 := (mr_st hm hi).1.2.2
  have l2 := (mr_st hm hk).1.2.2
  have := edgeL_inj (by omega) (lo_edge hm hi) (lo_edge hm hk) h
  unfold mvS
  rw [h1,h3,this]

theorem fin_len {d : Df} : (finD d).length = d.sts.length := mcl_len
def mnyF (d : Df) : Nat := (clsK d (d.sts.length + 1)).2
def k0 (d : Df) (i : Nat) : Int := (finD d).getD i 0
theorem fin_self {d : Df} : canV (k0 d) d.sts.length = clsK d (d.sts.length + 1) := mcl_self
theorem fin_rng {d : Df} {i : Nat} (h : i < d.sts.length) : 0 ≤ (finD d).getD i 0 ∧ (finD d).getD i 0 < mnyF d := mcl_rng h
theorem fin_get {d : Df} {n i : Nat} (hn : n ≤ d.sts.length) (hi : i < n) : (canV (k0 d) n).1.getD i 0 = (finD d).getD i 0 := by
  rw [← can_get hn hi,fin_self];rfl
theorem fin_next {d : Df} {i : Nat} (h : i < d.sts.length) : (finD d).getD i 0 = match (List.range i).find? (fun k => decide (k0 d k = k0 d i)) with
    | some k => (canV (k0 d) i).1.getD k 0
    | none => ((canV (k0 d) i).2 : Int) := by
  have := can_last (key := k0 d) (n := i)
  rw [fin_get (by omega) (by omega)] at this
  exact this

theorem lsV_ok {d : Df} (hm : mB d = true) : ∀ n,n ≤ d.sts.length → (lsV d (finD d) n).length = (canV (k0 d) n).2 ∧ ∀ j,j < n → ((finD d).getD j 0).toNat < (lsV d (finD d) n).length ∧ stAt (lsV d (finD d) n) ((finD d).getD j 0).toNat = mvS (finD d) (stAt d.sts j)
  | 0,_ => ⟨rfl,fun j hj => by omega⟩
  | n + 1,hn => by
    obtain ⟨h1,h2⟩ := lsV_ok hm n (by omega)
    have hx := fin_next (d := d) (i := n) (by omega)
    rw [lsV,can_succ]
    cases hf : (List.range n).find? (fun k => decide (k0 d k = k0 d n)) with
    | some k =>
      rw [hf] at hx
      obtain ⟨f1,f2⟩ := find_range hf
      have f2 : k0 d k = k0 d n := of_decide_eq_true f2
      have lt := ((can_ok (key := k0 d) n).1 k f1).2
      simp only at hx
      rw [if_neg (by omega)]
      refine ⟨h1,fun j hj => ?_⟩
      by_cases e : j = n
      · subst e
        have g := h2 k f1
        have f3 : (finD d).getD k 0 = (finD d).getD j 0 := f2
        rw [← f3]
        refine ⟨g.1,g.2.trans ?_⟩
        exact look_mv hm (by omega) (by omega) ((fin_key (by omega) (by omega)).1 f3)
      · exact h2 j (by omega)
    | none =>
      rw [hf] at hx
      simp only at hx
      rw [if_pos (by omega)]
      refine ⟨by simp [h1],fun j hj => ?_⟩
      by_cases e : j = n
      · subst e
        have : ((finD d).getD j 0).toNat = (lsV d (finD d) j).length := by omega
        rw [this,List.length_append]
        exact ⟨by simp,stAt_last⟩
      · obtain ⟨g1,g2⟩ := h2 j (by omega)
        rw [stAt_app g1,List.length_append]
        exact ⟨by omega,g2⟩
theorem lst_len {d : Df} (hm : mB d = true) : (lstD d).sts.length = mnyF d := by
  show (lsV d (finD d) d.sts.length).length = _
  rw [(lsV_ok hm _ (Nat.le_refl _)).1,fin_self];rfl
theorem lst_at {d : Df} (hm : mB d = true) {j : Nat} (hj : j < d.sts.length) : ((finD d).getD j 0).toNat < (lstD d).sts.length ∧ stAt (lstD d).sts ((finD d).getD j 0).toNat = mvS (finD d) (stAt d.sts j) :=
  (lsV_ok hm _ (Nat.le_refl _)).2 j hj
theorem lst_onto {d : Df} (hm : mB d = true) {c : Nat} (hc : c < (lstD d).sts.length) : ∃ j,j < d.sts.length ∧ ((finD d).getD j 0).toNat = c := by
  rw [lst_len hm] at hc
  obtain ⟨i,h1,h2⟩ := (can_ok (key := keyD d (clsK d d.sts.length).1) d.sts.length).2.2.2 c hc
  refine ⟨i,h1,?_⟩
  have : (finD d).getD i 0 = c := h2
  omega
theorem fin_zero {d : Df} (hm : mB d = true) : (finD d).getD 0 0 = 0 := by
  have := (mr_ok hm).1.2.2.2.1
  rw [fin_next (by omega)];rfl
theorem lst_le {d : Df} (hm : mB d = true) : (lstD d).sts.length ≤ d.sts.length := by
  rw [lst_len hm];exact mcl_le
theorem lst_m {d : Df} (hm : mB d = true) : mB (lstD d) = true := by
  have m := mr_ok hm
  have hle := lst_le hm
  have h0 := lst_at hm (j := 0) (by have := m.1.2.2.2.1;omega)
  rw [fin_zero hm] at h0
  refine decide_eq_true ⟨⟨m.1.1,m.1.2.1,m.1.2.2.1,by have := h0.1;omega,by have := m.1.2.2.2.2.1;omega,m.1.2.2.2.2.2⟩,?_,fun c hc => ?_⟩
  · have := h0.2
    rw [show (0 : Int).toNat = 0 from rfl] at this
    rw [this];exact m.2.1
  · obtain ⟨j,hj,e⟩ := lst_onto hm hc
    subst e
    rw [(lst_at hm hj).2]
    have st := mr_st hm hj
    refine decide_eq_true ⟨⟨st.1.1,st.1.2.1,?_⟩,?_,fun k hk => ?_⟩
    · show ((stAt d.sts j).eds.map _).length = _
      rw [List.length_map];exact st.1.2.2
    · exact decide_eq_true (of_decide_eq_true st.2.1 : AccOk (stAt d.sts j) d.tags)
    · have hk : k < ((stAt d.sts j).eds.map (mvE (finD d))).length := hk
      rw [List.length_map] at hk
      show edgeB (lstD d) (edAt ((stAt d.sts j).eds.map (mvE (finD d))) k) (stAt d.sts j).regs = true
      rw [edAt_map hk]
      refine decide_eq_true ?_
      rcases mr_edge hm hj hk with ⟨g1,g2⟩|⟨g1,g2,g3,g4,g5⟩
      · exact .inl ⟨by show (if (edAt (stAt d.sts j).eds k).to < 0 then (edAt (stAt d.sts j).eds k).to else _) = _;rw [if_pos (by omega)];exact g1,g2⟩
      · have to : (mvE (finD d) (edAt (stAt d.sts j).eds k)).to = (finD d).getD (edAt (stAt d.sts j).eds k).to.toNat 0 := by
          exact if_neg (by omega)
        have hr := fin_rng (d := d) (i := (edAt (stAt d.sts j).eds k).to.toNat) (by omega)
        have ha := lst_at hm (j := (edAt (stAt d.sts j).eds k).to.toNat) (by omega)
        refine .inr ⟨by omega,by omega,by rw [to,lst_len hm];exact hr.2,?_,g5⟩
        rw [to,ha.2];exact g4
theorem lst_bd {d : Df} (B : Bd d) (hm : mB d = true) : Bd (lstD d) := by
  have hle := lst_le hm
  refine ⟨by have := B.sts;omega,B.cls,fun i hi => ?_,fun i hi => ?_,fun i hi k hk => ?_⟩
  · obtain ⟨j,hj,e⟩ := lst_onto hm hi
    subst e;rw [(lst_at hm hj).2];exact B.acc j hj
  · obtain ⟨j,hj,e⟩ := lst_onto hm hi
    subst e;rw [(lst_at hm hj).2]
    show ((stAt d.sts j).eds.map _).length ≤ _
    rw [List.length_map];exact B.eds j hj
  · obtain ⟨j,hj,e⟩ := lst_onto hm hi
    subst e;rw [(lst_at hm hj).2] at hk ⊢
    have hk : k < ((stAt d.sts j).eds.map (mvE (finD d))).length := hk
    rw [List.length_map] at hk
    show (edAt ((stAt d.sts j).eds.map (mvE (finD d))) k).src.length ≤ _
    rw [edAt_map hk];exact B.src j hj k hk

/-! The classes of the least machine. -/
/-! Cars. -/
def mvC (d : Df) (c : Cr) : Cr := ⟨c.tags,c.to,c.pos,if c.st < 0 then c.st else (finD d).getD c.st.toNat 0,c.wk,c.regs⟩
theorem mvC_st {d : Df} {c : Cr} (v : VC d c) : ((mvC d c).st < 0 ↔ c.st < 0) := by
  show (if c.st < 0 then c.st else (finD d).getD c.st.toNat 0) < 0 ↔ c.st < 0
  rcases v.st with e|⟨h0,h1,_⟩
  · rw [if_pos (by omega)]
  · have := fin_rng (d := d) (i := c.st.toNat) (by omega)
    rw [if_neg (by omega)];omega
theorem mvC_at {d : Df} (hm : mB d = true) {c : Cr} (v : VC d c) (h : 0 ≤ c.st) : stAt (lstD d).sts (mvC d c).st.toNat = mvS (finD d) (stAt d.sts c.st.toNat) := by
  rcases v.st with e|⟨h0,h1,_⟩
  · omega
  · show stAt _ (if c.st < 0 then c.st else (finD d).getD c.st.toNat 0).toNat = _
    rw [if_neg (by omega)]
    exact (lst_at hm (by omega)).2
theorem mvC_b {d : Df} (hm : mB d = true) {c : Cr} (v : VC d c) : crB (lstD d) (mvC d c) = crB d c := by
  have s := mvC_st v
  unfold crB
  by_cases h : 0 ≤ c.st
  · rw [mvC_at hm v h]
    have : 0 ≤ (mvC d c).st := by omega
    simp only [h,this,true_and];rfl
  · have : ¬ 0 ≤ (mvC d c).st := by omega
    simp only [h,this,false_and]
theorem mvC_acc {d : Df} (hm : mB d = true) {c : Cr} (v : VC d c) : crAcc (lstD d) (mvC d c) = mvC d (crAcc d c) := by
  unfold crAcc
  rw [mvC_b hm v]
  split
  · rename_i h
    have h : 0 ≤ c.st ∧ _ := of_decide_eq_true h
    rw [mvC_at hm v h.1];rfl
  · rfl
theorem mvC_ed {d : Df} (hm : mB d = true) {c : Cr} (v : VC d c) (h : 0 ≤ c.st) {b : Int} (hb : 0 ≤ b ∧ b ≤ 255) : crEd (lstD d) (mvC d c) b = mvE (finD d) (crEd d c b) := by
  rcases v.st with e|⟨_,h1,h2⟩
  · omega
  have q := crEd_ok hm h h1 hb
  unfold crEd
  rw [mvC_at hm v h]
  exact edAt_map q.2.2
theorem mvC_go {d : Df} (hm : mB d = true) {c : Cr} (v : VC d c) {b : Int} (hb : 0 ≤ b ∧ b ≤ 255) : crGo (lstD d) (mvC d c) b = mvC d (crGo d c b) := by
  have s := mvC_st v
  unfold crGo
  by_cases h : 0 ≤ c.st
  · rw [if_pos h,if_pos (by omega),mvC_ed hm v h hb]
    rfl
  · rw [if_neg h,if_neg (by omega)]
    rfl
theorem mvC_feed {d : Df} (B : Bd d) (hm : mB d = true) {c : Cr} (v : VC d c) {b : Int} (hb : 0 ≤ b ∧ b ≤ 255) : crFeed (lstD d) (mvC d c) b = mvC d (crFeed d c b) := by
  unfold crFeed
  rw [mvC_go hm v hb]
  have v2 := v.go B hm hb
  exact mvC_acc hm (c := crInc (crGo d c b)) ⟨v2.st,v2.rl,v2.tl⟩
theorem mvC_new {d : Df} (hm : mB d = true) : crNew (lstD d) = mvC d (crNew d) := by
  have m := mr_ok hm
  unfold crNew
  rw [← mvC_acc hm ⟨.inr ⟨by simp,by have := m.1.2.2.2.1;simp only;omega,?_⟩,by simp,by simp⟩]
  · congr 1
    show _ = (⟨[],0,0,if (0 : Int) < 0 then 0 else (finD d).getD (0 : Int).toNat 0,0,[]⟩ : Cr)
    rw [if_neg (by omega),show (0 : Int).toNat = 0 from rfl,fin_zero hm]
  · show ((0 : Nat) : Int) = (stAt d.sts 0).regs
    rw [m.2.1];rfl

/-! Keys, part by part. -/
end Go.Proofs.Ytglgmmoomlnghaa
