/-
  PLAIN: the least machine: its states, its classes, its cars.
-/
import Derived.Test.YtglgmmoomlnghaaMoQ
set_option linter.unusedSimpArgs false
set_option linter.unusedVariables false
namespace Go.Proofs.Ytglgmmoomlnghaa
open Go Go.Hs

def mvE (F : List Int) (x : Ed) : Ed := ⟨if x.to < 0 then x.to else F.getD x.to.toNat 0,x.src⟩
def mvS (F : List Int) (s : Sta) : Sta := ⟨s.regs,s.acc,s.eds.map (mvE F)⟩
/-- The states whose class is new. -/
def lsV (d : Df) (F : List Int) : Nat → List Sta
  | 0 => []
  | i + 1 => if F.getD i 0 = (lsV d F i).length then lsV d F i ++ [mvS F (stAt d.sts i)] else lsV d F i
def lstD (d : Df) : Df := ⟨d.tags,d.cls,lsV d (finD d) d.sts.length⟩

theorem edAt_map {F : List Int} {l : List Ed} {c : Nat} (h : c < l.length) : edAt (l.map (mvE F)) c = mvE F (edAt l c) := by
  unfold edAt
  rw [List.getD_eq_getElem?_getD,List.getElem?_map,List.getElem?_eq_getElem h,List.getD_eq_getElem?_getD,List.getElem?_eq_getElem h];rfl
theorem edAt_mem {l : List Ed} {x : Ed} (h : x ∈ l) : ∃ c,c < l.length ∧ edAt l c = x := by
  obtain ⟨c,hc,e⟩ := List.mem_iff_getElem.1 h
  exact ⟨c,hc,by unfold edAt;rw [List.getD_eq_getElem?_getD,List.getElem?_eq_getElem hc];exact e⟩
theorem stAt_app {a b : List Sta} {i : Nat} (h : i < a.length) : stAt (a ++ b) i = stAt a i := by
  unfold stAt
  rw [List.getD_eq_getElem?_getD,List.getElem?_append_left h,← List.getD_eq_getElem?_getD]
theorem stAt_last {a : List Sta} {s : Sta} : stAt (a ++ [s]) a.length = s := by
  unfold stAt
  rw [List.getD_eq_getElem?_getD,List.getElem?_append_right (Nat.le_refl _),Nat.sub_self];rfl
/-! The same key: the same state, by classes. -/
theorem edgeL_inj {F : List Int} : ∀ {a b : List Ed},a.length = b.length → (∀ x ∈ a,x.to < 0 → x.to = -1) → (∀ x ∈ b,x.to < 0 → x.to = -1) → a.flatMap (edgeL F) = b.flatMap (edgeL F) → a.map (mvE F) = b.map (mvE F)
  | [],[],_,_,_,_ => rfl
  | [],_ :: _,h,_,_,_ => by cases h
  | _ :: _,[],h,_,_,_ => by cases h
  | x :: a,y :: b,h,ha,hb,e => by
    simp only [List.flatMap_cons,edgeL,List.cons_append] at e
    obtain ⟨e1,e⟩ := List.cons.inj e
    obtain ⟨e2,e⟩ := List.cons.inj e
    obtain ⟨e3,e⟩ := List.append_inj e (by omega)
    have ih := edgeL_inj (by simpa using h) (fun z hz => ha z (by simp [hz])) (fun z hz => hb z (by simp [hz])) e
    rw [List.map_cons,List.map_cons,ih]
    congr 1
    have hx := ha x (by simp)
    have hy := hb y (by simp)
    unfold mvE
    rw [e3]
    congr 1
    by_cases c1 : x.to < 0
    · have := hx c1
      rw [if_pos c1] at e1 ⊢
      by_cases c2 : y.to < 0
      · rw [if_pos c2];have := hy c2;omega
      · rw [if_neg c2] at e1 ⊢;omega
    · rw [if_neg c1] at e1 ⊢
      by_cases c2 : y.to < 0
      · rw [if_pos c2] at e1 ⊢;have := hy c2;omega
      · rw [if_neg c2] at e1 ⊢;exact e1
theorem lo_edge {d : Df} (hm : mB d = true) {i : Nat} (hi : i < d.sts.length) : ∀ x ∈ (stAt d.sts i).eds,x.to < 0 → x.to = -1 := fun x hx h0 => by
  obtain ⟨c,hc,e⟩ := edAt_mem hx
  rcases mr_edge hm hi hc with ⟨g,_⟩|⟨_,g,_⟩
  · rw [e] at g;exact g
  · rw [e] at g;omega
theorem look_mv {d : Df} (hm : mB d = true) {F : List Int} {i k : Nat} (hi : i < d.sts.length) (hk : k < d.sts.length) (h : keyD d F i = keyD d F k) : mvS F (stAt d.sts i) = mvS F (stAt d.sts k) := by
  unfold keyD lookL at h
  obtain ⟨_,h⟩ := List.cons.inj h
  obtain ⟨h1,h⟩ := List.cons.inj h
  obtain ⟨h2,h⟩ := List.cons.inj h
  obtain ⟨h3,h⟩ := List.append_inj h (by omega)
  have l1 := (mr_st hm hi).1.2.2
  have l2 := (mr_st hm hk).1.2.2
  have := edgeL_inj (by omega) (lo_edge hm hi) (lo_edge hm hk) h
  unfold mvS
  rw [h1,h3,this]

theorem fin_len {d : Df} : (finD d).length = d.sts.length := mcl_len
def mnyF (d : Df) : Nat := (clsK d (d.sts.length + 1)).2
def k0 (d : Df) (i : Nat) : Int := (finD d).getD i 0
theorem fin_self {d : Df} : canV (k0 d) d.sts.length = clsK d (d.sts.length + 1) := mcl_self
theorem fin_get {d : Df} {n i : Nat} (hn : n ≤ d.sts.length) (hi : i < n) : (canV (k0 d) n).1.getD i 0 = (finD d).getD i 0 := by
  rw [← can_get hn hi,fin_self];rfl
theorem fin_next {d : Df} {i : Nat} (h : i < d.sts.length) : (finD d).getD i 0 = match (List.range i).find? (fun k => decide (k0 d k = k0 d i)) with
    | some k => (canV (k0 d) i).1.getD k 0
    | none => ((canV (k0 d) i).2 : Int) := by
  have := can_last (key := k0 d) (n := i)
  rw [fin_get (by omega) (by omega)] at this
  exact this

theorem lsV_ok {d : Df} (hm : mB d = true) : ∀ n,n ≤ d.sts.length → (lsV d (finD d) n).length = (canV (k0 d) n).2 ∧ ∀ j,j < n → ((finD d).getD j 0).toNat < (lsV d (finD d) n).length ∧ stAt (lsV d (finD d) n) ((finD d).getD j 0).toNat = mvS (finD d) (stAt d.sts j)
  | 0,_ => ⟨rfl,fun j hj => by omega⟩
  | n + 1,hn => by
    obtain ⟨h1,h2⟩ := lsV_ok hm n (by omega)
    have hx := fin_next (d := d) (i := n) (by omega)
    rw [lsV,can_succ]
    cases hf : (List.range n).find? (fun k => decide (k0 d k = k0 d n)) with
    | some k =>
      rw [hf] at hx
      obtain ⟨f1,f2⟩ := find_range hf
      have f2 : k0 d k = k0 d n := of_decide_eq_true f2
      have lt := ((can_ok (key := k0 d) n).1 k f1).2
      simp only at hx
      rw [if_neg (by omega)]
      refine ⟨h1,fun j hj => ?_⟩
      by_cases e : j = n
      · subst e
        have g := h2 k f1
        have f3 : (finD d).getD k 0 = (finD d).getD j 0 := f2
        rw [← f3]
        refine ⟨g.1,g.2.trans ?_⟩
        exact look_mv hm (by omega) (by omega) ((fin_key (by omega) (by omega)).1 f3)
      · exact h2 j (by omega)
    | none =>
      rw [hf] at hx
      simp only at hx
      rw [if_pos (by omega)]
      refine ⟨by simp [h1],fun j hj => ?_⟩
      by_cases e : j = n
      · subst e
        have : ((finD d).getD j 0).toNat = (lsV d (finD d) j).length := by omega
        rw [this,List.length_append]
        exact ⟨by simp,stAt_last⟩
      · obtain ⟨g1,g2⟩ := h2 j (by omega)
        rw [stAt_app g1,List.length_append]
        exact ⟨by omega,g2⟩
theorem lst_len {d : Df} (hm : mB d = true) : (lstD d).sts.length = mnyF d := by
  show (lsV d (finD d) d.sts.length).length = _
  rw [(lsV_ok hm _ (Nat.le_refl _)).1,fin_self];rfl
theorem lst_at {d : Df} (hm : mB d = true) {j : Nat} (hj : j < d.sts.length) : ((finD d).getD j 0).toNat < (lstD d).sts.length ∧ stAt (lstD d).sts ((finD d).getD j 0).toNat = mvS (finD d) (stAt d.sts j) :=
  (lsV_ok hm _ (Nat.le_refl _)).2 j hj
theorem lst_onto {d : Df} (hm : mB d = true) {c : Nat} (hc : c < (lstD d).sts.length) : ∃ j,j < d.sts.length ∧ ((finD d).getD j 0).toNat = c := by
  rw [lst_len hm] at hc
  obtain ⟨i,h1,h2⟩ := (can_ok (key := keyD d (clsK d d.sts.length).1) d.sts.length).2.2.2 c hc
  refine ⟨i,h1,?_⟩
  have : (finD d).getD i 0 = c := h2
  omega
theorem lst_le {d : Df} (hm : mB d = true) : (lstD d).sts.length ≤ d.sts.length := by
  rw [lst_len hm];exact mcl_le
theorem lst_bd {d : Df} (B : Bd d) (hm : mB d = true) : Bd (lstD d) := by
  have hle := lst_le hm
  refine ⟨by have := B.sts;omega,B.cls,fun i hi => ?_,fun i hi => ?_,fun i hi k hk => ?_⟩
  · obtain ⟨j,hj,e⟩ := lst_onto hm hi
    subst e;rw [(lst_at hm hj).2];exact B.acc j hj
  · obtain ⟨j,hj,e⟩ := lst_onto hm hi
    subst e;rw [(lst_at hm hj).2]
    show ((stAt d.sts j).eds.map _).length ≤ _
    rw [List.length_map];exact B.eds j hj
  · obtain ⟨j,hj,e⟩ := lst_onto hm hi
    subst e;rw [(lst_at hm hj).2] at hk ⊢
    have hk : k < ((stAt d.sts j).eds.map (mvE (finD d))).length := hk
    rw [List.length_map] at hk
    show (edAt ((stAt d.sts j).eds.map (mvE (finD d))) k).src.length ≤ _
    rw [edAt_map hk];exact B.src j hj k hk

/-! The classes of the least machine. -/
/-! Cars. -/
/-! Keys, part by part. -/
theorem flat_edge {F : List Int} : ∀ {a b : List Ed},a.length = b.length → (a.flatMap (edgeL F) = b.flatMap (edgeL F) ↔ ∀ c,c < a.length → edgeL F (edAt a c) = edgeL F (edAt b c))
  | [],[],_ => by simp
  | [],_ :: _,h => by cases h
  | _ :: _,[],h => by cases h
  | x :: a,y :: b,h => by
    have ih := flat_edge (F := F) (a := a) (b := b) (by simpa using h)
    rw [List.flatMap_cons,List.flatMap_cons]
    constructor
    · intro e
      simp only [edgeL,List.cons_append] at e
      obtain ⟨e1,e⟩ := List.cons.inj e
      obtain ⟨e2,e⟩ := List.cons.inj e
      obtain ⟨e3,e⟩ := List.append_inj e (by omega)
      intro c hc
      cases c with
      | zero => show edgeL F x = edgeL F y;unfold edgeL;rw [e1,e2,e3]
      | succ c => exact ih.1 e c (by simpa using hc)
    · intro g
      have g0 : edgeL F x = edgeL F y := g 0 (by simp)
      rw [g0,ih.2 fun c hc => g (c + 1) (by simpa using hc)]
theorem edgeL_iff {F : List Int} (hF : ∀ j,0 ≤ F.getD j 0) {x y : Ed} : edgeL F x = edgeL F y ↔ ((x.to < 0 ↔ y.to < 0) ∧ x.src = y.src ∧ (0 ≤ x.to → F.getD x.to.toNat 0 = F.getD y.to.toNat 0)) := by
  have fx := hF x.to.toNat
  have fy := hF y.to.toNat
  unfold edgeL
  constructor
  · intro e
    obtain ⟨e1,e⟩ := List.cons.inj e
    obtain ⟨_,e3⟩ := List.cons.inj e
    refine ⟨?_,e3,fun h => ?_⟩
    · by_cases c1 : x.to < 0 <;> by_cases c2 : y.to < 0 <;> simp only [c1,c2,if_true,if_false] at e1 ⊢ <;> omega
    · rw [if_neg (by omega)] at e1
      by_cases c2 : y.to < 0
      · rw [if_pos c2] at e1;omega
      · rw [if_neg c2] at e1;exact e1
  · rintro ⟨h1,h2,h3⟩
    rw [h2]
    congr 1
    by_cases c1 : x.to < 0
    · rw [if_pos c1,if_pos (h1.1 c1)]
    · rw [if_neg c1,if_neg (fun h => c1 (h1.2 h))];exact h3 (by omega)
theorem key_iff {d : Df} (hm : mB d = true) {F : List Int} {i k : Nat} (hi : i < d.sts.length) (hk : k < d.sts.length) : keyD d F i = keyD d F k ↔ (((stAt d.sts i).regs = (stAt d.sts k).regs ∧ (stAt d.sts i).acc = (stAt d.sts k).acc ∧ F.getD i 0 = F.getD k 0) ∧ ∀ c,c < (stAt d.sts i).eds.length → edgeL F (edAt (stAt d.sts i).eds c) = edgeL F (edAt (stAt d.sts k).eds c)) := by
  have l1 := (mr_st hm hi).1.2.2
  have l2 := (mr_st hm hk).1.2.2
  rw [← flat_edge (by omega)]
  unfold keyD lookL
  constructor
  · intro h
    obtain ⟨h0,h⟩ := List.cons.inj h
    obtain ⟨h1,h⟩ := List.cons.inj h
    obtain ⟨h2,h⟩ := List.cons.inj h
    obtain ⟨h3,h⟩ := List.append_inj h (by omega)
    exact ⟨⟨h1,h3,h0⟩,h⟩
  · rintro ⟨⟨h1,h2,h0⟩,h⟩
    rw [h0,h1,h2,h]

end Go.Proofs.Ytglgmmoomlnghaa
