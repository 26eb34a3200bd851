/-
  PLAIN: parse trees of bytes that stand in others; spans of them.
-/
import Derived.Test.YtfldmpmaifjcbaaLsR
import Derived.Test.YtfldmpmaifjcbaaSpanP
set_option linter.unusedSimpArgs false
set_option linter.unusedVariables false
namespace Go.Proofs.Ytfldmpmaifjcbaa
open Go Go.Hs

def shN (c : Int) (e : En) : En := ⟨e.d,e.n,e.f + c,e.t + c⟩
def shE (c : Int) (s : List En) : List En := s.map (shN c)
theorem shE_shE {c c' : Int} {s : List En} : shE c (shE c' s) = shE (c' + c) s := by
  simp [shE,shN,Function.comp_def,Int.add_assoc]
theorem shE_zero {s : List En} : shE 0 s = s := by
  have e : shN 0 = id := by funext e;cases e;simp [shN]
  rw [shE,e,List.map_id]
theorem vs_sh {c : Int} {x y : En} : vsF (shN c x) (shN c y) = vsF x y := by
  have e1 : sg (x.f + c) (y.f + c) = sg x.f y.f := by
    unfold sg
    by_cases h1 : x.f < y.f
    · rw [if_pos h1,if_pos (by omega)]
    · rw [if_neg h1,if_neg (by omega)]
      by_cases h2 : y.f < x.f
      · rw [if_pos h2,if_pos (by omega)]
      · rw [if_neg h2,if_neg (by omega)]
  have e2 : sg (y.t + c) (x.t + c) = sg y.t x.t := by
    unfold sg
    by_cases h1 : y.t < x.t
    · rw [if_pos h1,if_pos (by omega)]
    · rw [if_neg h1,if_neg (by omega)]
      by_cases h2 : x.t < y.t
      · rw [if_pos h2,if_pos (by omega)]
      · rw [if_neg h2,if_neg (by omega)]
  simp only [vsF,shN,e1,e2]
theorem SA.sh {c : Int} {a b : List En} : SA a b → SA (shE c a) (shE c b)
  | ⟨p,x,y,s,t,h1,h2,h3⟩ => ⟨shE c p,shN c x,shN c y,shE c s,shE c t,by rw [h1];simp [shE],by rw [h2];simp [shE],by rw [vs_sh,h3]⟩
theorem SA.not {a b : List En} (h : SA a b) (g : SA b a) : False := by
  have e1 := h.ahead
  have e2 := g.ahead
  rw [aheadF_anti,e1] at e2
  omega
theorem pt_sh {l : List Tm} {w w' : List Int} {c lo hi : Int} (g0 : 0 ≤ lo + c) (g1 : hi + c ≤ w'.length) (H : ∀ p : Int,lo ≤ p → p < hi → w'.getD (p + c).toNat 0 = w.getD p.toNat 0) {r : Bool} {q : Nat} {d a b : Int} {s : List En} (h : PT l w r q d a b s) :
    lo ≤ a → b ≤ hi → PT l w' r q d (a + c) (b + c) (shE c s) := by
  induction h with
  | eps hk hq h0 => intro ha hb;exact .eps hk hq (by omega)
  | @leaf q d i hk hq h0 hb =>
    intro ha hb'
    have e : i + 1 + c = i + c + 1 := by omega
    simp only [shE,shN,List.map_cons,List.map_nil,e]
    exact .leaf hk hq (by omega) (by rw [H _ ha (by omega)];exact hb)
  | cat hk hq ha hb h1 h2 i1 i2 =>
    intro x y
    have l1 := h1.le
    have l2 := h2.le
    have := PT.cat hk hq ha hb (i1 x (by omega)) (i2 (by omega) y)
    simpa only [shE,shN,List.map_cons,List.map_append] using this
  | alt hk hq ha h1 i1 => intro x y;exact .alt hk hq ha (i1 x y)
  | star hk hq ha h1 i1 => intro x y;exact .star hk hq ha (i1 x y)
  | may hk hq h0 => intro ha hb;exact .may hk hq (by omega)
  | one hk hq ha h1 i1 => intro x y;exact .one (hk.imp (fun h => ⟨h.1,by omega⟩) id) hq ha (i1 x y)
  | rnil h0 => intro ha hb;exact .rnil (by omega)
  | rcons h1 hm h2 i1 i2 =>
    intro x y
    have l1 := h1.le
    have l2 := h2.le
    have := PT.rcons (i1 x (by omega)) (by omega) (i2 (by omega) y)
    simpa only [shE,List.map_append] using this

/-! The bytes from one place to another one. -/
theorem win_len {w : List Int} {i j : Nat} (hij : i ≤ j) (hj : j ≤ w.length) : (ex w i j).length = j - i := by
  rw [ex_eq,List.length_take,List.length_drop];omega
theorem win_get {w : List Int} {i j : Nat} {p : Nat} (hp : p < j - i) : (ex w i j).getD p 0 = w.getD (i + p) 0 := by
  rw [ex_eq]
  simp only [List.getD_eq_getElem?_getD,List.getElem?_take,if_pos hp,List.getElem?_drop]
theorem win_up {l : List Tm} {w : List Int} {i j : Nat} (hij : i ≤ j) (hj : j ≤ w.length) {r : Bool} {q : Nat} {d a b : Int} {s : List En} (h : PT l (ex w i j) r q d a b s) : PT l w r q d (a + i) (b + i) (shE i s) := by
  have hl := h.le
  rw [win_len hij hj] at hl
  refine pt_sh (lo := 0) (hi := (j : Int) - i) (by omega) (by omega) (fun p h1 h2 => ?_) h (by omega) (by omega)
  rw [win_get (by omega),show (p + (i : Int)).toNat = i + p.toNat by omega]
theorem win_down {l : List Tm} {w : List Int} {i j : Nat} (hij : i ≤ j) (hj : j ≤ w.length) {r : Bool} {q : Nat} {d a b : Int} {s : List En} (h : PT l w r q d a b s) (h1 : i ≤ a) (h2 : b ≤ j) : PT l (ex w i j) r q d (a + (-i)) (b + (-i)) (shE (-i) s) := by
  refine pt_sh (lo := i) (hi := j) (by omega) (by rw [win_len hij hj];omega) (fun p h1 h2 => ?_) h h1 h2
  rw [win_get (by omega),show i + (p + -(i : Int)).toNat = p.toNat by omega]
theorem win_tree {l : List Tm} {w : List Int} {lo : List Int} (htm : Term l lo) (hw : w.length ≤ 64) {i j q : Nat} (hij : i ≤ j) (hj : j ≤ w.length) (hq : q < l.length) (d : Int) (hb : bT l w q i j = true) :
    bT l (ex w i j) q 0 (j - i) = true ∧ shE i (growR l (tabM l (ex w i j) l.length) l.length q d 0 (j - i)) = growR l (tabM l w l.length) l.length q d i j := by
  have hwl := win_len hij hj
  have p1 := grow_pt htm hw l.length q d i j hq hq hij hj hb
  have p2 := win_down hij hj p1 (Int.le_refl _) (Int.le_refl _)
  have b2 := (pt_bit htm (by omega) p2).1 rfl
  rw [show ((i : Int) + -i).toNat = 0 by omega,show ((j : Int) + -i).toNat = j - i by omega] at b2
  have p3 := grow_pt (w := ex w i j) htm (by omega) l.length q d 0 (j - i) hq hq (by omega) (by omega) b2
  have p4 := win_up hij hj p3
  have a1 := grow_least (w := ex w i j) htm (by omega) l.length q d _ _ _ hq p2
  rw [show ((i : Int) + -i).toNat = 0 by omega,show ((j : Int) + -i).toNat = j - i by omega] at a1
  have a2 := grow_least (w := w) htm hw l.length q d _ _ _ hq p4
  rw [show (((0 : Nat) : Int) + i).toNat = i by omega,show (((j - i : Nat) : Int) + i).toNat = j by omega] at a2
  refine ⟨b2,?_⟩
  rcases a2 with a2|a2
  · exact a2.symm
  · rcases a1 with a1|a1
    · rw [a1,shE_shE,show -(i : Int) + i = 0 by omega,shE_zero]
    · have a3 := a1.sh (c := (i : Int))
      rw [shE_shE,show -(i : Int) + i = 0 by omega,shE_zero] at a3
      exact (a3.not a2).elim

/-! Spans. -/
def shS (c : Int) (x : Sp) : Sp := if 0 ≤ x.1 then (x.1 + c,x.2 + c) else x
theorem uns_sh {c : Int} {gs : List Int} : ∀ {o : List Sp},gs.foldl unsG (o.map (shS c)) = (gs.foldl unsG o).map (shS c) := by
  induction gs with
  | nil => intro o;rfl
  | cons g gs ih =>
    intro o
    have e : unsG (o.map (shS c)) g = (unsG o g).map (shS c) := by
      rw [unsG,unsG,List.map_set];rfl
    rw [List.foldl_cons,List.foldl_cons,e,ih]
theorem step_sh {l : List Tm} {c : Int} {o : List Sp} {x : En} (h : 0 ≤ x.f) : spStep l (o.map (shS c)) (shN c x) = (spStep l o x).map (shS c) := by
  unfold spStep
  by_cases c1 : x.n < 0 ∨ (l.length : Int) ≤ x.n
  · rw [if_pos (by exact c1),if_pos c1]
  · rw [if_neg (by exact c1),if_neg c1]
    by_cases c2 : (tAt l x.n.toNat).k = 7
    · rw [if_pos (by exact c2),if_pos c2,List.map_set,shS,if_pos h];rfl
    · rw [if_neg (by exact c2),if_neg c2]
      by_cases c3 : (tAt l x.n.toNat).k = 8
      · rw [if_pos (by exact c3),if_pos c3];exact uns_sh
      · rw [if_neg (by exact c3),if_neg c3]
theorem fold_sh {l : List Tm} {c : Int} : ∀ {t : List En} {o : List Sp},(∀ x ∈ t,0 ≤ x.f) → (shE c t).foldl (spStep l) (o.map (shS c)) = (t.foldl (spStep l) o).map (shS c)
  | [],_,_ => rfl
  | x :: t,o,h => by
    show ((shE c t).foldl (spStep l) (spStep l (o.map (shS c)) (shN c x))) = _
    rw [step_sh (h x (by simp)),fold_sh (fun y hy => h y (by simp [hy]))];rfl
theorem spans_sh {l : List Tm} {c : Int} {t : List En} (h : ∀ x ∈ t,0 ≤ x.f) : spansF l (shE c t) = (spansF l t).map (shS c) := by
  unfold spansF
  split
  · unfold spWalk
    have e : (shE c t).length = t.length := by simp [shE]
    rw [e,List.take_of_length_le (by omega),List.take_of_length_le (Nat.le_refl _),← fold_sh h]
    congr 1
    unfold spInit
    rw [e]
    have rp : (List.replicate (topF l + 1).toNat ((-1 : Int),(-1 : Int))).map (shS c) = List.replicate (topF l + 1).toNat (-1,-1) := by
      rw [List.map_replicate];rfl
    split
    · exact rp.symm
    · rename_i hn
      cases t with
      | nil => exact absurd rfl hn
      | cons x t =>
        rw [List.map_set,rp]
        have := h x (by simp)
        simp [shE,shN,enAt,shS,this]
  · rfl
theorem step_first {l : List Tm} (hr : rightF l = true) {o : List Sp} {x : En} : spAt (spStep l o x) 0 = spAt o 0 := by
  have key : ∀ {o : List Sp} {g : Int} {v : Sp},1 ≤ g → spAt (o.set g.toNat v) 0 = spAt o 0 := by
    intro o g v hg
    unfold spAt
    simp only [List.getD_eq_getElem?_getD]
    rw [List.getElem?_set_ne (by omega)]
  unfold spStep
  split
  · rfl
  · rename_i hn
    split
    · rename_i hk
      exact key (grp_in hr (by omega) hk).1
    · split
      · have : ∀ (gs : List Int) (o : List Sp),(∀ g ∈ gs,1 ≤ g) → spAt (gs.foldl unsG o) 0 = spAt o 0 := by
          intro gs
          induction gs with
          | nil => intro o _;rfl
          | cons g gs ih =>
            intro o h
            rw [List.foldl_cons,ih _ (fun g hg => h g (by simp [hg])),unsG,key (h g (by simp))]
        exact this _ _ (fun g hg => (gs_in hr g hg).1)
      · rfl
theorem spans_first {l : List Tm} (hr : rightF l = true) {x : En} {t : List En} : 0 < (spansF l (x :: t)).length ∧ spAt (spansF l (x :: t)) 0 = (x.f,x.t) := by
  have top := top_le (l := l)
  have fold : ∀ (t : List En) (o : List Sp),spAt (t.foldl (spStep l) o) 0 = spAt o 0 := by
    intro t
    induction t with
    | nil => intro o;rfl
    | cons y t ih => intro o;rw [List.foldl_cons,ih,step_first hr]
  rw [spansF,if_pos hr]
  refine ⟨by rw [walk_len];omega,?_⟩
  rw [spWalk,fold]
  unfold spInit
  rw [if_neg (by simp)]
  unfold spAt enAt
  rw [show (topF l + 1).toNat = (topF l).toNat + 1 by omega]
  simp [List.replicate_succ]

end Go.Proofs.Ytfldmpmaifjcbaa
