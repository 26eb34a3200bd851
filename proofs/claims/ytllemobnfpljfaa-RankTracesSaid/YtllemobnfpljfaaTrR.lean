import Derived.Test.YtllemobnfpljfaaTrQ
import Derived.Test.YtllemobnfpljfaaNextP
set_option linter.unusedSimpArgs false
set_option linter.unusedVariables false
set_option maxRecDepth 100000
set_option maxHeartbeats 8000000
namespace Go.Proofs.Ytllemobnfpljfaa
open Go Go.Hs
abbrev Hq := Int × Int × List Int
section
variable {l : List Tm}
def upN (l : List Tm) (q : Nat) : Nat := ((upF l).getD q 0).toNat
def isCat (l : List Tm) (q x : Nat) : Prop := (tAt l x).k = 3 ∧ (tAt l x).a = q
instance {q x : Nat} : Decidable (isCat l q x) := by unfold isCat;infer_instance
def segS (l : List Tm) (q x : Nat) : List Int := (if isCat l q x then stepsL l (tAt l x).b.toNat else []) ++ [(2 * x + 1 : Int)]
def climbS (l : List Tm) (f : Nat) : Nat → Nat × List Int
  | 0 => (f,[(2 * f + 1 : Int)])
  | m + 1 => (upN l (climbS l f m).1,(climbS l f m).2 ++ segS l (climbS l f m).1 (upN l (climbS l f m).1))
def nodeS (l : List Tm) (f m : Nat) : Nat := (climbS l f m).1
def backS (l : List Tm) (f m : Nat) : List Int := (climbS l f m).2
theorem back_succ {f m : Nat} : backS l f (m + 1) = backS l f m ++ segS l (nodeS l f m) (nodeS l f (m + 1)) := rfl
def climbOk (l : List Tm) (f m : Nat) : Prop := ∀ j,j < m → 0 ≤ (upF l).getD (nodeS l f j) 0 ∧ (isCat l (nodeS l f j) (nodeS l f (j + 1)) → canB l (tAt l (nodeS l f (j + 1))).b.toNat = true)
theorem up_deep (hr : rightF l = true) {q : Nat} (hq : q < l.length) (h : 0 ≤ (upF l).getD q 0) : upN l q < l.length ∧ IsPar l q (upN l q) ∧ (deepF l).getD q 0 = (deepF l).getD (upN l q) 0 + 1 := by
  rcases upF_get hr hq with ⟨_,e⟩|⟨p,p1,p2,p3,p4⟩
  · omega
  · have : upN l q = p := by unfold upN;omega
    rw [this]
    exact ⟨p2,p3,(deep_part hr p2 p3).2⟩
theorem climb_ok (hr : rightF l = true) {f : Nat} (hf : f < l.length) : ∀ m,climbOk l f m → nodeS l f m < l.length ∧ (deepF l).getD (nodeS l f m) 0 = (deepF l).getD f 0 - m ∧ cnt (backS l f m) = -(m + 1) ∧ ab ((deepF l).getD f 0) ((deepF l).getD (nodeS l f m) 0) (backS l f m) ∧ ∃ u,backS l f m = u ++ [(2 * (nodeS l f m : Nat) + 1 : Int)] ∧ (deepF l).getD f 0 + cnt u = (deepF l).getD (nodeS l f m) 0
  | 0,_ => by
    refine ⟨hf,by show (deepF l).getD f 0 = _;omega,?_,?_,[],rfl,?_⟩
    · show cnt [(2 * f + 1 : Int)] = _
      rw [cnt,stp_odd];rfl
    · show ab _ ((deepF l).getD f 0) [(2 * f + 1 : Int)]
      exact ⟨fun _ => Int.le_refl _,trivial⟩
    · show _ + 0 = (deepF l).getD f 0
      omega
  | m + 1,h => by
    obtain ⟨h1,h2,h3,h4,_⟩ := climb_ok hr hf m (fun j hj => h j (by omega))
    have hu := (h m (by omega)).1
    obtain ⟨g1,g2,g3⟩ := up_deep hr h1 hu
    have g1 : nodeS l f (m + 1) < l.length := g1
    have g3 : (deepF l).getD (nodeS l f m) 0 = (deepF l).getD (nodeS l f (m + 1)) 0 + 1 := g3
    rw [back_succ,segS]
    generalize hst : (if isCat l (nodeS l f m) (nodeS l f (m + 1)) then stepsL l (tAt l (nodeS l f (m + 1))).b.toNat else []) = st
    have sc : cnt st = 0 ∧ ab 0 1 st := by
      rw [← hst];split
      · exact steps_cnt _ _
      · exact ⟨rfl,trivial⟩
    refine ⟨g1,by omega,?_,?_,backS l f m ++ st,by rw [List.append_assoc],?_⟩
    · rw [cnt_app,cnt_app,sc.1,h3]
      simp only [cnt,stp_odd];omega
    · rw [ab_app,ab_app,h3,sc.1]
      refine ⟨ab_mono (by omega) h4,ab_to sc.2 (by omega),⟨fun _ => by omega,trivial⟩⟩
    · rw [cnt_app,sc.1,h3];omega
theorem climb_ext {f m : Nat} : ∀ {m' : Nat},m < m' → ∃ more,backS l f m' = backS l f m ++ (segS l (nodeS l f m) (nodeS l f (m + 1)) ++ more)
  | 0,h => by omega
  | m' + 1,h => by
    rw [back_succ]
    by_cases e : m = m'
    · subst e
      exact ⟨[],by rw [List.append_nil]⟩
    · obtain ⟨more,hm⟩ := climb_ext (f := f) (m := m) (m' := m') (by omega)
      exact ⟨more ++ segS l (nodeS l f m') (nodeS l f (m' + 1)),by rw [hm];simp⟩
structure IsHop (l : List Tm) (f m : Nat) (h : Hq) (goal : Nat) (t : List Int) : Prop where
  ok : climbOk l f m
  up : 0 ≤ (upF l).getD (nodeS l f m) 0
  turn : h.2.1 = (deepF l).getD (nodeS l f (m + 1)) 0
  kind : (isCat l (nodeS l f m) (nodeS l f (m + 1)) ∧ (tAt l (nodeS l f (m + 1))).b = goal) ∨ (¬ isCat l (nodeS l f m) (nodeS l f (m + 1)) ∧ (tAt l (nodeS l f (m + 1))).k = 5 ∧ (tAt l (nodeS l f (m + 1))).a = goal)
  path : (h.1,t) ∈ pathG l l.length goal
  steps : h.2.2 = backS l f m ++ t
theorem IsHop.goal_ok (hr : rightF l = true) {f m : Nat} {h : Hq} {goal : Nat} {t : List Int} (hf : f < l.length) (g : IsHop l f m h goal t) : goal < l.length ∧ (deepF l).getD goal 0 = (deepF l).getD (nodeS l f (m + 1)) 0 + 1 ∧ h.2.1 = (deepF l).getD f 0 - m - 1 := by
  have c := climb_ok hr hf m g.ok
  obtain ⟨g1,g2,g3⟩ := up_deep hr c.1 g.up
  have g1 : nodeS l f (m + 1) < l.length := g1
  have g3 : (deepF l).getD (nodeS l f m) 0 = (deepF l).getD (nodeS l f (m + 1)) 0 + 1 := g3
  have ht := term_of_right hr
  have hp : IsPar l goal (nodeS l f (m + 1)) := by
    rcases g.kind with ⟨_,k⟩|⟨_,_,k⟩
    · exact .inr k
    · exact .inl k
  have := IsPar.lt ht.low (ht.node _ g1) hp
  exact ⟨by omega,(deep_part hr g1 hp).2,by rw [g.turn];omega⟩
theorem IsHop.frame (hr : rightF l = true) {f m : Nat} {h : Hq} {goal : Nat} {t : List Int} (hf : f < l.length) (g : IsHop l f m h goal t) :
    (∃ f2 : Nat,f2 < l.length ∧ (tAt l f2).k = 2 ∧ (leavesF l f2 : Int) = h.1 ∧ cnt h.2.2 = (deepF l).getD f2 0 - (deepF l).getD f 0) ∧ ∀ w,lowC ((deepF l).getD f 0) w h.2.2 = min w (h.2.1 + 1) := by
  obtain ⟨g1,g2,g3⟩ := g.goal_ok hr hf
  have gt := g.turn
  obtain ⟨c1,c2,c3,c4,u,c5,c6⟩ := climb_ok hr hf m g.ok
  obtain ⟨f2,a1,a2,a3,a4,a5,a6,_⟩ := path_ok hr l.length goal g1 g1 _ g.path
  have a6 : ab 0 2 t := a6
  have a5 : cnt t = _ := a5
  have habs : ab ((deepF l).getD f 0) ((deepF l).getD (nodeS l f m) 0) (u ++ (2 * (nodeS l f m : Nat) + 1 : Int) :: t) := by
    have e : u ++ (2 * (nodeS l f m : Nat) + 1 : Int) :: t = backS l f m ++ t := by rw [c5];simp
    rw [e,ab_app]
    exact ⟨c4,ab_to a6 (by omega)⟩
  refine ⟨⟨f2,a1,a2,a3,?_⟩,fun w => ?_⟩
  · rw [g.steps,cnt_app,c3,a5];omega
  · have e : h.2.2 = u ++ (2 * (nodeS l f m : Nat) + 1 : Int) :: t := by rw [g.steps,c5];simp
    have tm : h.2.1 + 1 = (deepF l).getD (nodeS l f m) 0 := by omega
    rw [e,tm]
    by_cases hw : (deepF l).getD (nodeS l f m) 0 ≤ w
    · rw [low_hit habs (odd_mod _) c6 hw];omega
    · rw [low_keep habs (by omega)];omega
def cmpS (s t : Int) : Int := if Int.tmod s 2 ≠ Int.tmod t 2 then Int.tmod s 2 - Int.tmod t 2 else if s < t then -1 else 1
def ahd (la lb base : Int) : Int := if lb < la then -1 else if la < lb then 1 else base
def Kept (la lb ba bb : Int) : Prop := ∃ c,ba = min la c ∧ bb = min lb c ∧ (la < c ∨ lb < c ∨ (la ≤ c ∧ lb ≤ c))
theorem Kept.swap {la lb ba bb : Int} (h : Kept la lb ba bb) : Kept lb la bb ba := by
  obtain ⟨c,h1,h2,h3⟩ := h
  exact ⟨c,h2,h1,by omega⟩
theorem Kept.next {la lb ba bb m1 m2 : Int} (h : Kept la lb ba bb) : Kept (min la m1) (min lb m2) (min ba m1) (min bb m2) := by
  obtain ⟨c,h1,h2,h3⟩ := h
  exact ⟨c,by omega,by omega,by omega⟩
theorem Kept.lt {la lb ba bb : Int} (h : Kept la lb ba bb) : (lb < la ↔ bb < ba) ∧ (la < lb ↔ ba < bb) := by
  obtain ⟨c,h1,h2,h3⟩ := h
  omega
theorem cmpS_swap {s t : Int} (h : s ≠ t) : cmpS t s = - cmpS s t := by
  unfold cmpS
  by_cases e : Int.tmod s 2 = Int.tmod t 2
  · rw [if_neg (not_not_intro e),if_neg (not_not_intro e.symm)]
    by_cases c : s < t
    · rw [if_pos c,if_neg (by omega)];rfl
    · rw [if_neg c,if_pos (by omega)]
  · rw [if_pos e,if_pos (fun c => e c.symm)];omega
theorem ahd_swap {la lb s t : Int} (h : s ≠ t) : ahd lb la (cmpS t s) = - ahd la lb (cmpS s t) := by
  unfold ahd
  rw [cmpS_swap h]
  by_cases c1 : lb < la
  · rw [if_neg (by omega),if_pos (by omega),if_pos c1];rfl
  · by_cases c2 : la < lb
    · rw [if_pos c2,if_neg c1,if_pos c2]
    · rw [if_neg c2,if_neg c1,if_neg c1,if_neg c2]
def Forks (l : List Tm) (o : Int) (h1 h2 : Hq) : Prop := ∃ la lb x1 x2,PartAt o h1.2.2 h2.2.2 la lb x1 x2 ∧
  Kept la lb (forkF l (h1.1,h1.2.1) (h2.1,h2.2.1)).1 (forkF l (h1.1,h1.2.1) (h2.1,h2.2.1)).2.1 ∧ (forkF l (h1.1,h1.2.1) (h2.1,h2.2.1)).2.2 = - ahd la lb (cmpS x1 x2)
theorem Forks.swap {o : Int} {h1 h2 : Hq} (h : Forks l o h1 h2) : Forks l o h2 h1 := by
  obtain ⟨la,lb,x1,x2,p,k,e⟩ := h
  have p0 := p
  obtain ⟨_,_,_,_,_,hne,_⟩ := p0
  refine ⟨lb,la,x2,x1,p.swap,?_,?_⟩
  · rw [fork_swap (x := (h1.1,h1.2.1))];exact k.swap
  · rw [fork_swap (x := (h1.1,h1.2.1)),ahd_swap hne]
    show - (forkF l _ _).2.2 = _
    rw [e]
theorem leaf_in (hr : rightF l = true) {f : Nat} (hf : f < l.length) (hk : (tAt l f).k = 2) {p : Int} (hp : (leavesF l f : Int) = p) : inP l p = true ∧ (placesF l).getD p.toNat 0 = f := by
  obtain ⟨h1,h2⟩ := placesF_at hr hf hk
  subst hp
  rw [Int.toNat_natCast]
  refine ⟨?_,h2⟩
  unfold inP
  rw [Bool.and_eq_true,decide_eq_true_eq,decide_eq_true_eq]
  omega
theorem forks_lt (hr : rightF l = true) {goal : Nat} (hg : goal < l.length) {o T : Int} {s t1 t2 : List Int} {p1 p2 : Int} (ho : o + cnt s = (deepF l).getD goal 0 - 1) (h1 : (p1,t1) ∈ pathG l l.length goal) (h2 : (p2,t2) ∈ pathG l l.length goal) (hlt : p1 < p2) :
    Forks l o (p1,T,s ++ t1) (p2,T,s ++ t2) := by
  obtain ⟨J,f1,f2,la,x1,x2,a1,a2,a3,a4,a5,a6,a7,a8,a9,a10,a11⟩ := path_two hr l.length goal hg hg _ h1 _ h2 hlt
  have a3 : (leavesF l f1 : Int) = p1 := a3
  have a6 : (leavesF l f2 : Int) = p2 := a6
  have i1 := leaf_in hr a1 a2 a3
  have i2 := leaf_in hr a4 a5 a6
  have eq : forkQ l p1 p2 = J := by unfold forkQ;rw [i1.2,i2.2,a8]
  have ed : forkD l p1 p2 = (deepF l).getD J 0 + 1 := by unfold forkD;rw [eq,Int.toNat_natCast]
  have ef : forkF l (p1,T) (p2,T) = (if (tAt l J).k = 3 then (deepF l).getD J 0 + 1 + 1 else (deepF l).getD J 0 + 1,(deepF l).getD J 0 + 1,1) := by
    unfold forkF
    rw [if_neg (not_not_intro ⟨i1.1,i2.1,by show p1 ≠ p2;omega⟩),if_neg (by show ¬ T < T;omega),if_neg (by show ¬ T < T;omega),if_neg (by show ¬ p2 < p1;omega)]
    show (if (tAt l (forkQ l p1 p2).toNat).k = 3 then forkD l p1 p2 + 1 else forkD l p1 p2,forkD l p1 p2,1) = _
    rw [ed,eq,Int.toNat_natCast]
  refine ⟨la,(deepF l).getD J 0 + 1,x1,x2,a9.behind (by omega),?_,?_⟩
  · show Kept _ _ (forkF l (p1,T) (p2,T)).1 (forkF l (p1,T) (p2,T)).2.1
    rw [ef]
    by_cases k : (tAt l J).k = 3
    · have := a10 k
      show Kept la ((deepF l).getD J 0 + 1) (if (tAt l J).k = 3 then (deepF l).getD J 0 + 1 + 1 else (deepF l).getD J 0 + 1) ((deepF l).getD J 0 + 1)
      rw [if_pos k]
      exact ⟨(deepF l).getD J 0 + 1 + 1,by omega,by omega,by omega⟩
    · have := (a11 k).1
      show Kept la ((deepF l).getD J 0 + 1) (if (tAt l J).k = 3 then (deepF l).getD J 0 + 1 + 1 else (deepF l).getD J 0 + 1) ((deepF l).getD J 0 + 1)
      rw [if_neg k]
      exact ⟨(deepF l).getD J 0 + 1,by omega,by omega,by omega⟩
  · show (forkF l (p1,T) (p2,T)).2.2 = _
    rw [ef]
    show (1 : Int) = _
    by_cases k : (tAt l J).k = 3
    · have := a10 k
      rw [ahd,if_pos (by omega)];rfl
    · obtain ⟨b1,b2,b3,b4⟩ := a11 k
      rw [ahd,if_neg (by omega),if_neg (by omega),cmpS,if_neg (by omega),if_pos b4];rfl
theorem forks_same (hr : rightF l = true) {goal : Nat} (hg : goal < l.length) {o T : Int} {s t1 t2 : List Int} {p1 p2 : Int} (ho : o + cnt s = (deepF l).getD goal 0 - 1) (h1 : (p1,t1) ∈ pathG l l.length goal) (h2 : (p2,t2) ∈ pathG l l.length goal) (hne : p1 ≠ p2) :
    Forks l o (p1,T,s ++ t1) (p2,T,s ++ t2) := by
  by_cases c : p1 < p2
  · exact forks_lt hr hg ho h1 h2 c
  · exact (forks_lt hr hg ho h2 h1 (by omega)).swap
theorem forks_far (hr : rightF l = true) {f m1 m2 g1 g2 : Nat} {h1 h2 : Hq} {t1 t2 : List Int} (hf : f < l.length) (i1 : IsHop l f m1 h1 g1 t1) (i2 : IsHop l f m2 h2 g2 t2) (hm : m1 < m2) (hne : h1.1 ≠ h2.1) : Forks l ((deepF l).getD f 0) h1 h2 := by
  obtain ⟨a1,a2,a3⟩ := i1.goal_ok hr hf
  obtain ⟨b1,b2,b3⟩ := i2.goal_ok hr hf
  obtain ⟨c1,c2,c3,c4,_⟩ := climb_ok hr hf m1 i1.ok
  obtain ⟨d1,d2,d3,d4,u,d5,d6⟩ := climb_ok hr hf m2 i2.ok
  obtain ⟨f1,p1,p2,p3,p4,p5,p6,p7⟩ := path_ok hr l.length g1 a1 a1 _ i1.path
  obtain ⟨f2,q1,q2,q3,q4,q5,q6,_⟩ := path_ok hr l.length g2 b1 b1 _ i2.path
  have p3 : (leavesF l f1 : Int) = h1.1 := p3
  have q3 : (leavesF l f2 : Int) = h2.1 := q3
  have p6 : ab 0 2 t1 := p6
  have q6 : ab 0 2 t2 := q6
  obtain ⟨r0,p7⟩ := p7
  have p7 : t1 = (2 * g1 : Int) :: r0 := p7
  have j1 := leaf_in hr p1 p2 p3
  have j2 := leaf_in hr q1 q2 q3
  obtain ⟨more,hmore⟩ := climb_ext (l := l) (f := f) hm
  have ef : forkF l (h1.1,h1.2.1) (h2.1,h2.2.1) = (h1.2.1 + 1,h2.2.1 + 1,1) := by
    unfold forkF
    rw [if_neg (not_not_intro ⟨j1.1,j2.1,hne⟩),if_pos (by show h2.2.1 < h1.2.1;omega)]
  have part : ∃ pre x1 r1 x2 r2,t1 = pre ++ x1 :: r1 ∧ segS l (nodeS l f m1) (nodeS l f (m1 + 1)) = pre ++ x2 :: r2 ∧ x1 ≠ x2 ∧ 0 ≤ cnt pre ∧ ab (cnt pre) (cnt pre + 1) (x1 :: r1) := by
    rcases i1.kind with ⟨k1,k2⟩|⟨k1,k2,k3⟩
    · have hc := (i2.ok m1 hm).2 k1
      rw [k2,Int.toNat_natCast] at hc
      obtain ⟨pre,x1,r1,x2,r2,e1,e2,e3,e4,e5⟩ := path_steps hr l.length g1 a1 a1 hc _ i1.path
      refine ⟨pre,x1,r1,x2,r2 ++ [(2 * (nodeS l f (m1 + 1) : Nat) + 1 : Int)],e1,?_,e3,by omega,e5⟩
      rw [segS,if_pos k1,k2,Int.toNat_natCast,e2];simp
    · refine ⟨[],2 * (g1 : Int),r0,2 * (nodeS l f (m1 + 1) : Nat) + 1,[],p7,?_,by omega,Int.le_refl _,?_⟩
      · rw [segS,if_neg k1]
      · rw [← p7];exact ab_to p6 (by simp [cnt])
  obtain ⟨pre,x1,r1,x2,r2,e1,e2,e3,e4,e5⟩ := part
  have s1 : h1.2.2 = (backS l f m1 ++ pre) ++ x1 :: r1 := by rw [i1.steps,e1];simp
  have s2 : h2.2.2 = (backS l f m1 ++ pre) ++ x2 :: (r2 ++ more ++ t2) := by rw [i2.steps,hmore,e2];simp
  have cp : cnt (backS l f m1 ++ pre) = -(m1 + 1) + cnt pre := by rw [cnt_app,c3]
  have la : lowC ((deepF l).getD f 0 + cnt (backS l f m1 ++ pre)) ((deepF l).getD f 0 + cnt (backS l f m1 ++ pre) + 1) (x1 :: r1) = (deepF l).getD f 0 + cnt (backS l f m1 ++ pre) + 1 :=
    low_keep (m := (deepF l).getD f 0 + cnt (backS l f m1 ++ pre) + 1) (ab_to e5 (by omega)) (Int.le_refl _)
  have lb : lowC ((deepF l).getD f 0 + cnt (backS l f m1 ++ pre)) ((deepF l).getD f 0 + cnt (backS l f m1 ++ pre) + 1) (x2 :: (r2 ++ more ++ t2)) = (deepF l).getD (nodeS l f m2) 0 := by
    have es : h2.2.2 = u ++ (2 * (nodeS l f m2 : Nat) + 1 : Int) :: t2 := by rw [i2.steps,d5];simp
    refine tail_hit (s2.symm.trans es) ?_ ?_ (odd_mod _) d6 (by omega)
    · have z1 := congrArg List.length d5
      have z2 := congrArg List.length hmore
      have z3 := congrArg List.length e2
      simp only [List.length_append,List.length_cons,List.length_nil] at z1 z2 z3 ⊢
      omega
    · have e : u ++ (2 * (nodeS l f m2 : Nat) + 1 : Int) :: t2 = backS l f m2 ++ t2 := by rw [d5];simp
      rw [e,ab_app]
      exact ⟨d4,ab_to q6 (by omega)⟩
  refine ⟨_,_,x1,x2,⟨_,r1,_,s1,s2,e3,la,lb⟩,?_,?_⟩
  · rw [ef]
    exact ⟨h1.2.1 + 1,by show h1.2.1 + 1 = _;omega,by show h2.2.1 + 1 = _;omega,by omega⟩
  · rw [ef,ahd,if_pos (by omega)];rfl
theorem hop_forks (hr : rightF l = true) {f m1 m2 g1 g2 : Nat} {h1 h2 : Hq} {t1 t2 : List Int} (hf : f < l.length) (i1 : IsHop l f m1 h1 g1 t1) (i2 : IsHop l f m2 h2 g2 t2) (hne : h1.1 ≠ h2.1) : Forks l ((deepF l).getD f 0) h1 h2 := by
  by_cases e : m1 = m2
  · subst e
    have hg : g1 = g2 := by
      rcases i1.kind with ⟨k1,k2⟩|⟨k1,k2,k3⟩
      · rcases i2.kind with ⟨_,k4⟩|⟨k4,_⟩
        · omega
        · exact absurd k1 k4
      · rcases i2.kind with ⟨k4,_⟩|⟨_,_,k5⟩
        · exact absurd k4 k1
        · omega
    subst hg
    obtain ⟨a1,a2,a3⟩ := i1.goal_ok hr hf
    obtain ⟨c1,c2,c3,c4,_⟩ := climb_ok hr hf m1 i1.ok
    have gt := i1.turn
    have := forks_same hr a1 (o := (deepF l).getD f 0) (T := h1.2.1) (s := backS l f m1) (by rw [c3];omega) i1.path i2.path hne
    rw [← i1.steps,← i2.steps] at this
    have e2 : h1.2.1 = h2.2.1 := by rw [i1.turn,i2.turn]
    have this2 : Forks l ((deepF l).getD f 0) (h1.1,h1.2.1,h1.2.2) (h2.1,h2.2.1,h2.2.2) := by rw [← e2];exact this
    exact this2
  · by_cases c : m1 < m2
    · exact forks_far hr hf i1 i2 c hne
    · exact (forks_far hr hf i2 i1 (by omega) (fun e => hne e.symm)).swap
theorem first_forks (hr : rightF l = true) {p1 p2 : Int} {t1 t2 : List Int} (h1 : (p1,t1) ∈ pathG l l.length (l.length - 1)) (h2 : (p2,t2) ∈ pathG l l.length (l.length - 1)) (hne : p1 ≠ p2) : Forks l 0 (p1,0,t1) (p2,0,t2) := by
  have ht := term_of_right hr
  have hd := (deep_root hr).2
  exact forks_same hr (s := []) (by have := ht.pos;omega) (by rw [hd];rfl) h1 h2 hne
theorem first_frame (hr : rightF l = true) {p : Int} {t : List Int} (h : (p,t) ∈ pathG l l.length (l.length - 1)) : ∃ f : Nat,f < l.length ∧ (tAt l f).k = 2 ∧ (leavesF l f : Int) = p ∧ cnt t = (deepF l).getD f 0 := by
  have ht := term_of_right hr
  have hd := (deep_root hr).2
  obtain ⟨f,a1,a2,a3,a4,a5,_⟩ := path_ok hr l.length (l.length - 1) (by have := ht.pos;omega) (by have := ht.pos;omega) _ h
  have a5 : cnt t = _ := a5
  exact ⟨f,a1,a2,a3,by rw [a5,hd];omega⟩
end
end Go.Proofs.Ytllemobnfpljfaa
