import Derived.Test.YtllemobnfpljfaaTrR
import Derived.Test.YtllemobnfpljfaaRank3
set_option linter.unusedSimpArgs false
set_option linter.unusedVariables false
set_option maxRecDepth 100000
set_option maxHeartbeats 8000000
namespace Go.Proofs.Ytllemobnfpljfaa
open Go Go.Hs
section
variable {l : List Tm}
def intoF (l : List Tm) (q : Nat) (s : List Int) : List Hq := (pathG l l.length q).map fun x => (x.1,0,s ++ x.2)
def rootF (l : List Tm) : List Hq := if rightF l = true then intoF l (l.length - 1) [] else []
def knownF (o : List Hq) (p : Int) : Bool := o.any fun h => decide (h.1 = p)
def qAt (h : List Hq) (i : Nat) : Hq := h.getD i (0,0,[])
def addN (T : Int) (hops out : List Hq) : Nat → List Hq
  | 0 => out
  | i + 1 => if knownF (addN T hops out i) (qAt hops i).1 = true then addN T hops out i else addN T hops out i ++ [((qAt hops i).1,T,(qAt hops i).2.2)]
def goalF (l : List Tm) (q x : Nat) : Int := if (tAt l x).k = 5 then (tAt l x).a else if isCat l q x then (tAt l x).b else -1
def outF (l : List Tm) (f m : Nat) (out : List Hq) : List Hq :=
  if 0 ≤ goalF l (nodeS l f m) (nodeS l f (m + 1)) then addN ((deepF l).getD (nodeS l f (m + 1)) 0) (intoF l (goalF l (nodeS l f m) (nodeS l f (m + 1))).toNat (backS l f m)) out (intoF l (goalF l (nodeS l f m) (nodeS l f (m + 1))).toNat (backS l f m)).length else out
def climbR (l : List Tm) (f : Nat) : Nat → Nat → List Hq → List Hq
  | 0,_,out => out
  | n + 1,m,out => if (upF l).getD (nodeS l f m) 0 < 0 then out
    else if isCat l (nodeS l f m) (nodeS l f (m + 1)) ∧ ¬ canB l (tAt l (nodeS l f (m + 1))).b.toNat = true then outF l f m out
    else climbR l f n (m + 1) (outF l f m out)
def allF (l : List Tm) (f : Nat) : List Hq := climbR l f (l.length + 1) 0 []
def leafN (l : List Tm) (p : Int) : Nat := ((placesF l).getD p.toNat 0).toNat
def pickR (r : Int) (all : List Hq) : List Hq := all.filter fun h => decide (h.1 = r)
def fromN (l : List Tm) (f : Nat) : Nat → List Hq
  | 0 => []
  | r + 1 => fromN l f r ++ pickR r (allF l f)
def fromF (l : List Tm) (p : Int) : List Hq := if 0 ≤ p ∧ p < (placesF l).length then fromN l (leafN l p) (placesF l).length else []
def hopF (l : List Tm) (p r : Int) : Option Hq := (if p = -1 then rootF l else fromF l p).find? fun h => decide (h.1 = r)
theorem qAt_mem {h : List Hq} {i : Nat} (hi : i < h.length) : qAt h i ∈ h := by
  unfold qAt
  rw [List.getD_eq_getElem?_getD,List.getElem?_eq_getElem hi];exact List.getElem_mem hi
theorem add_mem {T : Int} {hops out : List Hq} : ∀ n,n ≤ hops.length → ∀ h ∈ addN T hops out n,h ∈ out ∨ ∃ g ∈ hops,h = (g.1,T,g.2.2)
  | 0,_,h,hh => .inl hh
  | n + 1,hn,h,hh => by
    rw [addN] at hh
    split at hh
    · exact add_mem n (by omega) h hh
    · rcases List.mem_append.1 hh with hh|hh
      · exact add_mem n (by omega) h hh
      · rw [List.mem_singleton.1 hh]
        exact .inr ⟨qAt hops n,qAt_mem (by omega),rfl⟩
def IsHopE (l : List Tm) (f : Nat) (h : Hq) : Prop := ∃ m goal t,IsHop l f m h goal t
theorem out_hops (hr : rightF l = true) {f m : Nat} {out : List Hq} (hf : f < l.length) (ok : climbOk l f m) (up : ¬ (upF l).getD (nodeS l f m) 0 < 0) (ho : ∀ h ∈ out,IsHopE l f h) : ∀ h ∈ outF l f m out,IsHopE l f h := by
  intro h hh
  unfold outF at hh
  split at hh
  · rename_i hg
    rcases add_mem _ (Nat.le_refl _) h hh with hh|⟨g,hg2,e⟩
    · exact ho h hh
    · obtain ⟨x,hx,rfl⟩ := List.mem_map.1 hg2
      have c := climb_ok hr hf m ok
      obtain ⟨g1,g2,g3⟩ := up_deep hr c.1 (by omega)
      have g1 : nodeS l f (m + 1) < l.length := g1
      refine ⟨m,(goalF l (nodeS l f m) (nodeS l f (m + 1))).toNat,x.2,ok,by omega,by rw [e],?_,?_,by rw [e]⟩
      · unfold goalF at hg ⊢
        by_cases k5 : (tAt l (nodeS l f (m + 1))).k = 5
        · rw [if_pos k5] at hg ⊢
          exact .inr ⟨fun c => by have := c.1;omega,k5,by omega⟩
        · rw [if_neg k5] at hg ⊢
          by_cases k3 : isCat l (nodeS l f m) (nodeS l f (m + 1))
          · rw [if_pos k3] at hg ⊢
            exact .inl ⟨k3,by omega⟩
          · rw [if_neg k3] at hg;omega
      · rw [e];exact hx
  · exact ho h hh
theorem climbR_hops (hr : rightF l = true) {f : Nat} (hf : f < l.length) : ∀ n m out,climbOk l f m → (∀ h ∈ out,IsHopE l f h) → ∀ h ∈ climbR l f n m out,IsHopE l f h
  | 0,_,out,_,ho,h,hh => ho h hh
  | n + 1,m,out,ok,ho,h,hh => by
    rw [climbR] at hh
    split at hh
    · exact ho h hh
    · rename_i hu
      have h1 := out_hops hr hf ok hu ho
      split at hh
      · exact h1 h hh
      · rename_i hc
        refine climbR_hops hr hf n (m + 1) _ (fun j hj => ?_) h1 h hh
        by_cases e : j = m
        · subst e
          refine ⟨by omega,fun c => ?_⟩
          by_cases k : canB l (tAt l (nodeS l f (j + 1))).b.toNat = true
          · exact k
          · exact absurd ⟨c,k⟩ hc
        · exact ok j (by omega)
theorem all_hops (hr : rightF l = true) {f : Nat} (hf : f < l.length) : ∀ h ∈ allF l f,IsHopE l f h :=
  climbR_hops hr hf _ 0 [] (fun j hj => by omega) (fun h hh => by cases hh)
theorem fromN_mem {f : Nat} : ∀ n,∀ h ∈ fromN l f n,h ∈ allF l f
  | 0,h,hh => by cases hh
  | n + 1,h,hh => by
    rcases List.mem_append.1 hh with hh|hh
    · exact fromN_mem n h hh
    · exact (List.mem_filter.1 hh).1
def openAt (l : List Tm) (p : Int) : Int := if p = -1 then 0 else (deepF l).getD (leafN l p) 0
theorem leafN_of (hr : rightF l = true) {f : Nat} (hf : f < l.length) (hk : (tAt l f).k = 2) {p : Int} (hp : (leavesF l f : Int) = p) : leafN l p = f ∧ 0 ≤ p ∧ p < (placesF l).length := by
  have h := leaf_in hr hf hk hp
  have h1 := h.1
  unfold inP at h1
  rw [Bool.and_eq_true,decide_eq_true_eq,decide_eq_true_eq] at h1
  exact ⟨by unfold leafN;rw [h.2];rfl,h1⟩
theorem right_places {p : Int} (h : 0 ≤ p ∧ p < (placesF l).length) : rightF l = true := by
  cases hr : rightF l with
  | true => rfl
  | false => rw [placesF_not hr] at h;simp at h;omega
theorem leafN_ok (hr : rightF l = true) {p : Int} (h : 0 ≤ p ∧ p < (placesF l).length) : leafN l p < l.length ∧ (tAt l (leafN l p)).k = 2 ∧ (leavesF l (leafN l p) : Int) = p := by
  obtain ⟨q,q1,q2,q3,q4⟩ := placesF_get hr (p := p.toNat) (by omega)
  have : leafN l p = q := by unfold leafN;rw [q2];rfl
  rw [this]
  exact ⟨q1,q3,by omega⟩
structure HopIs (l : List Tm) (p r : Int) (h : Hq) : Prop where
  right : rightF l = true
  to : h.1 = r
  place : 0 ≤ r ∧ r < (placesF l).length
  turn : 0 ≤ h.2.1 ∧ h.2.1 ≤ l.length
  count : openAt l p + cnt h.2.2 = openAt l r
  low : p ≠ -1 → ∀ w,lowC (openAt l p) w h.2.2 = min w (h.2.1 + 1)
theorem deep_rng (hr : rightF l = true) (q : Nat) : 0 ≤ (deepF l).getD q 0 ∧ (deepF l).getD q 0 ≤ l.length := by
  have h := deepS_le (up := upF l) (upF l).length q
  have hl := upF_length (l := l)
  rw [if_pos hr] at hl
  rw [hl] at h
  have e : deepF l = deepS (upF l) l.length := by unfold deepF;rw [hl]
  rw [e];exact h
theorem hop_is {p r : Int} {h : Hq} (e : hopF l p r = some h) : HopIs l p r h := by
  unfold hopF at e
  have hto : h.1 = r := by simpa using List.find?_some e
  have hm := List.mem_of_find?_eq_some e
  by_cases hp : p = -1
  · rw [if_pos hp] at hm
    unfold rootF at hm
    split at hm
    · rename_i hr
      obtain ⟨x,hx,rfl⟩ := List.mem_map.1 hm
      obtain ⟨f,f1,f2,f3,f4⟩ := first_frame hr (p := x.1) (t := x.2) hx
      have lf := leafN_of hr f1 f2 f3
      have hto : x.1 = r := hto
      rw [hto] at lf
      refine ⟨hr,hto,lf.2,⟨by show (0 : Int) ≤ 0;omega,by show (0 : Int) ≤ _;omega⟩,?_,fun c => absurd hp c⟩
      show openAt l p + cnt ([] ++ x.2) = openAt l r
      unfold openAt
      rw [if_pos hp,if_neg (by omega),lf.1,List.nil_append,f4];omega
    · cases hm
  · rw [if_neg hp] at hm
    unfold fromF at hm
    split at hm
    · rename_i hin
      have hr := right_places hin
      obtain ⟨l1,l2,l3⟩ := leafN_ok hr hin
      obtain ⟨m,goal,t,g⟩ := all_hops hr l1 h (fromN_mem _ h hm)
      obtain ⟨⟨f2,a1,a2,a3,a4⟩,a5⟩ := g.frame hr l1
      have lf := leafN_of hr a1 a2 a3
      rw [hto] at lf
      have gt := g.turn
      have dr := deep_rng hr (nodeS l (leafN l p) (m + 1))
      refine ⟨hr,hto,lf.2,⟨by omega,by omega⟩,?_,fun _ w => ?_⟩
      · unfold openAt
        rw [if_neg hp,if_neg (by omega),lf.1,a4];omega
      · unfold openAt
        rw [if_neg hp];exact a5 w
    · cases hm
theorem hop_two {p r1 r2 : Int} {h1 h2 : Hq} (e1 : hopF l p r1 = some h1) (e2 : hopF l p r2 = some h2) (hne : r1 ≠ r2) : Forks l (openAt l p) h1 h2 := by
  have i1 := hop_is e1
  have i2 := hop_is e2
  have hr := i1.right
  have m1 := List.mem_of_find?_eq_some e1
  have m2 := List.mem_of_find?_eq_some e2
  have hne2 : h1.1 ≠ h2.1 := by rw [i1.to,i2.to];exact hne
  by_cases hp : p = -1
  · rw [if_pos hp] at m1 m2
    unfold rootF at m1 m2
    rw [if_pos hr] at m1 m2
    obtain ⟨x,hx,rfl⟩ := List.mem_map.1 m1
    obtain ⟨y,hy,rfl⟩ := List.mem_map.1 m2
    have := first_forks hr (p1 := x.1) (t1 := x.2) (p2 := y.1) (t2 := y.2) hx hy hne2
    unfold openAt
    rw [if_pos hp]
    exact this
  · rw [if_neg hp] at m1 m2
    unfold fromF at m1 m2
    split at m1
    · rename_i hin
      rw [if_pos hin] at m2
      obtain ⟨l1,l2,l3⟩ := leafN_ok hr hin
      obtain ⟨j1,g1,t1,a1⟩ := all_hops hr l1 h1 (fromN_mem _ h1 m1)
      obtain ⟨j2,g2,t2,a2⟩ := all_hops hr l1 h2 (fromN_mem _ h2 m2)
      have := hop_forks hr l1 a1 a2 hne2
      unfold openAt
      rw [if_neg hp]
      exact this
    · cases m1
def prevI (run : List Int) (i : Nat) : Int := if i = 0 then -1 else run.getD (i - 1) 0
def hopI (l : List Tm) (run : List Int) (i : Nat) : Option Hq := hopF l (prevI run i) (run.getD i 0)
def frI (l : List Tm) (run : List Int) (i : Nat) : List Int := match hopI l run i with
  | some h => h.2.2
  | none => []
def openN (A : Nat → List Int) : Nat → Int
  | 0 => 0
  | i + 1 => openN A i + cnt (A i)
def lowN (A : Nat → List Int) (k s : Nat) : Nat → Int
  | 0 => lowC (openN A k + cnt ((A k).take s)) (openN A k + cnt ((A k).take s) + 1) ((A k).drop s)
  | j + 1 => lowC (openN A (k + (j + 1))) (lowN A k s j) (A (k + (j + 1)))
def ahN (A B : Nat → List Int) (k s : Nat) : Nat → Int
  | 0 => ahd (lowN A k s 0) (lowN B k s 0) (cmpS ((A k).getD s 0) ((B k).getD s 0))
  | j + 1 => ahd (lowN A k s (j + 1)) (lowN B k s (j + 1)) (ahN A B k s j)
structure Parts (A B : Nat → List Int) (k s : Nat) : Prop where
  same : ∀ i,i < k → A i = B i
  pre : (A k).take s = (B k).take s
  la : s < (A k).length
  lb : s < (B k).length
  ne : (A k).getD s 0 ≠ (B k).getD s 0
theorem open_hops {run : List Int} : ∀ {i : Nat},(∀ j,j < i → (hopI l run j).isSome = true) → openN (frI l run) i = openAt l (prevI run i)
  | 0,_ => rfl
  | i + 1,h => by
    rw [openN,open_hops (fun j hj => h j (by omega))]
    obtain ⟨g,hg⟩ := Option.isSome_iff_exists.1 (h i (by omega))
    have e : frI l run i = g.2.2 := by unfold frI;rw [hg]
    rw [e,(hop_is hg).count]
    unfold prevI
    rw [if_neg (by omega)];rfl
theorem open_same {A B : Nat → List Int} : ∀ {k : Nat},(∀ i,i < k → A i = B i) → openN A k = openN B k
  | 0,_ => rfl
  | k + 1,h => by rw [openN,openN,open_same (fun i hi => h i (by omega)),h k (by omega)]
theorem fork_pm {x y : Int × Int} (h : inP l x.1 = true ∧ inP l y.1 = true ∧ x.1 ≠ y.1) : (forkF l x y).2.2 = 1 ∨ (forkF l x y).2.2 = -1 := by
  unfold forkF
  rw [if_neg (not_not_intro h)]
  split
  · exact .inl rfl
  · split
    · exact .inr rfl
    · split
      · exact .inr rfl
      · exact .inl rfl
theorem inP_of {p : Int} (h : 0 ≤ p ∧ p < (placesF l).length) : inP l p = true := by
  unfold inP;rw [Bool.and_eq_true,decide_eq_true_eq,decide_eq_true_eq];exact h
structure Told (l : List Tm) (a b : List Int) (k s j : Nat) (ba bb d : Int) : Prop where
  kept : Kept (lowN (frI l a) k s j) (lowN (frI l b) k s j) ba bb
  ahead : d = - ahN (frI l a) (frI l b) k s j
  pm : d = 1 ∨ d = -1
theorem told_first {a b : List Int} {k : Nat} {h1 h2 : Hq} (hs : ∀ i,i < k → a.getD i 0 = b.getD i 0) (hne : a.getD k 0 ≠ b.getD k 0) (h1s : ∀ i,i < k → (hopI l a i).isSome = true) (e1 : hopI l a k = some h1) (e2 : hopI l b k = some h2) :
    ∃ s,Parts (frI l a) (frI l b) k s ∧ Told l a b k s 0 (forkF l (h1.1,h1.2.1) (h2.1,h2.2.1)).1 (forkF l (h1.1,h1.2.1) (h2.1,h2.2.1)).2.1 (forkF l (h1.1,h1.2.1) (h2.1,h2.2.1)).2.2 := by
  have hp : prevI a k = prevI b k := by
    unfold prevI
    split
    · rfl
    · exact hs _ (by omega)
  have f1 : frI l a k = h1.2.2 := by unfold frI;rw [e1]
  have f2 : frI l b k = h2.2.2 := by unfold frI;rw [e2]
  have sm : ∀ i,i < k → frI l a i = frI l b i := fun i hi => by
    have : hopI l a i = hopI l b i := by
      unfold hopI
      have hp : prevI a i = prevI b i := by
        unfold prevI
        split
        · rfl
        · exact hs _ (by omega)
      rw [hp,hs i hi]
    unfold frI;rw [this]
  have e2' : hopF l (prevI a k) (b.getD k 0) = some h2 := by rw [hp];exact e2
  obtain ⟨la,lb,x1,x2,⟨pre,r1,r2,p1,p2,p3,p4,p5⟩,hk,hd⟩ := hop_two e1 e2' hne
  have ho := open_hops h1s
  have ho2 : openN (frI l b) k = openAt l (prevI a k) := by rw [← open_same sm,ho]
  have t1 : (frI l a k).take pre.length = pre := by rw [f1,p1,List.take_append_of_le_length (Nat.le_refl _),List.take_length]
  have t2 : (frI l b k).take pre.length = pre := by rw [f2,p2,List.take_append_of_le_length (Nat.le_refl _),List.take_length]
  have g1 : (frI l a k).getD pre.length 0 = x1 := by rw [f1,p1,List.getD_eq_getElem?_getD,List.getElem?_append_right (Nat.le_refl _),Nat.sub_self];rfl
  have g2 : (frI l b k).getD pre.length 0 = x2 := by rw [f2,p2,List.getD_eq_getElem?_getD,List.getElem?_append_right (Nat.le_refl _),Nat.sub_self];rfl
  have d1 : (frI l a k).drop pre.length = x1 :: r1 := by rw [f1,p1,List.drop_append_of_le_length (Nat.le_refl _),List.drop_length,List.nil_append]
  have d2 : (frI l b k).drop pre.length = x2 :: r2 := by rw [f2,p2,List.drop_append_of_le_length (Nat.le_refl _),List.drop_length,List.nil_append]
  have n1 : lowN (frI l a) k pre.length 0 = la := by rw [lowN,t1,d1,ho];exact p4
  have n2 : lowN (frI l b) k pre.length 0 = lb := by rw [lowN,t2,d2,ho2];exact p5
  have i1 := hop_is e1
  have i2 := hop_is e2
  refine ⟨pre.length,⟨sm,by rw [t1,t2],by rw [f1,p1];simp,by rw [f2,p2];simp,by rw [g1,g2];exact p3⟩,⟨by rw [n1,n2];exact hk,?_,?_⟩⟩
  · rw [ahN,n1,n2,g1,g2];exact hd
  · exact fork_pm ⟨inP_of (by rw [show ((h1.1,h1.2.1) : Int × Int).1 = h1.1 from rfl,i1.to];exact i1.place),inP_of (by rw [show ((h2.1,h2.2.1) : Int × Int).1 = h2.1 from rfl,i2.to];exact i2.place),by show h1.1 ≠ h2.1;rw [i1.to,i2.to];exact hne⟩
def agD (ba bb d : Int) : Int := if bb < ba then 1 else if ba < bb then -1 else d
theorem told_next {a b : List Int} {k s j : Nat} {ba bb d : Int} {h1 h2 : Hq} (t : Told l a b k s j ba bb d) (ha : ∀ i,i ≤ k + (j + 1) → (hopI l a i).isSome = true) (hb : ∀ i,i ≤ k + (j + 1) → (hopI l b i).isSome = true) (e1 : hopI l a (k + (j + 1)) = some h1) (e2 : hopI l b (k + (j + 1)) = some h2) :
    Told l a b k s (j + 1) (numF ba h1.2.1) (numF bb h2.2.1) (agD (numF ba h1.2.1) (numF bb h2.2.1) d) := by
  have f1 : frI l a (k + (j + 1)) = h1.2.2 := by unfold frI;rw [e1]
  have f2 : frI l b (k + (j + 1)) = h2.2.2 := by unfold frI;rw [e2]
  have o1 := open_hops (l := l) (run := a) (i := k + (j + 1)) (fun i hi => ha i (by omega))
  have o2 := open_hops (l := l) (run := b) (i := k + (j + 1)) (fun i hi => hb i (by omega))
  have prev : ∀ (run : List Int) (_ : ∀ i,i ≤ k + (j + 1) → (hopI l run i).isSome = true),prevI run (k + (j + 1)) ≠ -1 := fun run hh => by
    obtain ⟨g,hg⟩ := Option.isSome_iff_exists.1 (hh (k + j) (by omega))
    have := (hop_is hg).place
    unfold prevI
    rw [if_neg (by omega),show k + (j + 1) - 1 = k + j by omega];omega
  have n1 : lowN (frI l a) k s (j + 1) = min (lowN (frI l a) k s j) (h1.2.1 + 1) := by
    rw [lowN,o1,f1];exact (hop_is e1).low (prev a ha) _
  have n2 : lowN (frI l b) k s (j + 1) = min (lowN (frI l b) k s j) (h2.2.1 + 1) := by
    rw [lowN,o2,f2];exact (hop_is e2).low (prev b hb) _
  have m1 : ∀ x y : Int,numF x y = min x (y + 1) := fun x y => by
    unfold numF;split <;> omega
  have hk := t.kept.next (m1 := h1.2.1 + 1) (m2 := h2.2.1 + 1)
  rw [← n1,← n2,← m1,← m1] at hk
  refine ⟨hk,?_,?_⟩
  · rw [ahN,t.ahead]
    obtain ⟨l1,l2⟩ := hk.lt
    unfold agD ahd
    by_cases c1 : numF bb h2.2.1 < numF ba h1.2.1
    · rw [if_pos c1,if_pos (l1.2 c1)];rfl
    · rw [if_neg c1,if_neg (fun h => c1 (l1.1 h))]
      by_cases c2 : numF ba h1.2.1 < numF bb h2.2.1
      · rw [if_pos c2,if_pos (l2.2 c2)]
      · rw [if_neg c2,if_neg (fun h => c2 (l2.1 h))]
  · unfold agD
    split
    · exact .inl rfl
    · split
      · exact .inr rfl
      · exact t.pm
end
end Go.Proofs.Ytllemobnfpljfaa
