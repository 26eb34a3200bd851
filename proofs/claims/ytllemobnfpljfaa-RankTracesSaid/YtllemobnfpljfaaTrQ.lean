import Derived.Test.YtllemobnfpljfaaTrP
set_option linter.unusedSimpArgs false
set_option linter.unusedVariables false
set_option maxRecDepth 100000
set_option maxHeartbeats 8000000
namespace Go.Proofs.Ytllemobnfpljfaa
open Go Go.Hs
def stepsL (l : List Tm) (q : Nat) : List Int := stepsG l (canF l) l.length q
def hpre (s : List Int) (x : Int × List Int) : Int × List Int := (x.1,s ++ x.2)
def canB (l : List Tm) (q : Nat) : Bool := (canF l).getD q false
def pathG (l : List Tm) : Nat → Nat → List (Int × List Int)
  | 0,_ => []
  | n + 1,q =>
    if (tAt l q).k = 2 then [((indexF l).getD q 0,[(2 * q : Int)])]
    else if (tAt l q).k = 3 then (pathG l n (tAt l q).a.toNat).map (hpre [(2 * q : Int)]) ++ (if canB l (tAt l q).a.toNat = true then (pathG l n (tAt l q).b.toNat).map (hpre ((2 * q : Int) :: stepsL l (tAt l q).a.toNat)) else [])
    else if (tAt l q).k = 4 then (pathG l n (tAt l q).a.toNat).map (hpre [(2 * q : Int)]) ++ (pathG l n (tAt l q).b.toNat).map (hpre [(2 * q : Int)])
    else if (tAt l q).k = 5 ∨ (tAt l q).k = 6 ∨ (tAt l q).k = 7 ∨ (tAt l q).k = 8 then (pathG l n (tAt l q).a.toNat).map (hpre [(2 * q : Int)])
    else []
section
variable {l : List Tm}
theorem steps_eq (hr : rightF l = true) {q : Nat} (hq : q < l.length) : stepsL l q = (2 * q : Int) :: ((if (tAt l q).k = 3 then stepsL l (tAt l q).a.toNat ++ stepsL l (tAt l q).b.toNat
      else if (tAt l q).k = 4 then (if canB l (tAt l q).a.toNat then stepsL l (tAt l q).a.toNat else stepsL l (tAt l q).b.toNat)
      else if (tAt l q).k = 7 ∨ (tAt l q).k = 8 then stepsL l (tAt l q).a.toNat else []) ++ [(2 * q + 1 : Int)]) := by
  have ht := term_of_right hr
  obtain ⟨m,hm⟩ : ∃ m,l.length = m + 1 := ⟨l.length - 1,by omega⟩
  have f := fun c (hc : c < m) => steps_fuel (can := canF l) ht.low ht.node m l.length c hc (by omega) (by omega)
  have e : stepsL l q = stepsG l (canF l) (m + 1) q := by unfold stepsL;rw [hm]
  rw [e]
  simp only [stepsG,List.cons_append,List.nil_append]
  congr 1
  congr 1
  rcases ht.node q hq with ⟨k1,_,_,_⟩|⟨k1,c,d,e1,e2,e3,e4,_⟩|⟨k1,d,e1,e2,e3,_⟩
  · rw [if_neg (by omega),if_neg (by omega),if_neg (by omega),if_neg (by omega),if_neg (by omega),if_neg (by omega)]
  · have := ht.low d
    rw [e2,e3,Int.toNat_natCast,Int.toNat_natCast,f c (by omega),f d (by omega)];rfl
  · rw [if_neg (by omega),if_neg (by omega),if_neg (show ¬ (tAt l q).k = 3 by omega),if_neg (show ¬ (tAt l q).k = 4 by omega),e3,Int.toNat_natCast,f d (by omega)];rfl
theorem can_eq (hr : rightF l = true) {q : Nat} (hq : q < l.length) : canB l q = (if (tAt l q).k = 1 ∨ (tAt l q).k = 5 ∨ (tAt l q).k = 6 then true
  else if (tAt l q).k = 3 then canB l (tAt l q).a.toNat && canB l (tAt l q).b.toNat
  else if (tAt l q).k = 4 then canB l (tAt l q).a.toNat || canB l (tAt l q).b.toNat
  else if (tAt l q).k = 7 ∨ (tAt l q).k = 8 then canB l (tAt l q).a.toNat
  else false) := by
  have ht := term_of_right hr
  unfold canB
  rw [canF_get hr hq,canOf]
  have f := fun c (hc : c < q) => canF_at (l := l) hr (i := q) (j := c) hc (by omega)
  rcases ht.node q hq with ⟨k1,_,_,_⟩|⟨k1,c,d,e1,e2,e3,e4,_⟩|⟨k1,d,e1,e2,e3,_⟩
  · split
    · rfl
    · rw [if_neg (by omega),if_neg (by omega),if_neg (by omega),if_neg (by omega),if_neg (by omega),if_neg (by omega)]
  · have := ht.low d
    rw [e2,e3,Int.toNat_natCast,Int.toNat_natCast,f c (by omega),f d (by omega)]
  · rw [e3,Int.toNat_natCast,f d (by omega)]
    split
    · rfl
    · rw [if_neg (show ¬ (tAt l q).k = 3 by omega),if_neg (show ¬ (tAt l q).k = 4 by omega),if_neg (show ¬ (tAt l q).k = 3 by omega),if_neg (show ¬ (tAt l q).k = 4 by omega)]
theorem node_cases (hr : rightF l = true) {q : Nat} (hq : q < l.length) :
    (((tAt l q).k = 1 ∨ (tAt l q).k = 2) ∧ (lowsF l).getD q 0 = q) ∨
    (((tAt l q).k = 3 ∨ (tAt l q).k = 4) ∧ ∃ c d : Nat,q = d + 1 ∧ c < d ∧ (tAt l q).b = d ∧ (tAt l q).a = c ∧ (c : Int) + 1 = (lowsF l).getD d 0 ∧ (lowsF l).getD q 0 = (lowsF l).getD c 0 ∧ (deepF l).getD c 0 = (deepF l).getD q 0 + 1 ∧ (deepF l).getD d 0 = (deepF l).getD q 0 + 1) ∨
    (((tAt l q).k = 5 ∨ (tAt l q).k = 6 ∨ (tAt l q).k = 7 ∨ (tAt l q).k = 8) ∧ ∃ d : Nat,q = d + 1 ∧ (tAt l q).a = d ∧ (lowsF l).getD q 0 = (lowsF l).getD d 0 ∧ (deepF l).getD d 0 = (deepF l).getD q 0 + 1) := by
  have ht := term_of_right hr
  rcases ht.node q hq with ⟨k1,_,_,e⟩|⟨k1,c,d,e1,e2,e3,e4,e5⟩|⟨k1,d,e1,e2,e3,e4⟩
  · exact .inl ⟨k1,e⟩
  · have := ht.low d
    exact .inr (.inl ⟨k1,c,d,e1,by omega,e2,e3,e4,e5,(deep_part hr hq (.inl e3)).2,(deep_part hr hq (.inr e2)).2⟩)
  · exact .inr (.inr ⟨k1,d,e1,e3,e4,(deep_part hr hq (.inl e3)).2⟩)
theorem in_sub {q c f : Nat} (h : isIn l c f = true) (h1 : (lowsF l).getD q 0 ≤ (lowsF l).getD c 0) (h2 : c ≤ q) : isIn l q f = true := by
  have := isIn_iff.1 h
  exact isIn_iff.2 ⟨by omega,by omega⟩
theorem path_ok (hr : rightF l = true) : ∀ n q,q < n → q < l.length → ∀ h ∈ pathG l n q,∃ f : Nat,f < l.length ∧ (tAt l f).k = 2 ∧ (leavesF l f : Int) = h.1 ∧ isIn l q f = true ∧ cnt h.2 = (deepF l).getD f 0 - (deepF l).getD q 0 + 1 ∧ ab 0 2 h.2 ∧ ∃ r,h.2 = (2 * q : Int) :: r
  | 0,q,hn,_,_,_ => by omega
  | n + 1,q,hn,hq,h,hh => by
    have ht := term_of_right hr
    have put : ∀ (s : List Int) (c : Nat) (u : Int × List Int),c < q → c < l.length → cnt s = 1 → ab 0 2 s → (∃ r,s = (2 * q : Int) :: r) → (lowsF l).getD q 0 ≤ (lowsF l).getD c 0 → (deepF l).getD c 0 = (deepF l).getD q 0 + 1 → u ∈ pathG l n c → h = hpre s u → ∃ f : Nat,f < l.length ∧ (tAt l f).k = 2 ∧ (leavesF l f : Int) = h.1 ∧ isIn l q f = true ∧ cnt h.2 = (deepF l).getD f 0 - (deepF l).getD q 0 + 1 ∧ ab 0 2 h.2 ∧ ∃ r,h.2 = (2 * q : Int) :: r := by
      intro s c u hc hcl s1 s2 s3 hlo hd hu e
      obtain ⟨f,f1,f2,f3,f4,f5,f6,f7⟩ := path_ok hr n c (by omega) hcl u hu
      subst e
      refine ⟨f,f1,f2,f3,in_sub f4 hlo (by omega),?_,?_,?_⟩
      · show cnt (s ++ u.2) = _
        rw [cnt_app,s1,f5,hd];omega
      · show ab 0 2 (s ++ u.2)
        rw [ab_app,s1]
        exact ⟨s2,ab_to f6 (by omega)⟩
      · obtain ⟨r,hr⟩ := s3
        exact ⟨r ++ u.2,by show s ++ u.2 = _;rw [hr];rfl⟩
    have c1 : cnt [(2 * q : Int)] = 1 := by simp only [cnt,stp_even];omega
    have a1 : ab 0 2 [(2 * q : Int)] := ab_ev trivial
    rcases node_cases hr hq with ⟨k1,e⟩|⟨k1,c,d,e1,hcd,e2,e3,e4,e5,e6,e7⟩|⟨k1,d,e1,e3,e5,e6⟩
    · rcases k1 with k1|k1
      · rw [pathG,if_neg (by omega),if_neg (by omega),if_neg (by omega),if_neg (by omega)] at hh
        cases hh
      · rw [pathG,if_pos k1] at hh
        obtain rfl := List.mem_singleton.1 hh
        refine ⟨q,hq,k1,?_,isIn_self hr,?_,a1,[],rfl⟩
        · show _ = (indexF l).getD q 0
          rw [indexF_get hr hq,if_pos k1]
        · show cnt [(2 * q : Int)] = _
          rw [c1];omega
    · have hlo := ht.low d
      rw [pathG,if_neg (by omega),e2,e3,Int.toNat_natCast,Int.toNat_natCast] at hh
      have c2 : cnt ((2 * q : Int) :: stepsL l c) = 1 := by rw [cnt,stp_even,stepsL,(steps_cnt _ _).1];omega
      have a2 : ab 0 2 ((2 * q : Int) :: stepsL l c) := by
        refine ab_ev ?_
        exact ab_to (steps_cnt (l := l) (can := canF l) l.length c).2 (by omega)
      have lowd : (lowsF l).getD q 0 ≤ (lowsF l).getD d 0 := by have := ht.low c;omega
      split at hh
      · rcases List.mem_append.1 hh with hh|hh
        · obtain ⟨u,hu,e⟩ := List.mem_map.1 hh
          exact put _ c u (by omega) (by omega) c1 a1 ⟨[],rfl⟩ (by omega) e6 hu e.symm
        · split at hh
          · obtain ⟨u,hu,e⟩ := List.mem_map.1 hh
            exact put _ d u (by omega) (by omega) c2 a2 ⟨_,rfl⟩ lowd e7 hu e.symm
          · cases hh
      · rw [if_pos (by omega)] at hh
        rcases List.mem_append.1 hh with hh|hh
        · obtain ⟨u,hu,e⟩ := List.mem_map.1 hh
          exact put _ c u (by omega) (by omega) c1 a1 ⟨[],rfl⟩ (by omega) e6 hu e.symm
        · obtain ⟨u,hu,e⟩ := List.mem_map.1 hh
          exact put _ d u (by omega) (by omega) c1 a1 ⟨[],rfl⟩ lowd e7 hu e.symm
    · rw [pathG,if_neg (by omega),if_neg (by omega),if_neg (by omega),if_pos (by omega),e3,Int.toNat_natCast] at hh
      obtain ⟨u,hu,e⟩ := List.mem_map.1 hh
      exact put _ d u (by omega) (by omega) c1 a1 ⟨[],rfl⟩ (by omega) e6 hu e.symm
theorem path_steps (hr : rightF l = true) : ∀ n q,q < n → q < l.length → canB l q = true → ∀ h ∈ pathG l n q,∃ pre x1 r1 x2 r2,h.2 = pre ++ x1 :: r1 ∧ stepsL l q = pre ++ x2 :: r2 ∧ x1 ≠ x2 ∧ 1 ≤ cnt pre ∧ ab (cnt pre) (cnt pre + 1) (x1 :: r1)
  | 0,q,hn,_,_,_,_ => by omega
  | n + 1,q,hn,hq,hc,h,hh => by
    have ht := term_of_right hr
    have se := steps_eq hr hq
    have ce := can_eq hr hq
    have c1 : cnt [(2 * q : Int)] = 1 := by simp only [cnt,stp_even];omega
    have put : ∀ (s : List Int) (c : Nat) (u : Int × List Int) (tl : List Int),c < q → c < l.length → cnt s = 1 → canB l c = true → u ∈ pathG l n c → h = hpre s u → stepsL l q = s ++ (stepsL l c ++ tl) → ∃ pre x1 r1 x2 r2,h.2 = pre ++ x1 :: r1 ∧ stepsL l q = pre ++ x2 :: r2 ∧ x1 ≠ x2 ∧ 1 ≤ cnt pre ∧ ab (cnt pre) (cnt pre + 1) (x1 :: r1) := by
      intro s c u tl h1 h2 h3 h4 hu e es
      obtain ⟨pre,x1,r1,x2,r2,p1,p2,p3,p4,p5⟩ := path_steps hr n c (by omega) h2 h4 u hu
      subst e
      refine ⟨s ++ pre,x1,r1,x2,r2 ++ tl,?_,?_,p3,by rw [cnt_app,h3];omega,?_⟩
      · show s ++ u.2 = _
        rw [p1,List.append_assoc]
      · rw [es,p2];simp
      · rw [cnt_app,h3]
        exact ab_to p5 (by omega)
    have now : ∀ (c : Nat) (u : Int × List Int) (x2 : Int) (r2 : List Int),c < q → c < l.length → u ∈ pathG l n c → h = hpre [(2 * q : Int)] u → stepsL l q = (2 * q : Int) :: x2 :: r2 → x2 ≠ 2 * (c : Int) → ∃ pre x1 r1 x2 r2,h.2 = pre ++ x1 :: r1 ∧ stepsL l q = pre ++ x2 :: r2 ∧ x1 ≠ x2 ∧ 1 ≤ cnt pre ∧ ab (cnt pre) (cnt pre + 1) (x1 :: r1) := by
      intro c u x2 r2 h1 h2 hu e es hx
      obtain ⟨f,_,_,_,_,_,f6,r,hr7⟩ := path_ok hr n c (by omega) h2 u hu
      subst e
      refine ⟨[(2 * q : Int)],2 * (c : Int),r,x2,r2,?_,es,fun e => hx e.symm,by rw [c1];omega,?_⟩
      · show [(2 * q : Int)] ++ u.2 = _
        rw [hr7]
      · rw [c1,← hr7]
        exact ab_to f6 (by omega)
    rcases node_cases hr hq with ⟨k1,e⟩|⟨k1,c,d,e1,hcd,e2,e3,e4,e5,e6,e7⟩|⟨k1,d,e1,e3,e5,e6⟩
    · rcases k1 with k1|k1
      · rw [pathG,if_neg (by omega),if_neg (by omega),if_neg (by omega),if_neg (by omega)] at hh
        cases hh
      · rw [ce,if_neg (by omega),if_neg (by omega),if_neg (by omega),if_neg (by omega)] at hc
        cases hc
    · have c2 : cnt ((2 * q : Int) :: stepsL l c) = 1 := by rw [cnt,stp_even,stepsL,(steps_cnt _ _).1];omega
      rw [pathG,if_neg (by omega),e2,e3,Int.toNat_natCast,Int.toNat_natCast] at hh
      rw [e2,e3,Int.toNat_natCast,Int.toNat_natCast] at se ce
      rcases k1 with k1|k1
      · rw [if_pos k1] at hh se
        rw [if_neg (by omega),if_pos k1] at ce
        rw [ce,Bool.and_eq_true] at hc
        rw [if_pos hc.1] at hh
        rcases List.mem_append.1 hh with hh|hh
        · obtain ⟨u,hu,e⟩ := List.mem_map.1 hh
          exact put _ c u _ (by omega) (by omega) c1 hc.1 hu e.symm (by rw [se,List.append_assoc];rfl)
        · obtain ⟨u,hu,e⟩ := List.mem_map.1 hh
          exact put _ d u _ (by omega) (by omega) c2 hc.2 hu e.symm (by rw [se,List.append_assoc];rfl)
      · rw [if_neg (by omega),if_pos k1] at hh se
        rw [if_neg (by omega),if_neg (by omega),if_pos k1] at ce
        rw [ce,Bool.or_eq_true] at hc
        have hl := ht.pos
        by_cases hcc : canB l c = true
        · rw [if_pos hcc] at se
          rcases List.mem_append.1 hh with hh|hh
          · obtain ⟨u,hu,e⟩ := List.mem_map.1 hh
            exact put _ c u _ (by omega) (by omega) c1 hcc hu e.symm (by rw [se];rfl)
          · obtain ⟨u,hu,e⟩ := List.mem_map.1 hh
            obtain ⟨M,hM⟩ := steps_last (l := l) (can := canF l) (q := c) hl
            have hM : stepsL l c = (2 * c : Int) :: M ++ [(2 * c + 1 : Int)] := hM
            exact now d u (2 * (c : Int)) _ (by omega) (by omega) hu e.symm (by rw [se,hM];rfl) (by omega)
        · rw [if_neg hcc] at se
          have hcd2 := hc.resolve_left hcc
          rcases List.mem_append.1 hh with hh|hh
          · obtain ⟨u,hu,e⟩ := List.mem_map.1 hh
            obtain ⟨M,hM⟩ := steps_last (l := l) (can := canF l) (q := d) hl
            have hM : stepsL l d = (2 * d : Int) :: M ++ [(2 * d + 1 : Int)] := hM
            exact now c u (2 * (d : Int)) _ (by omega) (by omega) hu e.symm (by rw [se,hM];rfl) (by omega)
          · obtain ⟨u,hu,e⟩ := List.mem_map.1 hh
            exact put _ d u _ (by omega) (by omega) c1 hcd2 hu e.symm (by rw [se];rfl)
    · rw [pathG,if_neg (by omega),if_neg (by omega),if_neg (by omega),if_pos (by omega),e3,Int.toNat_natCast] at hh
      rw [e3,Int.toNat_natCast,if_neg (by omega),if_neg (by omega)] at se
      rw [e3,Int.toNat_natCast] at ce
      obtain ⟨u,hu,e⟩ := List.mem_map.1 hh
      by_cases k78 : (tAt l q).k = 7 ∨ (tAt l q).k = 8
      · rw [if_pos k78] at se
        rw [if_neg (by omega),if_neg (by omega),if_neg (by omega),if_pos k78] at ce
        exact put _ d u _ (by omega) (by omega) c1 (by rw [← ce];exact hc) hu e.symm (by rw [se];rfl)
      · rw [if_neg k78] at se
        exact now d u (2 * (q : Int) + 1) [] (by omega) (by omega) hu e.symm (by rw [se];rfl) (by omega)
def PartAt (o : Int) (t1 t2 : List Int) (la lb x1 x2 : Int) : Prop := ∃ pre r1 r2,t1 = pre ++ x1 :: r1 ∧ t2 = pre ++ x2 :: r2 ∧ x1 ≠ x2 ∧ lowC (o + cnt pre) (o + cnt pre + 1) (x1 :: r1) = la ∧ lowC (o + cnt pre) (o + cnt pre + 1) (x2 :: r2) = lb
theorem PartAt.behind {o o' : Int} {s t1 t2 : List Int} {la lb x1 x2 : Int} (h : PartAt o' t1 t2 la lb x1 x2) (ho : o' = o + cnt s) : PartAt o (s ++ t1) (s ++ t2) la lb x1 x2 := by
  obtain ⟨pre,r1,r2,h1,h2,h3,h4,h5⟩ := h
  subst ho
  exact ⟨s ++ pre,r1,r2,by rw [h1,List.append_assoc],by rw [h2,List.append_assoc],h3,by rw [cnt_app,← Int.add_assoc];exact h4,by rw [cnt_app,← Int.add_assoc];exact h5⟩
theorem PartAt.swap {o : Int} {t1 t2 : List Int} {la lb x1 x2 : Int} (h : PartAt o t1 t2 la lb x1 x2) : PartAt o t2 t1 lb la x2 x1 := by
  obtain ⟨pre,r1,r2,h1,h2,h3,h4,h5⟩ := h
  exact ⟨pre,r2,r1,h2,h1,fun e => h3 e.symm,h5,h4⟩
theorem tail_hit {o m w : Int} {pre y u v : List Int} {c : Int} (e : pre ++ y = u ++ c :: v) (hl : pre.length ≤ u.length) (h : ab o m (u ++ c :: v)) (hc : Int.tmod c 2 = 1) (hu : o + cnt u = m) (hw : m ≤ w) : lowC (o + cnt pre) w y = m := by
  obtain ⟨u',hu'⟩ : ∃ u',u = pre ++ u' := by
    refine ⟨u.drop pre.length,?_⟩
    have h1 := congrArg (List.take pre.length) e
    rw [List.take_append_of_le_length (Nat.le_refl _),List.take_length,List.take_append_of_le_length hl] at h1
    have := List.take_append_drop pre.length u
    rw [← h1] at this;exact this.symm
  subst hu'
  rw [List.append_assoc] at e h
  have ey := List.append_cancel_left e
  rw [ey]
  refine low_hit (ab_app.1 h).2 hc ?_ hw
  rw [cnt_app] at hu;omega
theorem join_parts (hr : rightF l = true) {q c d f1 f2 : Nat} (hq : q < l.length) (e1 : q = d + 1) (hcd : c < d) (e4 : (c : Int) + 1 = (lowsF l).getD d 0) (e5 : (lowsF l).getD q 0 = (lowsF l).getD c 0) (h1 : isIn l c f1 = true) (h2 : isIn l d f2 = true) : joinF2 l f1 f2 = q := by
  have ht := term_of_right hr
  have i1 := isIn_iff.1 h1
  have i2 := isIn_iff.1 h2
  have lc := ht.low c
  have len := ht.len
  unfold joinF2
  rw [if_pos ⟨by omega,by omega,by omega,by omega⟩]
  refine joinN_some l.length q hq ?_ fun q' hq' => ?_
  · rw [Bool.and_eq_true]
    exact ⟨isIn_iff.2 ⟨by omega,by omega⟩,isIn_iff.2 ⟨by omega,by omega⟩⟩
  · rw [Bool.and_eq_false_iff]
    by_cases g : isIn l q' f1 = true
    · right
      rw [isIn_not]
      intro g2
      have g1 := isIn_iff.1 g
      by_cases e : q' = d
      · subst e;omega
      · rcases laminar ht.low d (fun i hi => ht.node i (by omega)) q' (by omega) with h|h
        · omega
        · omega
    · exact .inl (by simpa using g)
theorem path_two (hr : rightF l = true) : ∀ n q,q < n → q < l.length → ∀ h1 ∈ pathG l n q,∀ h2 ∈ pathG l n q,h1.1 < h2.1 →
    ∃ (J f1 f2 : Nat) (la x1 x2 : Int),f1 < l.length ∧ (tAt l f1).k = 2 ∧ (leavesF l f1 : Int) = h1.1 ∧ f2 < l.length ∧ (tAt l f2).k = 2 ∧ (leavesF l f2 : Int) = h2.1 ∧ J < l.length ∧ joinF2 l f1 f2 = J ∧ PartAt ((deepF l).getD q 0 - 1) h1.2 h2.2 la ((deepF l).getD J 0 + 1) x1 x2 ∧
      ((tAt l J).k = 3 → (deepF l).getD J 0 + 2 ≤ la) ∧ ((tAt l J).k ≠ 3 → la = (deepF l).getD J 0 + 1 ∧ Int.tmod x1 2 = 0 ∧ Int.tmod x2 2 = 0 ∧ x1 < x2)
  | 0,q,hn,_,_,_,_,_,_ => by omega
  | n + 1,q,hn,hq,h1,hh1,h2,hh2,hlt => by
    have ht := term_of_right hr
    have c1 : cnt [(2 * q : Int)] = 1 := by simp only [cnt,stp_even];omega
    have put : ∀ (s : List Int) (c : Nat) (u1 u2 : Int × List Int),c < q → c < l.length → cnt s = 1 → (deepF l).getD c 0 = (deepF l).getD q 0 + 1 → u1 ∈ pathG l n c → u2 ∈ pathG l n c → h1 = hpre s u1 → h2 = hpre s u2 → ∃ (J f1 f2 : Nat) (la x1 x2 : Int),f1 < l.length ∧ (tAt l f1).k = 2 ∧ (leavesF l f1 : Int) = h1.1 ∧ f2 < l.length ∧ (tAt l f2).k = 2 ∧ (leavesF l f2 : Int) = h2.1 ∧ J < l.length ∧ joinF2 l f1 f2 = J ∧ PartAt ((deepF l).getD q 0 - 1) h1.2 h2.2 la ((deepF l).getD J 0 + 1) x1 x2 ∧
      ((tAt l J).k = 3 → (deepF l).getD J 0 + 2 ≤ la) ∧ ((tAt l J).k ≠ 3 → la = (deepF l).getD J 0 + 1 ∧ Int.tmod x1 2 = 0 ∧ Int.tmod x2 2 = 0 ∧ x1 < x2) := by
      intro s c u1 u2 g1 g2 g3 g4 m1 m2 e1 e2
      subst e1;subst e2
      obtain ⟨J,f1,f2,la,x1,x2,a1,a2,a3,a4,a5,a6,a7,a8,a9,a10,a11⟩ := path_two hr n c (by omega) g2 u1 m1 u2 m2 hlt
      exact ⟨J,f1,f2,la,x1,x2,a1,a2,a3,a4,a5,a6,a7,a8,a9.behind (by rw [g3,g4];omega),a10,a11⟩
    rcases node_cases hr hq with ⟨k1,e⟩|⟨k1,c,d,e1,hcd,e2,e3,e4,e5,e6,e7⟩|⟨k1,d,e1,e3,e5,e6⟩
    · rcases k1 with k1|k1
      · rw [pathG,if_neg (by omega),if_neg (by omega),if_neg (by omega),if_neg (by omega)] at hh1
        cases hh1
      · rw [pathG,if_pos k1] at hh1 hh2
        rw [List.mem_singleton.1 hh1,List.mem_singleton.1 hh2] at hlt
        omega
    · have c2 : cnt ((2 * q : Int) :: stepsL l c) = 1 := by rw [cnt,stp_even,stepsL,(steps_cnt _ _).1];omega
      rw [pathG,if_neg (by omega),e2,e3,Int.toNat_natCast,Int.toNat_natCast] at hh1 hh2
      have far : ∀ u1 u2 : Int × List Int,u1 ∈ pathG l n d → u2 ∈ pathG l n c → ¬ u1.1 < u2.1 := by
        intro u1 u2 m1 m2 hl
        obtain ⟨f1,a1,a2,a3,a4,_⟩ := path_ok hr n d (by omega) (by omega) u1 m1
        obtain ⟨f2,b1,b2,b3,b4,_⟩ := path_ok hr n c (by omega) (by omega) u2 m2
        have i1 := isIn_iff.1 a4
        have i2 := isIn_iff.1 b4
        have := leaves_mono (l := l) (i := f2) (j := f1) (by omega)
        omega
      rcases k1 with k1|k1
      · rw [if_pos k1] at hh1 hh2
        rcases List.mem_append.1 hh1 with hh1|hh1
        · obtain ⟨u1,m1,w1⟩ := List.mem_map.1 hh1
          rcases List.mem_append.1 hh2 with hh2|hh2
          · obtain ⟨u2,m2,w2⟩ := List.mem_map.1 hh2
            exact put _ c u1 u2 (by omega) (by omega) c1 e6 m1 m2 w1.symm w2.symm
          · split at hh2
            · rename_i hcc
              obtain ⟨u2,m2,w2⟩ := List.mem_map.1 hh2
              obtain ⟨f1,a1,a2,a3,a4,_⟩ := path_ok hr n c (by omega) (by omega) u1 m1
              obtain ⟨f2,b1,b2,b3,b4,b5,b6,_⟩ := path_ok hr n d (by omega) (by omega) u2 m2
              obtain ⟨pre,x1,r1,x2,r2,p1,p2,p3,p4,p5⟩ := path_steps hr n c (by omega) (by omega) hcc u1 m1
              subst w1;subst w2
              refine ⟨q,f1,f2,_,x1,x2,a1,a2,a3,b1,b2,b3,hq,join_parts hr hq e1 hcd e4 e5 a4 b4,⟨(2 * q : Int) :: pre,r1,r2 ++ u2.2,?_,?_,p3,rfl,?_⟩,fun _ => ?_,fun h => absurd k1 h⟩
              · show [(2 * q : Int)] ++ u1.2 = _
                rw [p1];rfl
              · show (2 * q : Int) :: stepsL l c ++ u2.2 = _
                rw [p2];simp
              · obtain ⟨M,hM⟩ := steps_last (l := l) (can := canF l) (q := c) ht.pos
                have hM : stepsL l c = (2 * c : Int) :: M ++ [(2 * c + 1 : Int)] := hM
                have sc := steps_cnt (l := l) (can := canF l) l.length c
                have sc1 : cnt (stepsL l c) = 0 := sc.1
                have sc2 : ab 0 1 (stepsL l c) := sc.2
                have hcu : cnt ((2 * c : Int) :: M) = 1 := by
                  have := sc1
                  rw [hM,cnt_app] at this
                  simp only [cnt,stp_odd] at this ⊢;omega
                have hlen : pre.length ≤ ((2 * c : Int) :: M).length := by
                  have := congrArg List.length (p2.symm.trans hM)
                  simp only [List.length_append,List.length_cons,List.length_nil] at this ⊢;omega
                refine tail_hit (o := (deepF l).getD q 0 - 1) (pre := (2 * q : Int) :: pre) (u := (2 * q : Int) :: ((2 * c : Int) :: M)) (c := 2 * (c : Int) + 1) (v := u2.2) ?_ (by simpa using hlen) ?_ (odd_mod c) ?_ ?_
                · have := p2.symm.trans hM
                  show (2 * q : Int) :: (pre ++ (x2 :: r2 ++ u2.2)) = (2 * q : Int) :: (((2 * c : Int) :: M) ++ ((2 * (c : Int) + 1) :: u2.2))
                  rw [← List.append_assoc,this];simp
                · have e8 : (2 * q : Int) :: ((2 * c : Int) :: M) ++ (2 * (c : Int) + 1) :: u2.2 = [(2 * q : Int)] ++ (stepsL l c ++ u2.2) := by rw [hM];simp
                  rw [e8,ab_app,ab_app,c1,sc1]
                  exact ⟨ab_ev trivial,ab_to sc2 (by omega),ab_to b6 (by omega)⟩
                · rw [cnt,stp_even,hcu];omega
                · rw [cnt,stp_even];omega
              · have := low_keep (o := (deepF l).getD q 0 - 1 + cnt ((2 * q : Int) :: pre)) (w := (deepF l).getD q 0 - 1 + cnt ((2 * q : Int) :: pre) + 1) (m := (deepF l).getD q 0 - 1 + cnt ((2 * q : Int) :: pre) + 1) (s := x1 :: r1) (by rw [cnt,stp_even];exact ab_to p5 (by omega)) (Int.le_refl _)
                rw [this,cnt,stp_even];omega
            · cases hh2
        · split at hh1
          · rename_i hcc
            obtain ⟨u1,m1,w1⟩ := List.mem_map.1 hh1
            rcases List.mem_append.1 hh2 with hh2|hh2
            · obtain ⟨u2,m2,w2⟩ := List.mem_map.1 hh2
              exact absurd (show u1.1 < u2.1 by rw [← w1,← w2] at hlt;exact hlt) (far u1 u2 m1 m2)
            · rw [if_pos hcc] at hh2
              obtain ⟨u2,m2,w2⟩ := List.mem_map.1 hh2
              exact put _ d u1 u2 (by omega) (by omega) c2 e7 m1 m2 w1.symm w2.symm
          · cases hh1
      · rw [if_neg (by omega),if_pos k1] at hh1 hh2
        rcases List.mem_append.1 hh1 with hh1|hh1
        · obtain ⟨u1,m1,w1⟩ := List.mem_map.1 hh1
          rcases List.mem_append.1 hh2 with hh2|hh2
          · obtain ⟨u2,m2,w2⟩ := List.mem_map.1 hh2
            exact put _ c u1 u2 (by omega) (by omega) c1 e6 m1 m2 w1.symm w2.symm
          · obtain ⟨u2,m2,w2⟩ := List.mem_map.1 hh2
            obtain ⟨f1,a1,a2,a3,a4,_,a6,r1,a7⟩ := path_ok hr n c (by omega) (by omega) u1 m1
            obtain ⟨f2,b1,b2,b3,b4,_,b6,r2,b7⟩ := path_ok hr n d (by omega) (by omega) u2 m2
            subst w1;subst w2
            refine ⟨q,f1,f2,_,2 * (c : Int),2 * (d : Int),a1,a2,a3,b1,b2,b3,hq,join_parts hr hq e1 hcd e4 e5 a4 b4,⟨[(2 * q : Int)],r1,r2,?_,?_,by omega,rfl,?_⟩,fun h => by omega,fun _ => ⟨?_,even_mod c,even_mod d,by omega⟩⟩
            · show [(2 * q : Int)] ++ u1.2 = _
              rw [a7]
            · show [(2 * q : Int)] ++ u2.2 = _
              rw [b7]
            · rw [← b7,c1]
              rw [low_keep (m := (deepF l).getD q 0 + 2) (ab_to b6 (by omega)) (by omega)];omega
            · rw [← a7,c1]
              rw [low_keep (m := (deepF l).getD q 0 + 2) (ab_to a6 (by omega)) (by omega)];omega
        · obtain ⟨u1,m1,w1⟩ := List.mem_map.1 hh1
          rcases List.mem_append.1 hh2 with hh2|hh2
          · obtain ⟨u2,m2,w2⟩ := List.mem_map.1 hh2
            exact absurd (show u1.1 < u2.1 by rw [← w1,← w2] at hlt;exact hlt) (far u1 u2 m1 m2)
          · obtain ⟨u2,m2,w2⟩ := List.mem_map.1 hh2
            exact put _ d u1 u2 (by omega) (by omega) c1 e7 m1 m2 w1.symm w2.symm
    · rw [pathG,if_neg (by omega),if_neg (by omega),if_neg (by omega),if_pos (by omega),e3,Int.toNat_natCast] at hh1 hh2
      obtain ⟨u1,m1,w1⟩ := List.mem_map.1 hh1
      obtain ⟨u2,m2,w2⟩ := List.mem_map.1 hh2
      exact put _ d u1 u2 (by omega) (by omega) c1 e6 m1 m2 w1.symm w2.symm
end
end Go.Proofs.Ytllemobnfpljfaa
