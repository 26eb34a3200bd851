import Derived.Test.YtllemobnfpljfaaNextP
import Derived.Test.YtllemobnfpljfaaRankP
set_option linter.unusedSimpArgs false
set_option linter.unusedVariables false
set_option maxRecDepth 100000
set_option maxHeartbeats 8000000
namespace Go.Proofs.Ytllemobnfpljfaa
open Go Go.Hs
theorem ag_swap {b d : List (List Int)} {fr : List Int} {h : List Hp} {i k : Nat} (hd : rGet d (fr.getD k 0).toNat (fr.getD i 0).toNat = - rGet d (fr.getD i 0).toNat (fr.getD k 0).toNat) : agF b d fr h k i = - agF b d fr h i k := by
  unfold agF
  by_cases e1 : lowH b fr h k i < lowH b fr h i k
  · have e1' : ¬ lowH b fr h i k < lowH b fr h k i := by omega
    simp only [e1,e1',↓reduceIte]
  · by_cases e2 : lowH b fr h i k < lowH b fr h k i
    · simp only [e1,e2,↓reduceIte];rfl
    · simp only [e1,e2,↓reduceIte,hd]
theorem num_pos {b t : Int} (h : 0 ≤ b) (ht : 0 ≤ t) : 0 ≤ numF b t := by unfold numF;split <;> omega
theorem fork_pos {l : List Tm} {x y : Int × Int} (hd : ∀ q,0 ≤ (deepF l).getD q 0) (hx : 0 ≤ x.2) (hy : 0 ≤ y.2) : 0 ≤ (forkF l x y).1 := by
  have h1 : 0 ≤ forkD l x.1 y.1 := by unfold forkD;have := hd (forkQ l x.1 y.1).toNat;omega
  unfold forkF
  split
  · decide
  · split
    · show 0 ≤ x.2 + 1;omega
    · split
      · show 0 ≤ x.2 + 1;omega
      · split
        · exact h1
        · dsimp only
          split <;> omega
end Go.Proofs.Ytllemobnfpljfaa
set_option linter.unusedSimpArgs false
namespace Go.Proofs.Ytllemobnfpljfaa
open Go Go.Hs
def canOf (t : Tm) (o : List Bool) : Bool :=
  if t.k = 1 ∨ t.k = 5 ∨ t.k = 6 then true
  else if t.k = 3 then o.getD t.a.toNat false && o.getD t.b.toNat false
  else if t.k = 4 then o.getD t.a.toNat false || o.getD t.b.toNat false
  else if t.k = 7 ∨ t.k = 8 then o.getD t.a.toNat false
  else false
def canN (l : List Tm) : Nat → List Bool
  | 0 => []
  | i + 1 => canN l i ++ [canOf (tAt l i) (canN l i)]
def canF (l : List Tm) : List Bool := if rightF l then canN l l.length else []
theorem canN_length {l : List Tm} : ∀ i,(canN l i).length = i
  | 0 => rfl
  | i + 1 => by simp [canN,canN_length i]
theorem canF_length {l : List Tm} : (canF l).length = if rightF l then l.length else 0 := by
  unfold canF
  split
  · exact canN_length _
  · rfl
theorem gb_lt {o : List Bool} {x d : Bool} {j : Nat} (h : j < o.length) : (o ++ [x]).getD j d = o.getD j d := by
  simp only [List.getD_eq_getElem?_getD]
  rw [List.getElem?_append_left h]
theorem gb_eq {o : List Bool} {x d : Bool} {j : Nat} (h : j = o.length) : (o ++ [x]).getD j d = x := by
  subst h
  simp only [List.getD_eq_getElem?_getD]
  rw [List.getElem?_append_right (Nat.le_refl _)]
  simp
theorem canN_get {l : List Tm} {n m b : Nat} (hb : b < n) (hn : n ≤ m) : (canN l m).getD b false = (canN l n).getD b false := by
  induction m with
  | zero => have : n = 0 := by omega
            subst this;rfl
  | succ m ih =>
    by_cases e : n = m + 1
    · subst e;rfl
    · rw [← ih (by omega)]
      have := canN_length (l := l) m
      simp only [canN]
      exact gb_lt (by omega)
theorem canF_get {l : List Tm} (hr : rightF l = true) {i : Nat} (hi : i < l.length) : (canF l).getD i false = canOf (tAt l i) (canN l i) := by
  rw [canF,if_pos hr,canN_get (n := i + 1) (by omega) hi]
  have := canN_length (l := l) i
  simp only [canN]
  exact gb_eq (by omega)
theorem canF_at {l : List Tm} (hr : rightF l = true) {i j : Nat} (hj : j < i) (hi : i ≤ l.length) : (canN l i).getD j false = (canF l).getD j false := by
  rw [canF,if_pos hr,canN_get hj hi]
def pad (n i : Nat) : List Bool := List.replicate (n - i) false
theorem pad_get {o : List Bool} {n i j : Nat} (h : o.length = i) (hj : j < i) : (o ++ pad n i).getD j false = o.getD j false := by
  simp only [List.getD_eq_getElem?_getD]
  rw [List.getElem?_append_left (by omega)]
theorem pad_set {o : List Bool} {n i : Nat} {x : Bool} (h : o.length = i) (hi : i < n) : (o ++ pad n i).set i x = (o ++ [x]) ++ pad n (i + 1) := by
  have e : pad n i = false :: pad n (i + 1) := by
    unfold pad;rw [show n - i = (n - (i + 1)) + 1 by omega,List.replicate_succ]
  rw [e,List.set_append_right _ _ (by omega),show i - o.length = 0 by omega]
  simp
theorem pad_no {o : List Bool} {n i : Nat} (hi : i < n) : (o ++ pad n i) = (o ++ [false]) ++ pad n (i + 1) := by
  have e : pad n i = false :: pad n (i + 1) := by
    unfold pad;rw [show n - i = (n - (i + 1)) + 1 by omega,List.replicate_succ]
  rw [e]
  simp
theorem pad_end {o : List Bool} {n : Nat} : o ++ pad n n = o := by simp [pad]
theorem pad_length {o : List Bool} {n i : Nat} (h : o.length = i) (hi : i ≤ n) : (o ++ pad n i).length = n := by
  simp [pad];omega
def stepsG (l : List Tm) (can : List Bool) : Nat → Nat → List Int
  | 0,_ => []
  | n + 1,q => [(2 * q : Int)] ++ (if (tAt l q).k = 3 then stepsG l can n (tAt l q).a.toNat ++ stepsG l can n (tAt l q).b.toNat
      else if (tAt l q).k = 4 then (if can.getD (tAt l q).a.toNat false then stepsG l can n (tAt l q).a.toNat else stepsG l can n (tAt l q).b.toNat)
      else if (tAt l q).k = 7 ∨ (tAt l q).k = 8 then stepsG l can n (tAt l q).a.toNat else []) ++ [(2 * q + 1 : Int)]
theorem stepsG_cat {l : List Tm} {can : List Bool} {n q c d : Nat} (h : (tAt l q).k = 3) (ha : (tAt l q).a = c) (hb : (tAt l q).b = d) : stepsG l can (n + 1) q = [(2 * q : Int)] ++ stepsG l can n c ++ stepsG l can n d ++ [(2 * q + 1 : Int)] := by
  simp only [stepsG,if_pos h,ha,hb,Int.toNat_natCast,List.append_assoc]
theorem stepsG_alt {l : List Tm} {can : List Bool} {n q c d : Nat} (h : (tAt l q).k = 4) (ha : (tAt l q).a = c) (hb : (tAt l q).b = d) : stepsG l can (n + 1) q = [(2 * q : Int)] ++ (if can.getD c false then stepsG l can n c else stepsG l can n d) ++ [(2 * q + 1 : Int)] := by
  simp only [stepsG,if_neg (show (tAt l q).k ≠ 3 by omega),if_pos h,ha,hb,Int.toNat_natCast]
theorem stepsG_one {l : List Tm} {can : List Bool} {n q c : Nat} (h : (tAt l q).k = 7 ∨ (tAt l q).k = 8) (ha : (tAt l q).a = c) : stepsG l can (n + 1) q = [(2 * q : Int)] ++ stepsG l can n c ++ [(2 * q + 1 : Int)] := by
  simp only [stepsG,if_neg (show (tAt l q).k ≠ 3 by omega),if_neg (show (tAt l q).k ≠ 4 by omega),if_pos h,ha,Int.toNat_natCast]
theorem stepsG_no {l : List Tm} {can : List Bool} {n q : Nat} (h3 : (tAt l q).k ≠ 3) (h4 : (tAt l q).k ≠ 4) (h7 : (tAt l q).k ≠ 7) (h8 : (tAt l q).k ≠ 8) : stepsG l can (n + 1) q = [(2 * q : Int)] ++ [(2 * q + 1 : Int)] := by
  simp only [stepsG,if_neg h3,if_neg h4,if_neg (show ¬((tAt l q).k = 7 ∨ (tAt l q).k = 8) by omega),List.append_nil]
theorem stepsG_length {l : List Tm} {can : List Bool} {o : List Int} (ho : Low0 o) : ∀ n q,q < l.length → (∀ i,i < l.length → Node l o i) → ((stepsG l can n q).length : Int) ≤ 2 * (q + 1 - o.getD q 0)
  | 0,q,_,_ => by have := ho q;simp only [stepsG,List.length_nil];omega
  | n + 1,q,hq,hn => by
    simp only [stepsG,List.length_append,List.length_cons,List.length_nil]
    rcases hn q hq with ⟨h1,h2,h3,h4⟩|⟨h1,c,d,h2,h3,h4,h5,h6⟩|⟨h1,d,h2,h3,h4,h5⟩
    · rw [if_neg (by omega),if_neg (by omega),if_neg (by omega)]
      simp only [List.length_nil];omega
    · have lc := ho c
      have ld := ho d
      have i1 := stepsG_length (can := can) ho n c (by omega) hn
      have i2 := stepsG_length (can := can) ho n d (by omega) hn
      rw [h3,h4,Int.toNat_natCast,Int.toNat_natCast]
      rcases h1 with h1|h1
      · rw [if_pos h1]
        simp only [List.length_append];omega
      · rw [if_neg (by omega),if_pos h1]
        split <;> omega
    · have ld := ho d
      have i1 := stepsG_length (can := can) ho n d (by omega) hn
      rw [h4,Int.toNat_natCast,if_neg (by omega),if_neg (by omega)]
      split
      · omega
      · simp only [List.length_nil];omega
end Go.Proofs.Ytllemobnfpljfaa
set_option linter.unusedSimpArgs false
set_option linter.unusedVariables false
namespace Go.Proofs.Ytllemobnfpljfaa
open Go Go.Hs
def stp (x : Int) : Int := 1 - 2 * Int.tmod x 2
def cnt : List Int → Int
  | [] => 0
  | x :: s => stp x + cnt s
theorem cnt_app : ∀ {s t : List Int},cnt (s ++ t) = cnt s + cnt t
  | [],t => by simp [cnt]
  | x :: s,t => by rw [List.cons_append,cnt,cnt,cnt_app];omega
def lowC (o w : Int) : List Int → Int
  | [] => w
  | x :: s => lowC (o + stp x) (if Int.tmod x 2 = 1 ∧ o < w then o else w) s
theorem lowC_app : ∀ {s t : List Int} {o w : Int},lowC o w (s ++ t) = lowC (o + cnt s) (lowC o w s) t
  | [],t,o,w => by simp [cnt,lowC]
  | x :: s,t,o,w => by
    rw [List.cons_append,lowC,lowC_app,cnt,lowC]
    congr 1;omega
def ab (o m : Int) : List Int → Prop
  | [] => True
  | x :: s => (Int.tmod x 2 = 1 → m ≤ o) ∧ ab (o + stp x) m s
theorem ab_app : ∀ {s t : List Int} {o m : Int},ab o m (s ++ t) ↔ ab o m s ∧ ab (o + cnt s) m t
  | [],t,o,m => by simp [cnt,ab]
  | x :: s,t,o,m => by
    rw [List.cons_append,ab,ab_app,ab,cnt,← Int.add_assoc]
    exact ⟨fun h => ⟨⟨h.1,h.2.1⟩,h.2.2⟩,fun h => ⟨h.1.1,h.1.2,h.2⟩⟩
theorem ab_shift {e : Int} : ∀ {s : List Int} {o m : Int},ab o m s → ab (o + e) (m + e) s
  | [],_,_,_ => trivial
  | x :: s,o,m,h => by
    refine ⟨fun hx => by have := h.1 hx;omega,?_⟩
    have := ab_shift (e := e) h.2
    rw [show o + e + stp x = o + stp x + e by omega];exact this
theorem ab_mono {m' : Int} : ∀ {s : List Int} {o m : Int},m' ≤ m → ab o m s → ab o m' s
  | [],_,_,_,_ => trivial
  | x :: s,o,m,hm,h => ⟨fun hx => by have := h.1 hx;omega,ab_mono hm h.2⟩
theorem ab_to {s : List Int} {o m o' m' : Int} (h : ab o m s) (ho : o' - o = m' - m ∨ (o' - o ≥ m' - m)) : ab o' m' s := by
  have := ab_shift (e := o' - o) h
  rw [show o + (o' - o) = o' by omega] at this
  exact ab_mono (by omega) this
theorem low_keep : ∀ {s : List Int} {o w m : Int},ab o m s → w ≤ m → lowC o w s = w
  | [],_,_,_,_,_ => rfl
  | x :: s,o,w,m,h,hw => by
    rw [lowC,if_neg (fun c => by have := h.1 c.1;omega)]
    exact low_keep h.2 hw
theorem low_ge : ∀ {s : List Int} {o w m : Int},ab o m s → m ≤ w → m ≤ lowC o w s
  | [],_,_,_,_,hw => hw
  | x :: s,o,w,m,h,hw => by
    rw [lowC]
    refine low_ge h.2 ?_
    split
    · rename_i c;exact h.1 c.1
    · exact hw
theorem low_hit {s1 s2 : List Int} {x o w m : Int} (h : ab o m (s1 ++ x :: s2)) (hx : Int.tmod x 2 = 1) (ho : o + cnt s1 = m) (hw : m ≤ w) : lowC o w (s1 ++ x :: s2) = m := by
  obtain ⟨h1,h2⟩ := ab_app.1 h
  rw [lowC_app,lowC]
  have g := low_ge h1 hw
  have : (if Int.tmod x 2 = 1 ∧ o + cnt s1 < lowC o w s1 then o + cnt s1 else lowC o w s1) = m := by
    split
    · exact ho
    · rename_i c
      have : ¬ o + cnt s1 < lowC o w s1 := fun hh => c ⟨hx,hh⟩
      omega
  rw [this]
  exact low_keep h2.2 (Int.le_refl _)
theorem odd_mod (q : Nat) : Int.tmod (2 * (q : Int) + 1) 2 = 1 := by rw [Int.tmod_eq_emod_of_nonneg (by omega)];omega
theorem even_mod (q : Nat) : Int.tmod (2 * (q : Int)) 2 = 0 := by rw [Int.tmod_eq_emod_of_nonneg (by omega)];omega
theorem stp_odd (q : Nat) : stp (2 * (q : Int) + 1) = -1 := by rw [stp,odd_mod];rfl
theorem stp_even (q : Nat) : stp (2 * (q : Int)) = 1 := by rw [stp,even_mod];rfl
theorem ab_ev {q : Nat} {o m : Int} {s : List Int} (h : ab (o + 1) m s) : ab o m ((2 * q : Int) :: s) :=
  ⟨fun hx => absurd (hx.symm.trans (even_mod q)) (by decide),by rw [stp_even];exact h⟩
theorem steps_cnt {l : List Tm} {can : List Bool} : ∀ n q,cnt (stepsG l can n q) = 0 ∧ ab 0 1 (stepsG l can n q)
  | 0,q => ⟨rfl,trivial⟩
  | n + 1,q => by
    have main : ∀ M : List Int,cnt M = 0 → ab 0 1 M → cnt ([(2 * q : Int)] ++ M ++ [(2 * q + 1 : Int)]) = 0 ∧ ab 0 1 ([(2 * q : Int)] ++ M ++ [(2 * q + 1 : Int)]) := fun M h1 h2 => by
      constructor
      · rw [cnt_app,cnt_app,h1]
        simp only [cnt,stp_even,stp_odd];omega
      · rw [ab_app,ab_app]
        have e1 : cnt [(2 * q : Int)] = 1 := by simp only [cnt,stp_even];omega
        refine ⟨⟨ab_ev trivial,?_⟩,⟨fun _ => ?_,trivial⟩⟩
        · rw [e1];exact ab_to h2 (by omega)
        · rw [cnt_app,e1,h1];omega
    simp only [stepsG]
    refine main _ ?_ ?_
    · split
      · rw [cnt_app,(steps_cnt n _).1,(steps_cnt n _).1];rfl
      · split
        · split
          · exact (steps_cnt n _).1
          · exact (steps_cnt n _).1
        · split
          · exact (steps_cnt n _).1
          · rfl
    · split
      · rw [ab_app,(steps_cnt n _).1];exact ⟨(steps_cnt n _).2,(steps_cnt n _).2⟩
      · split
        · split
          · exact (steps_cnt n _).2
          · exact (steps_cnt n _).2
        · split
          · exact (steps_cnt n _).2
          · trivial
theorem steps_last {l : List Tm} {can : List Bool} {n q : Nat} (h : 0 < n) : ∃ M,stepsG l can n q = (2 * q : Int) :: M ++ [(2 * q + 1 : Int)] := by
  obtain ⟨m,rfl⟩ : ∃ m,n = m + 1 := ⟨n - 1,by omega⟩
  simp only [stepsG]
  exact ⟨_,rfl⟩
theorem steps_fuel {l : List Tm} {o : List Int} {can : List Bool} (ho : Low0 o) (hn : ∀ i,i < l.length → Node l o i) : ∀ n m q,q < n → q < m → q < l.length → stepsG l can n q = stepsG l can m q
  | 0,m,q,h,_,_ => by omega
  | n + 1,0,q,_,h,_ => by omega
  | n + 1,m + 1,q,h1,h2,hq => by
    simp only [stepsG]
    congr 2
    rcases hn q hq with ⟨k1,_,_,_⟩|⟨k1,c,d,e1,e2,e3,e4,_⟩|⟨k1,d,e1,e2,e3,_⟩
    · rw [if_neg (by omega),if_neg (by omega),if_neg (by omega),if_neg (by omega),if_neg (by omega),if_neg (by omega)]
    · have := ho d
      rw [e2,e3,Int.toNat_natCast,Int.toNat_natCast,steps_fuel ho hn n m c (by omega) (by omega) (by omega),steps_fuel ho hn n m d (by omega) (by omega) (by omega)]
    · rw [if_neg (by omega),if_neg (by omega),if_neg (show ¬ (tAt l q).k = 3 by omega),if_neg (show ¬ (tAt l q).k = 4 by omega),e3,Int.toNat_natCast,steps_fuel ho hn n m d (by omega) (by omega) (by omega)]
end Go.Proofs.Ytllemobnfpljfaa
