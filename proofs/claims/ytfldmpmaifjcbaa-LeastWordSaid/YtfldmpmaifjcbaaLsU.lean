/-
  Parts of a proof, side by side.
-/
import Derived.Test.YtfldmpmaifjcbaaKidsP
import Derived.Test.YtfldmpmaifjcbaaTree4
import Derived.Test.YtfldmpmaifjcbaaLsB
import Derived.Test.YtfldmpmaifjcbaaLsM
import Derived.Test.YtfldmpmaifjcbaaLsN
import Derived.Test.YtfldmpmaifjcbaaTree8c
import Derived.Test.YtfldmpmaifjcbaaSpE
/-
  PLAIN: parse trees, as they are made of parts; a list that is right is one, and one is right.
-/
set_option linter.unusedSimpArgs false
set_option linter.unusedVariables false
namespace Go.Proofs.Ytfldmpmaifjcbaa
open Go Go.Hs

/-- false: the entries of node q, at depth d, from i to j; true: those of a row of nodes q, each a byte at least. -/
inductive PT (l : List Tm) (w : List Int) : Bool → Nat → Int → Int → Int → List En → Prop where
  | eps {q : Nat} {d i : Int} (hk : (tAt l q).k = 1) (hq : q < l.length) (h0 : 0 ≤ i ∧ i ≤ w.length) : PT l w false q d i i [⟨d,q,i,i⟩]
  | leaf {q : Nat} {d i : Int} (hk : (tAt l q).k = 2) (hq : q < l.length) (h0 : 0 ≤ i ∧ i + 1 ≤ w.length) (hb : hasB (stOf (tAt l q)) (w.getD i.toNat 0).toNat = true) : PT l w false q d i (i + 1) [⟨d,q,i,i + 1⟩]
  | cat {q a b : Nat} {d i m j : Int} {s1 s2 : List En} (hk : (tAt l q).k = 3) (hq : q < l.length) (ha : (tAt l q).a = a) (hb : (tAt l q).b = b) (h1 : PT l w false a (d + 1) i m s1) (h2 : PT l w false b (d + 1) m j s2) : PT l w false q d i j (⟨d,q,i,j⟩ :: (s1 ++ s2))
  | alt {q a : Nat} {d i j : Int} {s : List En} (hk : (tAt l q).k = 4) (hq : q < l.length) (ha : (tAt l q).a = a ∨ (tAt l q).b = a) (h1 : PT l w false a (d + 1) i j s) : PT l w false q d i j (⟨d,q,i,j⟩ :: s)
  | star {q a : Nat} {d i j : Int} {s : List En} (hk : (tAt l q).k = 5) (hq : q < l.length) (ha : (tAt l q).a = a) (h1 : PT l w true a (d + 1) i j s) : PT l w false q d i j (⟨d,q,i,j⟩ :: s)
  | may {q : Nat} {d i : Int} (hk : (tAt l q).k = 6) (hq : q < l.length) (h0 : 0 ≤ i ∧ i ≤ w.length) : PT l w false q d i i [⟨d,q,i,i⟩]
  | one {q a : Nat} {d i j : Int} {s : List En} (hk : (tAt l q).k = 6 ∧ i < j ∨ (tAt l q).k = 7 ∨ (tAt l q).k = 8) (hq : q < l.length) (ha : (tAt l q).a = a) (h1 : PT l w false a (d + 1) i j s) : PT l w false q d i j (⟨d,q,i,j⟩ :: s)
  | rnil {q : Nat} {d i : Int} (h0 : 0 ≤ i ∧ i ≤ w.length) : PT l w true q d i i []
  | rcons {q : Nat} {d i m j : Int} {s1 s2 : List En} (h1 : PT l w false q d i m s1) (hm : i < m) (h2 : PT l w true q d m j s2) : PT l w true q d i j (s1 ++ s2)

theorem PT.le {l : List Tm} {w : List Int} {r : Bool} {q : Nat} {d i j : Int} {s : List En} (h : PT l w r q d i j s) : 0 ≤ i ∧ i ≤ j ∧ j ≤ w.length := by
  induction h <;> omega
theorem PT.head {l : List Tm} {w : List Int} {q : Nat} {d i j : Int} {s : List En} (h : PT l w false q d i j s) : q < l.length ∧ ∃ s',s = ⟨d,q,i,j⟩ :: s' := by
  cases h <;> exact ⟨by assumption,_,rfl⟩

end Go.Proofs.Ytfldmpmaifjcbaa

/-
  PLAIN: a parse tree is right; the tree that is grown is one, and it is ahead of all.
-/
set_option linter.unusedSimpArgs false
set_option linter.unusedVariables false
namespace Go.Proofs.Ytfldmpmaifjcbaa
open Go Go.Hs

/-! Lists of which one is ahead, whatever comes behind. -/
def SA (a b : List En) : Prop := ∃ p x y s t,a = p ++ x :: s ∧ b = p ++ y :: t ∧ vsF x y = -1
theorem SA.cons {a b : List En} (e : En) : SA a b → SA (e :: a) (e :: b)
  | ⟨p,x,y,s,t,h1,h2,h3⟩ => ⟨e :: p,x,y,s,t,by rw [h1];rfl,by rw [h2];rfl,h3⟩
theorem SA.app {a b : List En} (c d : List En) : SA a b → SA (a ++ c) (b ++ d)
  | ⟨p,x,y,s,t,h1,h2,h3⟩ => ⟨p,x,y,s ++ c,t ++ d,by rw [h1];simp,by rw [h2];simp,h3⟩
theorem SA.pre {a b : List En} (c : List En) : SA a b → SA (c ++ a) (c ++ b)
  | ⟨p,x,y,s,t,h1,h2,h3⟩ => ⟨c ++ p,x,y,s,t,by rw [h1];simp,by rw [h2];simp,h3⟩
theorem aheadN_app {p a b : List En} : ∀ N,N ≤ p.length → aheadN (p ++ a) (p ++ b) N = none
  | 0,_ => rfl
  | N + 1,h => by
    have e : enAt (p ++ a) N = enAt (p ++ b) N := by
      simp only [enAt,List.getD_eq_getElem?_getD,List.getElem?_append_left (show N < p.length by omega)]
    rw [aheadN_s,aheadN_app N (by omega),e,vsF_refl];rfl
theorem aheadN_stay {a b : List En} {N : Nat} {r : Int} (h : aheadN a b N = some r) : ∀ M,aheadN a b (N + M) = some r
  | 0 => h
  | M + 1 => by rw [show N + (M + 1) = N + M + 1 by omega,aheadN_s,aheadN_stay h M]
theorem SA.ahead {a b : List En} : SA a b → aheadF a b = -1
  | ⟨p,x,y,s,t,h1,h2,h3⟩ => by
    have e1 : enAt a p.length = x := by rw [h1];simp [enAt]
    have e2 : enAt b p.length = y := by rw [h2];simp [enAt]
    have h4 : aheadN a b p.length = none := by rw [h1,h2];exact aheadN_app _ (Nat.le_refl _)
    have h5 : aheadN a b (p.length + 1) = some (-1) := by
      rw [aheadN_s,h4,e1,e2,h3];rfl
    have hl : a.length = p.length + 1 + s.length := by rw [h1];simp;omega
    rw [aheadF_at' (Nat.le_refl _),show max a.length b.length = p.length + 1 + (max a.length b.length - (p.length + 1)) by omega,aheadN_stay h5];rfl
/-! A parse tree is right. -/
/-! What has a tree has its bit. -/
theorem pt_bit {l : List Tm} {w : List Int} {lo : List Int} (htm : Term l lo) (hw : w.length ≤ 64) {r : Bool} {q : Nat} {d x y : Int} {s : List En} (h : PT l w r q d x y s) :
    (r = false → bT l w q x.toNat y.toNat = true) ∧ (r = true → starF (fun a b => bT l w q a b) w.length x.toNat y.toNat = true) := by
  induction h with
  | eps hk hq h0 => exact ⟨fun _ => by rw [bT1 htm hq hw hk (by omega) (by omega)];simp,fun h => by cases h⟩
  | leaf hk hq h0 hb => exact ⟨fun _ => by rw [bT2 htm hq hw hk (by omega) (by omega),hb];simp;omega,fun h => by cases h⟩
  | @cat q a b d i m j s1 s2 hk hq ha hb h1 h2 i1 i2 =>
    refine ⟨fun _ => ?_,fun h => by cases h⟩
    have l1 := h1.le
    have l2 := h2.le
    rw [bT3 htm hq hw hk (by omega) (by omega),anyK_true,ha,hb]
    refine ⟨m.toNat - i.toNat,by omega,?_⟩
    rw [show i.toNat + (m.toNat - i.toNat) = m.toNat by omega,Int.toNat_natCast,Int.toNat_natCast,i1.1 rfl,i2.1 rfl];rfl
  | @alt q a d i j s hk hq ha h1 i1 =>
    refine ⟨fun _ => ?_,fun h => by cases h⟩
    have l1 := h1.le
    rw [bT4 htm hq hw hk (by omega) (by omega)]
    rcases ha with ha|ha
    · rw [ha,Int.toNat_natCast,i1.1 rfl];rfl
    · rw [ha,Int.toNat_natCast,i1.1 rfl,Bool.or_true]
  | @star q a d i j s hk hq ha h1 i1 =>
    refine ⟨fun _ => ?_,fun h => by cases h⟩
    have l1 := h1.le
    rw [bT5 htm hq hw hk (by omega) (by omega),ha,Int.toNat_natCast]
    exact i1.2 rfl
  | may hk hq h0 => exact ⟨fun _ => by rw [bT6 htm hq hw hk (by omega) (by omega)];simp,fun h => by cases h⟩
  | @one q a d i j s hk hq ha h1 i1 =>
    refine ⟨fun _ => ?_,fun h => by cases h⟩
    have l1 := h1.le
    rcases hk with hk|hk
    · rw [bT6 htm hq hw hk.1 (by omega) (by omega),ha,Int.toNat_natCast,i1.1 rfl,Bool.or_true]
    · rw [bT7 htm hq hk,ha,Int.toNat_natCast];exact i1.1 rfl
  | rnil h0 => exact ⟨fun h => (by cases h),fun _ => by rw [starF_eq];simp⟩
  | @rcons q d i m j s1 s2 h1 hm h2 i1 i2 =>
    refine ⟨fun h => (by cases h),fun _ => ?_⟩
    have l1 := h1.le
    have l2 := h2.le
    rw [starF_eq,Bool.or_eq_true]
    refine .inr (anyK_true.2 ⟨m.toNat - (i.toNat + 1),by omega,?_⟩)
    rw [show i.toNat + 1 + (m.toNat - (i.toNat + 1)) = m.toNat by omega,i1.1 rfl,i2.2 rfl];rfl

/-! The tree that is grown is one. -/
theorem star_pt {l : List Tm} {w : List Int} {lo : List Int} (htm : Term l lo) (hw : w.length ≤ 64) {a q : Nat} {d : Int} {g : Nat → Nat → List En} {j : Nat} (hj : j ≤ w.length)
    (hQ : ∀ i,i ≤ w.length → bT l w q i j = starF (fun x y => bT l w a x y) w.length i j) (G : ∀ i k : Nat,i ≤ k → k ≤ w.length → bT l w a i k = true → PT l w false a d i k (g i k)) :
    ∀ f i,j - i ≤ f → i ≤ j → bT l w q i j = true → PT l w true a d i j (starR g (rT l w a) (rT l w q) j f i)
  | 0,i,hf,hi,hb => by
    have : i = j := by omega
    subst this
    exact .rnil (by omega)
  | f + 1,i,hf,hi,hb => by
    rw [starR]
    by_cases c : i = j
    · subst c
      rw [if_neg (by omega)]
      exact .rnil (by omega)
    · have hs := hb
      rw [hQ i (by omega),starF_eq,Bool.or_eq_true] at hs
      obtain ⟨t,h1,h2⟩ := anyK_true.1 (hs.resolve_left (by simp [c]))
      rw [Bool.and_eq_true] at h2
      have ht : i + 1 + t ≤ j := by
        refine Nat.le_of_not_lt fun hh => ?_
        rw [star_back _ _ (Nat.le_refl _) hh] at h2
        cases h2.2
      obtain ⟨M,hge⟩ := meet_of (c := q) hi (t := 1 + t) (by omega) (by rw [← Nat.add_assoc];exact h2.1) (by rw [← Nat.add_assoc,hQ _ (by omega)];exact h2.2)
      rw [if_pos ⟨by omega,by omega⟩]
      exact .rcons (G _ _ M.ge (by have := M.le;omega) M.fst) (by omega) (star_pt htm hw hj hQ G f _ (by omega) M.le M.snd)
theorem grow_pt {l : List Tm} {w : List Int} {lo : List Int} (htm : Term l lo) (hw : w.length ≤ 64) : ∀ (m q : Nat) (d : Int) (i j : Nat),q < m → q < l.length → i ≤ j → j ≤ w.length → bT l w q i j = true → PT l w false q d i j (growR l (tabM l w l.length) m q d i j)
  | 0,_,_,_,_,h,_,_,_,_ => absurd h (Nat.not_lt_zero _)
  | m + 1,q,d,i,j,hm,hq,hij,hj,hb => by
    have kd := kidsA htm hq
    have ih := fun q' h1 h2 d i j h3 h4 h5 => grow_pt (w := w) htm hw m q' d i j h1 h2 h3 h4 h5
    have cast : ∀ {x : Int},0 ≤ x → x = (x.toNat : Int) := fun h => (Int.toNat_of_nonneg h).symm
    rw [growR]
    rcases htm.node q hq with ⟨g1,_⟩|⟨g1,_⟩|⟨g1,_⟩
    · rw [if_neg (by omega),if_neg (by omega),if_neg (by omega),if_neg (by omega),if_neg (by omega)]
      rcases g1 with g1|g1
      · rw [bT1 htm hq hw g1 (by omega) hj,decide_eq_true_eq] at hb
        subst hb
        exact .eps g1 hq (by omega)
      · rw [bT2 htm hq hw g1 (by omega) hj,Bool.and_eq_true,decide_eq_true_eq] at hb
        obtain ⟨hb1,hb2⟩ := hb
        subst hb1
        exact PT.leaf (d := d) (i := (i : Int)) g1 hq (by omega) hb2
    · have k2 := kd.1 g1
      rcases g1 with g1|g1
      · rw [if_pos g1]
        rw [bT3 htm hq hw g1 (by omega) hj,anyK_true] at hb
        obtain ⟨t,ht,hb⟩ := hb
        rw [Bool.and_eq_true] at hb
        have hte : i + t ≤ j := by
          refine Nat.le_of_not_lt fun hh => ?_
          rw [bT_back htm hw (l.length) (tAt l q).b.toNat (i + t) j (by omega) (by omega) (by omega) hh] at hb
          cases hb.2
        obtain ⟨M,hge⟩ := meet_of hij hte hb.1 hb.2
        exact .cat g1 hq (cast (by omega)) (cast (by omega)) (ih _ (by omega) (by omega) _ _ _ M.ge (Nat.le_trans M.le hj) M.fst) (ih _ (by omega) (by omega) _ _ _ M.le hj M.snd)
      · rw [if_neg (by omega),if_pos g1]
        rw [bT4 htm hq hw g1 (by omega) hj,Bool.or_eq_true] at hb
        by_cases c : bT l w (tAt l q).a.toNat i j = true
        · rw [if_pos (by exact c)]
          exact .alt g1 hq (.inl (cast (by omega))) (ih _ (by omega) (by omega) _ _ _ hij hj c)
        · rw [if_neg (by exact c)]
          exact .alt g1 hq (.inr (cast (by omega))) (ih _ (by omega) (by omega) _ _ _ hij hj (hb.resolve_left c))
    · have k2 := kd.2 (by omega) (by omega) (by omega) (by omega)
      rw [if_neg (by omega),if_neg (by omega)]
      rcases g1 with g1|g1|g1|g1
      · rw [if_pos g1]
        exact .star g1 hq (cast (by omega)) (star_pt htm hw hj (fun i hi => bT5 htm hq hw g1 hi hj) (fun i k h1 h2 h3 => ih _ (by omega) (by omega) _ _ _ h1 h2 h3) _ _ (Nat.le_refl _) hij hb)
      · rw [if_neg (by omega),if_pos g1]
        rw [bT6 htm hq hw g1 (by omega) hj,Bool.or_eq_true,decide_eq_true_eq] at hb
        by_cases c : i < j
        · rw [if_pos c]
          exact .one (.inl ⟨g1,by omega⟩) hq (cast (by omega)) (ih _ (by omega) (by omega) _ _ _ hij hj (hb.resolve_left (by omega)))
        · rw [if_neg c]
          have : i = j := by omega
          subst this
          exact .may g1 hq (by omega)
      · rw [if_neg (by omega),if_neg (by omega),if_pos (.inl g1)]
        rw [bT7 htm hq (.inl g1)] at hb
        exact .one (.inr (.inl g1)) hq (cast (by omega)) (ih _ (by omega) (by omega) _ _ _ hij hj hb)
      · rw [if_neg (by omega),if_neg (by omega),if_pos (.inr g1)]
        rw [bT7 htm hq (.inr g1)] at hb
        exact .one (.inr (.inr g1)) hq (cast (by omega)) (ih _ (by omega) (by omega) _ _ _ hij hj hb)

/-! It is ahead of all. -/
end Go.Proofs.Ytfldmpmaifjcbaa

/-
  PLAIN: parse trees of bytes that stand in others; spans of them.
-/
set_option linter.unusedSimpArgs false
set_option linter.unusedVariables false
namespace Go.Proofs.Ytfldmpmaifjcbaa
open Go Go.Hs

def shN (c : Int) (e : En) : En := ⟨e.d,e.n,e.f + c,e.t + c⟩
def shE (c : Int) (s : List En) : List En := s.map (shN c)
theorem shE_zero {s : List En} : shE 0 s = s := by
  have e : shN 0 = id := by funext e;cases e;simp [shN]
  rw [shE,e,List.map_id]
theorem SA.not {a b : List En} (h : SA a b) (g : SA b a) : False := by
  have e1 := h.ahead
  have e2 := g.ahead
  rw [aheadF_anti,e1] at e2
  omega
theorem pt_sh {l : List Tm} {w w' : List Int} {c lo hi : Int} (g0 : 0 ≤ lo + c) (g1 : hi + c ≤ w'.length) (H : ∀ p : Int,lo ≤ p → p < hi → w'.getD (p + c).toNat 0 = w.getD p.toNat 0) {r : Bool} {q : Nat} {d a b : Int} {s : List En} (h : PT l w r q d a b s) :
    lo ≤ a → b ≤ hi → PT l w' r q d (a + c) (b + c) (shE c s) := by
  induction h with
  | eps hk hq h0 => intro ha hb;exact .eps hk hq (by omega)
  | @leaf q d i hk hq h0 hb =>
    intro ha hb'
    have e : i + 1 + c = i + c + 1 := by omega
    simp only [shE,shN,List.map_cons,List.map_nil,e]
    exact .leaf hk hq (by omega) (by rw [H _ ha (by omega)];exact hb)
  | cat hk hq ha hb h1 h2 i1 i2 =>
    intro x y
    have l1 := h1.le
    have l2 := h2.le
    have := PT.cat hk hq ha hb (i1 x (by omega)) (i2 (by omega) y)
    simpa only [shE,shN,List.map_cons,List.map_append] using this
  | alt hk hq ha h1 i1 => intro x y;exact .alt hk hq ha (i1 x y)
  | star hk hq ha h1 i1 => intro x y;exact .star hk hq ha (i1 x y)
  | may hk hq h0 => intro ha hb;exact .may hk hq (by omega)
  | one hk hq ha h1 i1 => intro x y;exact .one (hk.imp (fun h => ⟨h.1,by omega⟩) id) hq ha (i1 x y)
  | rnil h0 => intro ha hb;exact .rnil (by omega)
  | rcons h1 hm h2 i1 i2 =>
    intro x y
    have l1 := h1.le
    have l2 := h2.le
    have := PT.rcons (i1 x (by omega)) (by omega) (i2 (by omega) y)
    simpa only [shE,List.map_append] using this

/-! The bytes from one place to another one. -/
/-! Spans. -/
end Go.Proofs.Ytfldmpmaifjcbaa
