/-
  PLAIN: the shortest bytes that a term is have a tree, and shorter ones have none.
-/
import Derived.Test.YtfldmpmaifjcbaaLsU
import Derived.Test.YtfldmpmaifjcbaaWordP
set_option linter.unusedSimpArgs false
set_option linter.unusedVariables false
namespace Go.Proofs.Ytfldmpmaifjcbaa
open Go Go.Hs

abbrev bl (a b : List UInt8) : Bool := Op.bytesLess a b
theorem u8_irr (x : UInt8) : ¬ x < x := by simp only [UInt8.lt_iff_toNat_lt];omega
theorem bl_cons {x y : UInt8} {a b : List UInt8} : bl (x :: a) (y :: b) = true ↔ x < y ∨ (x = y ∧ bl a b = true) := by
  show (decide (x < y) || (x == y && Op.bytesLess a b)) = true ↔ _
  simp
theorem bl_trans : ∀ {a b c : List UInt8},bl a b = true → bl b c = true → bl a c = true
  | _,[],_,h,_ => by simp [bl,Op.bytesLess] at h
  | _,_ :: _,[],_,h => by simp [bl,Op.bytesLess] at h
  | [],_ :: _,_ :: _,_,_ => rfl
  | x :: a,y :: b,z :: c,h1,h2 => by
    rw [bl_cons] at h1 h2 ⊢
    rcases h1 with h1|⟨h1,g1⟩
    · rcases h2 with h2|⟨h2,g2⟩
      · left;simp only [UInt8.lt_iff_toNat_lt] at *;omega
      · left;rw [← h2];exact h1
    · rcases h2 with h2|⟨h2,g2⟩
      · left;rw [h1];exact h2
      · right;exact ⟨h1.trans h2,bl_trans g1 g2⟩
theorem bl_irr : ∀ {a : List UInt8},bl a a = false
  | [] => rfl
  | x :: a => by
    rw [Bool.eq_false_iff]
    intro h
    rcases bl_cons.1 h with h|⟨_,h⟩
    · exact u8_irr _ h
    · rw [bl_irr] at h;cases h
theorem bl_app : ∀ {a a' b b' : List UInt8},a.length = a'.length → (bl (a ++ b) (a' ++ b') = true ↔ bl a a' = true ∨ (a = a' ∧ bl b b' = true))
  | [],[],b,b',_ => by simp [bl_irr]
  | [],_ :: _,_,_,h => by cases h
  | _ :: _,[],_,_,h => by cases h
  | x :: a,y :: a',b,b',h => by
    have ih := bl_app (a := a) (a' := a') (b := b) (b' := b') (by simpa using h)
    rw [List.cons_append,List.cons_append,bl_cons,bl_cons,ih]
    constructor
    · rintro (h|⟨h,h2|⟨h2,h3⟩⟩)
      · exact .inl (.inl h)
      · exact .inl (.inr ⟨h,h2⟩)
      · exact .inr ⟨by rw [h,h2],h3⟩
    · rintro ((h|⟨h,h2⟩)|⟨h,h2⟩)
      · exact .inl h
      · exact .inr ⟨h,.inl h2⟩
      · obtain ⟨h3,h4⟩ := List.cons.inj h
        exact .inr ⟨h3,.inr ⟨h4,h2⟩⟩

def u8s (a : List Int) : List UInt8 := a.map fun n => UInt8.ofNat n.toNat
theorem lessF_eq {a b : List Int} : lessF a b = bl (u8s a) (u8s b) := by
  unfold lessF
  have e : ∀ x : List Int,(bytesS x).toList = u8s x := fun x => by
    rw [ByteArray.toList_eq];exact bytesS_data x
  rw [e,e]
/-- Shorter, or as long and not greater. -/
def leW (a b : List Int) : Prop := a.length < b.length ∨ (a.length = b.length ∧ bl (u8s b) (u8s a) = false)
theorem leW.refl {a : List Int} : leW a a := .inr ⟨rfl,bl_irr⟩
theorem leW.nil {a : List Int} : leW [] a := by
  cases a with
  | nil => exact .refl
  | cons x a => exact .inl (by simp)
theorem bl_tri {a b : List UInt8} (h : bl a b = false) : a = b ∨ bl b a = true := by
  have := less_tri (a := a) (b := b)
  rw [show Op.bytesLess a b = false from h,Bool.false_or] at this
  by_cases e : a = b
  · exact .inl e
  · right
    show Op.bytesLess b a = true
    rw [← this]
    simp [e]
theorem leW.trans {a b c : List Int} (h1 : leW a b) (h2 : leW b c) : leW a c := by
  rcases h1 with h1|⟨h1,g1⟩
  · left;rcases h2 with h2|⟨h2,_⟩ <;> omega
  · rcases h2 with h2|⟨h2,g2⟩
    · left;omega
    · right
      refine ⟨by omega,?_⟩
      rw [Bool.eq_false_iff]
      intro h
      rcases bl_tri g1 with e|e
      · rw [e] at g2;rw [g2] at h;cases h
      · rw [bl_trans h e] at g2;cases g2
theorem leW.app {a a' b b' : List Int} (h1 : leW a a') (h2 : leW b b') : leW (a ++ b) (a' ++ b') := by
  by_cases c : (a ++ b).length < (a' ++ b').length
  · exact .inl c
  · simp only [List.length_append] at c
    have e1 : a.length = a'.length ∧ b.length = b'.length := by
      rcases h1 with h1|⟨h1,_⟩ <;> rcases h2 with h2|⟨h2,_⟩ <;> omega
    have g1 : bl (u8s a') (u8s a) = false := by
      rcases h1 with h1|⟨_,g⟩
      · omega
      · exact g
    have g2 : bl (u8s b') (u8s b) = false := by
      rcases h2 with h2|⟨_,g⟩
      · omega
      · exact g
    refine .inr ⟨by simp only [List.length_append];omega,?_⟩
    rw [Bool.eq_false_iff]
    intro h
    simp only [u8s,List.map_append] at h
    rcases (bl_app (by simp;omega)).1 h with h|⟨_,h⟩
    · exact absurd (g1.symm.trans h) (by decide)
    · exact absurd (g2.symm.trans h) (by decide)
theorem better_le {a b : List Int} (h : betterF a b = true) : leW a b := by
  unfold betterF at h
  split at h
  · rename_i e
    rw [lessF_eq] at h
    refine .inr ⟨e,?_⟩
    rw [Bool.eq_false_iff]
    intro g
    have := bl_trans h g
    rw [bl_irr] at this;cases this
  · exact .inl (of_decide_eq_true h)
theorem better_no {a b : List Int} (h : betterF b a = false) : leW a b := by
  unfold betterF at h
  split at h
  · rename_i e
    rw [lessF_eq] at h
    exact .inr ⟨e.symm,h⟩
  · have := of_decide_eq_false h
    exact .inl (by omega)
theorem least_le {a b : List Int} : leW (leastF a b) a ∧ leW (leastF a b) b := by
  unfold leastF
  split
  · rename_i h
    exact ⟨better_le h,.refl⟩
  · rename_i h
    rw [Bool.not_eq_true] at h
    exact ⟨.refl,better_no h⟩

/-! The least byte of a set. -/
theorem nxt_has {s : St} : ∀ n,n ≤ 256 → 0 ≤ nxtN s n → hasB s (nxtN s n).toNat = true ∧ 256 - n ≤ (nxtN s n).toNat
  | 0,_,h => by simp [nxtN] at h
  | n + 1,hn,h => by
    rw [nxtN] at h ⊢
    split
    · rename_i c
      exact ⟨by rw [Int.toNat_natCast];exact c,by omega⟩
    · rename_i c
      rw [if_neg c] at h
      have := nxt_has (s := s) n (by omega) h
      exact ⟨this.1,by omega⟩
theorem nxt_le {s : St} {b : Nat} (hb : b ≤ 255) (h : hasB s b = true) : ∀ n,n ≤ 256 → 256 - n ≤ b → 0 ≤ nxtN s n ∧ (nxtN s n).toNat ≤ b
  | 0,_,h2 => by omega
  | n + 1,hn,h2 => by
    rw [nxtN]
    split
    · omega
    · rename_i c
      by_cases e : 255 - n = b
      · rw [e] at c;exact absurd h c
      · exact nxt_le hb h n (by omega) (by omega)

/-! The words of nodes. -/
def wdQ (l : List Tm) (q : Nat) : Fd := fAt (wdN l l.length) q
theorem wdN_fix {l : List Tm} {q : Nat} : ∀ n,q < n → fAt (wdN l n) q = wdOf (tAt l q) (wdN l q)
  | 0,h => absurd h (Nat.not_lt_zero _)
  | n + 1,h => by
    have hl := wdN_length (l := l) n
    by_cases e : q = n
    · subst e;rw [wdN,fAt_eq hl.symm]
    · rw [wdN,fAt_lt (by omega)];exact wdN_fix n (by omega)
theorem wdQ_at {l : List Tm} {q c : Nat} (hq : q < l.length) (hc : c < q) : fAt (wdN l q) c = wdQ l c := by
  rw [wdQ,wdN_fix _ hc,wdN_fix _ (show c < l.length by omega)]
theorem wdQ_eq {l : List Tm} {q : Nat} (hq : q < l.length) : wdQ l q = wdOf (tAt l q) (wdN l q) := wdN_fix _ hq

theorem pt_pre {l : List Tm} {w w' : List Int} {r : Bool} {q : Nat} {d : Int} {s : List En} (h : PT l w r q d 0 w.length s) : PT l (w ++ w') r q d 0 w.length s := by
  have := pt_sh (w' := w ++ w') (c := 0) (lo := 0) (hi := w.length) (by omega) (by simp;omega) (fun p h1 h2 => by
    simp only [List.getD_eq_getElem?_getD,Int.add_zero]
    rw [List.getElem?_append_left (by omega)]) h (Int.le_refl _) (Int.le_refl _)
  rw [shE_zero] at this
  simpa using this
theorem pt_post {l : List Tm} {w w' : List Int} {r : Bool} {q : Nat} {d : Int} {s : List En} (h : PT l w r q d 0 w.length s) : PT l (w' ++ w) r q d w'.length (w' ++ w).length (shE w'.length s) := by
  have := pt_sh (w' := w' ++ w) (c := (w'.length : Int)) (lo := 0) (hi := w.length) (by omega) (by simp;omega) (fun p h1 h2 => by
    simp only [List.getD_eq_getElem?_getD]
    rw [List.getElem?_append_right (by omega),show (p + (w'.length : Int)).toNat - w'.length = p.toNat by omega]) h (Int.le_refl _) (Int.le_refl _)
  rw [show (0 : Int) + (w'.length : Int) = w'.length by omega,show (w.length : Int) + (w'.length : Int) = ((w' ++ w).length : Int) by simp;omega] at this
  exact this
theorem word_pt {l : List Tm} {lo : List Int} (htm : Term l lo) : ∀ (m q : Nat) (d : Int),q < m → q < l.length → (wdQ l q).is = true → ∃ s,PT l (wdQ l q).w false q d 0 (wdQ l q).w.length s
  | 0,_,_,h,_,_ => absurd h (Nat.not_lt_zero _)
  | m + 1,q,d,hm,hq,hi => by
    have kd := kidsA htm hq
    have cast : ∀ {x : Int},0 ≤ x → x = (x.toNat : Int) := fun h => (Int.toNat_of_nonneg h).symm
    have ih := fun q' (h : q' < q) d hi => word_pt htm m q' d (by omega) (by omega) hi
    have e := wdQ_eq hq
    rcases htm.node q hq with ⟨g1,_⟩|⟨g1,_⟩|⟨g1,_⟩
    · rcases g1 with g1|g1
      · have e2 : wdOf (tAt l q) (wdN l q) = ⟨[],true⟩ := by simp [wdOf,g1]
        rw [e,e2]
        exact ⟨_,.eps g1 hq (by simp)⟩
      · have e2 : wdOf (tAt l q) (wdN l q) = leafF (nxtN (tAt l q).st 256) := by simp [wdOf,g1]
        rw [e,e2] at hi ⊢
        unfold leafF at hi ⊢
        split at hi
        · rename_i h0
          rw [if_pos h0]
          have := nxt_has (s := (tAt l q).st) 256 (by omega) h0
          exact ⟨_,PT.leaf (d := d) (i := 0) g1 hq (by simp) (by simp only [List.getD_cons_zero,Int.toNat_zero];exact this.1)⟩
        · cases hi
    · have k2 := kd.1 g1
      rcases g1 with g1|g1
      · have e2 : wdOf (tAt l q) (wdN l q) = catF (wdQ l (tAt l q).a.toNat) (wdQ l (tAt l q).b.toNat) := by
          rw [← wdQ_at hq (show (tAt l q).a.toNat < q by omega),← wdQ_at hq (show (tAt l q).b.toNat < q by omega)]
          simp [wdOf,g1]
        rw [e,e2] at hi ⊢
        unfold catF at hi ⊢
        split at hi
        · rename_i c
          rw [if_pos c]
          rw [Bool.and_eq_true] at c
          obtain ⟨s1,h1⟩ := ih (tAt l q).a.toNat (by omega) (d + 1) c.1
          obtain ⟨s2,h2⟩ := ih (tAt l q).b.toNat (by omega) (d + 1) c.2
          exact ⟨_,.cat g1 hq (cast (by omega)) (cast (by omega)) (pt_pre h1) (pt_post h2)⟩
        · cases hi
      · have e2 : wdOf (tAt l q) (wdN l q) = eitherF (wdQ l (tAt l q).a.toNat) (wdQ l (tAt l q).b.toNat) := by
          rw [← wdQ_at hq (show (tAt l q).a.toNat < q by omega),← wdQ_at hq (show (tAt l q).b.toNat < q by omega)]
          simp [wdOf,g1]
        have iha := ih (tAt l q).a.toNat (by omega) (d + 1)
        have ihb := ih (tAt l q).b.toNat (by omega) (d + 1)
        rw [e,e2] at hi ⊢
        generalize hx : wdQ l (tAt l q).a.toNat = x at *
        generalize hy : wdQ l (tAt l q).b.toNat = y at *
        unfold eitherF at hi ⊢
        split at hi
        · rename_i c
          rw [if_pos c]
          obtain ⟨s,h⟩ := ihb hi
          exact ⟨_,.alt g1 hq (.inr (cast (by omega))) h⟩
        · rename_i c
          rw [if_neg c]
          have c' : x.is = true := by simpa using c
          split at hi
          · rename_i c2
            rw [if_pos c2]
            obtain ⟨s,h⟩ := iha hi
            exact ⟨_,.alt g1 hq (.inl (cast (by omega))) h⟩
          · rename_i c2
            rw [if_neg c2]
            have c3 : y.is = true := by simpa using c2
            rcases leastF_or (a := x.w) (b := y.w) with h|h <;> rw [h]
            · obtain ⟨s,h⟩ := iha c'
              exact ⟨_,.alt g1 hq (.inl (cast (by omega))) h⟩
            · obtain ⟨s,h⟩ := ihb c3
              exact ⟨_,.alt g1 hq (.inr (cast (by omega))) h⟩
    · have k2 := kd.2 (by omega) (by omega) (by omega) (by omega)
      by_cases g7 : (tAt l q).k = 7 ∨ (tAt l q).k = 8
      · have e2 : wdOf (tAt l q) (wdN l q) = wdQ l (tAt l q).a.toNat := by
          rw [← wdQ_at hq (show (tAt l q).a.toNat < q by omega)]
          rcases g7 with g7|g7 <;> simp [wdOf,g7]
        rw [e,e2] at hi ⊢
        obtain ⟨s,h⟩ := ih (tAt l q).a.toNat (by omega) (d + 1) hi
        exact ⟨_,.one (.inr g7) hq (cast (by omega)) h⟩
      · have e2 : wdOf (tAt l q) (wdN l q) = ⟨[],true⟩ := by
          have g8 : (tAt l q).k = 5 ∨ (tAt l q).k = 6 := by omega
          rcases g8 with g8|g8 <;> simp [wdOf,g8]
        rw [e,e2]
        have g8 : (tAt l q).k = 5 ∨ (tAt l q).k = 6 := by omega
        rcases g8 with g8|g8
        · exact ⟨_,.star g8 hq (cast (by omega)) (.rnil (by simp))⟩
        · exact ⟨_,.may g8 hq (by simp)⟩
theorem ex_split {w : List Int} {i m j : Nat} (h1 : i ≤ m) (h2 : m ≤ j) : ex w i j = ex w i m ++ ex w m j := by
  rw [ex_eq,ex_eq,ex_eq,show j - i = (m - i) + (j - m) by omega,List.take_add,List.drop_drop,show i + (m - i) = m by omega]
theorem pt_word {l : List Tm} {w : List Int} {lo : List Int} (htm : Term l lo) (hW : ∀ x ∈ w,0 ≤ x ∧ x ≤ 255) {r : Bool} {q : Nat} {d a b : Int} {s : List En} (h : PT l w r q d a b s) :
    r = false → (wdQ l q).is = true ∧ leW (wdQ l q).w (ex w a.toNat b.toNat) := by
  induction h with
  | @eps q d i hk hq h0 =>
    intro _
    have e2 : wdOf (tAt l q) (wdN l q) = ⟨[],true⟩ := by simp [wdOf,hk]
    rw [wdQ_eq hq,e2];exact ⟨rfl,.nil⟩
  | @leaf q d i hk hq h0 hb =>
    intro _
    have e2 : wdOf (tAt l q) (wdN l q) = leafF (nxtN (tAt l q).st 256) := by simp [wdOf,hk]
    have hx : w.getD i.toNat 0 ∈ w := by
      rw [List.getD_eq_getElem?_getD,List.getElem?_eq_getElem (show i.toNat < w.length by omega)]
      exact List.getElem_mem _
    have x1 := hW _ hx
    obtain ⟨n1,n2⟩ := nxt_le (s := (tAt l q).st) (b := (w.getD i.toNat 0).toNat) (by omega) hb 256 (by omega) (by omega)
    rw [wdQ_eq hq,e2,leafF,if_pos n1]
    refine ⟨rfl,.inr ⟨by rw [ex_eq,List.length_take,List.length_drop];simp;omega,?_⟩⟩
    have ew : ex w i.toNat (i + 1).toNat = [w.getD i.toNat 0] := by
      have hlt : i.toNat < w.length := by omega
      rw [ex_eq,show (i + 1).toNat - i.toNat = 1 by omega,List.drop_eq_getElem_cons hlt,List.take_succ_cons,List.take_zero,List.getD_eq_getElem?_getD,List.getElem?_eq_getElem hlt];rfl
    rw [ew,Bool.eq_false_iff]
    intro h
    rcases bl_cons.1 h with h|⟨_,h⟩
    · rw [UInt8.lt_iff_toNat_lt,UInt8.toNat_ofNat_of_lt' (show (w.getD i.toNat 0).toNat < 256 by omega),UInt8.toNat_ofNat_of_lt' (show (nxtN (tAt l q).st 256).toNat < 256 by omega)] at h
      omega
    · cases h
  | @cat q a b d i m j s1 s2 hk hq ha hb h1 h2 i1 i2 =>
    intro _
    have kd := (kidsA htm hq).1 (.inl hk)
    have l1 := h1.le
    have l2 := h2.le
    have e2 : wdOf (tAt l q) (wdN l q) = catF (wdQ l a) (wdQ l b) := by
      rw [← wdQ_at hq (show a < q by omega),← wdQ_at hq (show b < q by omega)]
      simp [wdOf,hk,ha,hb]
    obtain ⟨a1,a2⟩ := i1 rfl
    obtain ⟨b1,b2⟩ := i2 rfl
    rw [wdQ_eq hq,e2,catF,a1,b1,ex_split (m := m.toNat) (by omega) (by omega)]
    exact ⟨rfl,a2.app b2⟩
  | @alt q a d i j s hk hq ha h1 i1 =>
    intro _
    have kd := (kidsA htm hq).1 (.inr hk)
    have e2 : wdOf (tAt l q) (wdN l q) = eitherF (wdQ l (tAt l q).a.toNat) (wdQ l (tAt l q).b.toNat) := by
      rw [← wdQ_at hq (show (tAt l q).a.toNat < q by omega),← wdQ_at hq (show (tAt l q).b.toNat < q by omega)]
      simp [wdOf,hk]
    obtain ⟨a1,a2⟩ := i1 rfl
    rw [wdQ_eq hq,e2]
    rcases ha with ha|ha
    · rw [ha,Int.toNat_natCast]
      unfold eitherF
      rw [a1,if_neg (by decide)]
      split
      · exact ⟨a1,a2⟩
      · exact ⟨rfl,least_le.1.trans a2⟩
    · rw [ha,Int.toNat_natCast]
      unfold eitherF
      split
      · exact ⟨a1,a2⟩
      · rw [a1,if_neg (by decide)]
        exact ⟨rfl,least_le.2.trans a2⟩
  | @star q a d i j s hk hq ha h1 i1 =>
    intro _
    have e2 : wdOf (tAt l q) (wdN l q) = ⟨[],true⟩ := by simp [wdOf,hk]
    rw [wdQ_eq hq,e2];exact ⟨rfl,.nil⟩
  | @may q d i hk hq h0 =>
    intro _
    have e2 : wdOf (tAt l q) (wdN l q) = ⟨[],true⟩ := by simp [wdOf,hk]
    rw [wdQ_eq hq,e2];exact ⟨rfl,.nil⟩
  | @one q a d i j s hk hq ha h1 i1 =>
    intro _
    by_cases g6 : (tAt l q).k = 6
    · have e2 : wdOf (tAt l q) (wdN l q) = ⟨[],true⟩ := by simp [wdOf,g6]
      rw [wdQ_eq hq,e2];exact ⟨rfl,.nil⟩
    · have g7 : (tAt l q).k = 7 ∨ (tAt l q).k = 8 := by omega
      have kd := (kidsA htm hq).2 (by omega) (by omega) (by omega) (by omega)
      have e2 : wdOf (tAt l q) (wdN l q) = wdQ l a := by
        rw [← wdQ_at hq (show a < q by omega)]
        rcases g7 with g7|g7 <;> simp [wdOf,g7,ha]
      rw [wdQ_eq hq,e2]
      exact i1 rfl
  | rnil h0 => intro h;cases h
  | rcons h1 hm h2 i1 i2 => intro h;cases h

end Go.Proofs.Ytfldmpmaifjcbaa
