/-
  PLAIN: the shortest bytes that a term is.
-/
import Derived.Test.YtfldmpmaifjcbaaNullP
import Derived.Test.YtfldmpmaifjcbaaSetP
set_option linter.unusedSimpArgs false
namespace Go.Proofs.Ytfldmpmaifjcbaa
open Go Go.Hs

theorem bytesS_data : ∀ (l : List Int),(bytesS l).data.toList = l.map fun n => UInt8.ofNat n.toNat := by
  intro l
  have key : ∀ (l : List Int) (r : ByteArray),(l.foldl (fun r n => r.push (UInt8.ofNat n.toNat)) r).data.toList = r.data.toList ++ l.map fun n => UInt8.ofNat n.toNat := by
    intro l
    induction l with
    | nil => intro r;simp
    | cons x l ih => intro r;rw [List.foldl_cons,ih];simp [ByteArray.push]
  have := key l ByteArray.empty
  simpa [bytesS] using this
theorem ba_ext {a b : ByteArray} (h : a.data.toList = b.data.toList) : a = b := by
  obtain ⟨a⟩ := a;obtain ⟨b⟩ := b
  simp only at h
  rw [Array.toList_inj.1 h]
theorem bytesS_append {a b : List Int} : bytesS a ++ bytesS b = bytesS (a ++ b) := by
  apply ba_ext
  rw [bytesS_data,List.map_append,← bytesS_data,← bytesS_data]
  simp
theorem bytesS_size {a : List Int} : (bytesS a).size = a.length := by
  have := congrArg List.length (bytesS_data a)
  simpa using this
theorem byteRows_bytesS {a : List Int} (h : ∀ x ∈ a,0 ≤ x ∧ x ≤ 255) : byteRows (bytesS a) = kRows .u8 a := by
  unfold byteRows kRows
  rw [bytesS_data,List.map_map]
  refine List.map_congr_left fun x hx => ?_
  have := h x hx
  simp only [Function.comp]
  rw [UInt8.toNat_ofNat_of_lt' (by have : x.toNat < 256 := by omega
                                   exact this)]
  rw [Int.toNat_of_nonneg this.1]

theorem u8_tri (a b : UInt8) : a < b ∨ a = b ∨ b < a := by
  rcases Nat.lt_trichotomy a.toNat b.toNat with h|h|h
  · exact .inl h
  · exact .inr (.inl (UInt8.toNat_inj.1 h))
  · exact .inr (.inr h)
theorem less_tri : ∀ {a b : List UInt8},(!(Op.bytesLess a b || a == b)) = Op.bytesLess b a
  | [],[] => rfl
  | [],y :: b => rfl
  | x :: a,[] => rfl
  | x :: a,y :: b => by
    have ih := less_tri (a := a) (b := b)
    simp only [Op.bytesLess,List.cons_beq_cons]
    rcases u8_tri x y with h|h|h
    · have h1 : ¬ y < x := by simp only [UInt8.lt_iff_toNat_lt] at h ⊢;omega
      have h2 : (y == x) = false := by simp;intro e;subst e;exact h1 h
      simp [h,h1,h2]
    · subst h
      have h1 : ¬ x < x := by simp only [UInt8.lt_iff_toNat_lt];omega
      simp [h1]
      simpa using ih
    · have h1 : ¬ x < y := by simp only [UInt8.lt_iff_toNat_lt] at h ⊢;omega
      have h2 : (x == y) = false := by simp;intro e;subst e;exact h1 h
      simp [h,h1,h2]

structure Fd where
  w : List Int
  is : Bool
instance : Inhabited Fd := ⟨⟨[],false⟩⟩
def lessF (a b : List Int) : Bool := Op.bytesLess (bytesS a).toList (bytesS b).toList
/-- Is the first the better one? -/
def betterF (a b : List Int) : Bool := if a.length = b.length then lessF a b else decide (a.length < b.length)
def leastF (a b : List Int) : List Int := if betterF b a then b else a
def eitherF (a b : Fd) : Fd := if a.is = false then b else if b.is = false then a else ⟨leastF a.w b.w,true⟩
def Tm.st (t : Tm) : St := ⟨t.s0,t.s1,t.s2,t.s3⟩
def fAt (o : List Fd) (i : Nat) : Fd := o.getD i default
def catF (a b : Fd) : Fd := if a.is && b.is then ⟨a.w ++ b.w,true⟩ else ⟨[],false⟩
def leafF (b : Int) : Fd := if 0 ≤ b then ⟨[b],true⟩ else ⟨[],false⟩
def wdOf (t : Tm) (o : List Fd) : Fd :=
  if t.k = 1 ∨ t.k = 5 ∨ t.k = 6 then ⟨[],true⟩
  else if t.k = 2 then leafF (nxtN t.st 256)
  else if t.k = 3 then catF (fAt o t.a.toNat) (fAt o t.b.toNat)
  else if t.k = 4 then eitherF (fAt o t.a.toNat) (fAt o t.b.toNat)
  else if t.k = 7 ∨ t.k = 8 then fAt o t.a.toNat
  else ⟨[],false⟩
def wdN (l : List Tm) : Nat → List Fd
  | 0 => []
  | i + 1 => wdN l i ++ [wdOf (tAt l i) (wdN l i)]
def wordF (l : List Tm) : Fd := if rightF l then fAt (wdN l l.length) (l.length - 1) else ⟨[],false⟩
theorem wdN_length {l : List Tm} : ∀ i,(wdN l i).length = i
  | 0 => rfl
  | i + 1 => by simp [wdN,wdN_length i]
theorem fAt_lt {o : List Fd} {x : Fd} {j : Nat} (h : j < o.length) : fAt (o ++ [x]) j = fAt o j := by
  simp only [fAt,List.getD_eq_getElem?_getD]
  rw [List.getElem?_append_left h]
theorem fAt_eq {o : List Fd} {x : Fd} {j : Nat} (h : j = o.length) : fAt (o ++ [x]) j = x := by
  subst h
  simp only [fAt,List.getD_eq_getElem?_getD]
  rw [List.getElem?_append_right (Nat.le_refl _)]
  simp

/-- What is known of the words of the first nodes. -/
structure Wds (l : List Tm) (lo : List Int) (i : Nat) : Prop where
  len : ∀ j,j < i → ((fAt (wdN l i) j).w.length : Int) ≤ j + 1 - lo.getD j 0
  no : ∀ j,j < i → (fAt (wdN l i) j).is = false → (fAt (wdN l i) j).w = []
  by' : ∀ j,j < i → ∀ x ∈ (fAt (wdN l i) j).w,0 ≤ x ∧ x ≤ 255
  can : ∀ j,j < i → (canN l i).getD j false = ((fAt (wdN l i) j).is && (fAt (wdN l i) j).w.isEmpty)

theorem leastF_or {a b : List Int} : leastF a b = a ∨ leastF a b = b := by unfold leastF;split <;> simp
theorem leastF_emp {a b : List Int} : (leastF a b).isEmpty = (a.isEmpty || b.isEmpty) := by
  unfold leastF betterF
  cases a with
  | nil => cases b with
    | nil => simp
    | cons y b => simp
  | cons x a => cases b with
    | nil => simp
    | cons y b => split <;> split <;> simp
theorem wds {l : List Tm} {lo : List Int} (ht : Term l lo) : ∀ i,i ≤ l.length → Wds l lo i
  | 0,_ => ⟨fun _ h => absurd h (Nat.not_lt_zero _),fun _ h => absurd h (Nat.not_lt_zero _),fun _ h => absurd h (Nat.not_lt_zero _),fun _ h => absurd h (Nat.not_lt_zero _)⟩
  | i + 1,hi => by
    have ih := wds ht i (by omega)
    have hl := wdN_length (l := l) i
    have hc := canN_length (l := l) i
    have low := ht.low i
    have key : ((wdOf (tAt l i) (wdN l i)).w.length : Int) ≤ i + 1 - lo.getD i 0 ∧ ((wdOf (tAt l i) (wdN l i)).is = false → (wdOf (tAt l i) (wdN l i)).w = []) ∧
        (∀ x ∈ (wdOf (tAt l i) (wdN l i)).w,0 ≤ x ∧ x ≤ 255) ∧ canOf (tAt l i) (canN l i) = ((wdOf (tAt l i) (wdN l i)).is && (wdOf (tAt l i) (wdN l i)).w.isEmpty) := by
      rcases ht.node i (by omega) with ⟨g1,g2,g3,g4⟩|⟨g1,c,d,g2,g3,g4,g5,g6⟩|⟨g1,d,g2,g3,g4,g5⟩
      · rcases g1 with g1|g1
        · simp [wdOf,canOf,g1,-List.getD_eq_getElem?_getD];omega
        · have nb := nxtN_bound (s := (tAt l i).st) 256 (by omega)
          simp only [wdOf,canOf,g1,leafF]
          by_cases h0 : 0 ≤ nxtN (tAt l i).st 256
          · simp [h0,-List.getD_eq_getElem?_getD];omega
          · simp [h0,-List.getD_eq_getElem?_getD];omega
      · have lc := ht.low c
        have ld := ht.low d
        have c1 := ih.len c (by omega)
        have c2 := ih.no c (by omega)
        have c3 := ih.by' c (by omega)
        have c4 := ih.can c (by omega)
        have d1 := ih.len d (by omega)
        have d2 := ih.no d (by omega)
        have d3 := ih.by' d (by omega)
        have d4 := ih.can d (by omega)
        rcases g1 with g1|g1
        · have e1 : wdOf (tAt l i) (wdN l i) = catF (fAt (wdN l i) c) (fAt (wdN l i) d) := by simp [wdOf,g1,g3,g4]
          have e2 : canOf (tAt l i) (canN l i) = ((canN l i).getD c false && (canN l i).getD d false) := by simp [canOf,g1,g3,g4]
          rw [e1,e2,c4,d4]
          generalize fAt (wdN l i) c = x at *
          generalize fAt (wdN l i) d = y at *
          unfold catF
          obtain ⟨xw,xi⟩ := x
          obtain ⟨yw,yi⟩ := y
          simp only at *
          cases xi <;> cases yi <;> simp [-List.getD_eq_getElem?_getD] at *
          · omega
          · omega
          · omega
          · refine ⟨by omega,fun z hz => ?_,by cases xw <;> simp⟩
            rcases hz with hz|hz
            · exact c3 z hz
            · exact d3 z hz
        · have e1 : wdOf (tAt l i) (wdN l i) = eitherF (fAt (wdN l i) c) (fAt (wdN l i) d) := by simp [wdOf,g1,g3,g4]
          have e2 : canOf (tAt l i) (canN l i) = ((canN l i).getD c false || (canN l i).getD d false) := by simp [canOf,g1,g3,g4]
          rw [e1,e2,c4,d4]
          generalize fAt (wdN l i) c = x at *
          generalize fAt (wdN l i) d = y at *
          unfold eitherF
          obtain ⟨xw,xi⟩ := x
          obtain ⟨yw,yi⟩ := y
          simp only at *
          cases xi <;> cases yi <;> simp only [↓reduceIte,reduceCtorEq,Bool.true_eq_false,Bool.false_and,Bool.true_and,Bool.or_false,Bool.false_or]
          · exact ⟨by omega,fun _ => d2 rfl,d3,trivial⟩
          · exact ⟨by omega,fun h => h.elim,d3,by first|trivial|rfl⟩
          · exact ⟨by omega,fun h => h.elim,c3,by first|trivial|rfl⟩
          · rw [leastF_emp]
            rcases leastF_or (a := xw) (b := yw) with h|h <;> rw [h]
            · exact ⟨by omega,fun h => h.elim,c3,by first|trivial|rfl⟩
            · exact ⟨by omega,fun h => h.elim,d3,by first|trivial|rfl⟩
      · have ld := ht.low d
        have d1 := ih.len d (by omega)
        have d2 := ih.no d (by omega)
        have d3 := ih.by' d (by omega)
        have d4 := ih.can d (by omega)
        by_cases g6 : (tAt l i).k = 7 ∨ (tAt l i).k = 8
        · have e1 : wdOf (tAt l i) (wdN l i) = fAt (wdN l i) d := by
            rcases g6 with g6|g6 <;> simp [wdOf,g6,g4]
          have e2 : canOf (tAt l i) (canN l i) = (canN l i).getD d false := by
            rcases g6 with g6|g6 <;> simp [canOf,g6,g4]
          rw [e1,e2]
          exact ⟨by omega,d2,d3,d4⟩
        · have g7 : (tAt l i).k = 5 ∨ (tAt l i).k = 6 := by omega
          rcases g7 with g7|g7 <;> simp [wdOf,canOf,g7,-List.getD_eq_getElem?_getD] <;> omega
    constructor
    · intro j hj
      by_cases e : j = i
      · subst e
        rw [wdN,fAt_eq hl.symm];exact key.1
      · rw [wdN,fAt_lt (by omega)];exact ih.len j (by omega)
    · intro j hj
      by_cases e : j = i
      · subst e
        rw [wdN,fAt_eq hl.symm];exact key.2.1
      · rw [wdN,fAt_lt (by omega)];exact ih.no j (by omega)
    · intro j hj
      by_cases e : j = i
      · subst e
        rw [wdN,fAt_eq hl.symm];exact key.2.2.1
      · rw [wdN,fAt_lt (by omega)];exact ih.by' j (by omega)
    · intro j hj
      by_cases e : j = i
      · subst e
        rw [wdN,fAt_eq hl.symm,canN,gb_eq hc.symm];exact key.2.2.2
      · rw [wdN,fAt_lt (by omega),canN,gb_lt (by omega)];exact ih.can j (by omega)

end Go.Proofs.Ytfldmpmaifjcbaa
