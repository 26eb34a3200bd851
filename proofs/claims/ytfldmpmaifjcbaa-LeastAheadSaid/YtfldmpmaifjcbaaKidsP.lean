/-
  Parts of a proof, side by side.
-/
import Derived.Test.YtfldmpmaifjcbaaTree4
/-
  tree.Of.
-/
set_option linter.unusedSimpArgs false
set_option linter.unusedVariables false
namespace Go.Proofs.Ytfldmpmaifjcbaa
open Go Go.Hs
def rRows (m : List (List Int)) : List (List AC) := m.map fun r => [.sl 1 (kRows .i64 r)]
def rAt (m : List (List Int)) (i : Nat) : List Int := m.getD i []
theorem length_rRows {m : List (List Int)} : (rRows m).length = m.length := by simp [rRows]
theorem getRowT {z : AC} {m : List (List Int)} {i : Nat} (h : i < m.length) : getC z (rRows m) i 0 = .sl 1 (kRows .i64 (rAt m i)) := by
  unfold getC rAt
  simp [rRows,List.getD_eq_getElem?_getD,h]
def ofRow (i : Int) : List Int → List En → List Nat → Bool × List En × List Nat
  | [],out,op => (true,out,op)
  | s :: r,out,op => if (stepF s i out op).1 = true then ofRow i r (stepF s i out op).2.1 (stepF s i out op).2.2 else (false,[],[])
def ofRows (n : Nat) : Nat → List (List Int) → List En → List Nat → Bool × List En × List Nat
  | _,[],out,op => (true,out,op)
  | i,f :: fs,out,op =>
    if (ofRow (i : Int) f out op).1 = true ∧ ¬ (0 < (ofRow (i : Int) f out op).2.1.length ∧ (ofRow (i : Int) f out op).2.2.length = 0 ∧ i + 1 < n) then ofRows n (i + 1) fs (ofRow (i : Int) f out op).2.1 (ofRow (i : Int) f out op).2.2 else (false,[],[])
def ofF (fr : List (List Int)) : Bool × List En :=
  if (ofRows fr.length 0 fr [] []).1 = true ∧ 0 < (ofRows fr.length 0 fr [] []).2.1.length ∧ (ofRows fr.length 0 fr [] []).2.2.length = 0 then (true,(ofRows fr.length 0 fr [] []).2.1) else (false,[])

/-- What holds of the entries and of what is open, with k steps to come. -/
structure OI (out : List En) (op : List Nat) (k : Nat) : Prop where
  o1 : out.length + k ≤ 10000
  o2 : op.length ≤ out.length
  o3 : ∀ j ∈ op,j < out.length
theorem step_len {s fr : Int} {out : List En} {op : List Nat} : (stepF s fr out op).2.1.length ≤ out.length + 1 ∧ (op.length ≤ out.length → (stepF s fr out op).2.2.length ≤ (stepF s fr out op).2.1.length) := by
  unfold stepF
  split
  · exact ⟨by simp,fun h => h⟩
  · split
    · simp
    · cases op with
      | nil => simp
      | cons j op => simp;omega
theorem OI.step {out : List En} {op : List Nat} {k : Nat} (h : OI out op (k + 1)) (s fr : Int) : OI (stepF s fr out op).2.1 (stepF s fr out op).2.2 k := by
  have a := step_len (s := s) (fr := fr) (out := out) (op := op)
  have b := h.o1
  exact ⟨by omega,a.2 h.o2,step_le h.o3⟩
attribute [local go_sem] AV.isS wrap_in En.cs length_enRows getE0 getE1 getE2 getE3 getER dltT dltF eqT eqF beT beF length_opI length_rRows getRowT enTake

end Go.Proofs.Ytfldmpmaifjcbaa

/-
  PLAIN: rows of numbers, each nil or owned; what opens and closes in a list of entries.
-/
set_option linter.unusedSimpArgs false
set_option linter.unusedVariables false
namespace Go.Proofs.Ytfldmpmaifjcbaa
open Go Go.Hs

abbrev RO := Option (Blk × List Int)
def roC : RO → AC
  | none => .nil
  | some x => .own x.1 3 1 (kRows .i64 x.2)
def roR (R : List RO) : List (List AC) := R.map fun o => [roC o]
def roV (o : RO) : List Int := (o.map (·.2)).getD []
def roB (o : RO) : Blk := (o.map (·.1)).getD none
def rV (R : List RO) : List (List Int) := R.map roV
def roAt (R : List RO) (i : Nat) : RO := R.getD i none
def roIs (R : List RO) (i : Nat) : Nat := if (roAt R i).isSome then 1 else 0
theorem length_roR {R : List RO} : (roR R).length = R.length := by simp [roR]
theorem roN {R : List RO} {i : Nat} (h : roIs R i = 0) : roAt R i = none := by
  unfold roIs at h
  cases e : roAt R i with
  | none => rfl
  | some x => rw [e] at h;simp at h
theorem roS {R : List RO} {i : Nat} (h : roIs R i = 1) : roAt R i = some (roB (roAt R i),roV (roAt R i)) := by
  unfold roIs at h
  cases e : roAt R i with
  | none => rw [e] at h;simp at h
  | some x => rfl
theorem roIs_lt {R : List RO} {i : Nat} (h : roIs R i = 1) : i < R.length := by
  refine Nat.lt_of_not_le fun hn => ?_
  have : roAt R i = none := by unfold roAt;rw [List.getD_eq_getElem?_getD,List.getElem?_eq_none hn];rfl
  unfold roIs at h;rw [this] at h;simp at h
theorem getRo {z : AC} {R : List RO} {i : Nat} (h : i < R.length) : getC z (roR R) i 0 = roC (roAt R i) := by
  unfold getC roAt
  simp [roR,List.getD_eq_getElem?_getD,h]
theorem getRoN {z : AC} {R : List RO} {i : Nat} (h : i < R.length) (h0 : roIs R i = 0) : getC z (roR R) i 0 = .nil := by
  rw [getRo h,roN h0];rfl
theorem getRoS {z : AC} {R : List RO} {i : Nat} (h0 : roIs R i = 1) : getC z (roR R) i 0 = .own (roB (roAt R i)) 3 1 (kRows .i64 (roV (roAt R i))) := by
  rw [getRo (roIs_lt h0),roS h0];rfl
theorem getRoD {R : List RO} {i : Nat} (h : i < R.length) : (roR R).getD i [] = [roC (roAt R i)] := by
  unfold roAt
  simp [roR,List.getD_eq_getElem?_getD,h]
theorem setRo {R : List RO} {i : Nat} {b : Blk} {l : List Int} : (roR R).set i [.own b 3 1 (kRows .i64 l)] = roR (R.set i (some (b,l))) := by
  simp [roR,List.map_set,roC]
theorem setRo1 {R : List RO} {i : Nat} {b : Blk} {v : Int} : (roR R).set i [.own b 3 1 [[.im (.int .i64 v)]]] = roR (R.set i (some (b,[v]))) := setRo (l := [v])
theorem getRoDead {R : List RO} {i : Nat} {x : List AC} (h : i < R.length) : ((roR R).set i x).getD i [] = x := by simp [List.getD_eq_getElem?_getD,length_roR,h]
theorem tk1 {l : List Int} {v : Int} {k : Nat} (h : l.length + 1 ≤ k) : (l ++ [v]).take k = l ++ [v] := List.take_of_length_le (by simpa using h)
theorem splice1 {x y : AC} : splice [x] 0 [y] = [y] := rfl
theorem rep_roR {n : Nat} : List.replicate n [AC.nil] = roR (List.replicate n none) := by
  rw [roR,List.map_replicate];rfl
theorem take_roR {R : List RO} {k : Nat} (h : R.length ≤ k) : (roR R).take k = roR R := List.take_of_length_le (by rw [length_roR];exact h)

def addO (o : List (List Int)) (i : Nat) (v : Int) : List (List Int) := o.set i (o.getD i [] ++ [v])
/-- Rows have no more than c numbers. -/
def RB (o : List (List Int)) (c : Nat) : Prop := ∀ i,(o.getD i []).length ≤ c
theorem RB.at {R : List RO} {c : Nat} (h : RB (rV R) c) (i : Nat) : (roV (roAt R i)).length ≤ c := by
  have := h i
  by_cases hi : i < R.length
  · rwa [show (rV R).getD i [] = roV (roAt R i) by unfold rV roAt;simp [List.getD_eq_getElem?_getD,hi]] at this
  · rw [show roAt R i = none by unfold roAt;rw [List.getD_eq_getElem?_getD,List.getElem?_eq_none (by omega)];rfl]
    exact Nat.zero_le _
theorem RB.add {o : List (List Int)} {c : Nat} (h : RB o c) (i : Nat) (v : Int) : RB (addO o i v) (c + 1) := by
  intro j
  unfold addO
  by_cases e : i = j
  · subst e
    by_cases hl : i < o.length
    · rw [List.getD_eq_getElem?_getD,List.getElem?_set_self hl]
      have := h i
      simp only [Option.getD_some,List.length_append,List.length_cons,List.length_nil];omega
    · rw [List.set_eq_of_length_le (by omega)];have := h i;omega
  · rw [List.getD_eq_getElem?_getD,List.getElem?_set_ne e,← List.getD_eq_getElem?_getD];have := h j;omega
theorem RB.mono {o : List (List Int)} {c d : Nat} (h : RB o c) (hd : c ≤ d) : RB o d := fun i => Nat.le_trans (h i) hd
def shutF (deep : Int) : List En → List (List Int) → List En × List (List Int)
  | [],o => ([],o)
  | x :: st,o => if deep ≤ x.d then shutF deep st (addO o x.t.toNat (2 * x.n + 1)) else (x :: st,o)
def framesL : List En → List En → List (List Int) → List (List Int)
  | [],st,o => (shutF 0 st o).2
  | x :: t,st,o => framesL t (x :: (shutF x.d st o).1) (addO (shutF x.d st o).2 x.f.toNat (2 * x.n))
/-- An entry that lies in bytes. -/
structure ELie (n : Nat) (x : En) : Prop where
  d : 1 ≤ x.d
  n0 : 0 ≤ x.n
  n1 : x.n ≤ 1000000
  f0 : 0 ≤ x.f
  ft : x.f ≤ x.t
  t1 : x.t < n

theorem enLast {x : En} {st : List En} {k : Nat} (h : k = st.length) : enAt (x :: st).reverse k = x := by
  subst h
  unfold enAt
  rw [List.getD_eq_getElem?_getD,List.reverse_cons,List.getElem?_append_right (by simp)]
  simp
theorem enLt {x : En} {st : List En} {k : Nat} (h : k = st.length) : k < (x :: st).reverse.length := by simp;omega
theorem getL0 {z : AC} {x : En} {st : List En} {k : Nat} (h : k = st.length) : getC z (enRows (x :: st).reverse) k 0 = .im (.int .i64 x.d) := by rw [getE0 (enLt h),enLast h]
theorem getL1 {z : AC} {x : En} {st : List En} {k : Nat} (h : k = st.length) : getC z (enRows (x :: st).reverse) k 1 = .im (.int .i64 x.n) := by rw [getE1 (enLt h),enLast h]
theorem getL2 {z : AC} {x : En} {st : List En} {k : Nat} (h : k = st.length) : getC z (enRows (x :: st).reverse) k 2 = .im (.int .i64 x.f) := by rw [getE2 (enLt h),enLast h]
theorem getL3 {z : AC} {x : En} {st : List En} {k : Nat} (h : k = st.length) : getC z (enRows (x :: st).reverse) k 3 = .im (.int .i64 x.t) := by rw [getE3 (enLt h),enLast h]
theorem getLR {z : List AC} {x : En} {st : List En} {k : Nat} (h : k = st.length) : getR z (enRows (x :: st).reverse) k 0 4 = [.im (.int .i64 x.d),.im (.int .i64 x.n),.im (.int .i64 x.f),.im (.int .i64 x.t)] := by rw [getER (enLt h),enLast h]
theorem enPop {x : En} {st : List En} {k : Nat} (h : k = st.length) : (enRows (x :: st).reverse).take k = enRows st.reverse := by
  subst h
  rw [List.reverse_cons,enRows,List.map_append,List.take_left' (by simp)]
  rfl
theorem enPush {a b c d : Int} {st : List En} : enRows st.reverse ++ [[.im (.int .i64 a),.im (.int .i64 b),.im (.int .i64 c),.im (.int .i64 d)]] = enRows ((⟨a,b,c,d⟩ : En) :: st).reverse := by
  rw [List.reverse_cons];simp [enRows,En.cs]
theorem enLen {x : En} {st : List En} : (enRows (x :: st).reverse).length = st.length + 1 := by simp [enRows]
theorem enLenR {st : List En} : (enRows st.reverse).length = st.length := by simp [enRows]

end Go.Proofs.Ytfldmpmaifjcbaa

/-
  PLAIN: what lies in a parse tree; what opens and closes in it makes it again.
-/
set_option linter.unusedSimpArgs false
set_option linter.unusedVariables false
namespace Go.Proofs.Ytfldmpmaifjcbaa
open Go Go.Hs

/-- Entries side by side at depth d + 1, and all in them, from a place to another one; with what opens and closes. -/
inductive Kids (n : Nat) : Int → Int → Int → List En → List (Int × Int) → Prop where
  | nil {d a b : Int} (h : a ≤ b) : Kids n d a b [] []
  | cons {d a b : Int} {x : En} {s1 s2 : List En} {S1 S2 : List (Int × Int)} (hd : x.d = d + 1) (hn : 0 ≤ x.n ∧ x.n < n) (ha : a ≤ x.f) (hf : x.f ≤ x.t) (h1 : Kids n (d + 1) x.f x.t s1 S1) (h2 : Kids n d x.t b s2 S2) :
      Kids n d a b (x :: (s1 ++ s2)) ((x.f,2 * x.n) :: (S1 ++ (x.t,2 * x.n + 1) :: S2))
theorem Kids.le {n : Nat} {d a b : Int} {s : List En} {S : List (Int × Int)} (h : Kids n d a b s S) : a ≤ b := by
  induction h with
  | nil h => exact h
  | cons hd hn ha hf h1 h2 i1 i2 => omega
theorem Kids.wk {n : Nat} {d a b c : Int} {s : List En} {S : List (Int × Int)} (h : Kids n d b c s S) (hab : a ≤ b) : Kids n d a c s S := by
  cases h with
  | nil h => exact .nil (by omega)
  | cons hd hn ha hf h1 h2 => exact .cons hd hn (by omega) hf h1 h2
theorem Kids.app {n : Nat} {d a b c : Int} {s s' : List En} {S S' : List (Int × Int)} (h : Kids n d a b s S) (g : Kids n d b c s' S') : Kids n d a c (s ++ s') (S ++ S') := by
  induction h with
  | nil h => exact g.wk h
  | cons hd hn ha hf h1 h2 i1 i2 =>
    have := Kids.cons hd hn ha hf h1 (i2 g)
    simpa [List.append_assoc] using this
def seg (t : List En) (i j : Nat) : List En := (t.drop i).take (j - i)
theorem seg_nil {t : List En} {i : Nat} : seg t i i = [] := by simp [seg]
theorem seg_cons {t : List En} {i j : Nat} (h : i < t.length) (hj : i < j) : seg t i j = enAt t i :: seg t (i + 1) j := by
  unfold seg
  rw [List.drop_eq_getElem_cons h,show j - i = (j - (i + 1)) + 1 by omega,List.take_succ_cons]
  congr 1
  unfold enAt
  rw [List.getD_eq_getElem?_getD,List.getElem?_eq_getElem h];rfl
theorem seg_app {t : List En} {i j k : Nat} (h : i ≤ j) (h2 : j ≤ k) : seg t i k = seg t i j ++ seg t j k := by
  unfold seg
  rw [show k - i = (j - i) + (k - j) by omega,List.take_add,List.drop_drop,show i + (j - i) = j by omega]
theorem seg_all {t : List En} : seg t 0 t.length = t := by simp [seg]

end Go.Proofs.Ytfldmpmaifjcbaa
