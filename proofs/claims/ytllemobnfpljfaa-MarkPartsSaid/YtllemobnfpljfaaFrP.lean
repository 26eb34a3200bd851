/-
  PLAIN: rows of numbers, each nil or owned; what opens and closes in a list of entries.
-/
import Derived.Test.YtllemobnfpljfaaTree5
set_option linter.unusedSimpArgs false
set_option linter.unusedVariables false
namespace Go.Proofs.Ytllemobnfpljfaa
open Go Go.Hs

abbrev RO := Option (Blk × List Int)
def roC : RO → AC
  | none => .nil
  | some x => .own x.1 3 1 (kRows .i64 x.2)
def roR (R : List RO) : List (List AC) := R.map fun o => [roC o]
def roV (o : RO) : List Int := (o.map (·.2)).getD []
def roB (o : RO) : Blk := (o.map (·.1)).getD none
def rV (R : List RO) : List (List Int) := R.map roV
def roAt (R : List RO) (i : Nat) : RO := R.getD i none
def roIs (R : List RO) (i : Nat) : Nat := if (roAt R i).isSome then 1 else 0
theorem length_roR {R : List RO} : (roR R).length = R.length := by simp [roR]
theorem roN {R : List RO} {i : Nat} (h : roIs R i = 0) : roAt R i = none := by
  unfold roIs at h
  cases e : roAt R i with
  | none => rfl
  | some x => rw [e] at h; simp at h
theorem roS {R : List RO} {i : Nat} (h : roIs R i = 1) : roAt R i = some (roB (roAt R i), roV (roAt R i)) := by
  unfold roIs at h
  cases e : roAt R i with
  | none => rw [e] at h; simp at h
  | some x => rfl
theorem roIs_lt {R : List RO} {i : Nat} (h : roIs R i = 1) : i < R.length := by
  refine Nat.lt_of_not_le fun hn => ?_
  have : roAt R i = none := by unfold roAt; rw [List.getD_eq_getElem?_getD, List.getElem?_eq_none hn]; rfl
  unfold roIs at h; rw [this] at h; simp at h
theorem getRo {z : AC} {R : List RO} {i : Nat} (h : i < R.length) : getC z (roR R) i 0 = roC (roAt R i) := by
  unfold getC roAt
  simp [roR, List.getD_eq_getElem?_getD, h]
theorem getRoN {z : AC} {R : List RO} {i : Nat} (h : i < R.length) (h0 : roIs R i = 0) : getC z (roR R) i 0 = .nil := by
  rw [getRo h, roN h0]; rfl
theorem getRoS {z : AC} {R : List RO} {i : Nat} (h0 : roIs R i = 1) : getC z (roR R) i 0 = .own (roB (roAt R i)) 3 1 (kRows .i64 (roV (roAt R i))) := by
  rw [getRo (roIs_lt h0), roS h0]; rfl
theorem getRoD {R : List RO} {i : Nat} (h : i < R.length) : (roR R).getD i [] = [roC (roAt R i)] := by
  unfold roAt
  simp [roR, List.getD_eq_getElem?_getD, h]
theorem setRo {R : List RO} {i : Nat} {b : Blk} {l : List Int} : (roR R).set i [.own b 3 1 (kRows .i64 l)] = roR (R.set i (some (b, l))) := by
  simp [roR, List.map_set, roC]
theorem setRo1 {R : List RO} {i : Nat} {b : Blk} {v : Int} : (roR R).set i [.own b 3 1 [[.im (.int .i64 v)]]] = roR (R.set i (some (b, [v]))) := setRo (l := [v])
theorem getRoDead {R : List RO} {i : Nat} {x : List AC} (h : i < R.length) : ((roR R).set i x).getD i [] = x := by simp [List.getD_eq_getElem?_getD, length_roR, h]
theorem tk1 {l : List Int} {v : Int} {k : Nat} (h : l.length + 1 ≤ k) : (l ++ [v]).take k = l ++ [v] := List.take_of_length_le (by simpa using h)
theorem splice1 {x y : AC} : splice [x] 0 [y] = [y] := rfl
theorem rep_roR {n : Nat} : List.replicate n [AC.nil] = roR (List.replicate n none) := by
  rw [roR, List.map_replicate]; rfl
theorem take_roR {R : List RO} {k : Nat} (h : R.length ≤ k) : (roR R).take k = roR R := List.take_of_length_le (by rw [length_roR]; exact h)

def addO (o : List (List Int)) (i : Nat) (v : Int) : List (List Int) := o.set i (o.getD i [] ++ [v])
/-- Rows have no more than c numbers. -/
def RB (o : List (List Int)) (c : Nat) : Prop := ∀ i, (o.getD i []).length ≤ c
theorem RB.at {R : List RO} {c : Nat} (h : RB (rV R) c) (i : Nat) : (roV (roAt R i)).length ≤ c := by
  have := h i
  by_cases hi : i < R.length
  · rwa [show (rV R).getD i [] = roV (roAt R i) by unfold rV roAt; simp [List.getD_eq_getElem?_getD, hi]] at this
  · rw [show roAt R i = none by unfold roAt; rw [List.getD_eq_getElem?_getD, List.getElem?_eq_none (by omega)]; rfl]
    exact Nat.zero_le _
theorem RB.add {o : List (List Int)} {c : Nat} (h : RB o c) (i : Nat) (v : Int) : RB (addO o i v) (c + 1) := by
  intro j
  unfold addO
  by_cases e : i = j
  · subst e
    by_cases hl : i < o.length
    · rw [List.getD_eq_getElem?_getD, List.getElem?_set_self hl]
      have := h i
      simp only [Option.getD_some, List.length_append, List.length_cons, List.length_nil]; omega
    · rw [List.set_eq_of_length_le (by omega)]; have := h i; omega
  · rw [List.getD_eq_getElem?_getD, List.getElem?_set_ne e, ← List.getD_eq_getElem?_getD]; have := h j; omega
theorem RB.mono {o : List (List Int)} {c d : Nat} (h : RB o c) (hd : c ≤ d) : RB o d := fun i => Nat.le_trans (h i) hd
/-- An entry that lies in bytes. -/
structure ELie (n : Nat) (x : En) : Prop where
  d : 1 ≤ x.d
  n0 : 0 ≤ x.n
  n1 : x.n ≤ 1000000
  f0 : 0 ≤ x.f
  ft : x.f ≤ x.t
  t1 : x.t < n

theorem enPush {a b c d : Int} {st : List En} : enRows st.reverse ++ [[.im (.int .i64 a), .im (.int .i64 b), .im (.int .i64 c), .im (.int .i64 d)]] = enRows ((⟨a, b, c, d⟩ : En) :: st).reverse := by
  rw [List.reverse_cons]; simp [enRows, En.cs]
theorem enLenR {st : List En} : (enRows st.reverse).length = st.length := by simp [enRows]

end Go.Proofs.Ytllemobnfpljfaa
