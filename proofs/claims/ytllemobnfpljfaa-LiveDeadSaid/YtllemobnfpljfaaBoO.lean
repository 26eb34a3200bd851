/-
  Rows of rows of bools, as they are owned and as they are handed out.
-/
import Derived.Test.YtllemobnfpljfaaHs17
set_option linter.unusedSimpArgs false
set_option linter.unusedVariables false
namespace Go.Proofs.Ytllemobnfpljfaa
open Go Go.Hs

def bRows (T : List (List Bool)) : List (List AC) := T.map fun r => [.sl 1 (boRows r)]
def bAt (T : List (List Bool)) (q : Nat) : List Bool := T.getD q []
theorem length_bRows {T : List (List Bool)} : (bRows T).length = T.length := by simp [bRows]
theorem getBR {z : AC} {T : List (List Bool)} {q : Nat} (h : q < T.length) : getC z (bRows T) q 0 = .sl 1 (boRows (bAt T q)) := by
  unfold getC bAt
  simp [bRows, List.getD_eq_getElem?_getD, h]
def boO (R : List (Blk × List Bool)) : List (List AC) := R.map fun x => [.own x.1 4 1 (boRows x.2)]
def bB (R : List (Blk × List Bool)) (q : Nat) : Blk := (R.getD q (none, [])).1
def bV (R : List (Blk × List Bool)) (q : Nat) : List Bool := (R.getD q (none, [])).2
theorem length_boO {R : List (Blk × List Bool)} : (boO R).length = R.length := by simp [boO]
theorem getBO {z : AC} {R : List (Blk × List Bool)} {q : Nat} (h : q < R.length) : getC z (boO R) q 0 = .own (bB R q) 4 1 (boRows (bV R q)) := by
  unfold getC bB bV
  simp [boO, List.getD_eq_getElem?_getD, h]
theorem updBO {R : List (Blk × List Bool)} {q : Nat} {r : List Bool} (h : q < R.length) : updL (boO R) [(q, 0)] (boRows r) = boO (R.set q (bB R q, r)) := by
  unfold updL
  rw [getBO h]
  have e : (boO R).getD q [] = [.own (bB R q) 4 1 (boRows (bV R q))] := by
    unfold bB bV
    simp [boO, List.getD_eq_getElem?_getD, h]
  simp only [e, updL, List.set_cons_zero]
  simp [boO, List.map_set]
theorem setBO {R : List (Blk × List Bool)} {q : Nat} {r : List Bool} (h : q < R.length) : (boO R).set q (((boO R).getD q []).set 0 (.own (bB R q) 4 1 (boRows r))) = boO (R.set q (bB R q, r)) := by
  have e : (boO R).getD q [] = [.own (bB R q) 4 1 (boRows (bV R q))] := by
    unfold bB bV
    simp [boO, List.getD_eq_getElem?_getD, h]
  rw [e, List.set_cons_zero]
  simp [boO, List.map_set]
theorem boSnoc {R : List (Blk × List Bool)} {b : Blk} {r : List Bool} : boO R ++ [[.own b 4 1 (boRows r)]] = boO (R ++ [(b, r)]) := by simp [boO]
theorem frzBO' : ∀ {R : List (Blk × List Bool)}, AC.frz.frzLL (boO R) = bRows (R.map (·.2))
  | [] => rfl
  | x :: R => by
    have h := frzBO' (R := R)
    have h2 := boRows_frz (bl := x.2)
    unfold boO bRows at h ⊢
    simp only [List.map_cons, AC.frz.frzLL, AC.frz.frzL, AC.frz, h, h2]
theorem frzBO {R : List (Blk × List Bool)} : frzLL (boO R) = bRows (R.map (·.2)) := by
  have := frzBO' (R := R)
  exact this
theorem exB {T : List (List Bool)} {n : Nat} (h : T.length ≤ n) : ex (bRows T) 0 n = bRows T := by
  rw [ex_eq, List.drop_zero, List.take_of_length_le (by rw [length_bRows]; omega)]
theorem boTake {R : List (Blk × List Bool)} {n : Nat} (h : R.length ≤ n) : (boO R).take n = boO R := List.take_of_length_le (by rw [length_boO]; exact h)
theorem bAt_map {R : List (Blk × List Bool)} {q : Nat} : bAt (R.map (·.2)) q = bV R q := by
  unfold bAt bV
  rw [List.getD_eq_getElem?_getD, List.getD_eq_getElem?_getD, List.getElem?_map]
  cases R[q]? <;> rfl
theorem bV_snoc {R : List (Blk × List Bool)} {x : Blk × List Bool} {c : Nat} : bV (R ++ [x]) c = if c = R.length then x.2 else bV R c := by
  unfold bV
  by_cases e : c = R.length
  · subst e; simp [List.getD_eq_getElem?_getD]
  · rw [if_neg e]
    simp only [List.getD_eq_getElem?_getD]
    by_cases h : c < R.length
    · rw [List.getElem?_append_left h]
    · rw [List.getElem?_eq_none (by simp; omega), List.getElem?_eq_none (by omega)]

theorem bRows_frz : ∀ {T : List (List Bool)}, AC.frz.frzLL (bRows T) = bRows T
  | [] => rfl
  | x :: T => by
    have h := bRows_frz (T := T)
    have h2 := boRows_frz (bl := x)
    unfold bRows at h ⊢
    simp only [List.map_cons, AC.frz.frzLL, AC.frz.frzL, AC.frz, h, h2]
end Go.Proofs.Ytllemobnfpljfaa
