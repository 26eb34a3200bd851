/-
  PLAIN: what groups span in a list of entries; each entry lies in the one next above it.
-/
import Derived.Test.YtllemobnfpljfaaKidsP
import Derived.Test.YtllemobnfpljfaaTree5
import Derived.Test.YtllemobnfpljfaaTermR
set_option linter.unusedSimpArgs false
set_option linter.unusedVariables false
namespace Go.Proofs.Ytllemobnfpljfaa
open Go Go.Hs

abbrev Sp := Int × Int
def Sp.cs (p : Sp) : List AC := [.im (.int .i64 p.1), .im (.int .i64 p.2)]
def spRows (l : List Sp) : List (List AC) := l.map Sp.cs
def spAt (l : List Sp) (i : Nat) : Sp := l.getD i (0, 0)
theorem length_spRows {l : List Sp} : (spRows l).length = l.length := by simp [spRows]
theorem getS0 {z : AC} {l : List Sp} {i : Nat} (h : i < l.length) : getC z (spRows l) i 0 = .im (.int .i64 (spAt l i).1) := by
  unfold getC spAt
  simp [spRows, Sp.cs, List.getD_eq_getElem?_getD, h]
theorem getS1 {z : AC} {l : List Sp} {i : Nat} (h : i < l.length) : getC z (spRows l) i 1 = .im (.int .i64 (spAt l i).2) := by
  unfold getC spAt
  simp [spRows, Sp.cs, List.getD_eq_getElem?_getD, h]
theorem getSR {z : List AC} {l : List Sp} {i : Nat} (h : i < l.length) : getR z (spRows l) i 0 2 = [.im (.int .i64 (spAt l i).1), .im (.int .i64 (spAt l i).2)] := by
  unfold getR spAt
  simp [spRows, Sp.cs, List.getD_eq_getElem?_getD, h]
theorem getSD {l : List Sp} {i : Nat} (h : i < l.length) : (spRows l).getD i [] = [.im (.int .i64 (spAt l i).1), .im (.int .i64 (spAt l i).2)] := by
  unfold spAt
  simp [spRows, Sp.cs, List.getD_eq_getElem?_getD, h]
theorem setSp {l : List Sp} {i : Nat} {a b : Int} : (spRows l).set i [.im (.int .i64 a), .im (.int .i64 b)] = spRows (l.set i (a, b)) := by
  simp [spRows, Sp.cs, List.map_set]
theorem spSnoc {l : List Sp} {a b : Int} : spRows l ++ [[.im (.int .i64 a), .im (.int .i64 b)]] = spRows (l ++ [(a, b)]) := by
  simp [spRows, Sp.cs]
theorem splice2 {x y a b : AC} : splice [x, y] 0 [a, b] = [a, b] := rfl
theorem spRows_frz {l : List Sp} : AC.frz.frzLL (spRows l) = spRows l := by
  show frzLL _ = _
  rw [frzLL_eq]
  simp [spRows, Sp.cs, frzL_eq, AC.frz]
theorem lastG_ge {ys : List Tm} {m : Nat} (h : ys.any (hasG m) = true) : ∀ {n : Nat}, m < n → (m : Int) ≤ lastG ys n
  | 0, hn => by omega
  | n + 1, hn => by
    simp only [lastG]
    split
    · omega
    · rename_i h2
      have : m ≠ n := fun e => h2 (e ▸ h)
      exact lastG_ge h (by omega)
theorem top_le {l : List Tm} : 0 ≤ topF l ∧ topF l ≤ 9 := by
  unfold topF groupsF
  split
  · rw [lastG_eq]
    have h9 : ∀ ys : List Tm, lastG ys 10 ≤ 9 := by
      intro ys
      show (if ys.any (hasG 9) then ((9 : Nat) : Int) else lastG ys 9) ≤ 9
      have := lastG_le (ys := ys) 9
      split <;> omega
    exact ⟨(lastG_le 10).1, h9 _⟩
  · simp
theorem tm_in {l : List Tm} (hr : rightF l = true) {x : Tm} (hx : x ∈ l) (hk : x.k = 7) : 1 ≤ x.n ∧ x.n ≤ topF l := by
  obtain ⟨i, hi, e⟩ := List.mem_iff_getElem.1 hx
  have e' : tAt l i = x := by simp [tAt, hi, e]
  have h7 := fields7 ((term_of_right hr).fields i hi)
  rw [e'] at h7
  have h7 := h7 hk
  refine ⟨h7.1, ?_⟩
  rw [topF_eq hr]
  have := lastG_ge (ys := l) (m := x.n.toNat) (by
    rw [List.any_eq_true]
    refine ⟨x, hx, ?_⟩
    simp only [hasG, Bool.and_eq_true, beq_iff_eq]
    exact ⟨hk, by omega⟩) (n := 10) (by omega)
  omega
theorem grp_in {l : List Tm} (hr : rightF l = true) {q : Nat} (hq : q < l.length) (hk : (tAt l q).k = 7) : 1 ≤ (tAt l q).n ∧ (tAt l q).n ≤ topF l :=
  tm_in hr (by unfold tAt; rw [List.getD_eq_getElem?_getD, List.getElem?_eq_getElem hq]; exact List.getElem_mem _) hk
theorem gs_in {l : List Tm} (hr : rightF l = true) {q : Int} : ∀ g ∈ groupsF l q, 1 ≤ g ∧ g ≤ topF l := by
  intro g hg
  unfold groupsF at hg
  split at hg
  · unfold groupsN at hg
    obtain ⟨n, hn, rfl⟩ := List.mem_map.1 hg
    obtain ⟨h1, h2⟩ := List.mem_filter.1 hn
    obtain ⟨x, hx, h3⟩ := List.any_eq_true.1 h2
    simp only [hasG, Bool.and_eq_true, beq_iff_eq] at h3
    have hxl : x ∈ l := by
      unfold nodesF at hx
      rw [ex_eq] at hx
      exact List.mem_of_mem_drop (List.mem_of_mem_take hx)
    have := tm_in hr hxl h3.1
    omega
  · cases hg
/-! Each entry lies in the one next above it. -/
/-! What a group spans is nothing, or what an entry of it does. -/
end Go.Proofs.Ytllemobnfpljfaa
