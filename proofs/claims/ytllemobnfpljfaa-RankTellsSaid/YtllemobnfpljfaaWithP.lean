/-
  PLAIN: tables whose rows are owned; a rank with one more run.
-/
import Derived.Test.YtllemobnfpljfaaRank3
set_option linter.unusedSimpArgs false
set_option linter.unusedVariables false
namespace Go.Proofs.Ytllemobnfpljfaa
open Go Go.Hs

/-- Two nil slices are two slices of no rows. -/
theorem nilPair {P : Program} {f : FuncId} {args : List AV} {R R' : AV → Prop} {s1 s2 : Nat} (h : ContractR P f args R) (hm : ∀ r, R r → R' r ∨ (r = .agg [.nil, .nil] ∧ R' (.agg [.sl s1 [], .sl s2 []]))) : ContractR P f args R' := by
  refine ⟨h.callable, fun w p vs ow hp ha hO => (h.calls w p vs ow hp ha hO).mono ?_⟩
  rintro e w' ⟨v, p', r, H', ow', O, hr, hk, he, hch, hpp, hp', hrd, rest⟩
  rcases hm r hr with h | ⟨rfl, h⟩
  · exact ⟨v, p', r, H', ow', O, h, hk, he, hch, hpp, hp', hrd, rest⟩
  · refine ⟨v, p', _, H', ow', O, h, hk, he, hch, hpp, hp', ?_, rest⟩
    obtain ⟨us, rfl, ho⟩ := hrd
    refine ⟨us, rfl, ?_⟩
    generalize us.toList = l at ho
    cases ho with
    | per h1 t =>
      cases t with
      | per h2 t2 =>
        cases h1; cases h2
        exact .per (.nilS _ _) (.per (.nilS _ _) t2)
def oRow (x : Blk × List Int) : List AC := [.own x.1 3 1 (kRows .i64 x.2)]
def oRows (m : List (Blk × List Int)) : List (List AC) := m.map oRow
def bAt (m : List (Blk × List Int)) (i : Nat) : Blk := (m.getD i (none, [])).1
def vAt (m : List (Blk × List Int)) (i : Nat) : List Int := (m.getD i (none, [])).2
theorem length_oRows {m : List (Blk × List Int)} : (oRows m).length = m.length := by simp [oRows]
theorem getOwn {z : AC} {m : List (Blk × List Int)} {i : Nat} (h : i < m.length) : getC z (oRows m) i 0 = .own (bAt m i) 3 1 (kRows .i64 (vAt m i)) := by
  unfold getC bAt vAt
  simp [oRows, oRow, List.getD_eq_getElem?_getD, h]
theorem getO {m : List (Blk × List Int)} {i : Nat} (h : i < m.length) : (oRows m).getD i [] = [.own (bAt m i) 3 1 (kRows .i64 (vAt m i))] := by
  unfold bAt vAt
  simp [oRows, oRow, List.getD_eq_getElem?_getD, h]
theorem getOwn' {z : AC} {m : List (Blk × List Int)} {i j : Nat} {x : Blk × List Int} (h : j < m.length) : getC z (oRows (m.set i x)) j 0 = .own (bAt (m.set i x) j) 3 1 (kRows .i64 (vAt (m.set i x) j)) := getOwn (by simpa using h)
theorem getO' {m : List (Blk × List Int)} {i j : Nat} {x : Blk × List Int} (h : j < m.length) : (oRows (m.set i x)).getD j [] = [.own (bAt (m.set i x) j) 3 1 (kRows .i64 (vAt (m.set i x) j))] := getO (by simpa using h)
theorem getOwn'' {z : AC} {m : List (Blk × List Int)} {i j k : Nat} {x y : Blk × List Int} (h : j < m.length) : getC z (oRows ((m.set i x).set k y)) j 0 = .own (bAt ((m.set i x).set k y) j) 3 1 (kRows .i64 (vAt ((m.set i x).set k y) j)) := getOwn (by simpa using h)
theorem getO'' {m : List (Blk × List Int)} {i j k : Nat} {x y : Blk × List Int} (h : j < m.length) : (oRows ((m.set i x).set k y)).getD j [] = [.own (bAt ((m.set i x).set k y) j) 3 1 (kRows .i64 (vAt ((m.set i x).set k y) j))] := getO (by simpa using h)
theorem setO {m : List (Blk × List Int)} {i : Nat} {b : Blk} {r : List Int} : (oRows m).set i [.own b 3 1 (kRows .i64 r)] = oRows (m.set i (b, r)) := by
  simp [oRows, oRow, List.map_set]
theorem updO {m : List (Blk × List Int)} {i : Nat} {r : List Int} (h : i < m.length) : updL (oRows m) [(i, 0)] (kRows .i64 r) = oRows (m.set i (bAt m i, r)) := by
  unfold updL
  rw [getOwn h]
  simp only [getO h, updL, List.set_cons_zero, setO]
theorem bAt_set {m : List (Blk × List Int)} {i j : Nat} {r : List Int} : bAt (m.set i (bAt m i, r)) j = bAt m j := by
  unfold bAt
  by_cases e : i = j
  · subst e
    by_cases h : i < m.length
    · simp [List.getD_eq_getElem?_getD, h]
    · simp [List.getD_eq_getElem?_getD, h]
  · simp [List.getD_eq_getElem?_getD, List.getElem?_set, e]
theorem vAt_same {m : List (Blk × List Int)} {i : Nat} {b : Blk} {r : List Int} (h : i < m.length) : vAt (m.set i (b, r)) i = r := by
  unfold vAt
  simp [List.getD_eq_getElem?_getD, h]
theorem vAt_same' {m : List (Blk × List Int)} {i j : Nat} {x : Blk × List Int} {b : Blk} {r : List Int} (h : i < m.length) : vAt ((m.set j x).set i (b, r)) i = r := by
  unfold vAt
  simp [List.getD_eq_getElem?_getD, h]
theorem vAt_other {m : List (Blk × List Int)} {i j : Nat} {b : Blk} {r : List Int} (h : i ≠ j) : vAt (m.set i (b, r)) j = vAt m j := by
  unfold vAt
  simp [List.getD_eq_getElem?_getD, List.getElem?_set, h]
theorem frz_kRows {k : IntKind} {l : List Int} : frzLL (kRows k l) = kRows k l := by
  rw [frzLL_eq]
  simp only [kRows, List.map_map]
  rfl
theorem frz_oRows {m : List (Blk × List Int)} : frzLL (oRows m) = rRows (m.map (·.2)) := by
  rw [frzLL_eq]
  simp only [oRows, rRows, List.map_map]
  refine List.map_congr_left fun x _ => ?_
  show frzL [AC.own x.1 3 1 (kRows .i64 x.2)] = _
  rw [frzL_eq]
  simp only [List.map_cons, List.map_nil, AC.frz, frz_kRows, Function.comp]
theorem oRows_snoc {m : List (Blk × List Int)} {b : Blk} {r : List Int} : oRows m ++ [[.own b 3 1 (kRows .i64 r)]] = oRows (m ++ [(b, r)]) := by
  simp [oRows, oRow]
theorem rAt_map {m : List (Blk × List Int)} {i : Nat} : rAt (m.map (·.2)) i = vAt m i := by
  unfold rAt vAt
  by_cases h : i < m.length
  · simp [List.getD_eq_getElem?_getD, h]
  · simp [List.getD_eq_getElem?_getD, h]

/-- One cell. -/
def gAt (m : List (Blk × List Int)) (i k : Nat) : Int := (vAt m i).getD k 0
theorem gAt_set {m : List (Blk × List Int)} {i k a c : Nat} {b : Blk} {v : Int} (hi : i < m.length) (hk : k < (vAt m i).length) : gAt (m.set i (b, (vAt m i).set k v)) a c = if a = i ∧ c = k then v else gAt m a c := by
  unfold gAt
  by_cases e : a = i
  · subst e
    rw [vAt_same hi]
    by_cases e2 : c = k
    · subst e2
      simp [List.getD_eq_getElem?_getD, hk]
    · have e3 : k ≠ c := fun h => e2 h.symm
      simp [List.getD_eq_getElem?_getD, List.getElem?_set, e2, e3]
  · rw [vAt_other (fun h => e h.symm), if_neg (fun h => e h.1)]
theorem vlen_set {m : List (Blk × List Int)} {i k a : Nat} {b : Blk} {v : Int} (hi : i < m.length) : (vAt (m.set i (b, (vAt m i).set k v)) a).length = (vAt m a).length := by
  by_cases e : a = i
  · subst e; rw [vAt_same hi, List.length_set]
  · rw [vAt_other (fun h => e h.symm)]
/-- A row's place after what is put there. -/
theorem set_mid {p : List Int} {z v : Int} {k m : Nat} (h : p.length = k) : (p ++ List.replicate (m + 1) z).set k v = (p ++ [v]) ++ List.replicate m z := by
  subst h
  simp [List.replicate_succ]
theorem rep_snoc {z : Int} {i : Nat} : List.replicate i z ++ [z] = List.replicate (i + 1) z := by
  rw [List.replicate_succ']
theorem take_snoc {r : List Int} {k : Nat} (h : k < r.length) : r.take k ++ [r.getD k 0] = r.take (k + 1) := by
  rw [List.take_succ_eq_append_getElem h]
  simp [List.getD_eq_getElem?_getD, h]

theorem tabStep {m : List (Blk × List Int)} {n i : Nat} {b : Blk} {r : List Int} (h : m.length = i) (hi : i < n) :
    (oRows m ++ List.replicate (n - i) [AC.nil]).set i (splice ((oRows m ++ List.replicate (n - i) [AC.nil]).getD i []) 0 [.own b 3 1 (kRows .i64 r)]) = oRows (m ++ [(b, r)]) ++ List.replicate (n - (i + 1)) [AC.nil] := by
  obtain ⟨k, hk⟩ : ∃ k, n - i = k + 1 := ⟨n - i - 1, by omega⟩
  have hk2 : n - (i + 1) = k := by omega
  have hl : (oRows m).length = i := by rw [length_oRows, h]
  rw [hk, hk2, List.replicate_succ]
  subst hl
  have e : (oRows m ++ [AC.nil] :: List.replicate k [AC.nil]).getD (oRows m).length [] = [AC.nil] := by
    simp [List.getD_eq_getElem?_getD]
  rw [e, splice_one (by simp)]
  simp [oRows, oRow]

theorem rk_lens {b d : List (List Int)} {n : Nat} (h : RkOk b d n) : b.length = n ∧ d.length = n ∧ (∀ i, i < n → (rAt b i).length = n) ∧ ∀ i, i < n → (rAt d i).length = n := by
  obtain ⟨⟨h1, h2⟩, ⟨h3, h4⟩, _⟩ := h
  have e1 : b.length = n := by omega
  have e2 : d.length = n := by omega
  exact ⟨e1, e2, fun i hi => by have := h2 i (by omega); omega, fun i hi => by have := h4 i (by omega); omega⟩
theorem rk_cell {b d : List (List Int)} {n : Nat} (h : RkOk b d n) {i k : Nat} (hi : i < n) (hk : k < n) : 0 ≤ rGet b i k ∧ (i = k → rGet b i k = 0 ∧ rGet d i k = 0) ∧ (i ≠ k → (rGet d i k = 1 ∨ rGet d i k = -1) ∧ rGet d k i = - rGet d i k) := by
  obtain ⟨_, _, h5⟩ := h
  obtain ⟨g1, g2, g3⟩ := h5 i (by simpa using hi)
  have g4 := g3 k (by simpa using hk)
  refine ⟨g4.1, fun e => by subst e; exact ⟨g1, g2⟩, fun e => ?_⟩
  rcases g4.2 with g | g
  · exact absurd g e
  · exact g
/-- A rank with one more run. -/
def withB (b : List (List Int)) : List (List Int) := b.map (· ++ [0]) ++ [List.replicate (b.length + 1) 0]
def withD (d : List (List Int)) : List (List Int) := d.map (· ++ [1]) ++ [List.replicate d.length (-1) ++ [0]]
def withBF (b d : List (List Int)) : List (List Int) := if rkB b d b.length then withB b else []
def withDF (b d : List (List Int)) : List (List Int) := if rkB b d b.length then withD d else []
theorem with_ext {m : List (List Int)} {b : List (List Int)} {v : Int} {z : List Int} (hl : m.length = b.length + 1) (h1 : ∀ i, i < b.length → rAt m i = rAt b i ++ [v]) (h2 : rAt m b.length = z) : m = b.map (· ++ [v]) ++ [z] := by
  refine rows_ext (by simp [hl]) fun j hj => ?_
  by_cases e : j < b.length
  · rw [h1 j e]
    have e2 : j < (b.map (· ++ [v])).length := by simp [e]
    simp [rAt, List.getD_eq_getElem?_getD, e, List.getElem?_append_left e2]
  · have : j = b.length := by omega
    subst this
    rw [h2]
    simp [rAt, List.getD_eq_getElem?_getD]

end Go.Proofs.Ytllemobnfpljfaa
