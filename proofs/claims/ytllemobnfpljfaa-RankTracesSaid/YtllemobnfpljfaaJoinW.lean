import Derived.Test.YtllemobnfpljfaaNextP
import Derived.Test.YtllemobnfpljfaaWith
import Derived.Test.YtllemobnfpljfaaHty
import Derived.Test.YtllemobnfpljfaaRankP
import Derived.RangeFuncKeeps
import Derived.RangeFuncLeaves
import Derived.RangeFuncBox
import Derived.Shelf.Abstract
import Derived.WalkKit
import Derived.OwnWalkIn
import Derived.TacticsInMore
import Derived.LoopNIn
import Derived.LoopIn
set_option linter.unusedSimpArgs false
set_option linter.unusedVariables false
set_option maxRecDepth 100000
set_option maxHeartbeats 8000000
namespace Go.Proofs.Ytllemobnfpljfaa
open Go Go.Hs
theorem gAt_zero {m : List (Blk × List Int)} {n : Nat} (h : Zero m n) {a c : Nat} (ha : a < n) : gAt m a c = 0 := by
  unfold gAt
  rw [h.2 a ha,List.getD_eq_getElem?_getD,List.getElem?_replicate]
  split <;> rfl
structure TabI (m : List (Blk × List Int)) (n i j : Nat) (f : Nat → Nat → Int) : Prop where
  len : m.length = n
  row : ∀ a,a < n → (vAt m a).length = n
  cell : ∀ a c,a < n → c < n → gAt m a c = if (a < i ∧ c < i) ∨ (a = i ∧ c < j) ∨ (c = i ∧ a < j) then f a c else 0
theorem TabI.start {m : List (Blk × List Int)} {n : Nat} {f : Nat → Nat → Int} (h : Zero m n) : TabI m n 0 0 f :=
  ⟨h.1,fun a ha => by rw [h.2 a ha];simp,fun a c ha hc => by rw [gAt_zero h ha,if_neg (by omega)]⟩
theorem TabI.step {m : List (Blk × List Int)} {n i j : Nat} {f : Nat → Nat → Int} (h : TabI m n i j f) (hi : i < n) (hj : j < i) {x y : Int} (hx : x = f i j) (hy : y = f j i) {b1 b2 : Blk} :
    TabI ((m.set i (b1,(vAt m i).set j x)).set j (b2,(vAt m j).set i y)) n i (j + 1) f := by
  subst hx hy
  have l1 := h.len
  have r1 := h.row i hi
  have r2 := h.row j (by omega)
  have e : vAt m j = vAt (m.set i (b1,(vAt m i).set j (f i j))) j := (vAt_other (by omega)).symm
  rw [e]
  refine ⟨by simp [l1],fun a ha => ?_,fun a c ha hc => ?_⟩
  · rw [vlen_set (by simp [l1];omega),vlen_set (by omega)];exact h.row a ha
  · rw [gAt_set (by simp [l1];omega) (by rw [vlen_set (by omega),r2];omega),gAt_set (by omega) (by omega),h.cell a c ha hc]
    by_cases c1 : a = j ∧ c = i
    · obtain ⟨rfl,rfl⟩ := c1
      rw [if_pos ⟨rfl,rfl⟩,if_pos (by omega)]
    · rw [if_neg c1]
      by_cases c2 : a = i ∧ c = j
      · obtain ⟨rfl,rfl⟩ := c2
        rw [if_pos ⟨rfl,rfl⟩,if_pos (by omega)]
      · rw [if_neg c2]
        by_cases c3 : (a < i ∧ c < i) ∨ (a = i ∧ c < j) ∨ (c = i ∧ a < j)
        · rw [if_pos c3,if_pos (by omega)]
        · rw [if_neg c3,if_neg (by omega)]
theorem TabI.next {m : List (Blk × List Int)} {n i : Nat} {f : Nat → Nat → Int} (h : TabI m n i i f) (h0 : f i i = 0) : TabI m n (i + 1) 0 f := by
  refine ⟨h.len,h.row,fun a c ha hc => ?_⟩
  rw [h.cell a c ha hc]
  by_cases c1 : a = i ∧ c = i
  · obtain ⟨rfl,rfl⟩ := c1
    rw [if_neg (by omega),if_pos (by omega),h0]
  · by_cases c3 : (a < i ∧ c < i) ∨ (a = i ∧ c < i) ∨ (c = i ∧ a < i)
    · rw [if_pos c3,if_pos (by omega)]
    · rw [if_neg c3,if_neg (by omega)]
theorem TabI.done {m : List (Blk × List Int)} {n j : Nat} {f : Nat → Nat → Int} (h : TabI m n n j f) : m.map (·.2) = tabF n f := by
  refine tab_ext (by simp [h.len]) (fun i hi => by rw [rAt_map];exact h.row i hi) fun i k hi hk => ?_
  have := h.cell i k hi hk
  rw [if_pos (by omega)] at this
  unfold rGet;rw [rAt_map];exact this
structure TabR (m : List (Blk × List Int)) (n i j : Nat) (f : Nat → Nat → Int) : Prop where
  len : m.length = n
  row : ∀ a,a < n → (vAt m a).length = n
  cell : ∀ a c,a < n → c < n → gAt m a c = if a < i ∨ (a = i ∧ c < j) then f a c else 0
theorem TabR.start {m : List (Blk × List Int)} {n : Nat} {f : Nat → Nat → Int} (h : Zero m n) : TabR m n 0 0 f :=
  ⟨h.1,fun a ha => by rw [h.2 a ha];simp,fun a c ha hc => by rw [gAt_zero h ha,if_neg (by omega)]⟩
theorem TabR.step {m : List (Blk × List Int)} {n i j : Nat} {f : Nat → Nat → Int} (h : TabR m n i j f) (hi : i < n) (hj : j < n) {x : Int} (hx : x = f i j) {b1 : Blk} :
    TabR (m.set i (b1,(vAt m i).set j x)) n i (j + 1) f := by
  subst hx
  have l1 := h.len
  have r1 := h.row i hi
  refine ⟨by simp [l1],fun a ha => ?_,fun a c ha hc => ?_⟩
  · rw [vlen_set (by omega)];exact h.row a ha
  · rw [gAt_set (by omega) (by omega),h.cell a c ha hc]
    by_cases c2 : a = i ∧ c = j
    · obtain ⟨rfl,rfl⟩ := c2
      rw [if_pos ⟨rfl,rfl⟩,if_pos (by omega)]
    · rw [if_neg c2]
      by_cases c3 : a < i ∨ (a = i ∧ c < j)
      · rw [if_pos c3,if_pos (by omega)]
      · rw [if_neg c3,if_neg (by omega)]
theorem TabR.skip {m : List (Blk × List Int)} {n i : Nat} {f : Nat → Nat → Int} (h : TabR m n i i f) (h0 : f i i = 0) : TabR m n i (i + 1) f := by
  refine ⟨h.len,h.row,fun a c ha hc => ?_⟩
  rw [h.cell a c ha hc]
  by_cases c1 : a = i ∧ c = i
  · obtain ⟨rfl,rfl⟩ := c1
    rw [if_neg (by omega),if_pos (by omega),h0]
  · by_cases c3 : a < i ∨ (a = i ∧ c < i)
    · rw [if_pos c3,if_pos (by omega)]
    · rw [if_neg c3,if_neg (by omega)]
theorem TabR.next {m : List (Blk × List Int)} {n i : Nat} {f : Nat → Nat → Int} (h : TabR m n i n f) : TabR m n (i + 1) 0 f := by
  refine ⟨h.len,h.row,fun a c ha hc => ?_⟩
  rw [h.cell a c ha hc]
  by_cases c3 : a < i ∨ (a = i ∧ c < n)
  · rw [if_pos c3,if_pos (by omega)]
  · rw [if_neg c3,if_neg (by omega)]
theorem TabR.done {m : List (Blk × List Int)} {n j : Nat} {f : Nat → Nat → Int} (h : TabR m n n j f) : m.map (·.2) = tabF n f := by
  refine tab_ext (by simp [h.len]) (fun i hi => by rw [rAt_map];exact h.row i hi) fun i k hi hk => ?_
  have := h.cell i k hi hk
  rw [if_pos (by omega)] at this
  unfold rGet;rw [rAt_map];exact this
section
variable {l : List Tm} {b d : List (List Int)} {fr : List Int} {h : List Hp} {i j : Nat}
theorem nx_eq (hij : i ≠ j) (e : fr.getD i 0 = fr.getD j 0) : nxB l b d fr h i j = (forkF l (hAt h i) (hAt h j)).1 ∧ nxB l b d fr h j i = (forkF l (hAt h i) (hAt h j)).2.1 ∧ nxD l b d fr h i j = (forkF l (hAt h i) (hAt h j)).2.2 ∧ nxD l b d fr h j i = - (forkF l (hAt h i) (hAt h j)).2.2 := by
  have e' : ¬ j = i := fun h => hij h.symm
  have s := fork_swap (l := l) (x := hAt h i) (y := hAt h j)
  unfold nxB nxD
  simp only [hij,e',e,↓reduceIte,s,and_self]
theorem nx_ne (hij : i ≠ j) (e : fr.getD i 0 ≠ fr.getD j 0) (hd : rGet d (fr.getD j 0).toNat (fr.getD i 0).toNat = - rGet d (fr.getD i 0).toNat (fr.getD j 0).toNat) : nxB l b d fr h i j = lowH b fr h i j ∧ nxB l b d fr h j i = lowH b fr h j i ∧ nxD l b d fr h i j = agF b d fr h i j ∧ nxD l b d fr h j i = - agF b d fr h i j := by
  have e' : ¬ j = i := fun h => hij h.symm
  have e2 : ¬ fr.getD j 0 = fr.getD i 0 := fun h => e h.symm
  have s : agF b d fr h j i = - agF b d fr h i j := by
    unfold agF
    by_cases e1 : lowH b fr h j i < lowH b fr h i j
    · have e1' : ¬ lowH b fr h i j < lowH b fr h j i := by omega
      simp only [e1,e1',↓reduceIte]
    · by_cases e2 : lowH b fr h i j < lowH b fr h j i
      · simp only [e1,e2,↓reduceIte];rfl
      · simp only [e1,e2,↓reduceIte,hd]
  unfold nxB nxD
  simp only [hij,e',e,e2,↓reduceIte,s,and_self]
theorem nx_diag : nxB l b d fr h i i = 0 ∧ nxD l b d fr h i i = 0 := by
  unfold nxB nxD;simp
end
theorem getD_setI {l : List Int} {j : Nat} {v : Int} (h : j < l.length) : (l.set j v).getD j 0 = v := by simp [List.getD_eq_getElem?_getD,h]
theorem fork_small {l : List Tm} {x y : Int × Int} : -1 ≤ (forkF l x y).2.2 ∧ (forkF l x y).2.2 ≤ 1 := by
  unfold forkF
  split
  · exact ⟨by show (-1 : Int) ≤ 0;omega,by show (0 : Int) ≤ 1;omega⟩
  · split
    · exact ⟨by show (-1 : Int) ≤ 1;omega,by show (1 : Int) ≤ 1;omega⟩
    · split
      · exact ⟨by show (-1 : Int) ≤ -1;omega,by show (-1 : Int) ≤ 1;omega⟩
      · split
        · exact ⟨by show (-1 : Int) ≤ -1;omega,by show (-1 : Int) ≤ 1;omega⟩
        · exact ⟨by show (-1 : Int) ≤ 1;omega,by show (1 : Int) ≤ 1;omega⟩
theorem ag_small {b d : List (List Int)} {fr : List Int} {h : List Hp} {i k : Nat} (hd : rGet d (fr.getD i 0).toNat (fr.getD k 0).toNat = 1 ∨ rGet d (fr.getD i 0).toNat (fr.getD k 0).toNat = -1) : -1 ≤ agF b d fr h i k ∧ agF b d fr h i k ≤ 1 := by
  unfold agF
  split
  · omega
  · split <;> omega
theorem has_iff {b : List (List Int)} {a : Int} : hasB' b a = true ↔ hasR b a := by
  unfold hasB' hasR;simp
end Go.Proofs.Ytllemobnfpljfaa
set_option linter.unusedSimpArgs false
namespace Go.Proofs.Ytllemobnfpljfaa
open Go Go.Hs
open Go.RowKit
attribute [local go_sem] Oper.semAt_some
noncomputable def upMu (N : Int) (kq : Nat) (wr : World) : Nat := match wr.cell? ⟨kq,0,none⟩ with
  | some (.int _ q) => if q < 0 then 0 else (N - q).toNat
  | _ => 0
theorem upMu_eq {N q : Int} {kq : Nat} {wr : World} {k : IntKind} (h : wr.cell? ⟨kq,0,none⟩ = some (.int k q)) : upMu N kq wr = if q < 0 then 0 else (N - q).toNat := by
  unfold upMu;rw [h]
set_option maxRecDepth 100000 in
set_option maxHeartbeats 1000000 in
theorem above1_in (n : Nat) (hn : 1 ≤ n) (l kq ku : Nat) (N : Int) (J J2 : Int → World → Prop) (Jx : World → Prop)
    (hlt : ∀ q W,J q W → q < N) (hq : ∀ q W,J q W → W.cell? ⟨kq,0,none⟩ = some (.int .i64 q))
    (hY : ∀ q W,J q W → 0 ≤ q → YieldAt Fence.wide (n - 1) Try.prog l #[.int .i64 q] W fun e W' => (e = .returned (.bool true) ∧ J2 q W') ∨ (e = .returned (.bool false) ∧ Jx W'))
    (hS : ∀ q W,J2 q W → 0 ≤ q → ∃ (q' : Int) (g nn cap : Nat),(q < q' ∨ q' < 0) ∧ W.cell? ⟨ku,0,none⟩ = some (.slice (some ⟨g,0,none⟩) nn cap) ∧ q.toNat < nn ∧ W.cell? ⟨g,q.toNat,none⟩ = some (.int .i64 q') ∧
      W.cell? ⟨kq,0,none⟩ = some (.int .i64 q) ∧ W.frozen? ⟨kq,0,none⟩ = false ∧ J q' (W.setCell ⟨kq,0,none⟩ (.int .i64 q')))
    (q0 : Int) (W : World) (h0 : J q0 W) :
    CallsIn Fence.wide n Try.prog 157 #[.func (.yield l) #[] #[],.pointer (some ⟨kq,0,none⟩),.pointer (some ⟨ku,0,none⟩)] W fun e W' => (∃ v,e = .returned v) ∧ ((∃ q,q < 0 ∧ J q W') ∨ Jx W') := by
  refine callsIn_of_wp Try.func157 rfl trivial ?_ rfl
  simp only [Try.ntmps157,List.size_toArray,List.length_cons,List.length_nil,Nat.reduceAdd,Nat.reduceSub,Array.replicate_succ,Array.replicate_zero,List.push_toArray,List.append_toArray,List.nil_append,List.cons_append]
  gi_wp2
  gi_loopw [] (fun wr => ∃ q,J q wr) (fun wr => upMu N kq wr)
  case atStart => exact ⟨q0,h0⟩
  case round =>
    obtain ⟨q,hJ⟩ := hrel
    have c0 := hq q _ hJ
    by_cases hq0 : q < 0
    · gi_wp2
      go_end0
      exact ⟨⟨_,rfl⟩,.inl ⟨q,hq0,hJ⟩⟩
    · obtain ⟨fn,tmps,assign,body,hy,hR⟩ := hY q _ hJ (by omega)
      gi_wp2
      refine hR.mono ?_
      rintro e W3 (⟨rfl,hJ2⟩|⟨rfl,hJx⟩)
      · obtain ⟨q',g,nn,cap,hlt',c1,hnn,c2,c3,c4,hJ'⟩ := hS q _ hJ2 (by omega)
        gi_wp2
        go_roundw
        case rel => exact ⟨q',hJ'⟩
        case measure =>
          rw [upMu_eq c0,upMu_eq (hq _ _ hJ')]
          have := hlt q _ hJ
          have := hlt q' _ hJ'
          (repeat' split) <;> omega
      · gi_wp2
        refine bodyPost_ret (results_none rfl _ _ _) rfl ?_
        exact ⟨⟨_,rfl⟩,.inr hJx⟩
end Go.Proofs.Ytllemobnfpljfaa
