import Derived.Test.YtllemobnfpljfaaRank3
import Derived.Test.YtllemobnfpljfaaHty
import Derived.ChangeKeysEq
set_option linter.unusedSimpArgs false
set_option linter.unusedVariables false
set_option maxRecDepth 100000
set_option maxHeartbeats 8000000
namespace Go.Proofs.Ytllemobnfpljfaa
open Go Go.Hs
theorem nilPair {P : Program} {f : FuncId} {args : List AV} {R R' : AV → Prop} {s1 s2 : Nat} (h : ContractR P f args R) (hm : ∀ r,R r → R' r ∨ (r = .agg [.nil,.nil] ∧ R' (.agg [.sl s1 [],.sl s2 []]))) : ContractR P f args R' := by
  refine ⟨h.callable,fun w p vs ow hp ha hO => (h.calls w p vs ow hp ha hO).mono ?_⟩
  rintro e w' ⟨v,p',r,H',ow',O,hr,hk,he,hch,hpp,hp',hrd,rest⟩
  rcases hm r hr with h|⟨rfl,h⟩
  · exact ⟨v,p',r,H',ow',O,h,hk,he,hch,hpp,hp',hrd,rest⟩
  · refine ⟨v,p',_,H',ow',O,h,hk,he,hch,hpp,hp',?_,rest⟩
    obtain ⟨us,rfl,ho⟩ := hrd
    refine ⟨us,rfl,?_⟩
    generalize us.toList = l at ho
    cases ho with
    | per h1 t =>
      cases t with
      | per h2 t2 =>
        cases h1;cases h2
        exact .per (.nilS _ _) (.per (.nilS _ _) t2)
def oRow (x : Blk × List Int) : List AC := [.own x.1 3 1 (kRows .i64 x.2)]
def oRows (m : List (Blk × List Int)) : List (List AC) := m.map oRow
def bAt (m : List (Blk × List Int)) (i : Nat) : Blk := (m.getD i (none,[])).1
def vAt (m : List (Blk × List Int)) (i : Nat) : List Int := (m.getD i (none,[])).2
theorem length_oRows {m : List (Blk × List Int)} : (oRows m).length = m.length := by simp [oRows]
theorem getOwn {z : AC} {m : List (Blk × List Int)} {i : Nat} (h : i < m.length) : getC z (oRows m) i 0 = .own (bAt m i) 3 1 (kRows .i64 (vAt m i)) := by
  unfold getC bAt vAt
  simp [oRows,oRow,List.getD_eq_getElem?_getD,h]
theorem getO {m : List (Blk × List Int)} {i : Nat} (h : i < m.length) : (oRows m).getD i [] = [.own (bAt m i) 3 1 (kRows .i64 (vAt m i))] := by
  unfold bAt vAt
  simp [oRows,oRow,List.getD_eq_getElem?_getD,h]
theorem getOwn' {z : AC} {m : List (Blk × List Int)} {i j : Nat} {x : Blk × List Int} (h : j < m.length) : getC z (oRows (m.set i x)) j 0 = .own (bAt (m.set i x) j) 3 1 (kRows .i64 (vAt (m.set i x) j)) := getOwn (by simpa using h)
theorem getO' {m : List (Blk × List Int)} {i j : Nat} {x : Blk × List Int} (h : j < m.length) : (oRows (m.set i x)).getD j [] = [.own (bAt (m.set i x) j) 3 1 (kRows .i64 (vAt (m.set i x) j))] := getO (by simpa using h)
theorem getOwn'' {z : AC} {m : List (Blk × List Int)} {i j k : Nat} {x y : Blk × List Int} (h : j < m.length) : getC z (oRows ((m.set i x).set k y)) j 0 = .own (bAt ((m.set i x).set k y) j) 3 1 (kRows .i64 (vAt ((m.set i x).set k y) j)) := getOwn (by simpa using h)
theorem getO'' {m : List (Blk × List Int)} {i j k : Nat} {x y : Blk × List Int} (h : j < m.length) : (oRows ((m.set i x).set k y)).getD j [] = [.own (bAt ((m.set i x).set k y) j) 3 1 (kRows .i64 (vAt ((m.set i x).set k y) j))] := getO (by simpa using h)
theorem setO {m : List (Blk × List Int)} {i : Nat} {b : Blk} {r : List Int} : (oRows m).set i [.own b 3 1 (kRows .i64 r)] = oRows (m.set i (b,r)) := by
  simp [oRows,oRow,List.map_set]
theorem updO {m : List (Blk × List Int)} {i : Nat} {r : List Int} (h : i < m.length) : updL (oRows m) [(i,0)] (kRows .i64 r) = oRows (m.set i (bAt m i,r)) := by
  unfold updL
  rw [getOwn h]
  simp only [getO h,updL,List.set_cons_zero,setO]
theorem bAt_set {m : List (Blk × List Int)} {i j : Nat} {r : List Int} : bAt (m.set i (bAt m i,r)) j = bAt m j := by
  unfold bAt
  by_cases e : i = j
  · subst e
    by_cases h : i < m.length
    · simp [List.getD_eq_getElem?_getD,h]
    · simp [List.getD_eq_getElem?_getD,h]
  · simp [List.getD_eq_getElem?_getD,List.getElem?_set,e]
theorem vAt_same {m : List (Blk × List Int)} {i : Nat} {b : Blk} {r : List Int} (h : i < m.length) : vAt (m.set i (b,r)) i = r := by
  unfold vAt
  simp [List.getD_eq_getElem?_getD,h]
theorem vAt_same' {m : List (Blk × List Int)} {i j : Nat} {x : Blk × List Int} {b : Blk} {r : List Int} (h : i < m.length) : vAt ((m.set j x).set i (b,r)) i = r := by
  unfold vAt
  simp [List.getD_eq_getElem?_getD,h]
theorem vAt_other {m : List (Blk × List Int)} {i j : Nat} {b : Blk} {r : List Int} (h : i ≠ j) : vAt (m.set i (b,r)) j = vAt m j := by
  unfold vAt
  simp [List.getD_eq_getElem?_getD,List.getElem?_set,h]
theorem frz_kRows {k : IntKind} {l : List Int} : frzLL (kRows k l) = kRows k l := by
  rw [frzLL_eq]
  simp only [kRows,List.map_map]
  rfl
theorem frz_oRows {m : List (Blk × List Int)} : frzLL (oRows m) = rRows (m.map (·.2)) := by
  rw [frzLL_eq]
  simp only [oRows,rRows,List.map_map]
  refine List.map_congr_left fun x _ => ?_
  show frzL [AC.own x.1 3 1 (kRows .i64 x.2)] = _
  rw [frzL_eq]
  simp only [List.map_cons,List.map_nil,AC.frz,frz_kRows,Function.comp]
theorem oRows_snoc {m : List (Blk × List Int)} {b : Blk} {r : List Int} : oRows m ++ [[.own b 3 1 (kRows .i64 r)]] = oRows (m ++ [(b,r)]) := by
  simp [oRows,oRow]
theorem rAt_map {m : List (Blk × List Int)} {i : Nat} : rAt (m.map (·.2)) i = vAt m i := by
  unfold rAt vAt
  by_cases h : i < m.length
  · simp [List.getD_eq_getElem?_getD,h]
  · simp [List.getD_eq_getElem?_getD,h]
def gAt (m : List (Blk × List Int)) (i k : Nat) : Int := (vAt m i).getD k 0
theorem gAt_set {m : List (Blk × List Int)} {i k a c : Nat} {b : Blk} {v : Int} (hi : i < m.length) (hk : k < (vAt m i).length) : gAt (m.set i (b,(vAt m i).set k v)) a c = if a = i ∧ c = k then v else gAt m a c := by
  unfold gAt
  by_cases e : a = i
  · subst e
    rw [vAt_same hi]
    by_cases e2 : c = k
    · subst e2
      simp [List.getD_eq_getElem?_getD,hk]
    · have e3 : k ≠ c := fun h => e2 h.symm
      simp [List.getD_eq_getElem?_getD,List.getElem?_set,e2,e3]
  · rw [vAt_other (fun h => e h.symm),if_neg (fun h => e h.1)]
theorem vlen_set {m : List (Blk × List Int)} {i k a : Nat} {b : Blk} {v : Int} (hi : i < m.length) : (vAt (m.set i (b,(vAt m i).set k v)) a).length = (vAt m a).length := by
  by_cases e : a = i
  · subst e;rw [vAt_same hi,List.length_set]
  · rw [vAt_other (fun h => e h.symm)]
theorem set_mid {p : List Int} {z v : Int} {k m : Nat} (h : p.length = k) : (p ++ List.replicate (m + 1) z).set k v = (p ++ [v]) ++ List.replicate m z := by
  subst h
  simp [List.replicate_succ]
theorem rep_snoc {z : Int} {i : Nat} : List.replicate i z ++ [z] = List.replicate (i + 1) z := by
  rw [List.replicate_succ']
theorem tabStep {m : List (Blk × List Int)} {n i : Nat} {b : Blk} {r : List Int} (h : m.length = i) (hi : i < n) :
    (oRows m ++ List.replicate (n - i) [AC.nil]).set i (splice ((oRows m ++ List.replicate (n - i) [AC.nil]).getD i []) 0 [.own b 3 1 (kRows .i64 r)]) = oRows (m ++ [(b,r)]) ++ List.replicate (n - (i + 1)) [AC.nil] := by
  obtain ⟨k,hk⟩ : ∃ k,n - i = k + 1 := ⟨n - i - 1,by omega⟩
  have hk2 : n - (i + 1) = k := by omega
  have hl : (oRows m).length = i := by rw [length_oRows,h]
  rw [hk,hk2,List.replicate_succ]
  subst hl
  have e : (oRows m ++ [AC.nil] :: List.replicate k [AC.nil]).getD (oRows m).length [] = [AC.nil] := by
    simp [List.getD_eq_getElem?_getD]
  rw [e,splice_one (by simp)]
  simp [oRows,oRow]
theorem rk_lens {b d : List (List Int)} {n : Nat} (h : RkOk b d n) : b.length = n ∧ d.length = n ∧ (∀ i,i < n → (rAt b i).length = n) ∧ ∀ i,i < n → (rAt d i).length = n := by
  obtain ⟨⟨h1,h2⟩,⟨h3,h4⟩,_⟩ := h
  have e1 : b.length = n := by omega
  have e2 : d.length = n := by omega
  exact ⟨e1,e2,fun i hi => by have := h2 i (by omega);omega,fun i hi => by have := h4 i (by omega);omega⟩
theorem rk_cell {b d : List (List Int)} {n : Nat} (h : RkOk b d n) {i k : Nat} (hi : i < n) (hk : k < n) : 0 ≤ rGet b i k ∧ (i = k → rGet b i k = 0 ∧ rGet d i k = 0) ∧ (i ≠ k → (rGet d i k = 1 ∨ rGet d i k = -1) ∧ rGet d k i = - rGet d i k) := by
  obtain ⟨_,_,h5⟩ := h
  obtain ⟨g1,g2,g3⟩ := h5 i (by simpa using hi)
  have g4 := g3 k (by simpa using hk)
  refine ⟨g4.1,fun e => by subst e;exact ⟨g1,g2⟩,fun e => ?_⟩
  rcases g4.2 with g|g
  · exact absurd g e
  · exact g
def withB (b : List (List Int)) : List (List Int) := b.map (· ++ [0]) ++ [List.replicate (b.length + 1) 0]
def withD (d : List (List Int)) : List (List Int) := d.map (· ++ [1]) ++ [List.replicate d.length (-1) ++ [0]]
def withBF (b d : List (List Int)) : List (List Int) := if rkB b d b.length then withB b else []
def withDF (b d : List (List Int)) : List (List Int) := if rkB b d b.length then withD d else []
theorem with_ext {m : List (List Int)} {b : List (List Int)} {v : Int} {z : List Int} (hl : m.length = b.length + 1) (h1 : ∀ i,i < b.length → rAt m i = rAt b i ++ [v]) (h2 : rAt m b.length = z) : m = b.map (· ++ [v]) ++ [z] := by
  refine rows_ext (by simp [hl]) fun j hj => ?_
  by_cases e : j < b.length
  · rw [h1 j e]
    have e2 : j < (b.map (· ++ [v])).length := by simp [e]
    simp [rAt,List.getD_eq_getElem?_getD,e,List.getElem?_append_left e2]
  · have : j = b.length := by omega
    subst this
    rw [h2]
    simp [rAt,List.getD_eq_getElem?_getD]
end Go.Proofs.Ytllemobnfpljfaa
set_option linter.unusedSimpArgs false
namespace Go.Proofs.Ytllemobnfpljfaa
open Go Go.Hs
theorem guardSet : Try.prog.eqGuardType Try.prog.depth 106 = false := by kernel_rfl
theorem infoU64s : (Try.prog.info? 104).isSome = true := by kernel_rfl
theorem infoU64 : ∃ i,Try.prog.info? 104 = some i := Option.isSome_iff_exists.1 infoU64s
theorem cellsU64 : Try.prog.cellsOf 104 = 1 := by kernel_rfl
theorem eqInSet (x0 x1 x2 x3 y0 y1 y2 y3 : Int) (w : World) : (Op.equalIn 10000 106 (.agg #[.int .u64 x0,.int .u64 x1,.int .u64 x2,.int .u64 x3]) (.agg #[.int .u64 y0,.int .u64 y1,.int .u64 y2,.int .u64 y3])).run Try.prog w =
    .ok (x0 == y0 && (x1 == y1 && (x2 == y2 && x3 == y3))) w := by
  obtain ⟨i,hi⟩ := infoU64
  rw [show (10000 : Nat) = 9999 + 1 from rfl,run_equalIn_array w 9999 _ _ Try.underlying106 hi,cellsU64]
  have hp : ∀ (cs : Array Value) (j : Nat) (v : Value) (w : World),cs[j]? = some v → (part 104 cs j).run Try.prog w = .ok v w := by
    intro cs j v w h
    simp [part,isAgg,run_underlying Try.underlying104,h]
  have he : ∀ (a b : Int) (w : World),(Op.equalIn 9999 104 (.int .u64 a) (.int .u64 b)).run Try.prog w = .ok (a == b) w := fun a b w => run_equalIn_int w 9998 104 .u64 .u64 a b Try.underlying104
  simp only [List.range_eq_range',List.range',Op.eqItems,Sem.run_bind,Nat.zero_mul,Nat.one_mul,Nat.mul_one,Nat.zero_add,Nat.reduceAdd]
  rw [hp _ 0 (.int .u64 x0) w rfl,Result.andThen_ok,hp _ 0 (.int .u64 y0) w rfl,Result.andThen_ok,he,Result.andThen_ok]
  cases (x0 == y0)
  · simp
  simp only [Bool.not_true,Bool.false_eq_true,if_false,Sem.run_bind]
  rw [hp _ 1 (.int .u64 x1) w rfl,Result.andThen_ok,hp _ 1 (.int .u64 y1) w rfl,Result.andThen_ok,he,Result.andThen_ok]
  cases (x1 == y1)
  · simp
  simp only [Bool.not_true,Bool.false_eq_true,if_false,Sem.run_bind]
  rw [hp _ 2 (.int .u64 x2) w rfl,Result.andThen_ok,hp _ 2 (.int .u64 y2) w rfl,Result.andThen_ok,he,Result.andThen_ok]
  cases (x2 == y2)
  · simp
  simp only [Bool.not_true,Bool.false_eq_true,if_false,Sem.run_bind]
  rw [hp _ 3 (.int .u64 x3) w rfl,Result.andThen_ok,hp _ 3 (.int .u64 y3) w rfl,Result.andThen_ok,he,Result.andThen_ok]
  cases (x3 == y3) <;> simp
theorem eqRunSet (xo yo : Operand) (x0 x1 x2 x3 y0 y1 y2 y3 : Int) : EqRun Try.prog .neq 106 xo yo (.agg #[.int .u64 x0,.int .u64 x1,.int .u64 x2,.int .u64 x3]) (.agg #[.int .u64 y0,.int .u64 y1,.int .u64 y2,.int .u64 y3]) (!(x0 == y0 && (x1 == y1 && (x2 == y2 && x3 == y3)))) := by
  intro w
  simp only [Sem.run_bind,run_eqGuard_agg w .neq 106 xo yo _ _ guardSet,Result.andThen_ok,run_neq_struct,eqInSet]
theorem binSet (g : Bool) (xo yo : Operand) (x0 x1 x2 x3 y0 y1 y2 y3 : Int) (K : AV → Prop) :
    binK Try.prog g .neq 106 xo yo (.agg [.im (.int .u64 x0),.im (.int .u64 x1),.im (.int .u64 x2),.im (.int .u64 x3)]) (.agg [.im (.int .u64 y0),.im (.int .u64 y1),.im (.int .u64 y2),.im (.int .u64 y3)]) K =
      K (.c (.im (.bool !(x0 == y0 && (x1 == y1 && (x2 == y2 && x3 == y3)))))) := by
  simp only [binK,imVals,Option.map_some]
  refine propext ⟨fun ⟨b,hb,hK⟩ => ?_,fun h => ⟨_,eqRunSet xo yo _ _ _ _ _ _ _ _,h⟩⟩
  have h1 := hb default
  have h2 := eqRunSet xo yo x0 x1 x2 x3 y0 y1 y2 y3 default
  rw [h1] at h2
  simp only [Result.ok.injEq,Value.bool.injEq,and_true] at h2
  rw [← h2];exact hK
end Go.Proofs.Ytllemobnfpljfaa
set_option linter.unusedSimpArgs false
namespace Go.Proofs.Ytllemobnfpljfaa
open Go Go.Hs
def L153 (r : Nat) : Option (List Nat) := kl r [(0,[1]),(1,[1,11]),(2,[2]),(3,[1,14]),(4,[2]),(5,[2])]
def O153 (r : Nat) : List Nat × OT := ordl r []
def L152 (r : Nat) : Option (List Nat) := kl r [(0,[0,1,2]),(1,[1,2,7]),(2,[1,2,7,13]),(3,[1,2,7,13,14]),(4,[1,2,7,13,14]),(5,[2,24]),(6,[6]),(7,[1,2,7,13,26]),(8,[1,2,7,13,26]),(9,[1,7,54]),(10,[6]),(11,[1,2,7,13,60]),(12,[1,2,7,13,60]),(13,[1,2,7,13,60]),(14,[1,2,7,60]),(15,[1,7,79]),(16,[6]),(17,[6])]
def O152 (r : Nat) : List Nat × OT := ordl r [(9,([],.val 0 (.load 1 (.val 2 (.val 3 (.val 4 (.val 6 (.val 7 (.load 5 (.val 8 (.val 9 (.val 10 (.val 11 (.load 12 (.val 13 (.val 14 (.val 15 (.val 16 (.val 18 (.val 19 (.load 17 (.load 20 (.val 21 (.load 22 (.val 23 (.val 24 (.val 25 (.done))))))))))))))))))))))))))))]
structure Tm where
  k : Int
  a : Int
  b : Int
  n : Int
  s0 : Int
  s1 : Int
  s2 : Int
  s3 : Int
instance : Inhabited Tm := ⟨⟨0,0,0,0,0,0,0,0⟩⟩
def Tm.cs (t : Tm) : List AC := [.im (.int .i64 t.k),.im (.int .i64 t.a),.im (.int .i64 t.b),.im (.int .i64 t.n),.im (.int .u64 t.s0),.im (.int .u64 t.s1),.im (.int .u64 t.s2),.im (.int .u64 t.s3)]
def tRows (l : List Tm) : List (List AC) := l.map Tm.cs
def tAt (l : List Tm) (i : Nat) : Tm := l.getD i default
theorem length_tRows (l : List Tm) : (tRows l).length = l.length := by simp [tRows]
theorem tRows_get (l : List Tm) (i : Nat) : (tRows l)[i]? = (l[i]?).map Tm.cs := by simp [tRows]
theorem tAt_out {l : List Tm} {i : Nat} (h : l[i]? = none) : tAt l i = default := by simp [tAt,h]
theorem tAt_in {l : List Tm} {i : Nat} {t : Tm} (h : l[i]? = some t) : tAt l i = t := by simp [tAt,h]
theorem getK {l : List Tm} {i : Nat} : getC (.im (.int .i64 0)) (tRows l) i 0 = .im (.int .i64 (tAt l i).k) := by
  unfold getC;rw [tRows_get]
  cases h : l[i]? with
  | none => rw [tAt_out h];rfl
  | some t => rw [tAt_in h];rfl
theorem getA {l : List Tm} {i : Nat} : getC (.im (.int .i64 0)) (tRows l) i 1 = .im (.int .i64 (tAt l i).a) := by
  unfold getC;rw [tRows_get]
  cases h : l[i]? with
  | none => rw [tAt_out h];rfl
  | some t => rw [tAt_in h];rfl
theorem getB {l : List Tm} {i : Nat} : getC (.im (.int .i64 0)) (tRows l) i 2 = .im (.int .i64 (tAt l i).b) := by
  unfold getC;rw [tRows_get]
  cases h : l[i]? with
  | none => rw [tAt_out h];rfl
  | some t => rw [tAt_in h];rfl
theorem getN {l : List Tm} {i : Nat} : getC (.im (.int .i64 0)) (tRows l) i 3 = .im (.int .i64 (tAt l i).n) := by
  unfold getC;rw [tRows_get]
  cases h : l[i]? with
  | none => rw [tAt_out h];rfl
  | some t => rw [tAt_in h];rfl
theorem getTm {l : List Tm} {i : Nat} : getR [.im (.int .i64 0),.im (.int .i64 0),.im (.int .i64 0),.im (.int .i64 0),.im (.int .u64 0),.im (.int .u64 0),.im (.int .u64 0),.im (.int .u64 0)] (tRows l) i 0 8 = (tAt l i).cs := by
  unfold getR;rw [tRows_get]
  cases h : l[i]? with
  | none => rw [tAt_out h];rfl
  | some t => rw [tAt_in h];rfl
theorem getSet {l : List Tm} {i : Nat} : getR [.im (.int .u64 0),.im (.int .u64 0),.im (.int .u64 0),.im (.int .u64 0)] (tRows l) i 4 4 = [.im (.int .u64 (tAt l i).s0),.im (.int .u64 (tAt l i).s1),.im (.int .u64 (tAt l i).s2),.im (.int .u64 (tAt l i).s3)] := by
  unfold getR;rw [tRows_get]
  cases h : l[i]? with
  | none => rw [tAt_out h];rfl
  | some t => rw [tAt_in h];rfl
def Tm.noSet (t : Tm) : Bool := t.s0 == 0 && (t.s1 == 0 && (t.s2 == 0 && t.s3 == 0))
def fieldsF (t : Tm) : Bool :=
  if (t.k != 2 && !t.noSet) = true then false else if (t.k == 7) = true then decide (1 ≤ t.n) && decide (t.n ≤ 9) else t.n == 0
theorem fields_ok (t : Tm) : Contract Try.prog 153 [.agg t.cs] (.c (.im (.bool (fieldsF t)))) := by
  (refine contract_of_awp (L := L153) Try.func153 rfl (by kernel_rfl) (by first|rfl|decide) (by first|rfl|kernel_rfl) ?_;simp only [Try.ntmps153,initEnv,Env.keys,List.map_nil,List.map_cons,List.append_nil,List.cons_append,List.nil_append])
  (repeat (first|(refine sA ?_;try intro KR kR)|(with_reducible refine sD O153 ?_;intro KR kR;simp only [O153,ordl,seval])|(refine sB ?_;intro K hK;simp (disch := omega) only [go_sem,seval,Tm.cs,binSet,length_tRows,getK,getA,getB,getN,getTm,getSet];(try ((with_reducible first|refine Gt ?_|refine Gv rfl ?_);simp (disch := omega) only [go_sem,seval,Tm.cs,binSet,length_tRows,getK,getA,getB,getN,getTm,getSet]));(repeat first|intro (xb : Blk)|intro (xk : Nat)|intro hx|refine pC ?_);refine hK _ ?_;clear K hK)|(refine sE ?_;simp only [go_sem,seval,L152,O152,L153,O153];refine kR _ ?_;clear KR kR)|(simp only [thenE,inB,seval])))
  ((with_reducible refine Ac ?_);intro K hK;simp (disch := omega) only [condK,go_sem,seval,Tm.cs,binSet,length_tRows,getK,getA,getB,getN,getTm,getSet];refine hK _ ?_ ?_;all_goals clear K hK)
  · intro h
    (repeat (first|(refine sA ?_;try intro KR kR)|(with_reducible refine sD O153 ?_;intro KR kR;simp only [O153,ordl,seval])|(refine sB ?_;intro K hK;simp (disch := omega) only [go_sem,seval,Tm.cs,binSet,length_tRows,getK,getA,getB,getN,getTm,getSet];(try ((with_reducible first|refine Gt ?_|refine Gv rfl ?_);simp (disch := omega) only [go_sem,seval,Tm.cs,binSet,length_tRows,getK,getA,getB,getN,getTm,getSet]));(repeat first|intro (xb : Blk)|intro (xk : Nat)|intro hx|refine pC ?_);refine hK _ ?_;clear K hK)|(refine sE ?_;simp only [go_sem,seval,L152,O152,L153,O153];refine kR _ ?_;clear KR kR)|(simp only [thenE,inB,seval])))
    (simp only [retQ,Try.results153];simp (disch := omega) only [resK,resT,resAV,Env.sel,Env.keys,List.map_nil,List.map_cons,List.all_nil,List.all_cons,AV.isS,Bool.not_false,Bool.and_self,Option.map_some,List.length_cons,List.length_nil,Nat.zero_add,Nat.reduceAdd,not_false_eq_true,true_and,and_true,ne_eq,go_sem,seval,Tm.cs,binSet,length_tRows,getK,getA,getB,getN,getTm,getSet])
    simp only [fieldsF,Tm.noSet,h,if_true]
  · intro h
    (repeat (first|(refine sA ?_;try intro KR kR)|(with_reducible refine sD O153 ?_;intro KR kR;simp only [O153,ordl,seval])|(refine sB ?_;intro K hK;simp (disch := omega) only [go_sem,seval,Tm.cs,binSet,length_tRows,getK,getA,getB,getN,getTm,getSet];(try ((with_reducible first|refine Gt ?_|refine Gv rfl ?_);simp (disch := omega) only [go_sem,seval,Tm.cs,binSet,length_tRows,getK,getA,getB,getN,getTm,getSet]));(repeat first|intro (xb : Blk)|intro (xk : Nat)|intro hx|refine pC ?_);refine hK _ ?_;clear K hK)|(refine sE ?_;simp only [go_sem,seval,L152,O152,L153,O153];refine kR _ ?_;clear KR kR)|(simp only [thenE,inB,seval])))
    ((with_reducible refine Ac ?_);intro K hK;simp (disch := omega) only [condK,go_sem,seval,Tm.cs,binSet,length_tRows,getK,getA,getB,getN,getTm,getSet];refine hK _ ?_ ?_;all_goals clear K hK)
    · intro h2
      (repeat (first|(refine sA ?_;try intro KR kR)|(with_reducible refine sD O153 ?_;intro KR kR;simp only [O153,ordl,seval])|(refine sB ?_;intro K hK;simp (disch := omega) only [go_sem,seval,Tm.cs,binSet,length_tRows,getK,getA,getB,getN,getTm,getSet];(try ((with_reducible first|refine Gt ?_|refine Gv rfl ?_);simp (disch := omega) only [go_sem,seval,Tm.cs,binSet,length_tRows,getK,getA,getB,getN,getTm,getSet]));(repeat first|intro (xb : Blk)|intro (xk : Nat)|intro hx|refine pC ?_);refine hK _ ?_;clear K hK)|(refine sE ?_;simp only [go_sem,seval,L152,O152,L153,O153];refine kR _ ?_;clear KR kR)|(simp only [thenE,inB,seval])))
      (simp only [retQ,Try.results153];simp (disch := omega) only [resK,resT,resAV,Env.sel,Env.keys,List.map_nil,List.map_cons,List.all_nil,List.all_cons,AV.isS,Bool.not_false,Bool.and_self,Option.map_some,List.length_cons,List.length_nil,Nat.zero_add,Nat.reduceAdd,not_false_eq_true,true_and,and_true,ne_eq,go_sem,seval,Tm.cs,binSet,length_tRows,getK,getA,getB,getN,getTm,getSet])
      simp only [fieldsF,Tm.noSet,h,h2,if_true,Bool.false_eq_true,if_false]
    · intro h2
      (repeat (first|(refine sA ?_;try intro KR kR)|(with_reducible refine sD O153 ?_;intro KR kR;simp only [O153,ordl,seval])|(refine sB ?_;intro K hK;simp (disch := omega) only [go_sem,seval,Tm.cs,binSet,length_tRows,getK,getA,getB,getN,getTm,getSet];(try ((with_reducible first|refine Gt ?_|refine Gv rfl ?_);simp (disch := omega) only [go_sem,seval,Tm.cs,binSet,length_tRows,getK,getA,getB,getN,getTm,getSet]));(repeat first|intro (xb : Blk)|intro (xk : Nat)|intro hx|refine pC ?_);refine hK _ ?_;clear K hK)|(refine sE ?_;simp only [go_sem,seval,L152,O152,L153,O153];refine kR _ ?_;clear KR kR)|(simp only [thenE,inB,seval])))
      (simp only [retQ,Try.results153];simp (disch := omega) only [resK,resT,resAV,Env.sel,Env.keys,List.map_nil,List.map_cons,List.all_nil,List.all_cons,AV.isS,Bool.not_false,Bool.and_self,Option.map_some,List.length_cons,List.length_nil,Nat.zero_add,Nat.reduceAdd,not_false_eq_true,true_and,and_true,ne_eq,go_sem,seval,Tm.cs,binSet,length_tRows,getK,getA,getB,getN,getTm,getSet])
      simp only [fieldsF,Tm.noSet,h,h2,if_true,Bool.false_eq_true,if_false]
def lowF (t : Tm) (o : List Int) (i : Nat) : Int :=
  if t.k = 1 ∨ t.k = 2 then (if t.a = -1 ∧ t.b = -1 then i else -1)
  else if t.k = 3 ∨ t.k = 4 then (if 0 ≤ t.b ∧ t.b = i - 1 ∧ 0 ≤ t.a ∧ t.a = o.getD t.b.toNat 0 - 1 then o.getD t.a.toNat 0 else -1)
  else if t.k = 5 ∨ t.k = 6 ∨ t.k = 7 ∨ t.k = 8 then (if t.b = -1 ∧ 0 ≤ t.a ∧ t.a = i - 1 then o.getD t.a.toNat 0 else -1)
  else -1
theorem low_ok (l : List Tm) (o : List Int) (i : Nat) (hi : i < l.length) (hl : l.length ≤ 1000000) (hol : o.length = i) (ho : ∀ j : Nat,0 ≤ o.getD j 0 ∧ o.getD j 0 ≤ j) :
    Contract Try.prog 152 [.c (.sl 8 (tRows l)),.c (.sl 1 (kRows .i64 o)),.c (.im (.int .i64 i))] (.c (.im (.int .i64 (lowF (tAt l i) o i)))) := by
  have hob := ho (tAt l i).b.toNat
  have hob2 : o.getD (tAt l i).b.toNat 0 ≤ i := by
    by_cases h : (tAt l i).b.toNat < o.length
    · omega
    · simp [List.getD_eq_getElem?_getD,List.getElem?_eq_none (by omega : o.length ≤ (tAt l i).b.toNat)]
  (refine contract_of_awp (L := L152) Try.func152 rfl (by kernel_rfl) (by first|rfl|decide) (by first|rfl|kernel_rfl) ?_;simp only [Try.ntmps152,initEnv,Env.keys,List.map_nil,List.map_cons,List.append_nil,List.cons_append,List.nil_append])
  (repeat' (first|(refine sA ?_;try intro KR kR)|(with_reducible refine sD O152 ?_;intro KR kR;simp only [O152,ordl,seval])|(refine sB ?_;intro K hK;simp (disch := omega) only [go_sem,seval,Tm.cs,binSet,length_tRows,getK,getA,getB,getN,getTm,getSet];(try ((with_reducible first|refine Gt ?_|refine Gv rfl ?_);simp (disch := omega) only [go_sem,seval,Tm.cs,binSet,length_tRows,getK,getA,getB,getN,getTm,getSet]));(repeat first|intro (xb : Blk)|intro (xk : Nat)|intro hx|refine pC ?_);refine hK _ ?_;clear K hK)|(refine sE ?_;simp only [go_sem,seval,L152,O152,L153,O153];refine kR _ ?_;clear KR kR)|(simp only [thenE,inB,seval])|((with_reducible refine Ac ?_);intro K hK;simp (disch := omega) only [condK,go_sem,seval,Tm.cs,binSet,length_tRows,getK,getA,getB,getN,getTm,getSet];refine hK _ ?_ ?_;all_goals clear K hK;all_goals intro hq;all_goals (try simp only [qF,reduceCtorEq] at hq);all_goals (try (exfalso;first|exact hq|omega)))))
  all_goals (try (simp only [retQ,Try.results152];simp (disch := omega) only [resK,resT,resAV,Env.sel,Env.keys,List.map_nil,List.map_cons,List.all_nil,List.all_cons,AV.isS,Bool.not_false,Bool.and_self,Option.map_some,List.length_cons,List.length_nil,Nat.zero_add,Nat.reduceAdd,not_false_eq_true,true_and,and_true,ne_eq,go_sem,seval,Tm.cs,binSet,length_tRows,getK,getA,getB,getN,getTm,getSet]))
  all_goals (apply congrArg (fun z : Int => AV.c (AC.im (Value.int IntKind.i64 z))))
  all_goals (unfold lowF;(repeat' split))
  all_goals first|rfl|omega
end Go.Proofs.Ytllemobnfpljfaa
