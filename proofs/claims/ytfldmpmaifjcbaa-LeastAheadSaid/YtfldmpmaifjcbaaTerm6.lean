/-
  term.Groups, Top; the document's Groups, Top.
-/
import Derived.Test.YtfldmpmaifjcbaaTermP
set_option linter.unusedSimpArgs false
namespace Go.Proofs.Ytfldmpmaifjcbaa
open Go Go.Hs
def L67 (r : Nat) : Option (List Nat) := kl r [(0,[0,1]),(1,[0,1,5]),(2,[0,1,5,20]),(3,[4]),(4,[0,1,5,6]),(5,[6,28,29,30]),(6,[6,28,29,30,31]),(7,[6,8,28,29,30]),(8,[6,8,28,29,30,36]),(9,[6,28,29,30]),(10,[6,28,29,30]),(11,[6,9]),(12,[6,9,41]),(13,[6,9,41,42]),(14,[6,9,10,41]),(15,[6,9,10,41,46]),(16,[6,9,41]),(17,[6,9,41]),(18,[4])]
def O67 (r : Nat) : List Nat × OT := ordl r []
def L90 (r : Nat) : Option (List Nat) := kl r [(0,[0,1]),(1,[0,1,5]),(2,[0,1,5,6]),(3,[0,1,5,6,19]),(4,[4]),(5,[0,1,5,6,7]),(6,[0,1,5,6,7,21]),(7,[0,1,5,6,7]),(8,[0,1,5,6,7,8]),(9,[0,1,5,6,7,8,9]),(10,[0,1,5,6,7,8,9,30]),(11,[0,1,5,6,7,8,9]),(12,[0,1,5,6,7,8,9]),(13,[0,1,5,6,7,51]),(14,[0,1,5,6,7]),(15,[4])]
def O90 (r : Nat) : List Nat × OT := ordl r []
def L65 (r : Nat) : Option (List Nat) := kl r [(0,[0]),(1,[0,3]),(2,[3,10,11,12]),(3,[3,10,11,12,13]),(4,[5,10,11,12]),(5,[3,10,11,12]),(6,[3,10,11,12]),(7,[2])]
def O65 (r : Nat) : List Nat × OT := ordl r []
def L89 (r : Nat) : Option (List Nat) := kl r [(0,[0]),(1,[3]),(2,[3,11]),(3,[2]),(4,[2])]
def O89 (r : Nat) : List Nat × OT := ordl r []

/-! Rows of booleans in one box. -/
def boC (bl : List Bool) : List AC := bl.map fun b => .im (.bool b)
theorem length_boC {bl : List Bool} : (boC bl).length = bl.length := by simp [boC]
theorem getC_boC {bl : List Bool} {j : Nat} : getC (.im (.bool false)) [boC bl] 0 j = .im (.bool (bl.getD j false)) := by
  unfold getC boC
  by_cases h : j < bl.length
  · simp [h]
  · simp [h]
theorem boC_splice {bl : List Bool} {j : Nat} {x : Bool} (h : j < bl.length) : splice (boC bl) j [.im (.bool x)] = boC (bl.set j x) := by
  rw [splice_one (by rw [length_boC];exact h)]
  simp [boC,List.map_set]

def marksS (ys : List Tm) : Nat → List Bool
  | 0 => List.replicate 10 false
  | i + 1 => if (tAt ys i).k = 7 then (marksS ys i).set (tAt ys i).n.toNat true else marksS ys i
theorem marksS_length {ys : List Tm} : ∀ i,(marksS ys i).length = 10
  | 0 => rfl
  | i + 1 => by simp only [marksS];split <;> simp [marksS_length i]
def hasG (n : Nat) (t : Tm) : Bool := t.k == 7 && t.n == n
theorem marksS_get {ys : List Tm} {n : Nat} (hn : n < 10) (hf : ∀ i,i < ys.length → fieldsF (tAt ys i) = true) : ∀ i,i ≤ ys.length → (marksS ys i).getD n false = (ys.take i).any (hasG n)
  | 0,_ => by
    rw [marksS,List.getD_eq_getElem?_getD,List.getElem?_replicate,if_pos hn];rfl
  | i + 1,hi => by
    have ih := marksS_get (ys := ys) hn hf i (by omega)
    have e : tAt ys i = ys[i] := by simp [tAt,show i < ys.length by omega]
    have hfi := hf i (by omega)
    rw [List.take_add_one,List.getElem?_eq_getElem (by omega),List.any_append,← ih,← e]
    simp only [marksS,Option.toList,List.any_cons,List.any_nil,Bool.or_false]
    split
    · rename_i hk
      have h19 : 1 ≤ (tAt ys i).n ∧ (tAt ys i).n ≤ 9 := by
        unfold fieldsF at hfi
        split at hfi
        · cases hfi
        · simp [hk] at hfi;exact hfi
      by_cases hnn : (tAt ys i).n.toNat = n
      · have : hasG n (tAt ys i) = true := by simp [hasG,hk];omega
        rw [this,Bool.or_true]
        simp [List.getD_eq_getElem?_getD,List.getElem?_set,hnn,marksS_length,hn]
      · have : hasG n (tAt ys i) = false := by simp [hasG,hk];omega
        rw [this,Bool.or_false]
        simp [List.getD_eq_getElem?_getD,List.getElem?_set,hnn]
    · rename_i hk
      have : hasG n (tAt ys i) = false := by simp [hasG,hk]
      rw [this,Bool.or_false]

def nodesF (l : List Tm) (q : Int) : List Tm := ex l ((lowsF l).getD q.toNat 0).toNat (q + 1).toNat
def groupsN (ys : List Tm) (n : Nat) : List Int := ((List.range n).filter fun n => ys.any (hasG n)).map fun (n : Nat) => (n : Int)
def groupsF (l : List Tm) (q : Int) : List Int := if 0 ≤ q ∧ q < (lowsF l).length then groupsN (nodesF l q) 10 else []
theorem groupsN_succ {ys : List Tm} {n : Nat} : groupsN ys (n + 1) = if ys.any (hasG n) then groupsN ys n ++ [(n : Int)] else groupsN ys n := by
  unfold groupsN
  rw [List.range_succ,List.filter_append]
  cases h : ys.any (hasG n) <;> simp [h]
theorem groupsN_length {ys : List Tm} {n : Nat} : (groupsN ys n).length ≤ n := by
  unfold groupsN
  rw [List.length_map]
  exact Nat.le_trans (List.length_filter_le _ _) (by simp)

theorem tAt_ex {l : List Tm} {a b i : Nat} (h : i < (ex l a b).length) : tAt (ex l a b) i = tAt l (a + i) := by
  rw [length_ex] at h
  simp only [tAt,ex_eq,List.getD_eq_getElem?_getD]
  rw [List.getElem?_take,if_pos (by omega),List.getElem?_drop]
theorem fields7 {t : Tm} (h : fieldsF t = true) : t.k = 7 → 1 ≤ t.n ∧ t.n ≤ 9 := by
  intro hk
  unfold fieldsF at h
  split at h
  · cases h
  · simp [hk] at h;exact h
theorem nodes_fields {l : List Tm} {q : Int} (hq : 0 ≤ q ∧ q < (lowsF l).length) {i : Nat} (hi : i < (nodesF l q).length) : fieldsF (tAt (nodesF l q) i) = true := by
  have hr : rightF l = true := by
    cases hr : rightF l with
    | true => rfl
    | false => have := lowsF_len (l := l);rw [hr] at this;simp at this;rw [this] at hq;simp at hq;omega
  unfold nodesF at hi ⊢
  rw [tAt_ex hi]
  rw [length_ex] at hi
  exact (term_of_right hr).fields _ (by omega)

theorem Groups_ok (l : List Tm) (q : Int) (hl : l.length ≤ 1000) : ContractR Try.prog 67 [.c (.sl 8 (tRows l)),.c (.im (.int .i64 q))] (fun r => ∃ b,r = .c (.own b 3 1 (kRows .i64 (groupsF l q)))) := by
  (refine contract_of_awp (L := L67) Try.func67 rfl (by kernel_rfl) (by first|rfl|decide) (by first|rfl|kernel_rfl) ?_;simp only [Try.ntmps67,initEnv,Env.keys,List.map_nil,List.map_cons,List.append_nil,List.cons_append,List.nil_append])
  (repeat (first|(with_reducible (first|refine Aq ?_|(refine Ar ?_;intro KR kR)|refine Ab ?_|refine As ?_|refine Ae ?_|refine At ?_|refine Al ?_|refine Ag ?_|(refine Ad O67 (by kernel_rfl) (by kernel_rfl) ?_;intro KR kR;simp only [O67,ordl,↓reduceIte,reduceCtorEq,Nat.reduceEqDiff])))|((with_reducible first|refine Oz ?_|refine Rv ?_|refine Rl ?_|refine Rg ?_|refine Re ?_|refine Nz ?_);intro K hK;simp (disch := omega) only [go_sem,seval,boC_splice,getC_boC,length_boC,Tm.cs,binSet,length_tRows,tRows_ex,tRows_frz,getK,getA,getB,getN,getTm,getSet];(try ((with_reducible first|refine Gt ?_|refine Gv rfl ?_);simp (disch := omega) only [go_sem,seval,boC_splice,getC_boC,length_boC,Tm.cs,binSet,length_tRows,tRows_ex,tRows_frz,getK,getA,getB,getN,getTm,getSet]));((repeat (first|(intro (xb : Blk))|(intro (xk : Nat))|(intro hx)|(refine ⟨by (first|omega|(intro hg;simp [-List.getD_eq_getElem?_getD] at hg;omega)|assumption|decide),?_⟩)));refine hK _ ?_;clear K hK))|((with_reducible first|refine Onq ?_|refine Rn ?_);simp only [go_sem,seval,L65,O65,L67,O67,L89,O89,L90,O90];refine kR _ ?_;clear KR kR)|(simp only [thenE,inB,↓reduceIte,reduceCtorEq,Nat.reduceEqDiff])))
  ((with_reducible (first|refine Oz ?_|refine Rg ?_|refine Re ?_|refine Nz ?_));intro K hK;simp (disch := omega) only [go_sem,seval,boC_splice,getC_boC,length_boC,Tm.cs,binSet,length_tRows,tRows_ex,tRows_frz,getK,getA,getB,getN,getTm,getSet];(try ((with_reducible refine Gt ?_);simp (disch := omega) only [go_sem,seval,boC_splice,getC_boC,length_boC,Tm.cs,binSet,length_tRows,tRows_ex,tRows_frz,getK,getA,getB,getN,getTm,getSet]));refine ⟨[],by simp,by simp [Env.sel,Env.get,Env.keys,AV.isS],?_⟩;simp (disch := omega) only [go_sem,seval,boC_splice,getC_boC,length_boC,Tm.cs,binSet,length_tRows,tRows_ex,tRows_frz,getK,getA,getB,getN,getTm,getSet];refine ⟨_,_,ContractH.n (Low_ok l),?_⟩;intro r H' hr hk;(try obtain rfl := keys_nil hk);(obtain ⟨b,rfl⟩ := hr);(try simp (disch := omega) only [AV.flat,AC.flat,AC.flat.flatL,AC.flat.flatLL,go_sem,seval,boC_splice,getC_boC,length_boC,Tm.cs,binSet,length_tRows,tRows_ex,tRows_frz,getK,getA,getB,getN,getTm,getSet]);((repeat (first|(intro (xb : Blk))|(intro (xk : Nat))|(intro hx)|(refine ⟨by (first|omega|(intro hg;simp [-List.getD_eq_getElem?_getD] at hg;omega)|assumption|decide),?_⟩)));refine hK _ ?_;clear K hK))
  have h1 := lowsF_le (l := l)
  have h2 := lowsF_le2 (l := l)
  (repeat (first|(with_reducible (first|refine Aq ?_|(refine Ar ?_;intro KR kR)|refine Ab ?_|refine As ?_|refine Ae ?_|refine At ?_|refine Al ?_|refine Ag ?_|(refine Ad O67 (by kernel_rfl) (by kernel_rfl) ?_;intro KR kR;simp only [O67,ordl,↓reduceIte,reduceCtorEq,Nat.reduceEqDiff])))|((with_reducible first|refine Oz ?_|refine Rv ?_|refine Rl ?_|refine Rg ?_|refine Re ?_|refine Nz ?_);intro K hK;simp (disch := omega) only [go_sem,seval,boC_splice,getC_boC,length_boC,Tm.cs,binSet,length_tRows,tRows_ex,tRows_frz,getK,getA,getB,getN,getTm,getSet];(try ((with_reducible first|refine Gt ?_|refine Gv rfl ?_);simp (disch := omega) only [go_sem,seval,boC_splice,getC_boC,length_boC,Tm.cs,binSet,length_tRows,tRows_ex,tRows_frz,getK,getA,getB,getN,getTm,getSet]));((repeat (first|(intro (xb : Blk))|(intro (xk : Nat))|(intro hx)|(refine ⟨by (first|omega|(intro hg;simp [-List.getD_eq_getElem?_getD] at hg;omega)|assumption|decide),?_⟩)));refine hK _ ?_;clear K hK))|((with_reducible first|refine Onq ?_|refine Rn ?_);simp only [go_sem,seval,L65,O65,L67,O67,L89,O89,L90,O90];refine kR _ ?_;clear KR kR)|(simp only [thenE,inB,↓reduceIte,reduceCtorEq,Nat.reduceEqDiff])))
  ((with_reducible refine Ac ?_);intro K hK;simp (disch := omega) only [condK,go_sem,seval,boC_splice,getC_boC,length_boC,Tm.cs,binSet,length_tRows,tRows_ex,tRows_frz,getK,getA,getB,getN,getTm,getSet];refine hK _ ?_ ?_;all_goals clear K hK;all_goals intro hq;all_goals (try simp only [qF,reduceCtorEq] at hq);all_goals (try (exfalso;first|exact hq|omega)))
  · (repeat (first|(with_reducible (first|refine Aq ?_|(refine Ar ?_;intro KR kR)|refine Ab ?_|refine As ?_|refine Ae ?_|refine At ?_|refine Al ?_|refine Ag ?_|(refine Ad O67 (by kernel_rfl) (by kernel_rfl) ?_;intro KR kR;simp only [O67,ordl,↓reduceIte,reduceCtorEq,Nat.reduceEqDiff])))|((with_reducible first|refine Oz ?_|refine Rv ?_|refine Rl ?_|refine Rg ?_|refine Re ?_|refine Nz ?_);intro K hK;simp (disch := omega) only [go_sem,seval,boC_splice,getC_boC,length_boC,Tm.cs,binSet,length_tRows,tRows_ex,tRows_frz,getK,getA,getB,getN,getTm,getSet];(try ((with_reducible first|refine Gt ?_|refine Gv rfl ?_);simp (disch := omega) only [go_sem,seval,boC_splice,getC_boC,length_boC,Tm.cs,binSet,length_tRows,tRows_ex,tRows_frz,getK,getA,getB,getN,getTm,getSet]));((repeat (first|(intro (xb : Blk))|(intro (xk : Nat))|(intro hx)|(refine ⟨by (first|omega|(intro hg;simp [-List.getD_eq_getElem?_getD] at hg;omega)|assumption|decide),?_⟩)));refine hK _ ?_;clear K hK))|((with_reducible first|refine Onq ?_|refine Rn ?_);simp only [go_sem,seval,L65,O65,L67,O67,L89,O89,L90,O90];refine kR _ ?_;clear KR kR)|(simp only [thenE,inB,↓reduceIte,reduceCtorEq,Nat.reduceEqDiff])))
    (simp only [retQ,Try.results67];simp (disch := omega) only [resK,resT,resAV,Env.sel,Env.keys,List.map_nil,List.map_cons,List.all_nil,List.all_cons,AV.isS,Bool.not_false,Bool.and_self,Option.map_some,List.length_cons,List.length_nil,Nat.zero_add,Nat.reduceAdd,not_false_eq_true,true_and,and_true,ne_eq,go_sem,seval,boC_splice,getC_boC,length_boC,Tm.cs,binSet,length_tRows,tRows_ex,tRows_frz,getK,getA,getB,getN,getTm,getSet])
    exact ⟨none,by rw [groupsF,if_neg (by omega)];rfl⟩
  · have hq' := hq
    have hlo := (lowsF_low0 (l := l)) q.toNat
    (repeat (first|(with_reducible (first|refine Aq ?_|(refine Ar ?_;intro KR kR)|refine Ab ?_|refine As ?_|refine Ae ?_|refine At ?_|refine Al ?_|refine Ag ?_|(refine Ad O67 (by kernel_rfl) (by kernel_rfl) ?_;intro KR kR;simp only [O67,ordl,↓reduceIte,reduceCtorEq,Nat.reduceEqDiff])))|((with_reducible first|refine Oz ?_|refine Rv ?_|refine Rl ?_|refine Rg ?_|refine Re ?_|refine Nz ?_);intro K hK;simp (disch := omega) only [go_sem,seval,boC_splice,getC_boC,length_boC,Tm.cs,binSet,length_tRows,tRows_ex,tRows_frz,getK,getA,getB,getN,getTm,getSet];(try ((with_reducible first|refine Gt ?_|refine Gv rfl ?_);simp (disch := omega) only [go_sem,seval,boC_splice,getC_boC,length_boC,Tm.cs,binSet,length_tRows,tRows_ex,tRows_frz,getK,getA,getB,getN,getTm,getSet]));((repeat (first|(intro (xb : Blk))|(intro (xk : Nat))|(intro hx)|(refine ⟨by (first|omega|(intro hg;simp [-List.getD_eq_getElem?_getD] at hg;omega)|assumption|decide),?_⟩)));refine hK _ ?_;clear K hK))|((with_reducible first|refine Onq ?_|refine Rn ?_);simp only [go_sem,seval,L65,O65,L67,O67,L89,O89,L90,O90];refine kR _ ?_;clear KR kR)|(simp only [thenE,inB,↓reduceIte,reduceCtorEq,Nat.reduceEqDiff])))
    have hyl : (nodesF l q).length ≤ l.length := by rw [nodesF,length_ex];omega
    have hfs : ∀ i,i < (nodesF l q).length → fieldsF (tAt (nodesF l q) i) = true := fun i hi => nodes_fields (by omega) hi
    have hg : groupsF l q = groupsN (nodesF l q) 10 := by rw [groupsF,if_pos (by omega)]
    rw [hg]
    change awp _ _ _ _ _ [_,(29,.c (.im (.int .i64 (nodesF l q).length))),(28,.c (.sl 8 (tRows (nodesF l q)))),_,_,_,_]
    generalize nodesF l q = ys at *
    refine awp_loop [6,28,29,30,1006] (fun k S => ∃ i : Nat,i ≤ ys.length ∧ k = ys.length - i ∧
      S = [(6,.c (.ptr 1006 [] xk 10 0 0)),(28,.c (.sl 8 (tRows ys))),(29,.c (.im (.int .i64 ys.length))),(30,.c (.im (.int .i64 i))),(1006,.box xk 137 (boC (marksS ys i)))]) _ ⟨0,by omega,rfl,rfl⟩ ?_
    rintro k S' ⟨i,g1,hk,rfl⟩
    have hml := marksS_length (ys := ys) i
    by_cases hi : i < ys.length
    · have hf7 := fields7 (hfs i hi)
      (repeat' (first|(with_reducible (first|refine Aq ?_|(refine Ar ?_;intro KR kR)|refine Ab ?_|refine As ?_|refine Ae ?_|refine At ?_|refine Al ?_|refine Ag ?_|(refine Ad O67 (by kernel_rfl) (by kernel_rfl) ?_;intro KR kR;simp only [O67,ordl,↓reduceIte,reduceCtorEq,Nat.reduceEqDiff])))|((with_reducible first|refine Oz ?_|refine Rv ?_|refine Rl ?_|refine Rg ?_|refine Re ?_|refine Nz ?_);intro K hK;simp (disch := omega) only [go_sem,seval,boC_splice,getC_boC,length_boC,Tm.cs,binSet,length_tRows,tRows_ex,tRows_frz,getK,getA,getB,getN,getTm,getSet];(try ((with_reducible first|refine Gt ?_|refine Gv rfl ?_);simp (disch := omega) only [go_sem,seval,boC_splice,getC_boC,length_boC,Tm.cs,binSet,length_tRows,tRows_ex,tRows_frz,getK,getA,getB,getN,getTm,getSet]));((repeat (first|(intro (xb : Blk))|(intro (xk : Nat))|(intro hx)|(refine ⟨by (first|omega|(intro hg;simp [-List.getD_eq_getElem?_getD] at hg;omega)|assumption|decide),?_⟩)));refine hK _ ?_;clear K hK))|((with_reducible first|refine Onq ?_|refine Rn ?_);simp only [go_sem,seval,L65,O65,L67,O67,L89,O89,L90,O90];refine kR _ ?_;clear KR kR)|(simp only [thenE,inB,↓reduceIte,reduceCtorEq,Nat.reduceEqDiff])|((with_reducible refine Ac ?_);intro K hK;simp (disch := omega) only [condK,go_sem,seval,boC_splice,getC_boC,length_boC,Tm.cs,binSet,length_tRows,tRows_ex,tRows_frz,getK,getA,getB,getN,getTm,getSet];refine hK _ ?_ ?_;all_goals clear K hK;all_goals intro hq;all_goals (try simp only [qF,reduceCtorEq] at hq);all_goals (try (exfalso;first|exact hq|omega)))))
      all_goals (refine gh_no ⟨ys.length - (i + 1),by omega,i + 1,by omega,rfl,?_⟩;simp only [marksS])
      all_goals (first|rw [if_pos (by omega)]|rw [if_neg (by omega)])
      all_goals ((try simp (disch := omega) only [List.cons.injEq,Prod.mk.injEq,AV.c.injEq,AV.agg.injEq,AV.opt.injEq,AV.tup.injEq,AV.row.injEq,AV.box.injEq,AV.mapo.injEq,AC.im.injEq,AC.sl.injEq,AC.adr.injEq,AC.ref.injEq,AC.ptr.injEq,AC.own.injEq,AC.fn.injEq,Value.int.injEq,Value.bool.injEq,Value.string.injEq,heq_eq_eq,go_sem,seval,boC_splice,getC_boC,length_boC,Tm.cs,binSet,length_tRows,tRows_ex,tRows_frz,getK,getA,getB,getN,getTm,getSet]);(try (repeat' refine And.intro ?_ ?_));all_goals (first|rfl|omega|skip))
    · have ei : i = ys.length := by omega
      subst ei
      (repeat' (first|(with_reducible (first|refine Aq ?_|(refine Ar ?_;intro KR kR)|refine Ab ?_|refine As ?_|refine Ae ?_|refine At ?_|refine Al ?_|refine Ag ?_|(refine Ad O67 (by kernel_rfl) (by kernel_rfl) ?_;intro KR kR;simp only [O67,ordl,↓reduceIte,reduceCtorEq,Nat.reduceEqDiff])))|((with_reducible first|refine Oz ?_|refine Rv ?_|refine Rl ?_|refine Rg ?_|refine Re ?_|refine Nz ?_);intro K hK;simp (disch := omega) only [go_sem,seval,boC_splice,getC_boC,length_boC,Tm.cs,binSet,length_tRows,tRows_ex,tRows_frz,getK,getA,getB,getN,getTm,getSet];(try ((with_reducible first|refine Gt ?_|refine Gv rfl ?_);simp (disch := omega) only [go_sem,seval,boC_splice,getC_boC,length_boC,Tm.cs,binSet,length_tRows,tRows_ex,tRows_frz,getK,getA,getB,getN,getTm,getSet]));((repeat (first|(intro (xb : Blk))|(intro (xk : Nat))|(intro hx)|(refine ⟨by (first|omega|(intro hg;simp [-List.getD_eq_getElem?_getD] at hg;omega)|assumption|decide),?_⟩)));refine hK _ ?_;clear K hK))|((with_reducible first|refine Onq ?_|refine Rn ?_);simp only [go_sem,seval,L65,O65,L67,O67,L89,O89,L90,O90];refine kR _ ?_;clear KR kR)|(simp only [thenE,inB,↓reduceIte,reduceCtorEq,Nat.reduceEqDiff])|((with_reducible refine Ac ?_);intro K hK;simp (disch := omega) only [condK,go_sem,seval,boC_splice,getC_boC,length_boC,Tm.cs,binSet,length_tRows,tRows_ex,tRows_frz,getK,getA,getB,getN,getTm,getSet];refine hK _ ?_ ?_;all_goals clear K hK;all_goals intro hq;all_goals (try simp only [qF,reduceCtorEq] at hq);all_goals (try (exfalso;first|exact hq|omega)))))
      refine awp_loop [6,9,41,1006,1009] (fun k S => ∃ (n : Nat) (nb : Blk),n ≤ 10 ∧ k = 10 - n ∧
        S = [(6,.c (.ptr 1006 [] xk 10 0 0)),(9,.c (.ref 1009 [] nb 1 0 (groupsN ys n).length)),(41,.c (.im (.int .i64 n))),(1006,.box xk 137 (boC (marksS ys ys.length))),(1009,.row nb 3 1 (kRows .i64 (groupsN ys n)))]) _ ⟨0,none,by omega,rfl,rfl⟩ ?_
      rintro k S' ⟨n,nb,g1,hk,rfl⟩
      have hgl := groupsN_length (ys := ys) (n := n)
      by_cases hi : n < 10
      · have hmk := marksS_get (ys := ys) hi hfs ys.length (Nat.le_refl _)
        rw [List.take_length] at hmk
        (repeat' (first|(with_reducible (first|refine Aq ?_|(refine Ar ?_;intro KR kR)|refine Ab ?_|refine As ?_|refine Ae ?_|refine At ?_|refine Al ?_|refine Ag ?_|(refine Ad O67 (by kernel_rfl) (by kernel_rfl) ?_;intro KR kR;simp only [O67,ordl,↓reduceIte,reduceCtorEq,Nat.reduceEqDiff])))|((with_reducible first|refine Oz ?_|refine Rv ?_|refine Rl ?_|refine Rg ?_|refine Re ?_|refine Nz ?_);intro K hK;simp (disch := omega) only [go_sem,seval,boC_splice,getC_boC,length_boC,Tm.cs,binSet,length_tRows,tRows_ex,tRows_frz,getK,getA,getB,getN,getTm,getSet];(try ((with_reducible first|refine Gt ?_|refine Gv rfl ?_);simp (disch := omega) only [go_sem,seval,boC_splice,getC_boC,length_boC,Tm.cs,binSet,length_tRows,tRows_ex,tRows_frz,getK,getA,getB,getN,getTm,getSet]));((repeat (first|(intro (xb : Blk))|(intro (xk : Nat))|(intro hx)|(refine ⟨by (first|omega|(intro hg;simp [-List.getD_eq_getElem?_getD] at hg;omega)|assumption|decide),?_⟩)));refine hK _ ?_;clear K hK))|((with_reducible first|refine Onq ?_|refine Rn ?_);simp only [go_sem,seval,L65,O65,L67,O67,L89,O89,L90,O90];refine kR _ ?_;clear KR kR)|(simp only [thenE,inB,↓reduceIte,reduceCtorEq,Nat.reduceEqDiff])|((with_reducible refine Ac ?_);intro K hK;simp (disch := omega) only [condK,go_sem,seval,boC_splice,getC_boC,length_boC,Tm.cs,binSet,length_tRows,tRows_ex,tRows_frz,getK,getA,getB,getN,getTm,getSet];refine hK _ ?_ ?_;all_goals clear K hK;all_goals intro hq;all_goals (try simp only [qF,reduceCtorEq] at hq);all_goals (try (exfalso;first|exact hq|omega)))))
        · refine gh_no ⟨10 - (n + 1),by omega,n + 1,xb,by omega,rfl,?_⟩
          rw [groupsN_succ,if_pos (by rw [← hmk];exact hq)]
          ((try simp (disch := omega) only [List.cons.injEq,Prod.mk.injEq,AV.c.injEq,AV.agg.injEq,AV.opt.injEq,AV.tup.injEq,AV.row.injEq,AV.box.injEq,AV.mapo.injEq,AC.im.injEq,AC.sl.injEq,AC.adr.injEq,AC.ref.injEq,AC.ptr.injEq,AC.own.injEq,AC.fn.injEq,Value.int.injEq,Value.bool.injEq,Value.string.injEq,heq_eq_eq,go_sem,seval,boC_splice,getC_boC,length_boC,Tm.cs,binSet,length_tRows,tRows_ex,tRows_frz,getK,getA,getB,getN,getTm,getSet]);(try (repeat' refine And.intro ?_ ?_));all_goals (first|rfl|omega|skip))
        · refine gh_no ⟨10 - (n + 1),by omega,n + 1,nb,by omega,rfl,?_⟩
          rw [groupsN_succ,if_neg (by rw [← hmk,hq];decide)]
          ((try simp (disch := omega) only [List.cons.injEq,Prod.mk.injEq,AV.c.injEq,AV.agg.injEq,AV.opt.injEq,AV.tup.injEq,AV.row.injEq,AV.box.injEq,AV.mapo.injEq,AC.im.injEq,AC.sl.injEq,AC.adr.injEq,AC.ref.injEq,AC.ptr.injEq,AC.own.injEq,AC.fn.injEq,Value.int.injEq,Value.bool.injEq,Value.string.injEq,heq_eq_eq,go_sem,seval,boC_splice,getC_boC,length_boC,Tm.cs,binSet,length_tRows,tRows_ex,tRows_frz,getK,getA,getB,getN,getTm,getSet]);(try (repeat' refine And.intro ?_ ?_));all_goals (first|rfl|omega|skip))
      · have ei : n = 10 := by omega
        subst ei
        (repeat' (first|(with_reducible (first|refine Aq ?_|(refine Ar ?_;intro KR kR)|refine Ab ?_|refine As ?_|refine Ae ?_|refine At ?_|refine Al ?_|refine Ag ?_|(refine Ad O67 (by kernel_rfl) (by kernel_rfl) ?_;intro KR kR;simp only [O67,ordl,↓reduceIte,reduceCtorEq,Nat.reduceEqDiff])))|((with_reducible first|refine Oz ?_|refine Rv ?_|refine Rl ?_|refine Rg ?_|refine Re ?_|refine Nz ?_);intro K hK;simp (disch := omega) only [go_sem,seval,boC_splice,getC_boC,length_boC,Tm.cs,binSet,length_tRows,tRows_ex,tRows_frz,getK,getA,getB,getN,getTm,getSet];(try ((with_reducible first|refine Gt ?_|refine Gv rfl ?_);simp (disch := omega) only [go_sem,seval,boC_splice,getC_boC,length_boC,Tm.cs,binSet,length_tRows,tRows_ex,tRows_frz,getK,getA,getB,getN,getTm,getSet]));((repeat (first|(intro (xb : Blk))|(intro (xk : Nat))|(intro hx)|(refine ⟨by (first|omega|(intro hg;simp [-List.getD_eq_getElem?_getD] at hg;omega)|assumption|decide),?_⟩)));refine hK _ ?_;clear K hK))|((with_reducible first|refine Onq ?_|refine Rn ?_);simp only [go_sem,seval,L65,O65,L67,O67,L89,O89,L90,O90];refine kR _ ?_;clear KR kR)|(simp only [thenE,inB,↓reduceIte,reduceCtorEq,Nat.reduceEqDiff])|((with_reducible refine Ac ?_);intro K hK;simp (disch := omega) only [condK,go_sem,seval,boC_splice,getC_boC,length_boC,Tm.cs,binSet,length_tRows,tRows_ex,tRows_frz,getK,getA,getB,getN,getTm,getSet];refine hK _ ?_ ?_;all_goals clear K hK;all_goals intro hq;all_goals (try simp only [qF,reduceCtorEq] at hq);all_goals (try (exfalso;first|exact hq|omega)))))
        (simp only [retQ,Try.results67];simp (disch := omega) only [resK,resT,resAV,Env.sel,Env.keys,List.map_nil,List.map_cons,List.all_nil,List.all_cons,AV.isS,Bool.not_false,Bool.and_self,Option.map_some,List.length_cons,List.length_nil,Nat.zero_add,Nat.reduceAdd,not_false_eq_true,true_and,and_true,ne_eq,go_sem,seval,boC_splice,getC_boC,length_boC,Tm.cs,binSet,length_tRows,tRows_ex,tRows_frz,getK,getA,getB,getN,getTm,getSet])
        exact ⟨nb,rfl⟩
def topF (l : List Tm) : Int := (groupsF l ((l.length : Int) - 1)).getD ((groupsF l ((l.length : Int) - 1)).length - 1) 0
theorem groupsF_length {l : List Tm} {q : Int} : (groupsF l q).length ≤ 10 := by
  unfold groupsF
  split
  · exact groupsN_length
  · simp

theorem Top_ok (l : List Tm) (hl : l.length ≤ 1000) : Contract Try.prog 65 [.c (.sl 8 (tRows l))] (.c (.im (.int .i64 (topF l)))) := by
  (refine contract_of_awp (L := L65) Try.func65 rfl (by kernel_rfl) (by first|rfl|decide) (by first|rfl|kernel_rfl) ?_;simp only [Try.ntmps65,initEnv,Env.keys,List.map_nil,List.map_cons,List.append_nil,List.cons_append,List.nil_append])
  unfold topF
  (repeat (first|(with_reducible (first|refine Aq ?_|(refine Ar ?_;intro KR kR)|refine Ab ?_|refine As ?_|refine Ae ?_|refine At ?_|refine Al ?_|refine Ag ?_|(refine Ad O65 (by kernel_rfl) (by kernel_rfl) ?_;intro KR kR;simp only [O65,ordl,↓reduceIte,reduceCtorEq,Nat.reduceEqDiff])))|((with_reducible first|refine Oz ?_|refine Rv ?_|refine Rl ?_|refine Rg ?_|refine Re ?_|refine Nz ?_);intro K hK;simp (disch := omega) only [go_sem,seval,boC_splice,getC_boC,length_boC,Tm.cs,binSet,length_tRows,tRows_ex,tRows_frz,getK,getA,getB,getN,getTm,getSet];(try ((with_reducible first|refine Gt ?_|refine Gv rfl ?_);simp (disch := omega) only [go_sem,seval,boC_splice,getC_boC,length_boC,Tm.cs,binSet,length_tRows,tRows_ex,tRows_frz,getK,getA,getB,getN,getTm,getSet]));((repeat (first|(intro (xb : Blk))|(intro (xk : Nat))|(intro hx)|(refine ⟨by (first|omega|(intro hg;simp [-List.getD_eq_getElem?_getD] at hg;omega)|assumption|decide),?_⟩)));refine hK _ ?_;clear K hK))|((with_reducible first|refine Onq ?_|refine Rn ?_);simp only [go_sem,seval,L65,O65,L67,O67,L89,O89,L90,O90];refine kR _ ?_;clear KR kR)|(simp only [thenE,inB,↓reduceIte,reduceCtorEq,Nat.reduceEqDiff])))
  ((with_reducible (first|refine Oz ?_|refine Rg ?_|refine Re ?_|refine Nz ?_));intro K hK;simp (disch := omega) only [go_sem,seval,boC_splice,getC_boC,length_boC,Tm.cs,binSet,length_tRows,tRows_ex,tRows_frz,getK,getA,getB,getN,getTm,getSet];(try ((with_reducible refine Gt ?_);simp (disch := omega) only [go_sem,seval,boC_splice,getC_boC,length_boC,Tm.cs,binSet,length_tRows,tRows_ex,tRows_frz,getK,getA,getB,getN,getTm,getSet]));refine ⟨[],by simp,by simp [Env.sel,Env.get,Env.keys,AV.isS],?_⟩;simp (disch := omega) only [go_sem,seval,boC_splice,getC_boC,length_boC,Tm.cs,binSet,length_tRows,tRows_ex,tRows_frz,getK,getA,getB,getN,getTm,getSet];refine ⟨_,_,ContractH.n (Groups_ok l ((l.length : Int) - 1) hl),?_⟩;intro r H' hr hk;(try obtain rfl := keys_nil hk);(obtain ⟨b,rfl⟩ := hr);(try simp (disch := omega) only [AV.flat,AC.flat,AC.flat.flatL,AC.flat.flatLL,go_sem,seval,boC_splice,getC_boC,length_boC,Tm.cs,binSet,length_tRows,tRows_ex,tRows_frz,getK,getA,getB,getN,getTm,getSet]);((repeat (first|(intro (xb : Blk))|(intro (xk : Nat))|(intro hx)|(refine ⟨by (first|omega|(intro hg;simp [-List.getD_eq_getElem?_getD] at hg;omega)|assumption|decide),?_⟩)));refine hK _ ?_;clear K hK))
  have hgl := groupsF_length (l := l) (q := (l.length : Int) - 1)
  generalize groupsF l ((l.length : Int) - 1) = gs at *
  (repeat (first|(with_reducible (first|refine Aq ?_|(refine Ar ?_;intro KR kR)|refine Ab ?_|refine As ?_|refine Ae ?_|refine At ?_|refine Al ?_|refine Ag ?_|(refine Ad O65 (by kernel_rfl) (by kernel_rfl) ?_;intro KR kR;simp only [O65,ordl,↓reduceIte,reduceCtorEq,Nat.reduceEqDiff])))|((with_reducible first|refine Oz ?_|refine Rv ?_|refine Rl ?_|refine Rg ?_|refine Re ?_|refine Nz ?_);intro K hK;simp (disch := omega) only [go_sem,seval,boC_splice,getC_boC,length_boC,Tm.cs,binSet,length_tRows,tRows_ex,tRows_frz,getK,getA,getB,getN,getTm,getSet];(try ((with_reducible first|refine Gt ?_|refine Gv rfl ?_);simp (disch := omega) only [go_sem,seval,boC_splice,getC_boC,length_boC,Tm.cs,binSet,length_tRows,tRows_ex,tRows_frz,getK,getA,getB,getN,getTm,getSet]));((repeat (first|(intro (xb : Blk))|(intro (xk : Nat))|(intro hx)|(refine ⟨by (first|omega|(intro hg;simp [-List.getD_eq_getElem?_getD] at hg;omega)|assumption|decide),?_⟩)));refine hK _ ?_;clear K hK))|((with_reducible first|refine Onq ?_|refine Rn ?_);simp only [go_sem,seval,L65,O65,L67,O67,L89,O89,L90,O90];refine kR _ ?_;clear KR kR)|(simp only [thenE,inB,↓reduceIte,reduceCtorEq,Nat.reduceEqDiff])))
  refine awp_loop [3,10,11,12,1010] (fun k S => ∃ i : Nat,i ≤ gs.length ∧ k = gs.length - i ∧
    S = [(3,.c (.im (.int .i64 (if i = 0 then 0 else gs.getD (i - 1) 0)))),(10,.c (.ref 1010 [] b 1 0 gs.length)),(11,.c (.im (.int .i64 gs.length))),(12,.c (.im (.int .i64 i))),(1010,.row b 3 1 (kRows .i64 gs))]) _ ⟨0,by omega,rfl,rfl⟩ ?_
  rintro k S' ⟨i,h1,hk,rfl⟩
  (repeat' (first|(with_reducible (first|refine Aq ?_|(refine Ar ?_;intro KR kR)|refine Ab ?_|refine As ?_|refine Ae ?_|refine At ?_|refine Al ?_|refine Ag ?_|(refine Ad O65 (by kernel_rfl) (by kernel_rfl) ?_;intro KR kR;simp only [O65,ordl,↓reduceIte,reduceCtorEq,Nat.reduceEqDiff])))|((with_reducible first|refine Oz ?_|refine Rv ?_|refine Rl ?_|refine Rg ?_|refine Re ?_|refine Nz ?_);intro K hK;simp (disch := omega) only [go_sem,seval,boC_splice,getC_boC,length_boC,Tm.cs,binSet,length_tRows,tRows_ex,tRows_frz,getK,getA,getB,getN,getTm,getSet];(try ((with_reducible first|refine Gt ?_|refine Gv rfl ?_);simp (disch := omega) only [go_sem,seval,boC_splice,getC_boC,length_boC,Tm.cs,binSet,length_tRows,tRows_ex,tRows_frz,getK,getA,getB,getN,getTm,getSet]));((repeat (first|(intro (xb : Blk))|(intro (xk : Nat))|(intro hx)|(refine ⟨by (first|omega|(intro hg;simp [-List.getD_eq_getElem?_getD] at hg;omega)|assumption|decide),?_⟩)));refine hK _ ?_;clear K hK))|((with_reducible first|refine Onq ?_|refine Rn ?_);simp only [go_sem,seval,L65,O65,L67,O67,L89,O89,L90,O90];refine kR _ ?_;clear KR kR)|(simp only [thenE,inB,↓reduceIte,reduceCtorEq,Nat.reduceEqDiff])|((with_reducible refine Ac ?_);intro K hK;simp (disch := omega) only [condK,go_sem,seval,boC_splice,getC_boC,length_boC,Tm.cs,binSet,length_tRows,tRows_ex,tRows_frz,getK,getA,getB,getN,getTm,getSet];refine hK _ ?_ ?_;all_goals clear K hK;all_goals intro hq;all_goals (try simp only [qF,reduceCtorEq] at hq);all_goals (try (exfalso;first|exact hq|omega)))))
  · refine gh_no ⟨gs.length - (i + 1),by omega,i + 1,by omega,rfl,?_⟩
    rw [if_neg (by omega)]
    ((try simp (disch := omega) only [List.cons.injEq,Prod.mk.injEq,AV.c.injEq,AV.agg.injEq,AV.opt.injEq,AV.tup.injEq,AV.row.injEq,AV.box.injEq,AV.mapo.injEq,AC.im.injEq,AC.sl.injEq,AC.adr.injEq,AC.ref.injEq,AC.ptr.injEq,AC.own.injEq,AC.fn.injEq,Value.int.injEq,Value.bool.injEq,Value.string.injEq,heq_eq_eq,go_sem,seval,boC_splice,getC_boC,length_boC,Tm.cs,binSet,length_tRows,tRows_ex,tRows_frz,getK,getA,getB,getN,getTm,getSet]);(try (repeat' refine And.intro ?_ ?_));all_goals (first|rfl|omega|skip))
  · (simp only [retQ,Try.results65];simp (disch := omega) only [resK,resT,resAV,Env.sel,Env.keys,List.map_nil,List.map_cons,List.all_nil,List.all_cons,AV.isS,Bool.not_false,Bool.and_self,Option.map_some,List.length_cons,List.length_nil,Nat.zero_add,Nat.reduceAdd,not_false_eq_true,true_and,and_true,ne_eq,go_sem,seval,boC_splice,getC_boC,length_boC,Tm.cs,binSet,length_tRows,tRows_ex,tRows_frz,getK,getA,getB,getN,getTm,getSet])
    have ei : i = gs.length := by omega
    subst ei
    split
    · rename_i h0
      have : gs = [] := List.eq_nil_of_length_eq_zero h0
      subst this;rfl
    · rfl
end Go.Proofs.Ytfldmpmaifjcbaa
