import Derived.Test.YtllemobnfpljfaaTerm2
set_option linter.unusedSimpArgs false
set_option maxRecDepth 100000
set_option maxHeartbeats 8000000
namespace Go.Proofs.Ytllemobnfpljfaa
open Go Go.Hs
def L139 (r : Nat) : Option (List Nat) := kl r [(0,[0]),(1,[2,3])]
def O139 (r : Nat) : List Nat × OT := ordl r []
def L105 (r : Nat) : Option (List Nat) := kl r [(0,[0]),(1,[0,3]),(2,[0,3,4]),(3,[0,3,4,5]),(4,[0,3,4,5,17]),(5,[0,3,4,5]),(6,[0,3,4,5,6]),(7,[0,3,4,5,6,7,8]),(8,[0,3,4,5,6,7,8]),(9,[0,3,4,5,6,7,8,77]),(10,[2]),(11,[0,3,4,5,6,7,8,93]),(12,[2]),(13,[0,3,4,5,6,7,8,96]),(14,[0,3,4,5,6,7,8]),(15,[0,3,4,5,6,7,8,9]),(16,[0,3,4,5,6,7,9,101]),(17,[0,3,4,5,6,7,9,109]),(18,[2]),(19,[0,3,4,5,6,7,9]),(20,[0,3,4,5,6,9,115]),(21,[0,3,4,5,6,9,123]),(22,[2]),(23,[0,3,4,5,6]),(24,[0,3,4,5,6,10]),(25,[0,3,4,5,6,10,137]),(26,[0,3,4,5,6,10]),(27,[0,3,4,5,6,10,160]),(28,[2]),(29,[3,181]),(30,[2]),(31,[2])]
def O105 (r : Nat) : List Nat × OT := ordl r [(27,([],.val 0 (.load 1 (.val 2 (.val 3 (.val 4 (.val 5 (.val 6 (.val 7 (.load 8 (.val 9 (.val 10 (.val 11 (.val 12 (.val 13 (.val 14 (.val 15 (.val 17 (.load 16 (.load 18 (.val 19 (.val 20 (.done)))))))))))))))))))))))]
theorem part_ok (k : Int) : Contract Try.prog 139 [.c (.im (.int .i64 k))] (.tup [.c (.im (.bool (decide (3 ≤ k) && decide (k ≤ 8)))),.c (.im (.bool (k == 3 || k == 4)))]) := by
  (refine contract_of_awp (L := L139) Try.func139 rfl (by kernel_rfl) (by first|rfl|decide) (by first|rfl|kernel_rfl) ?_;simp only [Try.ntmps139,initEnv,Env.keys,List.map_nil,List.map_cons,List.append_nil,List.cons_append,List.nil_append])
  (repeat (first|(refine sA ?_;try intro KR kR)|(with_reducible refine sD O139 ?_;intro KR kR;simp only [O139,ordl,seval])|(refine sB ?_;intro K hK;simp (disch := omega) only [go_sem,↓reduceIte,reduceCtorEq,Int.reduceToNat,Nat.reduceEqDiff,Nat.reduceLT,Nat.reduceLeDiff,Nat.reduceMul,Nat.reduceAdd,Tm.cs,binSet,length_tRows,tRows_ex,getK,getA,getB,getN,getTm,getSet,getD_set_same,getD_set_other];(try ((with_reducible first|refine Gt ?_|refine Gv rfl ?_);simp (disch := omega) only [go_sem,↓reduceIte,reduceCtorEq,Int.reduceToNat,Nat.reduceEqDiff,Nat.reduceLT,Nat.reduceLeDiff,Nat.reduceMul,Nat.reduceAdd,Tm.cs,binSet,length_tRows,tRows_ex,getK,getA,getB,getN,getTm,getSet,getD_set_same,getD_set_other]));(repeat first|intro (xb : Blk)|intro (xk : Nat)|intro hx|refine pC ?_);refine hK _ ?_;clear K hK)|(refine sE ?_;simp only [go_sem,↓reduceIte,reduceCtorEq,Int.reduceToNat,Nat.reduceEqDiff,Nat.reduceLT,Nat.reduceLeDiff,Nat.reduceMul,Nat.reduceAdd,L105,O105,L139,O139];refine kR _ ?_;clear KR kR)|(simp only [thenE,inB,seval])))
  (simp only [retQ,Try.results139];simp (disch := omega) only [resK,resT,resAV,Env.sel,Env.keys,List.map_nil,List.map_cons,List.all_nil,List.all_cons,AV.isS,Bool.not_false,Bool.and_self,Option.map_some,List.length_cons,List.length_nil,Nat.zero_add,Nat.reduceAdd,not_false_eq_true,true_and,and_true,ne_eq,go_sem,↓reduceIte,reduceCtorEq,Int.reduceToNat,Nat.reduceEqDiff,Nat.reduceLT,Nat.reduceLeDiff,Nat.reduceMul,Nat.reduceAdd,Tm.cs,binSet,length_tRows,tRows_ex,getK,getA,getB,getN,getTm,getSet,getD_set_same,getD_set_other])
theorem low0_zeros (n : Nat) : Low0 (List.replicate n 0) := by
  intro j
  simp only [List.getD_eq_getElem?_getD,List.getElem?_replicate]
  split <;> simp
theorem low0_set {o : List Int} {i : Nat} {x : Int} (ho : Low0 o) (h0 : 0 ≤ x) (h1 : x ≤ i) : Low0 (o.set i x) := by
  intro j
  by_cases hj : i = j
  · subst hj
    by_cases hl : i < o.length
    · rw [getD_set_same hl];omega
    · rw [List.set_eq_of_length_le (by omega)];exact ho i
  · rw [getD_set_other hj];exact ho j
theorem fields_false {t : Tm} (h : (t.k ≠ 2 ∧ (t.s0 ≠ 0 ∨ t.s1 ≠ 0 ∨ t.s2 ≠ 0 ∨ t.s3 ≠ 0)) ∨ (t.k ≠ 7 ∧ t.n ≠ 0) ∨ (t.k = 7 ∧ (t.n < 1 ∨ 9 < t.n))) : fieldsF t = false := by
  unfold fieldsF Tm.noSet
  split
  · rfl
  · rename_i h1
    simp only [Bool.and_eq_true,Bool.not_eq_true',bne_iff_ne,Bool.and_eq_false_iff,beq_eq_false_iff_ne,ne_eq] at h1
    split
    · rename_i h2
      simp only [beq_iff_eq] at h2
      simp only [Bool.and_eq_false_iff,decide_eq_false_iff_not]
      omega
    · rename_i h2
      simp only [beq_iff_eq] at h2
      simp only [beq_eq_false_iff_ne,ne_eq]
      omega
theorem fields_true {t : Tm} (h1 : t.k = 2 ∨ t.s0 = 0 ∧ t.s1 = 0 ∧ t.s2 = 0 ∧ t.s3 = 0) (h2 : t.k = 7 ∨ t.n = 0) (h3 : t.k ≠ 7 ∨ ¬ t.n < 1 ∧ ¬ 9 < t.n) : fieldsF t = true := by
  cases hf : fieldsF t with
  | true => rfl
  | false =>
    exfalso
    unfold fieldsF Tm.noSet at hf
    split at hf
    · rename_i h4
      simp only [Bool.and_eq_true,Bool.not_eq_true',bne_iff_ne,Bool.and_eq_false_iff,beq_eq_false_iff_ne,ne_eq] at h4
      omega
    · split at hf
      · rename_i h5
        simp only [beq_iff_eq] at h5
        simp only [Bool.and_eq_false_iff,decide_eq_false_iff_not] at hf
        omega
      · rename_i h5
        simp only [beq_iff_eq] at h5
        simp only [beq_eq_false_iff_ne,ne_eq] at hf
        omega
theorem againF_extract {t : Tm} {l : List Tm} {v i : Nat} (hi : i ≤ l.length) : againF t (ex l v i) = true ↔ ∃ j,v ≤ j ∧ j < i ∧ againB t (tAt l j) = true := by
  have hget : ∀ j (hj : j < l.length),tAt l j = l[j] := fun j hj => by simp [tAt,hj]
  unfold againF
  rw [List.any_eq_true]
  constructor
  · rintro ⟨y,hy,hb⟩
    rw [ex_eq,List.mem_iff_getElem?] at hy
    obtain ⟨m,hm⟩ := hy
    rw [List.getElem?_take] at hm
    split at hm
    · rename_i hlt
      rw [List.getElem?_drop] at hm
      obtain ⟨h1,h2⟩ := List.getElem?_eq_some_iff.1 hm
      exact ⟨v + m,by omega,by omega,by rw [hget _ h1,h2];exact hb⟩
    · cases hm
  · rintro ⟨j,h1,h2,h3⟩
    refine ⟨tAt l j,?_,h3⟩
    rw [ex_eq,List.mem_iff_getElem?]
    refine ⟨j - v,?_⟩
    rw [List.getElem?_take,if_pos (by omega),List.getElem?_drop,show v + (j - v) = j by omega,hget j (by omega)]
    exact List.getElem?_eq_getElem (by omega)
theorem lowsG_stop {l : List Tm} {i : Nat} {o : List Int} (h : lowsG l i = some o) (hi : i < l.length) (hb : lowF (tAt l i) o i < 0 ∨ fieldsF (tAt l i) = false ∨ againF (tAt l i) (ex l (lowF (tAt l i) o i).toNat i) = true) : lowsF l = [] := by
  have hn : lowsG l (i + 1) = none := by
    simp only [lowsG,h]
    rw [if_pos hb]
  unfold lowsF
  split
  · rfl
  · rw [lowsG_none hn (by omega)]
theorem take_set_snoc {out o : List Int} {i : Nat} {x : Int} (h : out.take i = o) (hi : i < out.length) : (out.set i x).take (i + 1) = o ++ [x] := by
  subst h
  rw [List.take_add_one,List.take_set_of_le (Nat.le_refl _)]
  simp [hi]
set_option maxHeartbeats 8000000 in
theorem lows_big (l : List Tm) (hl : l.length ≤ 2199023255552) : ContractR Try.prog 105 [.c (.sl 8 (tRows l))] (fun r => ∃ b : Blk,b.isNone = (lowsF l).isEmpty ∧ r = .c (.own b 3 1 (kRows .i64 (lowsF l)))) := by
  (refine contract_of_awp (L := L105) Try.func105 rfl (by kernel_rfl) (by first|rfl|decide) (by first|rfl|kernel_rfl) ?_;simp only [Try.ntmps105,initEnv,Env.keys,List.map_nil,List.map_cons,List.append_nil,List.cons_append,List.nil_append])
  (repeat (first|(refine sA ?_;try intro KR kR)|(with_reducible refine sD O105 ?_;intro KR kR;simp only [O105,ordl,seval])|(refine sB ?_;intro K hK;simp (disch := omega) only [go_sem,↓reduceIte,reduceCtorEq,Int.reduceToNat,Nat.reduceEqDiff,Nat.reduceLT,Nat.reduceLeDiff,Nat.reduceMul,Nat.reduceAdd,Tm.cs,binSet,length_tRows,tRows_ex,getK,getA,getB,getN,getTm,getSet,getD_set_same,getD_set_other];(try ((with_reducible first|refine Gt ?_|refine Gv rfl ?_);simp (disch := omega) only [go_sem,↓reduceIte,reduceCtorEq,Int.reduceToNat,Nat.reduceEqDiff,Nat.reduceLT,Nat.reduceLeDiff,Nat.reduceMul,Nat.reduceAdd,Tm.cs,binSet,length_tRows,tRows_ex,getK,getA,getB,getN,getTm,getSet,getD_set_same,getD_set_other]));(repeat first|intro (xb : Blk)|intro (xk : Nat)|intro hx|refine pC ?_);refine hK _ ?_;clear K hK)|(refine sE ?_;simp only [go_sem,↓reduceIte,reduceCtorEq,Int.reduceToNat,Nat.reduceEqDiff,Nat.reduceLT,Nat.reduceLeDiff,Nat.reduceMul,Nat.reduceAdd,L105,O105,L139,O139];refine kR _ ?_;clear KR kR)|(simp only [thenE,inB,seval])))
  refine awp_loop [0,3,4,5,1013] (fun k S => ∃ (i : Nat) (kb : Nat × Nat) (out o : List Int),i ≤ l.length ∧ lowsG l i = some o ∧ out.length = l.length ∧ out.take i = o ∧ Low0 out ∧ k = l.length - i ∧
    S = [(0,.c (.sl 8 (tRows l))),(3,.c (.ref 1013 [] (some kb) 1 0 l.length)),(4,.c (.im (.int .i64 (leavesF l i)))),(5,.c (.im (.int .i64 i))),(1013,.row (some kb) 3 1 (kRows .i64 out))]) _ ⟨0,_,_,[],by omega,rfl,by simp,by simp,low0_zeros _,rfl,rfl⟩ ?_
  rintro k S' ⟨i,kb,out,o,h1,h2,h3,h4,h5,hk,rfl⟩
  have hol := lowsG_length h2
  have ho := lowsG_low0 h2
  have hlv := leavesF_le l i
  have hob := h5 ((i : Int) - 1).toNat
  have hoo : (tAt l i).b = (i : Int) - 1 → 1 ≤ i → o.getD (tAt l i).b.toNat 0 = out.getD ((i : Int) - 1).toNat 0 := by
    intro e1 e2
    rw [e1,← h4]
    simp only [List.getD_eq_getElem?_getD,List.getElem?_take]
    rw [if_pos (by omega)]
  have hoa : ∀ x : Int,(tAt l i).a = x → 0 ≤ x → x < i → o.getD (tAt l i).a.toNat 0 = out.getD x.toNat 0 := by
    intro x e0 e1 e2
    rw [← h4,e0]
    simp only [List.getD_eq_getElem?_getD,List.getElem?_take]
    rw [if_pos (by omega)]
  (repeat' (first|(refine sA ?_;try intro KR kR)|(with_reducible refine sD O105 ?_;intro KR kR;simp only [O105,ordl,seval])|(refine sB ?_;intro K hK;simp (disch := omega) only [go_sem,↓reduceIte,reduceCtorEq,Int.reduceToNat,Nat.reduceEqDiff,Nat.reduceLT,Nat.reduceLeDiff,Nat.reduceMul,Nat.reduceAdd,Tm.cs,binSet,length_tRows,tRows_ex,getK,getA,getB,getN,getTm,getSet,getD_set_same,getD_set_other];(try ((with_reducible first|refine Gt ?_|refine Gv rfl ?_);simp (disch := omega) only [go_sem,↓reduceIte,reduceCtorEq,Int.reduceToNat,Nat.reduceEqDiff,Nat.reduceLT,Nat.reduceLeDiff,Nat.reduceMul,Nat.reduceAdd,Tm.cs,binSet,length_tRows,tRows_ex,getK,getA,getB,getN,getTm,getSet,getD_set_same,getD_set_other]));(repeat first|intro (xb : Blk)|intro (xk : Nat)|intro hx|refine pC ?_);refine hK _ ?_;clear K hK)|(refine sE ?_;simp only [go_sem,↓reduceIte,reduceCtorEq,Int.reduceToNat,Nat.reduceEqDiff,Nat.reduceLT,Nat.reduceLeDiff,Nat.reduceMul,Nat.reduceAdd,L105,O105,L139,O139];refine kR _ ?_;clear KR kR)|(simp only [thenE,inB,seval])|((with_reducible refine Ac ?_);intro K hK;simp (disch := omega) only [condK,go_sem,↓reduceIte,reduceCtorEq,Int.reduceToNat,Nat.reduceEqDiff,Nat.reduceLT,Nat.reduceLeDiff,Nat.reduceMul,Nat.reduceAdd,Tm.cs,binSet,length_tRows,tRows_ex,getK,getA,getB,getN,getTm,getSet,getD_set_same,getD_set_other];refine hK _ ?_ ?_;all_goals clear K hK;all_goals intro hq;all_goals (try simp only [qF,reduceCtorEq] at hq);all_goals (try (exfalso;first|exact hq|omega)))))
  · (refine sB ?_;intro K hK;simp (disch := omega) only [go_sem,↓reduceIte,reduceCtorEq,Int.reduceToNat,Nat.reduceEqDiff,Nat.reduceLT,Nat.reduceLeDiff,Nat.reduceMul,Nat.reduceAdd,Tm.cs,binSet,length_tRows,tRows_ex,getK,getA,getB,getN,getTm,getSet,getD_set_same,getD_set_other];(try ((with_reducible refine Gt ?_);simp (disch := omega) only [go_sem,↓reduceIte,reduceCtorEq,Int.reduceToNat,Nat.reduceEqDiff,Nat.reduceLT,Nat.reduceLeDiff,Nat.reduceMul,Nat.reduceAdd,Tm.cs,binSet,length_tRows,tRows_ex,getK,getA,getB,getN,getTm,getSet,getD_set_same,getD_set_other]));refine cN ?_;simp (disch := omega) only [go_sem,↓reduceIte,reduceCtorEq,Int.reduceToNat,Nat.reduceEqDiff,Nat.reduceLT,Nat.reduceLeDiff,Nat.reduceMul,Nat.reduceAdd,Tm.cs,binSet,length_tRows,tRows_ex,getK,getA,getB,getN,getTm,getSet,getD_set_same,getD_set_other];refine ⟨_,_,ContractH.n (part_ok (tAt l i).k),?_⟩;intro r H' hr hk;(try obtain rfl := keys_nil hk);(first|subst hr|(obtain ⟨_,rfl⟩ := hr)|(obtain ⟨_,_,rfl⟩ := hr)|(obtain ⟨_,_,_,rfl⟩ := hr));(try simp (disch := omega) only [AV.flat,AC.flat,AC.flat.flatL,AC.flat.flatLL,go_sem,↓reduceIte,reduceCtorEq,Int.reduceToNat,Nat.reduceEqDiff,Nat.reduceLT,Nat.reduceLeDiff,Nat.reduceMul,Nat.reduceAdd,Tm.cs,binSet,length_tRows,tRows_ex,getK,getA,getB,getN,getTm,getSet,getD_set_same,getD_set_other]);(repeat first|intro (xb : Blk)|intro (xk : Nat)|intro hx|refine pC ?_);refine hK _ ?_;clear K hK)
    (repeat' (first|(refine sA ?_;try intro KR kR)|(with_reducible refine sD O105 ?_;intro KR kR;simp only [O105,ordl,seval])|(refine sB ?_;intro K hK;simp (disch := omega) only [go_sem,↓reduceIte,reduceCtorEq,Int.reduceToNat,Nat.reduceEqDiff,Nat.reduceLT,Nat.reduceLeDiff,Nat.reduceMul,Nat.reduceAdd,Tm.cs,binSet,length_tRows,tRows_ex,getK,getA,getB,getN,getTm,getSet,getD_set_same,getD_set_other];(try ((with_reducible first|refine Gt ?_|refine Gv rfl ?_);simp (disch := omega) only [go_sem,↓reduceIte,reduceCtorEq,Int.reduceToNat,Nat.reduceEqDiff,Nat.reduceLT,Nat.reduceLeDiff,Nat.reduceMul,Nat.reduceAdd,Tm.cs,binSet,length_tRows,tRows_ex,getK,getA,getB,getN,getTm,getSet,getD_set_same,getD_set_other]));(repeat first|intro (xb : Blk)|intro (xk : Nat)|intro hx|refine pC ?_);refine hK _ ?_;clear K hK)|(refine sE ?_;simp only [go_sem,↓reduceIte,reduceCtorEq,Int.reduceToNat,Nat.reduceEqDiff,Nat.reduceLT,Nat.reduceLeDiff,Nat.reduceMul,Nat.reduceAdd,L105,O105,L139,O139];refine kR _ ?_;clear KR kR)|(simp only [thenE,inB,seval])|((with_reducible refine Ac ?_);intro K hK;simp (disch := omega) only [condK,go_sem,↓reduceIte,reduceCtorEq,Int.reduceToNat,Nat.reduceEqDiff,Nat.reduceLT,Nat.reduceLeDiff,Nat.reduceMul,Nat.reduceAdd,Tm.cs,binSet,length_tRows,tRows_ex,getK,getA,getB,getN,getTm,getSet,getD_set_same,getD_set_other];refine hK _ ?_ ?_;all_goals clear K hK;all_goals intro hq;all_goals (try simp only [qF,reduceCtorEq] at hq);all_goals (try (exfalso;first|exact hq|omega)))))
    · (simp only [retQ,Try.results105];simp (disch := omega) only [resK,resT,resAV,Env.sel,Env.keys,List.map_nil,List.map_cons,List.all_nil,List.all_cons,AV.isS,Bool.not_false,Bool.and_self,Option.map_some,List.length_cons,List.length_nil,Nat.zero_add,Nat.reduceAdd,not_false_eq_true,true_and,and_true,ne_eq,go_sem,↓reduceIte,reduceCtorEq,Int.reduceToNat,Nat.reduceEqDiff,Nat.reduceLT,Nat.reduceLeDiff,Nat.reduceMul,Nat.reduceAdd,Tm.cs,binSet,length_tRows,tRows_ex,getK,getA,getB,getN,getTm,getSet,getD_set_same,getD_set_other])
      rw [lowsG_stop h2 (by omega) (by
        rcases hq with ((h|h)|h)|h
        · exact .inl (by unfold lowF;repeat' split
                         all_goals omega)
        · exact .inr (.inl (fields_false (.inl h)))
        · exact .inr (.inl (fields_false (.inr (.inl h))))
        · exact .inr (.inl (fields_false (.inr (.inr h)))))]
      exact ⟨none,rfl,rfl⟩
    · (simp only [retQ,Try.results105];simp (disch := omega) only [resK,resT,resAV,Env.sel,Env.keys,List.map_nil,List.map_cons,List.all_nil,List.all_cons,AV.isS,Bool.not_false,Bool.and_self,Option.map_some,List.length_cons,List.length_nil,Nat.zero_add,Nat.reduceAdd,not_false_eq_true,true_and,and_true,ne_eq,go_sem,↓reduceIte,reduceCtorEq,Int.reduceToNat,Nat.reduceEqDiff,Nat.reduceLT,Nat.reduceLeDiff,Nat.reduceMul,Nat.reduceAdd,Tm.cs,binSet,length_tRows,tRows_ex,getK,getA,getB,getN,getTm,getSet,getD_set_same,getD_set_other])
      rw [lowsG_stop h2 (by omega) (by
        refine .inl ?_
        unfold lowF
        repeat' split
        all_goals omega)]
      exact ⟨none,rfl,rfl⟩
    · have hv : lowF (tAt l i) o i = (i : Int) := by
        unfold lowF
        repeat' split
        all_goals omega
      have hV : 0 ≤ (i : Int) ∧ (i : Int) ≤ i := (by omega)
      have hf : fieldsF (tAt l i) = true := fields_true (by omega) (by omega) (by omega)
      have hlv2 : leavesF l (i + 1) = leavesF l i + (if (tAt l i).k = 2 then 1 else 0) := by
        simp only [leavesF];split <;> rfl
      refine awp_loop [0,3,4,5,6,10,1006,1013] (fun k S => ∃ (m kx : Nat),(i : Int) ≤ m ∧ m ≤ i ∧ (∀ j : Nat,((i : Int)).toNat ≤ j → j < m → againB (tAt l i) (tAt l j) = false) ∧ k = i - m ∧
        S = [(0,.c (.sl 8 (tRows l))),(3,.c (.ref 1013 [] (some kb) 1 0 l.length)),(4,.c (.im (.int .i64 (leavesF l (i + 1))))),(5,.c (.im (.int .i64 i))),(6,.c (.ptr 1006 [] kx 8 0 0)),(10,.c (.im (.int .i64 m))),(1006,.box kx 114 (tAt l i).cs),(1013,.row (some kb) 3 1 (kRows .i64 (out.set i ((i : Int)))))]) _ ⟨((i : Int)).toNat,xk,by omega,by omega,by intro j;omega,rfl,?_⟩ ?_
      · rw [Int.toNat_of_nonneg hV.1]
        first|rw [if_pos (by omega)] at hlv2|rw [if_neg (by omega)] at hlv2
        ((try simp (disch := omega) only [List.cons.injEq,Prod.mk.injEq,AV.c.injEq,AV.agg.injEq,AV.opt.injEq,AV.tup.injEq,AV.row.injEq,AV.box.injEq,AV.mapo.injEq,AC.im.injEq,AC.sl.injEq,AC.adr.injEq,AC.ref.injEq,AC.ptr.injEq,AC.own.injEq,AC.fn.injEq,Value.int.injEq,Value.bool.injEq,Value.string.injEq,heq_eq_eq,go_sem,↓reduceIte,reduceCtorEq,Int.reduceToNat,Nat.reduceEqDiff,Nat.reduceLT,Nat.reduceLeDiff,Nat.reduceMul,Nat.reduceAdd,Tm.cs,binSet,length_tRows,tRows_ex,getK,getA,getB,getN,getTm,getSet,getD_set_same,getD_set_other]);(try (repeat' refine And.intro ?_ ?_));all_goals (first|rfl|omega|skip))
      rintro k2 S2 ⟨m,kx,g1,g2,g3,gk,rfl⟩
      (repeat' (first|(refine sA ?_;try intro KR kR)|(with_reducible refine sD O105 ?_;intro KR kR;simp only [O105,ordl,seval])|(refine sB ?_;intro K hK;simp (disch := omega) only [go_sem,↓reduceIte,reduceCtorEq,Int.reduceToNat,Nat.reduceEqDiff,Nat.reduceLT,Nat.reduceLeDiff,Nat.reduceMul,Nat.reduceAdd,Tm.cs,binSet,length_tRows,tRows_ex,getK,getA,getB,getN,getTm,getSet,getD_set_same,getD_set_other];(try ((with_reducible first|refine Gt ?_|refine Gv rfl ?_);simp (disch := omega) only [go_sem,↓reduceIte,reduceCtorEq,Int.reduceToNat,Nat.reduceEqDiff,Nat.reduceLT,Nat.reduceLeDiff,Nat.reduceMul,Nat.reduceAdd,Tm.cs,binSet,length_tRows,tRows_ex,getK,getA,getB,getN,getTm,getSet,getD_set_same,getD_set_other]));(repeat first|intro (xb : Blk)|intro (xk : Nat)|intro hx|refine pC ?_);refine hK _ ?_;clear K hK)|(refine sE ?_;simp only [go_sem,↓reduceIte,reduceCtorEq,Int.reduceToNat,Nat.reduceEqDiff,Nat.reduceLT,Nat.reduceLeDiff,Nat.reduceMul,Nat.reduceAdd,L105,O105,L139,O139];refine kR _ ?_;clear KR kR)|(simp only [thenE,inB,seval])|((with_reducible refine Ac ?_);intro K hK;simp (disch := omega) only [condK,go_sem,↓reduceIte,reduceCtorEq,Int.reduceToNat,Nat.reduceEqDiff,Nat.reduceLT,Nat.reduceLeDiff,Nat.reduceMul,Nat.reduceAdd,Tm.cs,binSet,length_tRows,tRows_ex,getK,getA,getB,getN,getTm,getSet,getD_set_same,getD_set_other];refine hK _ ?_ ?_;all_goals clear K hK;all_goals intro hq;all_goals (try simp only [qF,reduceCtorEq] at hq);all_goals (try (exfalso;first|exact hq|omega)))))
      all_goals (first
        | ((simp only [retQ,Try.results105];simp (disch := omega) only [resK,resT,resAV,Env.sel,Env.keys,List.map_nil,List.map_cons,List.all_nil,List.all_cons,AV.isS,Bool.not_false,Bool.and_self,Option.map_some,List.length_cons,List.length_nil,Nat.zero_add,Nat.reduceAdd,not_false_eq_true,true_and,and_true,ne_eq,go_sem,↓reduceIte,reduceCtorEq,Int.reduceToNat,Nat.reduceEqDiff,Nat.reduceLT,Nat.reduceLeDiff,Nat.reduceMul,Nat.reduceAdd,Tm.cs,binSet,length_tRows,tRows_ex,getK,getA,getB,getN,getTm,getSet,getD_set_same,getD_set_other])
           rw [lowsG_stop h2 (by omega) (.inr (.inr ((againF_extract (by omega)).2 ⟨m,by rw [hv];omega,by omega,by simp [againB];omega⟩)))]
           exact ⟨none,rfl,rfl⟩)
        | (refine gh_no ⟨i - (m + 1),by omega,m + 1,kx,by omega,by omega,?_,rfl,?_⟩
           · intro j hj1 hj2
             by_cases hj : j = m
             · subst hj
               cases hb : againB (tAt l i) (tAt l j) with
               | false => rfl
               | true => simp [againB] at hb;omega
             · exact g3 j hj1 (by omega)
           · ((try simp (disch := omega) only [List.cons.injEq,Prod.mk.injEq,AV.c.injEq,AV.agg.injEq,AV.opt.injEq,AV.tup.injEq,AV.row.injEq,AV.box.injEq,AV.mapo.injEq,AC.im.injEq,AC.sl.injEq,AC.adr.injEq,AC.ref.injEq,AC.ptr.injEq,AC.own.injEq,AC.fn.injEq,Value.int.injEq,Value.bool.injEq,Value.string.injEq,heq_eq_eq,go_sem,↓reduceIte,reduceCtorEq,Int.reduceToNat,Nat.reduceEqDiff,Nat.reduceLT,Nat.reduceLeDiff,Nat.reduceMul,Nat.reduceAdd,Tm.cs,binSet,length_tRows,tRows_ex,getK,getA,getB,getN,getTm,getSet,getD_set_same,getD_set_other]);(try (repeat' refine And.intro ?_ ?_));all_goals (first|rfl|omega|skip)))
        | (have em : i = m := by omega
           subst em
           have hs : lowsG l (i + 1) = some (o ++ [(i : Int)]) := by
             simp only [lowsG,h2,hv]
             rw [if_neg]
             rintro (h|h|h)
             · omega
             · rw [hf] at h;cases h
             · obtain ⟨j,j1,j2,j3⟩ := (againF_extract (by omega)).1 h
               rw [g3 j j1 j2] at j3;cases j3
           refine gh_no ⟨l.length - (i + 1),by omega,i + 1,kb,_,_,by omega,hs,by simp;omega,?_,low0_set h5 hV.1 hV.2,rfl,?_⟩
           · exact take_set_snoc h4 (by omega)
           · ((try simp (disch := omega) only [List.cons.injEq,Prod.mk.injEq,AV.c.injEq,AV.agg.injEq,AV.opt.injEq,AV.tup.injEq,AV.row.injEq,AV.box.injEq,AV.mapo.injEq,AC.im.injEq,AC.sl.injEq,AC.adr.injEq,AC.ref.injEq,AC.ptr.injEq,AC.own.injEq,AC.fn.injEq,Value.int.injEq,Value.bool.injEq,Value.string.injEq,heq_eq_eq,go_sem,↓reduceIte,reduceCtorEq,Int.reduceToNat,Nat.reduceEqDiff,Nat.reduceLT,Nat.reduceLeDiff,Nat.reduceMul,Nat.reduceAdd,Tm.cs,binSet,length_tRows,tRows_ex,getK,getA,getB,getN,getTm,getSet,getD_set_same,getD_set_other]);(try (repeat' refine And.intro ?_ ?_));all_goals (first|rfl|omega|skip))))
    · (simp only [retQ,Try.results105];simp (disch := omega) only [resK,resT,resAV,Env.sel,Env.keys,List.map_nil,List.map_cons,List.all_nil,List.all_cons,AV.isS,Bool.not_false,Bool.and_self,Option.map_some,List.length_cons,List.length_nil,Nat.zero_add,Nat.reduceAdd,not_false_eq_true,true_and,and_true,ne_eq,go_sem,↓reduceIte,reduceCtorEq,Int.reduceToNat,Nat.reduceEqDiff,Nat.reduceLT,Nat.reduceLeDiff,Nat.reduceMul,Nat.reduceAdd,Tm.cs,binSet,length_tRows,tRows_ex,getK,getA,getB,getN,getTm,getSet,getD_set_same,getD_set_other])
      rw [lowsG_stop h2 (by omega) (by
        refine .inl ?_
        unfold lowF
        repeat' split
        all_goals omega)]
      exact ⟨none,rfl,rfl⟩
    · (simp only [retQ,Try.results105];simp (disch := omega) only [resK,resT,resAV,Env.sel,Env.keys,List.map_nil,List.map_cons,List.all_nil,List.all_cons,AV.isS,Bool.not_false,Bool.and_self,Option.map_some,List.length_cons,List.length_nil,Nat.zero_add,Nat.reduceAdd,not_false_eq_true,true_and,and_true,ne_eq,go_sem,↓reduceIte,reduceCtorEq,Int.reduceToNat,Nat.reduceEqDiff,Nat.reduceLT,Nat.reduceLeDiff,Nat.reduceMul,Nat.reduceAdd,Tm.cs,binSet,length_tRows,tRows_ex,getK,getA,getB,getN,getTm,getSet,getD_set_same,getD_set_other])
      rw [lowsG_stop h2 (by omega) (by
        refine .inl ?_
        unfold lowF
        repeat' split
        all_goals omega)]
      exact ⟨none,rfl,rfl⟩
    · have ha1 := hoa (out.getD ((i : Int) - 1).toNat 0 - 1) (by omega) (by omega) (by omega)
      have hv : lowF (tAt l i) o i = out.getD (out.getD ((i : Int) - 1).toNat 0 - 1).toNat 0 := by
        unfold lowF
        repeat' split
        all_goals omega
      have hV : 0 ≤ out.getD (out.getD ((i : Int) - 1).toNat 0 - 1).toNat 0 ∧ out.getD (out.getD ((i : Int) - 1).toNat 0 - 1).toNat 0 ≤ i := (by have := h5 ((out.getD ((i : Int) - 1).toNat 0 - 1)).toNat;omega)
      have hf : fieldsF (tAt l i) = true := fields_true (by omega) (by omega) (by omega)
      have hlv2 : leavesF l (i + 1) = leavesF l i + (if (tAt l i).k = 2 then 1 else 0) := by
        simp only [leavesF];split <;> rfl
      refine awp_loop [0,3,4,5,6,10,1006,1013] (fun k S => ∃ (m kx : Nat),out.getD (out.getD ((i : Int) - 1).toNat 0 - 1).toNat 0 ≤ m ∧ m ≤ i ∧ (∀ j : Nat,(out.getD (out.getD ((i : Int) - 1).toNat 0 - 1).toNat 0).toNat ≤ j → j < m → againB (tAt l i) (tAt l j) = false) ∧ k = i - m ∧
        S = [(0,.c (.sl 8 (tRows l))),(3,.c (.ref 1013 [] (some kb) 1 0 l.length)),(4,.c (.im (.int .i64 (leavesF l (i + 1))))),(5,.c (.im (.int .i64 i))),(6,.c (.ptr 1006 [] kx 8 0 0)),(10,.c (.im (.int .i64 m))),(1006,.box kx 114 (tAt l i).cs),(1013,.row (some kb) 3 1 (kRows .i64 (out.set i (out.getD (out.getD ((i : Int) - 1).toNat 0 - 1).toNat 0))))]) _ ⟨(out.getD (out.getD ((i : Int) - 1).toNat 0 - 1).toNat 0).toNat,xk,by omega,by omega,by intro j;omega,rfl,?_⟩ ?_
      · rw [Int.toNat_of_nonneg hV.1]
        first|rw [if_pos (by omega)] at hlv2|rw [if_neg (by omega)] at hlv2
        ((try simp (disch := omega) only [List.cons.injEq,Prod.mk.injEq,AV.c.injEq,AV.agg.injEq,AV.opt.injEq,AV.tup.injEq,AV.row.injEq,AV.box.injEq,AV.mapo.injEq,AC.im.injEq,AC.sl.injEq,AC.adr.injEq,AC.ref.injEq,AC.ptr.injEq,AC.own.injEq,AC.fn.injEq,Value.int.injEq,Value.bool.injEq,Value.string.injEq,heq_eq_eq,go_sem,↓reduceIte,reduceCtorEq,Int.reduceToNat,Nat.reduceEqDiff,Nat.reduceLT,Nat.reduceLeDiff,Nat.reduceMul,Nat.reduceAdd,Tm.cs,binSet,length_tRows,tRows_ex,getK,getA,getB,getN,getTm,getSet,getD_set_same,getD_set_other]);(try (repeat' refine And.intro ?_ ?_));all_goals (first|rfl|omega|skip))
      rintro k2 S2 ⟨m,kx,g1,g2,g3,gk,rfl⟩
      (repeat' (first|(refine sA ?_;try intro KR kR)|(with_reducible refine sD O105 ?_;intro KR kR;simp only [O105,ordl,seval])|(refine sB ?_;intro K hK;simp (disch := omega) only [go_sem,↓reduceIte,reduceCtorEq,Int.reduceToNat,Nat.reduceEqDiff,Nat.reduceLT,Nat.reduceLeDiff,Nat.reduceMul,Nat.reduceAdd,Tm.cs,binSet,length_tRows,tRows_ex,getK,getA,getB,getN,getTm,getSet,getD_set_same,getD_set_other];(try ((with_reducible first|refine Gt ?_|refine Gv rfl ?_);simp (disch := omega) only [go_sem,↓reduceIte,reduceCtorEq,Int.reduceToNat,Nat.reduceEqDiff,Nat.reduceLT,Nat.reduceLeDiff,Nat.reduceMul,Nat.reduceAdd,Tm.cs,binSet,length_tRows,tRows_ex,getK,getA,getB,getN,getTm,getSet,getD_set_same,getD_set_other]));(repeat first|intro (xb : Blk)|intro (xk : Nat)|intro hx|refine pC ?_);refine hK _ ?_;clear K hK)|(refine sE ?_;simp only [go_sem,↓reduceIte,reduceCtorEq,Int.reduceToNat,Nat.reduceEqDiff,Nat.reduceLT,Nat.reduceLeDiff,Nat.reduceMul,Nat.reduceAdd,L105,O105,L139,O139];refine kR _ ?_;clear KR kR)|(simp only [thenE,inB,seval])|((with_reducible refine Ac ?_);intro K hK;simp (disch := omega) only [condK,go_sem,↓reduceIte,reduceCtorEq,Int.reduceToNat,Nat.reduceEqDiff,Nat.reduceLT,Nat.reduceLeDiff,Nat.reduceMul,Nat.reduceAdd,Tm.cs,binSet,length_tRows,tRows_ex,getK,getA,getB,getN,getTm,getSet,getD_set_same,getD_set_other];refine hK _ ?_ ?_;all_goals clear K hK;all_goals intro hq;all_goals (try simp only [qF,reduceCtorEq] at hq);all_goals (try (exfalso;first|exact hq|omega)))))
      all_goals (first
        | ((simp only [retQ,Try.results105];simp (disch := omega) only [resK,resT,resAV,Env.sel,Env.keys,List.map_nil,List.map_cons,List.all_nil,List.all_cons,AV.isS,Bool.not_false,Bool.and_self,Option.map_some,List.length_cons,List.length_nil,Nat.zero_add,Nat.reduceAdd,not_false_eq_true,true_and,and_true,ne_eq,go_sem,↓reduceIte,reduceCtorEq,Int.reduceToNat,Nat.reduceEqDiff,Nat.reduceLT,Nat.reduceLeDiff,Nat.reduceMul,Nat.reduceAdd,Tm.cs,binSet,length_tRows,tRows_ex,getK,getA,getB,getN,getTm,getSet,getD_set_same,getD_set_other])
           rw [lowsG_stop h2 (by omega) (.inr (.inr ((againF_extract (by omega)).2 ⟨m,by rw [hv];omega,by omega,by simp [againB];omega⟩)))]
           exact ⟨none,rfl,rfl⟩)
        | (refine gh_no ⟨i - (m + 1),by omega,m + 1,kx,by omega,by omega,?_,rfl,?_⟩
           · intro j hj1 hj2
             by_cases hj : j = m
             · subst hj
               cases hb : againB (tAt l i) (tAt l j) with
               | false => rfl
               | true => simp [againB] at hb;omega
             · exact g3 j hj1 (by omega)
           · ((try simp (disch := omega) only [List.cons.injEq,Prod.mk.injEq,AV.c.injEq,AV.agg.injEq,AV.opt.injEq,AV.tup.injEq,AV.row.injEq,AV.box.injEq,AV.mapo.injEq,AC.im.injEq,AC.sl.injEq,AC.adr.injEq,AC.ref.injEq,AC.ptr.injEq,AC.own.injEq,AC.fn.injEq,Value.int.injEq,Value.bool.injEq,Value.string.injEq,heq_eq_eq,go_sem,↓reduceIte,reduceCtorEq,Int.reduceToNat,Nat.reduceEqDiff,Nat.reduceLT,Nat.reduceLeDiff,Nat.reduceMul,Nat.reduceAdd,Tm.cs,binSet,length_tRows,tRows_ex,getK,getA,getB,getN,getTm,getSet,getD_set_same,getD_set_other]);(try (repeat' refine And.intro ?_ ?_));all_goals (first|rfl|omega|skip)))
        | (have em : i = m := by omega
           subst em
           have hs : lowsG l (i + 1) = some (o ++ [out.getD (out.getD ((i : Int) - 1).toNat 0 - 1).toNat 0]) := by
             simp only [lowsG,h2,hv]
             rw [if_neg]
             rintro (h|h|h)
             · omega
             · rw [hf] at h;cases h
             · obtain ⟨j,j1,j2,j3⟩ := (againF_extract (by omega)).1 h
               rw [g3 j j1 j2] at j3;cases j3
           refine gh_no ⟨l.length - (i + 1),by omega,i + 1,kb,_,_,by omega,hs,by simp;omega,?_,low0_set h5 hV.1 hV.2,rfl,?_⟩
           · exact take_set_snoc h4 (by omega)
           · ((try simp (disch := omega) only [List.cons.injEq,Prod.mk.injEq,AV.c.injEq,AV.agg.injEq,AV.opt.injEq,AV.tup.injEq,AV.row.injEq,AV.box.injEq,AV.mapo.injEq,AC.im.injEq,AC.sl.injEq,AC.adr.injEq,AC.ref.injEq,AC.ptr.injEq,AC.own.injEq,AC.fn.injEq,Value.int.injEq,Value.bool.injEq,Value.string.injEq,heq_eq_eq,go_sem,↓reduceIte,reduceCtorEq,Int.reduceToNat,Nat.reduceEqDiff,Nat.reduceLT,Nat.reduceLeDiff,Nat.reduceMul,Nat.reduceAdd,Tm.cs,binSet,length_tRows,tRows_ex,getK,getA,getB,getN,getTm,getSet,getD_set_same,getD_set_other]);(try (repeat' refine And.intro ?_ ?_));all_goals (first|rfl|omega|skip))))
    · (simp only [retQ,Try.results105];simp (disch := omega) only [resK,resT,resAV,Env.sel,Env.keys,List.map_nil,List.map_cons,List.all_nil,List.all_cons,AV.isS,Bool.not_false,Bool.and_self,Option.map_some,List.length_cons,List.length_nil,Nat.zero_add,Nat.reduceAdd,not_false_eq_true,true_and,and_true,ne_eq,go_sem,↓reduceIte,reduceCtorEq,Int.reduceToNat,Nat.reduceEqDiff,Nat.reduceLT,Nat.reduceLeDiff,Nat.reduceMul,Nat.reduceAdd,Tm.cs,binSet,length_tRows,tRows_ex,getK,getA,getB,getN,getTm,getSet,getD_set_same,getD_set_other])
      rw [lowsG_stop h2 (by omega) (by
        refine .inl ?_
        unfold lowF
        repeat' split
        all_goals omega)]
      exact ⟨none,rfl,rfl⟩
    · have ha1 := hoa ((i : Int) - 1) (by omega) (by omega) (by omega)
      have hv : lowF (tAt l i) o i = out.getD ((i : Int) - 1).toNat 0 := by
        unfold lowF
        repeat' split
        all_goals omega
      have hV : 0 ≤ out.getD ((i : Int) - 1).toNat 0 ∧ out.getD ((i : Int) - 1).toNat 0 ≤ i := (by have := h5 (((i : Int) - 1)).toNat;omega)
      have hf : fieldsF (tAt l i) = true := fields_true (by omega) (by omega) (by omega)
      have hlv2 : leavesF l (i + 1) = leavesF l i + (if (tAt l i).k = 2 then 1 else 0) := by
        simp only [leavesF];split <;> rfl
      refine awp_loop [0,3,4,5,6,10,1006,1013] (fun k S => ∃ (m kx : Nat),out.getD ((i : Int) - 1).toNat 0 ≤ m ∧ m ≤ i ∧ (∀ j : Nat,(out.getD ((i : Int) - 1).toNat 0).toNat ≤ j → j < m → againB (tAt l i) (tAt l j) = false) ∧ k = i - m ∧
        S = [(0,.c (.sl 8 (tRows l))),(3,.c (.ref 1013 [] (some kb) 1 0 l.length)),(4,.c (.im (.int .i64 (leavesF l (i + 1))))),(5,.c (.im (.int .i64 i))),(6,.c (.ptr 1006 [] kx 8 0 0)),(10,.c (.im (.int .i64 m))),(1006,.box kx 114 (tAt l i).cs),(1013,.row (some kb) 3 1 (kRows .i64 (out.set i (out.getD ((i : Int) - 1).toNat 0))))]) _ ⟨(out.getD ((i : Int) - 1).toNat 0).toNat,xk,by omega,by omega,by intro j;omega,rfl,?_⟩ ?_
      · rw [Int.toNat_of_nonneg hV.1]
        first|rw [if_pos (by omega)] at hlv2|rw [if_neg (by omega)] at hlv2
        ((try simp (disch := omega) only [List.cons.injEq,Prod.mk.injEq,AV.c.injEq,AV.agg.injEq,AV.opt.injEq,AV.tup.injEq,AV.row.injEq,AV.box.injEq,AV.mapo.injEq,AC.im.injEq,AC.sl.injEq,AC.adr.injEq,AC.ref.injEq,AC.ptr.injEq,AC.own.injEq,AC.fn.injEq,Value.int.injEq,Value.bool.injEq,Value.string.injEq,heq_eq_eq,go_sem,↓reduceIte,reduceCtorEq,Int.reduceToNat,Nat.reduceEqDiff,Nat.reduceLT,Nat.reduceLeDiff,Nat.reduceMul,Nat.reduceAdd,Tm.cs,binSet,length_tRows,tRows_ex,getK,getA,getB,getN,getTm,getSet,getD_set_same,getD_set_other]);(try (repeat' refine And.intro ?_ ?_));all_goals (first|rfl|omega|skip))
      rintro k2 S2 ⟨m,kx,g1,g2,g3,gk,rfl⟩
      (repeat' (first|(refine sA ?_;try intro KR kR)|(with_reducible refine sD O105 ?_;intro KR kR;simp only [O105,ordl,seval])|(refine sB ?_;intro K hK;simp (disch := omega) only [go_sem,↓reduceIte,reduceCtorEq,Int.reduceToNat,Nat.reduceEqDiff,Nat.reduceLT,Nat.reduceLeDiff,Nat.reduceMul,Nat.reduceAdd,Tm.cs,binSet,length_tRows,tRows_ex,getK,getA,getB,getN,getTm,getSet,getD_set_same,getD_set_other];(try ((with_reducible first|refine Gt ?_|refine Gv rfl ?_);simp (disch := omega) only [go_sem,↓reduceIte,reduceCtorEq,Int.reduceToNat,Nat.reduceEqDiff,Nat.reduceLT,Nat.reduceLeDiff,Nat.reduceMul,Nat.reduceAdd,Tm.cs,binSet,length_tRows,tRows_ex,getK,getA,getB,getN,getTm,getSet,getD_set_same,getD_set_other]));(repeat first|intro (xb : Blk)|intro (xk : Nat)|intro hx|refine pC ?_);refine hK _ ?_;clear K hK)|(refine sE ?_;simp only [go_sem,↓reduceIte,reduceCtorEq,Int.reduceToNat,Nat.reduceEqDiff,Nat.reduceLT,Nat.reduceLeDiff,Nat.reduceMul,Nat.reduceAdd,L105,O105,L139,O139];refine kR _ ?_;clear KR kR)|(simp only [thenE,inB,seval])|((with_reducible refine Ac ?_);intro K hK;simp (disch := omega) only [condK,go_sem,↓reduceIte,reduceCtorEq,Int.reduceToNat,Nat.reduceEqDiff,Nat.reduceLT,Nat.reduceLeDiff,Nat.reduceMul,Nat.reduceAdd,Tm.cs,binSet,length_tRows,tRows_ex,getK,getA,getB,getN,getTm,getSet,getD_set_same,getD_set_other];refine hK _ ?_ ?_;all_goals clear K hK;all_goals intro hq;all_goals (try simp only [qF,reduceCtorEq] at hq);all_goals (try (exfalso;first|exact hq|omega)))))
      all_goals (first
        | ((simp only [retQ,Try.results105];simp (disch := omega) only [resK,resT,resAV,Env.sel,Env.keys,List.map_nil,List.map_cons,List.all_nil,List.all_cons,AV.isS,Bool.not_false,Bool.and_self,Option.map_some,List.length_cons,List.length_nil,Nat.zero_add,Nat.reduceAdd,not_false_eq_true,true_and,and_true,ne_eq,go_sem,↓reduceIte,reduceCtorEq,Int.reduceToNat,Nat.reduceEqDiff,Nat.reduceLT,Nat.reduceLeDiff,Nat.reduceMul,Nat.reduceAdd,Tm.cs,binSet,length_tRows,tRows_ex,getK,getA,getB,getN,getTm,getSet,getD_set_same,getD_set_other])
           rw [lowsG_stop h2 (by omega) (.inr (.inr ((againF_extract (by omega)).2 ⟨m,by rw [hv];omega,by omega,by simp [againB];omega⟩)))]
           exact ⟨none,rfl,rfl⟩)
        | (refine gh_no ⟨i - (m + 1),by omega,m + 1,kx,by omega,by omega,?_,rfl,?_⟩
           · intro j hj1 hj2
             by_cases hj : j = m
             · subst hj
               cases hb : againB (tAt l i) (tAt l j) with
               | false => rfl
               | true => simp [againB] at hb;omega
             · exact g3 j hj1 (by omega)
           · ((try simp (disch := omega) only [List.cons.injEq,Prod.mk.injEq,AV.c.injEq,AV.agg.injEq,AV.opt.injEq,AV.tup.injEq,AV.row.injEq,AV.box.injEq,AV.mapo.injEq,AC.im.injEq,AC.sl.injEq,AC.adr.injEq,AC.ref.injEq,AC.ptr.injEq,AC.own.injEq,AC.fn.injEq,Value.int.injEq,Value.bool.injEq,Value.string.injEq,heq_eq_eq,go_sem,↓reduceIte,reduceCtorEq,Int.reduceToNat,Nat.reduceEqDiff,Nat.reduceLT,Nat.reduceLeDiff,Nat.reduceMul,Nat.reduceAdd,Tm.cs,binSet,length_tRows,tRows_ex,getK,getA,getB,getN,getTm,getSet,getD_set_same,getD_set_other]);(try (repeat' refine And.intro ?_ ?_));all_goals (first|rfl|omega|skip)))
        | (have em : i = m := by omega
           subst em
           have hs : lowsG l (i + 1) = some (o ++ [out.getD ((i : Int) - 1).toNat 0]) := by
             simp only [lowsG,h2,hv]
             rw [if_neg]
             rintro (h|h|h)
             · omega
             · rw [hf] at h;cases h
             · obtain ⟨j,j1,j2,j3⟩ := (againF_extract (by omega)).1 h
               rw [g3 j j1 j2] at j3;cases j3
           refine gh_no ⟨l.length - (i + 1),by omega,i + 1,kb,_,_,by omega,hs,by simp;omega,?_,low0_set h5 hV.1 hV.2,rfl,?_⟩
           · exact take_set_snoc h4 (by omega)
           · ((try simp (disch := omega) only [List.cons.injEq,Prod.mk.injEq,AV.c.injEq,AV.agg.injEq,AV.opt.injEq,AV.tup.injEq,AV.row.injEq,AV.box.injEq,AV.mapo.injEq,AC.im.injEq,AC.sl.injEq,AC.adr.injEq,AC.ref.injEq,AC.ptr.injEq,AC.own.injEq,AC.fn.injEq,Value.int.injEq,Value.bool.injEq,Value.string.injEq,heq_eq_eq,go_sem,↓reduceIte,reduceCtorEq,Int.reduceToNat,Nat.reduceEqDiff,Nat.reduceLT,Nat.reduceLeDiff,Nat.reduceMul,Nat.reduceAdd,Tm.cs,binSet,length_tRows,tRows_ex,getK,getA,getB,getN,getTm,getSet,getD_set_same,getD_set_other]);(try (repeat' refine And.intro ?_ ?_));all_goals (first|rfl|omega|skip))))
    · have hv : lowF (tAt l i) o i = (i : Int) := by
        unfold lowF
        repeat' split
        all_goals omega
      have hV : 0 ≤ (i : Int) ∧ (i : Int) ≤ i := (by omega)
      have hf : fieldsF (tAt l i) = true := fields_true (by omega) (by omega) (by omega)
      have hlv2 : leavesF l (i + 1) = leavesF l i + (if (tAt l i).k = 2 then 1 else 0) := by
        simp only [leavesF];split <;> rfl
      refine awp_loop [0,3,4,5,6,10,1006,1013] (fun k S => ∃ (m kx : Nat),(i : Int) ≤ m ∧ m ≤ i ∧ (∀ j : Nat,((i : Int)).toNat ≤ j → j < m → againB (tAt l i) (tAt l j) = false) ∧ k = i - m ∧
        S = [(0,.c (.sl 8 (tRows l))),(3,.c (.ref 1013 [] (some kb) 1 0 l.length)),(4,.c (.im (.int .i64 (leavesF l (i + 1))))),(5,.c (.im (.int .i64 i))),(6,.c (.ptr 1006 [] kx 8 0 0)),(10,.c (.im (.int .i64 m))),(1006,.box kx 114 (tAt l i).cs),(1013,.row (some kb) 3 1 (kRows .i64 (out.set i ((i : Int)))))]) _ ⟨((i : Int)).toNat,xk,by omega,by omega,by intro j;omega,rfl,?_⟩ ?_
      · rw [Int.toNat_of_nonneg hV.1]
        first|rw [if_pos (by omega)] at hlv2|rw [if_neg (by omega)] at hlv2
        ((try simp (disch := omega) only [List.cons.injEq,Prod.mk.injEq,AV.c.injEq,AV.agg.injEq,AV.opt.injEq,AV.tup.injEq,AV.row.injEq,AV.box.injEq,AV.mapo.injEq,AC.im.injEq,AC.sl.injEq,AC.adr.injEq,AC.ref.injEq,AC.ptr.injEq,AC.own.injEq,AC.fn.injEq,Value.int.injEq,Value.bool.injEq,Value.string.injEq,heq_eq_eq,go_sem,↓reduceIte,reduceCtorEq,Int.reduceToNat,Nat.reduceEqDiff,Nat.reduceLT,Nat.reduceLeDiff,Nat.reduceMul,Nat.reduceAdd,Tm.cs,binSet,length_tRows,tRows_ex,getK,getA,getB,getN,getTm,getSet,getD_set_same,getD_set_other]);(try (repeat' refine And.intro ?_ ?_));all_goals (first|rfl|omega|skip))
      rintro k2 S2 ⟨m,kx,g1,g2,g3,gk,rfl⟩
      (repeat' (first|(refine sA ?_;try intro KR kR)|(with_reducible refine sD O105 ?_;intro KR kR;simp only [O105,ordl,seval])|(refine sB ?_;intro K hK;simp (disch := omega) only [go_sem,↓reduceIte,reduceCtorEq,Int.reduceToNat,Nat.reduceEqDiff,Nat.reduceLT,Nat.reduceLeDiff,Nat.reduceMul,Nat.reduceAdd,Tm.cs,binSet,length_tRows,tRows_ex,getK,getA,getB,getN,getTm,getSet,getD_set_same,getD_set_other];(try ((with_reducible first|refine Gt ?_|refine Gv rfl ?_);simp (disch := omega) only [go_sem,↓reduceIte,reduceCtorEq,Int.reduceToNat,Nat.reduceEqDiff,Nat.reduceLT,Nat.reduceLeDiff,Nat.reduceMul,Nat.reduceAdd,Tm.cs,binSet,length_tRows,tRows_ex,getK,getA,getB,getN,getTm,getSet,getD_set_same,getD_set_other]));(repeat first|intro (xb : Blk)|intro (xk : Nat)|intro hx|refine pC ?_);refine hK _ ?_;clear K hK)|(refine sE ?_;simp only [go_sem,↓reduceIte,reduceCtorEq,Int.reduceToNat,Nat.reduceEqDiff,Nat.reduceLT,Nat.reduceLeDiff,Nat.reduceMul,Nat.reduceAdd,L105,O105,L139,O139];refine kR _ ?_;clear KR kR)|(simp only [thenE,inB,seval])|((with_reducible refine Ac ?_);intro K hK;simp (disch := omega) only [condK,go_sem,↓reduceIte,reduceCtorEq,Int.reduceToNat,Nat.reduceEqDiff,Nat.reduceLT,Nat.reduceLeDiff,Nat.reduceMul,Nat.reduceAdd,Tm.cs,binSet,length_tRows,tRows_ex,getK,getA,getB,getN,getTm,getSet,getD_set_same,getD_set_other];refine hK _ ?_ ?_;all_goals clear K hK;all_goals intro hq;all_goals (try simp only [qF,reduceCtorEq] at hq);all_goals (try (exfalso;first|exact hq|omega)))))
      all_goals (first
        | ((simp only [retQ,Try.results105];simp (disch := omega) only [resK,resT,resAV,Env.sel,Env.keys,List.map_nil,List.map_cons,List.all_nil,List.all_cons,AV.isS,Bool.not_false,Bool.and_self,Option.map_some,List.length_cons,List.length_nil,Nat.zero_add,Nat.reduceAdd,not_false_eq_true,true_and,and_true,ne_eq,go_sem,↓reduceIte,reduceCtorEq,Int.reduceToNat,Nat.reduceEqDiff,Nat.reduceLT,Nat.reduceLeDiff,Nat.reduceMul,Nat.reduceAdd,Tm.cs,binSet,length_tRows,tRows_ex,getK,getA,getB,getN,getTm,getSet,getD_set_same,getD_set_other])
           rw [lowsG_stop h2 (by omega) (.inr (.inr ((againF_extract (by omega)).2 ⟨m,by rw [hv];omega,by omega,by simp [againB];omega⟩)))]
           exact ⟨none,rfl,rfl⟩)
        | (refine gh_no ⟨i - (m + 1),by omega,m + 1,kx,by omega,by omega,?_,rfl,?_⟩
           · intro j hj1 hj2
             by_cases hj : j = m
             · subst hj
               cases hb : againB (tAt l i) (tAt l j) with
               | false => rfl
               | true => simp [againB] at hb;omega
             · exact g3 j hj1 (by omega)
           · ((try simp (disch := omega) only [List.cons.injEq,Prod.mk.injEq,AV.c.injEq,AV.agg.injEq,AV.opt.injEq,AV.tup.injEq,AV.row.injEq,AV.box.injEq,AV.mapo.injEq,AC.im.injEq,AC.sl.injEq,AC.adr.injEq,AC.ref.injEq,AC.ptr.injEq,AC.own.injEq,AC.fn.injEq,Value.int.injEq,Value.bool.injEq,Value.string.injEq,heq_eq_eq,go_sem,↓reduceIte,reduceCtorEq,Int.reduceToNat,Nat.reduceEqDiff,Nat.reduceLT,Nat.reduceLeDiff,Nat.reduceMul,Nat.reduceAdd,Tm.cs,binSet,length_tRows,tRows_ex,getK,getA,getB,getN,getTm,getSet,getD_set_same,getD_set_other]);(try (repeat' refine And.intro ?_ ?_));all_goals (first|rfl|omega|skip)))
        | (have em : i = m := by omega
           subst em
           have hs : lowsG l (i + 1) = some (o ++ [(i : Int)]) := by
             simp only [lowsG,h2,hv]
             rw [if_neg]
             rintro (h|h|h)
             · omega
             · rw [hf] at h;cases h
             · obtain ⟨j,j1,j2,j3⟩ := (againF_extract (by omega)).1 h
               rw [g3 j j1 j2] at j3;cases j3
           refine gh_no ⟨l.length - (i + 1),by omega,i + 1,kb,_,_,by omega,hs,by simp;omega,?_,low0_set h5 hV.1 hV.2,rfl,?_⟩
           · exact take_set_snoc h4 (by omega)
           · ((try simp (disch := omega) only [List.cons.injEq,Prod.mk.injEq,AV.c.injEq,AV.agg.injEq,AV.opt.injEq,AV.tup.injEq,AV.row.injEq,AV.box.injEq,AV.mapo.injEq,AC.im.injEq,AC.sl.injEq,AC.adr.injEq,AC.ref.injEq,AC.ptr.injEq,AC.own.injEq,AC.fn.injEq,Value.int.injEq,Value.bool.injEq,Value.string.injEq,heq_eq_eq,go_sem,↓reduceIte,reduceCtorEq,Int.reduceToNat,Nat.reduceEqDiff,Nat.reduceLT,Nat.reduceLeDiff,Nat.reduceMul,Nat.reduceAdd,Tm.cs,binSet,length_tRows,tRows_ex,getK,getA,getB,getN,getTm,getSet,getD_set_same,getD_set_other]);(try (repeat' refine And.intro ?_ ?_));all_goals (first|rfl|omega|skip))))
  · (simp only [retQ,Try.results105];simp (disch := omega) only [resK,resT,resAV,Env.sel,Env.keys,List.map_nil,List.map_cons,List.all_nil,List.all_cons,AV.isS,Bool.not_false,Bool.and_self,Option.map_some,List.length_cons,List.length_nil,Nat.zero_add,Nat.reduceAdd,not_false_eq_true,true_and,and_true,ne_eq,go_sem,↓reduceIte,reduceCtorEq,Int.reduceToNat,Nat.reduceEqDiff,Nat.reduceLT,Nat.reduceLeDiff,Nat.reduceMul,Nat.reduceAdd,Tm.cs,binSet,length_tRows,tRows_ex,getK,getA,getB,getN,getTm,getSet,getD_set_same,getD_set_other])
    have ei : i = l.length := by omega
    subst ei
    have e1 : out = o := by rw [← h4];exact (List.take_of_length_le (by omega)).symm
    subst e1
    have : lowsF l = [] := by
      unfold lowsF
      split
      · rfl
      · rw [h2]
        simp only
        rw [if_pos]
        have : ((l.length : Int) - 1).toNat = l.length - 1 := by omega
        rw [this] at hq
        omega
    rw [this];exact ⟨none,rfl,rfl⟩
  · (simp only [retQ,Try.results105];simp (disch := omega) only [resK,resT,resAV,Env.sel,Env.keys,List.map_nil,List.map_cons,List.all_nil,List.all_cons,AV.isS,Bool.not_false,Bool.and_self,Option.map_some,List.length_cons,List.length_nil,Nat.zero_add,Nat.reduceAdd,not_false_eq_true,true_and,and_true,ne_eq,go_sem,↓reduceIte,reduceCtorEq,Int.reduceToNat,Nat.reduceEqDiff,Nat.reduceLT,Nat.reduceLeDiff,Nat.reduceMul,Nat.reduceAdd,Tm.cs,binSet,length_tRows,tRows_ex,getK,getA,getB,getN,getTm,getSet,getD_set_same,getD_set_other])
    have ei : i = l.length := by omega
    subst ei
    have e1 : out = o := by rw [← h4];exact (List.take_of_length_le (by omega)).symm
    subst e1
    have : lowsF l = out := by
      unfold lowsF
      rw [if_neg (by omega),h2]
      simp only
      rw [if_neg]
      have : ((l.length : Int) - 1).toNat = l.length - 1 := by omega
      rw [this] at hq
      omega
    rw [this]
    have : out.isEmpty = false := by
      cases out with
      | nil => simp at hol;omega
      | cons => rfl
    refine ⟨by omega,some kb,by rw [this];rfl,?_⟩
    rw [List.take_of_length_le (by omega)]
end Go.Proofs.Ytllemobnfpljfaa
