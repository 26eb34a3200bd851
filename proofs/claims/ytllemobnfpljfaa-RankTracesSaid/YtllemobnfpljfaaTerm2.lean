import Derived.Test.YtllemobnfpljfaaTerm
set_option linter.unusedSimpArgs false
set_option maxRecDepth 100000
set_option maxHeartbeats 8000000
namespace Go.Proofs.Ytllemobnfpljfaa
open Go Go.Hs
def L154 (r : Nat) : Option (List Nat) := kl r [(0,[1,2]),(1,[2,7,8,9]),(2,[2,7,8,9,10]),(3,[2,6,7,8,9]),(4,[2,7,8,9,27]),(5,[4]),(6,[2,7,8,9]),(7,[4])]
def O154 (r : Nat) : List Nat × OT := ordl r []
def L129 (r : Nat) : Option (List Nat) := kl r [(0,[0]),(1,[0,15]),(2,[2]),(3,[0,3]),(4,[0,3,4]),(5,[0,3,4,16,17,18]),(6,[0,3,4,16,17,18,19]),(7,[0,3,4,5,6,16,17,18]),(8,[0,3,4,5,6,7,16,17,18]),(9,[0,3,4,6,7,16,17,18,41]),(10,[2]),(11,[0,3,4,7,16,17,18,44]),(12,[0,3,4,7,16,17,18]),(13,[0,3,4,16,17,18]),(14,[0,3,4,16,17,18]),(15,[3,62]),(16,[2]),(17,[2])]
def O129 (r : Nat) : List Nat × OT := ordl r [(9,([],.val 0 (.val 1 (.val 2 (.load 3 (.grow 4 (.val 5 (.val 6 (.val 7 (.val 9 (.val 10 (.val 11 (.val 12 (.load 8 (.grow 13 (.val 14 (.done)))))))))))))))))]
theorem tRows_ex {l : List Tm} {a b : Nat} : ex (tRows l) a b = tRows (ex l a b) := by simp [tRows,ex_eq,List.map_take,List.map_drop]
def againB (t y : Tm) : Bool := t.k == 7 && y.k == 7 && y.n == t.n
def againF (t : Tm) (ys : List Tm) : Bool := ys.any (againB t)
theorem againF_at (t : Tm) (ys : List Tm) (i : Nat) (h : i < ys.length) : againF t (ys.drop i) = (againB t (tAt ys i) || againF t (ys.drop (i + 1))) := by
  rw [List.drop_eq_getElem_cons h]
  simp only [againF,List.any_cons,tAt,List.getD_eq_getElem?_getD,List.getElem?_eq_getElem h,Option.getD_some]
theorem again_ok (t : Tm) (ys : List Tm) (hl : ys.length ≤ 1000000) : Contract Try.prog 154 [.agg t.cs,.c (.sl 8 (tRows ys))] (.c (.im (.bool (againF t ys)))) := by
  (refine contract_of_awp (L := L154) Try.func154 rfl (by kernel_rfl) (by first|rfl|decide) (by first|rfl|kernel_rfl) ?_;simp only [Try.ntmps154,initEnv,Env.keys,List.map_nil,List.map_cons,List.append_nil,List.cons_append,List.nil_append])
  (repeat (first|(refine sA ?_;try intro KR kR)|(with_reducible refine sD O154 ?_;intro KR kR;simp only [O154,ordl,seval])|(refine sB ?_;intro K hK;simp (disch := omega) only [go_sem,seval,Tm.cs,binSet,length_tRows,tRows_ex,getK,getA,getB,getN,getTm,getSet];(try ((with_reducible first|refine Gt ?_|refine Gv rfl ?_);simp (disch := omega) only [go_sem,seval,Tm.cs,binSet,length_tRows,tRows_ex,getK,getA,getB,getN,getTm,getSet]));(repeat first|intro (xb : Blk)|intro (xk : Nat)|intro hx|refine pC ?_);refine hK _ ?_;clear K hK)|(refine sE ?_;simp only [go_sem,seval,L129,O129,L154,O154];refine kR _ ?_;clear KR kR)|(simp only [thenE,inB,seval])))
  refine awp_loop [2,7,8,9,1002] (fun k S => ∃ (i b : Nat),i ≤ ys.length ∧ againF t ys = againF t (ys.drop i) ∧ k = ys.length - i ∧
    S = [(2,.c (.ptr 1002 [] b 8 0 0)),(7,.c (.sl 8 (tRows ys))),(8,.c (.im (.int .i64 ys.length))),(9,.c (.im (.int .i64 i))),(1002,.box b 114 t.cs)]) _ ⟨0,_,by omega,rfl,rfl,rfl⟩ ?_
  rintro k S' ⟨i,b,h1,h2,hk,rfl⟩
  (repeat' (first|(refine sA ?_;try intro KR kR)|(with_reducible refine sD O154 ?_;intro KR kR;simp only [O154,ordl,seval])|(refine sB ?_;intro K hK;simp (disch := omega) only [go_sem,seval,Tm.cs,binSet,length_tRows,tRows_ex,getK,getA,getB,getN,getTm,getSet];(try ((with_reducible first|refine Gt ?_|refine Gv rfl ?_);simp (disch := omega) only [go_sem,seval,Tm.cs,binSet,length_tRows,tRows_ex,getK,getA,getB,getN,getTm,getSet]));(repeat first|intro (xb : Blk)|intro (xk : Nat)|intro hx|refine pC ?_);refine hK _ ?_;clear K hK)|(refine sE ?_;simp only [go_sem,seval,L129,O129,L154,O154];refine kR _ ?_;clear KR kR)|(simp only [thenE,inB,seval])|((with_reducible refine Ac ?_);intro K hK;simp (disch := omega) only [condK,go_sem,seval,Tm.cs,binSet,length_tRows,tRows_ex,getK,getA,getB,getN,getTm,getSet];refine hK _ ?_ ?_;all_goals clear K hK;all_goals intro hq;all_goals (try simp only [qF,reduceCtorEq] at hq);all_goals (try (exfalso;first|exact hq|omega)))))
  · (simp only [retQ,Try.results154];simp (disch := omega) only [resK,resT,resAV,Env.sel,Env.keys,List.map_nil,List.map_cons,List.all_nil,List.all_cons,AV.isS,Bool.not_false,Bool.and_self,Option.map_some,List.length_cons,List.length_nil,Nat.zero_add,Nat.reduceAdd,not_false_eq_true,true_and,and_true,ne_eq,go_sem,seval,Tm.cs,binSet,length_tRows,tRows_ex,getK,getA,getB,getN,getTm,getSet])
    rw [h2,againF_at t ys i (by omega)]
    have : againB t (tAt ys i) = true := by simp [againB];omega
    rw [this];rfl
  · refine gh_no ⟨ys.length - (i + 1),by omega,i + 1,b,by omega,?_,rfl,rfl⟩
    rw [h2,againF_at t ys i (by omega)]
    have : againB t (tAt ys i) = false := by
      cases hb : againB t (tAt ys i) with
      | false => rfl
      | true => simp [againB] at hb;omega
    rw [this];rfl
  · (simp only [retQ,Try.results154];simp (disch := omega) only [resK,resT,resAV,Env.sel,Env.keys,List.map_nil,List.map_cons,List.all_nil,List.all_cons,AV.isS,Bool.not_false,Bool.and_self,Option.map_some,List.length_cons,List.length_nil,Nat.zero_add,Nat.reduceAdd,not_false_eq_true,true_and,and_true,ne_eq,go_sem,seval,Tm.cs,binSet,length_tRows,tRows_ex,getK,getA,getB,getN,getTm,getSet])
    rw [h2,List.drop_of_length_le (by omega)]
    rfl
def lowsG (l : List Tm) : Nat → Option (List Int)
  | 0 => some []
  | i + 1 => match lowsG l i with
    | none => none
    | some o => if lowF (tAt l i) o i < 0 ∨ fieldsF (tAt l i) = false ∨ againF (tAt l i) (ex l (lowF (tAt l i) o i).toNat i) = true then none else some (o ++ [lowF (tAt l i) o i])
def leavesF (l : List Tm) : Nat → Nat
  | 0 => 0
  | i + 1 => if (tAt l i).k = 2 then leavesF l i + 1 else leavesF l i
theorem lowsG_none {l : List Tm} {i : Nat} (h : lowsG l i = none) : ∀ {n : Nat},i ≤ n → lowsG l n = none := by
  intro n hn
  induction n with
  | zero => have : i = 0 := by omega
            subst this;exact h
  | succ n ih =>
    by_cases hi : i = n + 1
    · subst hi;exact h
    · simp only [lowsG,ih (by omega)]
theorem lowsG_length {l : List Tm} : ∀ {i : Nat} {o : List Int},lowsG l i = some o → o.length = i
  | 0,o,h => by simp [lowsG] at h;subst h;rfl
  | i + 1,o,h => by
    simp only [lowsG] at h
    split at h
    · cases h
    · rename_i o' ho
      split at h
      · cases h
      · simp at h;subst h
        simp [lowsG_length ho]
theorem leavesF_le (l : List Tm) : ∀ i,leavesF l i ≤ i
  | 0 => by simp [leavesF]
  | i + 1 => by have := leavesF_le l i;simp only [leavesF];split <;> omega
def Low0 (o : List Int) : Prop := ∀ j : Nat,0 ≤ o.getD j 0 ∧ o.getD j 0 ≤ j
theorem lowF_le {t : Tm} {o : List Int} {i : Nat} (ho : Low0 o) : lowF t o i ≤ i := by
  have h1 := ho t.a.toNat
  have h2 := ho t.b.toNat
  unfold lowF
  repeat' split
  all_goals omega
theorem low0_snoc {o : List Int} {i : Nat} {x : Int} (ho : Low0 o) (hl : o.length = i) (h0 : 0 ≤ x) (h1 : x ≤ i) : Low0 (o ++ [x]) := by
  intro j
  by_cases hj : j < i
  · have := ho j
    simp only [List.getD_eq_getElem?_getD] at this ⊢
    rw [List.getElem?_append_left (by omega)]
    exact this
  · by_cases hj2 : j = i
    · subst hj2
      simp only [List.getD_eq_getElem?_getD]
      rw [List.getElem?_append_right (by omega),hl]
      simp;omega
    · simp only [List.getD_eq_getElem?_getD]
      rw [List.getElem?_eq_none (by simp;omega)]
      simp
theorem lowsG_low0 {l : List Tm} : ∀ {i : Nat} {o : List Int},lowsG l i = some o → Low0 o
  | 0,o,h => by simp [lowsG] at h;subst h;intro j;simp
  | i + 1,o,h => by
    simp only [lowsG] at h
    split at h
    · cases h
    · rename_i o' ho
      split at h
      · cases h
      · rename_i hn
        simp at h;subst h
        have h0 : 0 ≤ lowF (tAt l i) o' i := by omega
        exact low0_snoc (lowsG_low0 ho) (lowsG_length ho) h0 (lowF_le (lowsG_low0 ho))
def lowsF (l : List Tm) : List Int :=
  if l.length = 0 ∨ 400 < l.length then []
  else match lowsG l l.length with
    | none => []
    | some o => if 64 < leavesF l l.length ∨ o.getD (l.length - 1) 0 ≠ 0 then [] else o
theorem Low_ok (l : List Tm) : ContractR Try.prog 129 [.c (.sl 8 (tRows l))] (fun r => ∃ b,r = .c (.own b 3 1 (kRows .i64 (lowsF l)))) := by
  (refine contract_of_awp (L := L129) Try.func129 rfl (by kernel_rfl) (by first|rfl|decide) (by first|rfl|kernel_rfl) ?_;simp only [Try.ntmps129,initEnv,Env.keys,List.map_nil,List.map_cons,List.append_nil,List.cons_append,List.nil_append])
  (repeat' (first|(refine sA ?_;try intro KR kR)|(with_reducible refine sD O129 ?_;intro KR kR;simp only [O129,ordl,seval])|(refine sB ?_;intro K hK;simp (disch := omega) only [go_sem,seval,Tm.cs,binSet,length_tRows,tRows_ex,getK,getA,getB,getN,getTm,getSet];(try ((with_reducible first|refine Gt ?_|refine Gv rfl ?_);simp (disch := omega) only [go_sem,seval,Tm.cs,binSet,length_tRows,tRows_ex,getK,getA,getB,getN,getTm,getSet]));(repeat first|intro (xb : Blk)|intro (xk : Nat)|intro hx|refine pC ?_);refine hK _ ?_;clear K hK)|(refine sE ?_;simp only [go_sem,seval,L129,O129,L154,O154];refine kR _ ?_;clear KR kR)|(simp only [thenE,inB,seval])|((with_reducible refine Ac ?_);intro K hK;simp (disch := omega) only [condK,go_sem,seval,Tm.cs,binSet,length_tRows,tRows_ex,getK,getA,getB,getN,getTm,getSet];refine hK _ ?_ ?_;all_goals clear K hK;all_goals intro hq;all_goals (try simp only [qF,reduceCtorEq] at hq);all_goals (try (exfalso;first|exact hq|omega)))))
  · (simp only [retQ,Try.results129];simp (disch := omega) only [resK,resT,resAV,Env.sel,Env.keys,List.map_nil,List.map_cons,List.all_nil,List.all_cons,AV.isS,Bool.not_false,Bool.and_self,Option.map_some,List.length_cons,List.length_nil,Nat.zero_add,Nat.reduceAdd,not_false_eq_true,true_and,and_true,ne_eq,go_sem,seval,Tm.cs,binSet,length_tRows,tRows_ex,getK,getA,getB,getN,getTm,getSet])
    exact ⟨none,by rw [lowsF,if_pos (by omega)];rfl⟩
  · have hl : 0 < l.length ∧ l.length ≤ 400 := by omega
    refine awp_loop [0,3,4,16,17,18,1003] (fun k S => ∃ (i : Nat) (nb : Blk) (o : List Int),i ≤ l.length ∧ lowsG l i = some o ∧ k = l.length - i ∧
      S = [(0,.c (.sl 8 (tRows l))),(3,.c (.ref 1003 [] nb 1 0 o.length)),(4,.c (.im (.int .i64 (leavesF l i)))),(16,.c (.sl 8 (tRows l))),(17,.c (.im (.int .i64 l.length))),(18,.c (.im (.int .i64 i))),(1003,.row nb 3 1 (kRows .i64 o))]) _ ⟨0,none,[],by omega,rfl,rfl,rfl⟩ ?_
    rintro k S' ⟨i,nb,o,h1,h2,hk,rfl⟩
    have hol := lowsG_length h2
    have ho := lowsG_low0 h2
    have hlv := leavesF_le l i
    have hat : lowF (tAt l i) o i ≤ i := lowF_le ho
    (repeat' (first|(refine sA ?_;try intro KR kR)|(with_reducible refine sD O129 ?_;intro KR kR;simp only [O129,ordl,seval])|(refine sB ?_;intro K hK;simp (disch := omega) only [go_sem,seval,Tm.cs,binSet,length_tRows,tRows_ex,getK,getA,getB,getN,getTm,getSet];(try ((with_reducible first|refine Gt ?_|refine Gv rfl ?_);simp (disch := omega) only [go_sem,seval,Tm.cs,binSet,length_tRows,tRows_ex,getK,getA,getB,getN,getTm,getSet]));(repeat first|intro (xb : Blk)|intro (xk : Nat)|intro hx|refine pC ?_);refine hK _ ?_;clear K hK)|(refine sE ?_;simp only [go_sem,seval,L129,O129,L154,O154];refine kR _ ?_;clear KR kR)|(simp only [thenE,inB,seval])|((with_reducible refine Ac ?_);intro K hK;simp (disch := omega) only [condK,go_sem,seval,Tm.cs,binSet,length_tRows,tRows_ex,getK,getA,getB,getN,getTm,getSet];refine hK _ ?_ ?_;all_goals clear K hK;all_goals intro hq;all_goals (try simp only [qF,reduceCtorEq] at hq);all_goals (try (exfalso;first|exact hq|omega)))))
    · (refine sB ?_;intro K hK;simp (disch := omega) only [go_sem,seval,Tm.cs,binSet,length_tRows,tRows_ex,getK,getA,getB,getN,getTm,getSet];(try ((with_reducible refine Gt ?_);simp (disch := omega) only [go_sem,seval,Tm.cs,binSet,length_tRows,tRows_ex,getK,getA,getB,getN,getTm,getSet]));refine cN ?_;simp (disch := omega) only [go_sem,seval,Tm.cs,binSet,length_tRows,tRows_ex,getK,getA,getB,getN,getTm,getSet];refine ⟨_,_,ContractH.n (low_ok l o i (by omega) (by omega) hol ho),?_⟩;intro r H' hr hk;(try obtain rfl := keys_nil hk);(first|subst hr|(obtain ⟨_,rfl⟩ := hr)|(obtain ⟨_,_,rfl⟩ := hr)|(obtain ⟨_,_,_,rfl⟩ := hr));(try simp (disch := omega) only [AV.flat,AC.flat,AC.flat.flatL,AC.flat.flatLL,go_sem,seval,Tm.cs,binSet,length_tRows,tRows_ex,getK,getA,getB,getN,getTm,getSet]);(repeat first|intro (xb : Blk)|intro (xk : Nat)|intro hx|refine pC ?_);refine hK _ ?_;clear K hK)
      (repeat (first|(refine sA ?_;try intro KR kR)|(with_reducible refine sD O129 ?_;intro KR kR;simp only [O129,ordl,seval])|(refine sB ?_;intro K hK;simp (disch := omega) only [go_sem,seval,Tm.cs,binSet,length_tRows,tRows_ex,getK,getA,getB,getN,getTm,getSet];(try ((with_reducible first|refine Gt ?_|refine Gv rfl ?_);simp (disch := omega) only [go_sem,seval,Tm.cs,binSet,length_tRows,tRows_ex,getK,getA,getB,getN,getTm,getSet]));(repeat first|intro (xb : Blk)|intro (xk : Nat)|intro hx|refine pC ?_);refine hK _ ?_;clear K hK)|(refine sE ?_;simp only [go_sem,seval,L129,O129,L154,O154];refine kR _ ?_;clear KR kR)|(simp only [thenE,inB,seval])))
      ((with_reducible (first|refine Oz ?_|refine Rg ?_));intro K hK;simp (disch := omega) only [go_sem,seval,Tm.cs,binSet,length_tRows,tRows_ex,getK,getA,getB,getN,getTm,getSet];(with_reducible refine Gv rfl ?_);simp (disch := omega) only [go_sem,seval,Tm.cs,binSet,length_tRows,tRows_ex,getK,getA,getB,getN,getTm,getSet];refine ⟨_,fun hg => fields_ok (tAt l i),?_⟩;(try simp (disch := omega) only [go_sem,seval,Tm.cs,binSet,length_tRows,tRows_ex,getK,getA,getB,getN,getTm,getSet]);(repeat first|intro (xb : Blk)|intro (xk : Nat)|intro hx|refine pC ?_);refine hK _ ?_;clear K hK)
      (repeat (first|(refine sA ?_;try intro KR kR)|(with_reducible refine sD O129 ?_;intro KR kR;simp only [O129,ordl,seval])|(refine sB ?_;intro K hK;simp (disch := omega) only [go_sem,seval,Tm.cs,binSet,length_tRows,tRows_ex,getK,getA,getB,getN,getTm,getSet];(try ((with_reducible first|refine Gt ?_|refine Gv rfl ?_);simp (disch := omega) only [go_sem,seval,Tm.cs,binSet,length_tRows,tRows_ex,getK,getA,getB,getN,getTm,getSet]));(repeat first|intro (xb : Blk)|intro (xk : Nat)|intro hx|refine pC ?_);refine hK _ ?_;clear K hK)|(refine sE ?_;simp only [go_sem,seval,L129,O129,L154,O154];refine kR _ ?_;clear KR kR)|(simp only [thenE,inB,seval])))
      ((with_reducible (first|refine Oz ?_|refine Rg ?_));intro K hK;simp (disch := omega) only [go_sem,seval,Tm.cs,binSet,length_tRows,tRows_ex,getK,getA,getB,getN,getTm,getSet];(with_reducible refine Gv rfl ?_);simp (disch := omega) only [go_sem,seval,Tm.cs,binSet,length_tRows,tRows_ex,getK,getA,getB,getN,getTm,getSet];refine ⟨_,fun hg => again_ok (tAt l i) (ex l (lowF (tAt l i) o i).toNat i) (by rw [length_ex];omega),?_⟩;(try simp (disch := omega) only [go_sem,seval,Tm.cs,binSet,length_tRows,tRows_ex,getK,getA,getB,getN,getTm,getSet]);(repeat first|intro (xb : Blk)|intro (xk : Nat)|intro hx|refine pC ?_);refine hK _ ?_;clear K hK)
      (repeat' (first|(refine sA ?_;try intro KR kR)|(with_reducible refine sD O129 ?_;intro KR kR;simp only [O129,ordl,seval])|(refine sB ?_;intro K hK;simp (disch := omega) only [go_sem,seval,Tm.cs,binSet,length_tRows,tRows_ex,getK,getA,getB,getN,getTm,getSet];(try ((with_reducible first|refine Gt ?_|refine Gv rfl ?_);simp (disch := omega) only [go_sem,seval,Tm.cs,binSet,length_tRows,tRows_ex,getK,getA,getB,getN,getTm,getSet]));(repeat first|intro (xb : Blk)|intro (xk : Nat)|intro hx|refine pC ?_);refine hK _ ?_;clear K hK)|(refine sE ?_;simp only [go_sem,seval,L129,O129,L154,O154];refine kR _ ?_;clear KR kR)|(simp only [thenE,inB,seval])|((with_reducible refine Ac ?_);intro K hK;simp (disch := omega) only [condK,go_sem,seval,Tm.cs,binSet,length_tRows,tRows_ex,getK,getA,getB,getN,getTm,getSet];refine hK _ ?_ ?_;all_goals clear K hK;all_goals intro hq;all_goals (try simp only [qF,reduceCtorEq] at hq);all_goals (try (exfalso;first|exact hq|omega)))))
      · (simp only [retQ,Try.results129];simp (disch := omega) only [resK,resT,resAV,Env.sel,Env.keys,List.map_nil,List.map_cons,List.all_nil,List.all_cons,AV.isS,Bool.not_false,Bool.and_self,Option.map_some,List.length_cons,List.length_nil,Nat.zero_add,Nat.reduceAdd,not_false_eq_true,true_and,and_true,ne_eq,go_sem,seval,Tm.cs,binSet,length_tRows,tRows_ex,getK,getA,getB,getN,getTm,getSet])
        have hn : lowsG l (i + 1) = none := by
          simp only [lowsG,h2]
          rw [if_pos]
          rcases hq with (h|h)|h
          · exact .inl h
          · exact .inr (.inl h)
          · exact .inr (.inr h)
        refine ⟨none,?_⟩
        rw [lowsF,if_neg (by omega),lowsG_none hn (by omega)]
        rfl
      all_goals
        have hs : lowsG l (i + 1) = some (o ++ [lowF (tAt l i) o i]) := by
          have hq2 : (¬ lowF (tAt l i) o i < 0 ∧ fieldsF (tAt l i) = true) ∧ againF (tAt l i) (ex l (lowF (tAt l i) o i).toNat i) = false := by assumption
          simp only [lowsG,h2]
          rw [if_neg]
          rintro (h|h|h)
          · exact hq2.1.1 h
          · rw [hq2.1.2] at h;cases h
          · rw [hq2.2] at h;cases h
        refine gh_no ⟨l.length - (i + 1),by omega,i + 1,xb,_,by omega,hs,rfl,?_⟩
        simp only [leavesF,hq,if_true,if_false]
        ((try simp (disch := omega) only [List.cons.injEq,Prod.mk.injEq,AV.c.injEq,AV.agg.injEq,AV.opt.injEq,AV.tup.injEq,AV.row.injEq,AV.box.injEq,AV.mapo.injEq,AC.im.injEq,AC.sl.injEq,AC.adr.injEq,AC.ref.injEq,AC.ptr.injEq,AC.own.injEq,AC.fn.injEq,Value.int.injEq,Value.bool.injEq,Value.string.injEq,heq_eq_eq,go_sem,seval,Tm.cs,binSet,length_tRows,tRows_ex,getK,getA,getB,getN,getTm,getSet]);(try (repeat' refine And.intro ?_ ?_));all_goals (first|rfl|omega|skip))
    · (simp only [retQ,Try.results129];simp (disch := omega) only [resK,resT,resAV,Env.sel,Env.keys,List.map_nil,List.map_cons,List.all_nil,List.all_cons,AV.isS,Bool.not_false,Bool.and_self,Option.map_some,List.length_cons,List.length_nil,Nat.zero_add,Nat.reduceAdd,not_false_eq_true,true_and,and_true,ne_eq,go_sem,seval,Tm.cs,binSet,length_tRows,tRows_ex,getK,getA,getB,getN,getTm,getSet])
      have ei : i = l.length := by omega
      subst ei
      refine ⟨none,?_⟩
      rw [lowsF,if_neg (by omega),h2]
      simp only
      rw [if_pos]
      · rfl
      · have : ((l.length : Int) - 1).toNat = l.length - 1 := by omega
        rw [this] at hq
        omega
    · (simp only [retQ,Try.results129];simp (disch := omega) only [resK,resT,resAV,Env.sel,Env.keys,List.map_nil,List.map_cons,List.all_nil,List.all_cons,AV.isS,Bool.not_false,Bool.and_self,Option.map_some,List.length_cons,List.length_nil,Nat.zero_add,Nat.reduceAdd,not_false_eq_true,true_and,and_true,ne_eq,go_sem,seval,Tm.cs,binSet,length_tRows,tRows_ex,getK,getA,getB,getN,getTm,getSet])
      have ei : i = l.length := by omega
      subst ei
      refine ⟨nb,?_⟩
      rw [lowsF,if_neg (by omega),h2]
      simp only
      rw [if_neg]
      have : ((l.length : Int) - 1).toNat = l.length - 1 := by omega
      rw [this] at hq
      omega
end Go.Proofs.Ytllemobnfpljfaa
