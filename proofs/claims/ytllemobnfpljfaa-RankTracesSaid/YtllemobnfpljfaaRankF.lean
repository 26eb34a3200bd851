import Derived.Test.YtllemobnfpljfaaNextP
set_option linter.unusedSimpArgs false
set_option linter.unusedVariables false
set_option maxRecDepth 100000
set_option maxHeartbeats 8000000
namespace Go.Proofs.Ytllemobnfpljfaa
open Go Go.Hs
def L103 (r : Nat) : Option (List Nat) := kl r [(0,[1,2,3]),(1,[6])]
def O103 (r : Nat) : List Nat × OT := ordl r [(1,([],.val 0 (.val 1 (.val 3 (.val 5 (.val 10 (.val 12 (.val 17 (.val 19 (.load 2 (.load 4 (.val 6 (.load 7 (.val 8 (.load 9 (.load 11 (.val 13 (.load 14 (.val 15 (.load 16 (.load 18 (.val 20 (.val 21 (.load 22 (.val 23 (.val 24 (.val 25 (.done))))))))))))))))))))))))))))]
def L99 (r : Nat) : Option (List Nat) := kl r [(0,[1,2,3]),(1,[1,2,3,7,8]),(2,[1,2,3,7,8,17]),(3,[6]),(4,[1,2,3,21]),(5,[6]),(6,[6])]
def O99 (r : Nat) : List Nat × OT := ordl r [(1,([],.val 1 (.val 2 (.val 5 (.val 6 (.load 0 (.load 4 (.grow 3 (.grow 7 (.val 8 (.val 9 (.done)))))))))))),(6,([],.val 0 (.val 1 (.val 3 (.val 5 (.val 10 (.val 12 (.load 2 (.load 4 (.val 6 (.load 7 (.val 8 (.load 9 (.load 11 (.val 13 (.load 14 (.val 15 (.load 16 (.val 17 (.done))))))))))))))))))))]
def L104 (r : Nat) : Option (List Nat) := kl r [(0,[0,1]),(1,[0,1,8]),(2,[4]),(3,[4])]
def O104 (r : Nat) : List Nat × OT := ordl r []
def L100 (r : Nat) : Option (List Nat) := kl r [(0,[1,2,5,8,9]),(1,[1,2,5,11,12]),(2,[1,2,5,11,12,37]),(3,[10]),(4,[1,2,5,40]),(5,[10]),(6,[10])]
def O100 (r : Nat) : List Nat × OT := ordl r [(1,([],.val 0 (.val 2 (.val 5 (.val 8 (.val 11 (.val 13 (.val 16 (.val 19 (.load 1 (.val 3 (.load 4 (.val 6 (.load 7 (.load 9 (.load 12 (.val 14 (.load 15 (.val 17 (.load 18 (.load 20 (.grow 10 (.grow 21 (.val 22 (.val 23 (.done))))))))))))))))))))))))))]
attribute [local go_sem] length_rRows getRow length_hRows getH0 getH1 getHR
theorem glow_ok (b d : List (List Int)) (fr : List Int) (h : List Hp) (i k : Nat) (hr : RkOk b d b.length) (hi : i < fr.length) (hi2 : i < h.length) (hk : k < fr.length) (hfi : hasR b (fr.getD i 0)) (hfk : hasR b (fr.getD k 0)) (ht : 0 ≤ (hAt h i).2 ∧ (hAt h i).2 ≤ 1000000) (hb : b.length ≤ 1000) (hf : fr.length ≤ 1000) (hh : h.length ≤ 1000) :
    Contract Try.prog 103 [.agg [.sl 1 (rRows b),.sl 1 (rRows d),.sl 1 (kRows .i64 fr),.sl 3 (hRows h)],.c (.im (.int .i64 i)),.c (.im (.int .i64 k))] (.c (.im (.int .i64 (lowH b fr h i k)))) := by
  obtain ⟨l1,l2,l3,l4⟩ := rk_lens hr
  have r1 := l3 (fr.getD i 0).toNat
  unfold hasR at hfi hfk
  have r2 := r1 (by omega)
  (refine contract_of_awp (L := L103) Try.func103 rfl (by kernel_rfl) (by first|rfl|decide) (by first|rfl|kernel_rfl) ?_;simp only [Try.ntmps103,initEnv,Env.keys,List.map_nil,List.map_cons,List.append_nil,List.cons_append,List.nil_append])
  (repeat (first|(refine sA ?_;try intro KR kR)|(with_reducible refine sD O103 ?_;intro KR kR;simp only [O103,ordl,seval])|(refine sB ?_;intro K hK;simp (disch := omega) only [go_sem,seval];(try ((with_reducible first|refine Gt ?_|refine gopO_f rfl ?_|refine Gv rfl ?_);simp (disch := omega) only [go_sem,seval]));(repeat first|intro (xb : Blk)|intro (xk : Nat)|intro hx|refine pC ?_);refine hK _ ?_;clear K hK)|(refine sE ?_;simp only [go_sem,seval,L99,O99,L100,O100,L103,O103,L104,O104];refine kR _ ?_;clear KR kR)|(simp only [thenE,inB,seval])))
  (simp only [retQ,Try.results103];simp (disch := omega) only [resK,resT,resAV,Env.sel,Env.keys,List.map_nil,List.map_cons,List.all_nil,List.all_cons,AV.isS,Bool.not_false,Bool.and_self,Option.map_some,List.length_cons,List.length_nil,Nat.zero_add,Nat.reduceAdd,not_false_eq_true,true_and,and_true,ne_eq,go_sem,seval,ne_eq])
  have e : (if (hAt h i).2 + 1 < (rAt b (fr.getD i 0).toNat).getD (fr.getD k 0).toNat 0 then (hAt h i).2 + 1 else (rAt b (fr.getD i 0).toNat).getD (fr.getD k 0).toNat 0) = lowH b fr h i k := by
    unfold lowH numF rGet
    split <;> split <;> omega
  rw [e]
theorem ahead_ok (b d : List (List Int)) (fr : List Int) (h : List Hp) (i k : Nat) (hr : RkOk b d b.length) (hi : i < fr.length) (hi2 : i < h.length) (hk : k < fr.length) (hk2 : k < h.length) (hfi : hasR b (fr.getD i 0)) (hfk : hasR b (fr.getD k 0)) (ht : 0 ≤ (hAt h i).2 ∧ (hAt h i).2 ≤ 1000000) (ht2 : 0 ≤ (hAt h k).2 ∧ (hAt h k).2 ≤ 1000000) (hb : b.length ≤ 1000) (hf : fr.length ≤ 1000) (hh : h.length ≤ 1000) :
    Contract Try.prog 99 [.agg [.sl 1 (rRows b),.sl 1 (rRows d),.sl 1 (kRows .i64 fr),.sl 3 (hRows h)],.c (.im (.int .i64 i)),.c (.im (.int .i64 k))] (.c (.im (.int .i64 (agF b d fr h i k)))) := by
  obtain ⟨l1,l2,l3,l4⟩ := rk_lens hr
  have r1 := l4 (fr.getD i 0).toNat
  have lo1 := glow_ok b d fr h i k hr hi hi2 hk hfi hfk ht hb hf hh
  have lo2 := glow_ok b d fr h k i hr hk hk2 hi hfk hfi ht2 hb hf hh
  unfold hasR at hfi hfk
  have r2 := r1 (by omega)
  (refine contract_of_awp (L := L99) Try.func99 rfl (by kernel_rfl) (by first|rfl|decide) (by first|rfl|kernel_rfl) ?_;simp only [Try.ntmps99,initEnv,Env.keys,List.map_nil,List.map_cons,List.append_nil,List.cons_append,List.nil_append])
  (repeat (first|(refine sA ?_;try intro KR kR)|(with_reducible refine sD O99 ?_;intro KR kR;simp only [O99,ordl,seval])|(refine sB ?_;intro K hK;simp (disch := omega) only [go_sem,seval];(try ((with_reducible first|refine Gt ?_|refine gopO_f rfl ?_|refine Gv rfl ?_);simp (disch := omega) only [go_sem,seval]));(repeat first|intro (xb : Blk)|intro (xk : Nat)|intro hx|refine pC ?_);refine hK _ ?_;clear K hK)|(refine sE ?_;simp only [go_sem,seval,L99,O99,L100,O100,L103,O103,L104,O104];refine kR _ ?_;clear KR kR)|(simp only [thenE,inB,seval])))
  (refine sB ?_;intro K hK;simp (disch := omega) only [go_sem,seval];(try ((with_reducible refine Gt ?_);simp (disch := omega) only [go_sem,seval]));refine cN ?_;simp (disch := omega) only [go_sem,seval];refine ⟨_,_,ContractH.n (lo1),?_⟩;intro r H' hr hk;(try obtain rfl := keys_nil hk);(first|subst hr|(obtain ⟨_,rfl⟩ := hr)|(obtain ⟨_,_,rfl⟩ := hr)|(obtain ⟨_,_,_,rfl⟩ := hr));(try simp (disch := omega) only [AV.flat,AC.flat,AC.flat.flatL,AC.flat.flatLL,go_sem,seval]);(repeat first|intro (xb : Blk)|intro (xk : Nat)|intro hx|refine pC ?_);refine hK _ ?_;clear K hK)
  (repeat (first|(refine sA ?_;try intro KR kR)|(with_reducible refine sD O99 ?_;intro KR kR;simp only [O99,ordl,seval])|(refine sB ?_;intro K hK;simp (disch := omega) only [go_sem,seval];(try ((with_reducible first|refine Gt ?_|refine gopO_f rfl ?_|refine Gv rfl ?_);simp (disch := omega) only [go_sem,seval]));(repeat first|intro (xb : Blk)|intro (xk : Nat)|intro hx|refine pC ?_);refine hK _ ?_;clear K hK)|(refine sE ?_;simp only [go_sem,seval,L99,O99,L100,O100,L103,O103,L104,O104];refine kR _ ?_;clear KR kR)|(simp only [thenE,inB,seval])))
  (refine sB ?_;intro K hK;simp (disch := omega) only [go_sem,seval];(try ((with_reducible refine Gt ?_);simp (disch := omega) only [go_sem,seval]));refine cN ?_;simp (disch := omega) only [go_sem,seval];refine ⟨_,_,ContractH.n (lo2),?_⟩;intro r H' hr hk;(try obtain rfl := keys_nil hk);(first|subst hr|(obtain ⟨_,rfl⟩ := hr)|(obtain ⟨_,_,rfl⟩ := hr)|(obtain ⟨_,_,_,rfl⟩ := hr));(try simp (disch := omega) only [AV.flat,AC.flat,AC.flat.flatL,AC.flat.flatLL,go_sem,seval]);(repeat first|intro (xb : Blk)|intro (xk : Nat)|intro hx|refine pC ?_);refine hK _ ?_;clear K hK)
  (repeat (first|(refine sA ?_;try intro KR kR)|(with_reducible refine sD O99 ?_;intro KR kR;simp only [O99,ordl,seval])|(refine sB ?_;intro K hK;simp (disch := omega) only [go_sem,seval];(try ((with_reducible first|refine Gt ?_|refine gopO_f rfl ?_|refine Gv rfl ?_);simp (disch := omega) only [go_sem,seval]));(repeat first|intro (xb : Blk)|intro (xk : Nat)|intro hx|refine pC ?_);refine hK _ ?_;clear K hK)|(refine sE ?_;simp only [go_sem,seval,L99,O99,L100,O100,L103,O103,L104,O104];refine kR _ ?_;clear KR kR)|(simp only [thenE,inB,seval])))
  ((with_reducible refine Ac ?_);intro K hK;simp (disch := omega) only [condK,go_sem,seval];refine hK _ ?_ ?_;all_goals clear K hK;all_goals intro hq;all_goals (try simp only [qF,reduceCtorEq] at hq);all_goals (try (exfalso;first|exact hq|omega)))
  · (repeat (first|(refine sA ?_;try intro KR kR)|(with_reducible refine sD O99 ?_;intro KR kR;simp only [O99,ordl,seval])|(refine sB ?_;intro K hK;simp (disch := omega) only [go_sem,seval];(try ((with_reducible first|refine Gt ?_|refine gopO_f rfl ?_|refine Gv rfl ?_);simp (disch := omega) only [go_sem,seval]));(repeat first|intro (xb : Blk)|intro (xk : Nat)|intro hx|refine pC ?_);refine hK _ ?_;clear K hK)|(refine sE ?_;simp only [go_sem,seval,L99,O99,L100,O100,L103,O103,L104,O104];refine kR _ ?_;clear KR kR)|(simp only [thenE,inB,seval])))
    (simp only [retQ,Try.results99];simp (disch := omega) only [resK,resT,resAV,Env.sel,Env.keys,List.map_nil,List.map_cons,List.all_nil,List.all_cons,AV.isS,Bool.not_false,Bool.and_self,Option.map_some,List.length_cons,List.length_nil,Nat.zero_add,Nat.reduceAdd,not_false_eq_true,true_and,and_true,ne_eq,go_sem,seval,ne_eq])
    rw [agF,if_pos hq]
  · have hq1 := hq
    (repeat (first|(refine sA ?_;try intro KR kR)|(with_reducible refine sD O99 ?_;intro KR kR;simp only [O99,ordl,seval])|(refine sB ?_;intro K hK;simp (disch := omega) only [go_sem,seval];(try ((with_reducible first|refine Gt ?_|refine gopO_f rfl ?_|refine Gv rfl ?_);simp (disch := omega) only [go_sem,seval]));(repeat first|intro (xb : Blk)|intro (xk : Nat)|intro hx|refine pC ?_);refine hK _ ?_;clear K hK)|(refine sE ?_;simp only [go_sem,seval,L99,O99,L100,O100,L103,O103,L104,O104];refine kR _ ?_;clear KR kR)|(simp only [thenE,inB,seval])))
    ((with_reducible refine Ac ?_);intro K hK;simp (disch := omega) only [condK,go_sem,seval];refine hK _ ?_ ?_;all_goals clear K hK;all_goals intro hq;all_goals (try simp only [qF,reduceCtorEq] at hq);all_goals (try (exfalso;first|exact hq|omega)))
    · (repeat (first|(refine sA ?_;try intro KR kR)|(with_reducible refine sD O99 ?_;intro KR kR;simp only [O99,ordl,seval])|(refine sB ?_;intro K hK;simp (disch := omega) only [go_sem,seval];(try ((with_reducible first|refine Gt ?_|refine gopO_f rfl ?_|refine Gv rfl ?_);simp (disch := omega) only [go_sem,seval]));(repeat first|intro (xb : Blk)|intro (xk : Nat)|intro hx|refine pC ?_);refine hK _ ?_;clear K hK)|(refine sE ?_;simp only [go_sem,seval,L99,O99,L100,O100,L103,O103,L104,O104];refine kR _ ?_;clear KR kR)|(simp only [thenE,inB,seval])))
      (simp only [retQ,Try.results99];simp (disch := omega) only [resK,resT,resAV,Env.sel,Env.keys,List.map_nil,List.map_cons,List.all_nil,List.all_cons,AV.isS,Bool.not_false,Bool.and_self,Option.map_some,List.length_cons,List.length_nil,Nat.zero_add,Nat.reduceAdd,not_false_eq_true,true_and,and_true,ne_eq,go_sem,seval,ne_eq])
      rw [agF,if_neg hq1,if_pos hq]
    · (repeat (first|(refine sA ?_;try intro KR kR)|(with_reducible refine sD O99 ?_;intro KR kR;simp only [O99,ordl,seval])|(refine sB ?_;intro K hK;simp (disch := omega) only [go_sem,seval];(try ((with_reducible first|refine Gt ?_|refine gopO_f rfl ?_|refine Gv rfl ?_);simp (disch := omega) only [go_sem,seval]));(repeat first|intro (xb : Blk)|intro (xk : Nat)|intro hx|refine pC ?_);refine hK _ ?_;clear K hK)|(refine sE ?_;simp only [go_sem,seval,L99,O99,L100,O100,L103,O103,L104,O104];refine kR _ ?_;clear KR kR)|(simp only [thenE,inB,seval])))
      (simp only [retQ,Try.results99];simp (disch := omega) only [resK,resT,resAV,Env.sel,Env.keys,List.map_nil,List.map_cons,List.all_nil,List.all_cons,AV.isS,Bool.not_false,Bool.and_self,Option.map_some,List.length_cons,List.length_nil,Nat.zero_add,Nat.reduceAdd,not_false_eq_true,true_and,and_true,ne_eq,go_sem,seval,ne_eq])
      rw [agF,if_neg hq1,if_neg hq]
      rfl
end Go.Proofs.Ytllemobnfpljfaa
