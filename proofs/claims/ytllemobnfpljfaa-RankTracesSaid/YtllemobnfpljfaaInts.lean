import Derived.Test.YtllemobnfpljfaaHty
set_option linter.unusedSimpArgs false
set_option maxRecDepth 100000
set_option maxHeartbeats 8000000
namespace Go.Proofs.Ytllemobnfpljfaa
open Go Go.Hs
def L20 (r : Nat) : Option (List Nat) := kl r [(0,[0,1]),(1,[0,1,10]),(2,[4]),(3,[0,1,5]),(4,[0,1,5,14]),(5,[0,1,5]),(6,[0,1,5,25]),(7,[4]),(8,[4])]
def O20 (r : Nat) : List Nat × OT := ordl r [(6,([],.val 0 (.val 1 (.val 2 (.val 4 (.val 5 (.val 6 (.load 3 (.load 7 (.val 8 (.done)))))))))))]
theorem Ints_ok (a b : List Int) (ha : a.length ≤ 4611686018427387904) (hb : b.length ≤ 4611686018427387904) : Contract Try.prog 20 [.c (.sl 1 (kRows .i64 a)),.c (.sl 1 (kRows .i64 b))] (.c (.im (.bool (decide (a = b))))) := by
 (refine contract_of_awp (L := L20) Try.func20 rfl (by kernel_rfl) (by first|rfl|decide) (by first|rfl|kernel_rfl) ?_;simp only [Try.ntmps20,initEnv,Env.keys,List.map_nil,List.map_cons,List.append_nil,List.cons_append,List.nil_append])
 (repeat' (first|(refine sA ?_;try intro KR kR)|(with_reducible refine sD O20 ?_;intro KR kR;simp only [O20,ordl,seval])|(refine sB ?_;intro K hK;simp (disch := omega) only [go_sem,seval,ne_eq];(try ((with_reducible first|refine Gt ?_|refine Gv rfl ?_);simp (disch := omega) only [go_sem,seval,ne_eq]));(repeat first|intro (xb : Blk)|intro (xk : Nat)|intro hx|refine pC ?_);refine hK _ ?_;clear K hK)|(refine sE ?_;simp only [go_sem,seval,L20,O20];refine kR _ ?_;clear KR kR)|(simp only [thenE,inB,seval])|((with_reducible refine Ac ?_);intro K hK;simp (disch := omega) only [condK,go_sem,seval,ne_eq];refine hK _ ?_ ?_;all_goals clear K hK;all_goals intro hq;all_goals (try simp only [qF,reduceCtorEq] at hq);all_goals (try (exfalso;first|exact hq|omega)))))
 ·(simp only [retQ,Try.results20];simp (disch := omega) only [resK,resT,resAV,Env.sel,Env.keys,List.map_nil,List.map_cons,List.all_nil,List.all_cons,AV.isS,Bool.not_false,Bool.and_self,Option.map_some,List.length_cons,List.length_nil,Nat.zero_add,Nat.reduceAdd,not_false_eq_true,true_and,and_true,ne_eq,go_sem,seval,ne_eq])
  have hne : a.length ≠ b.length := by omega
  rw [decide_eq_false (fun h => hne (by rw [h]))]
 ·have hl : a.length = b.length := by omega
  refine awp_loop [0,1,5] (fun k S => ∃ i : Nat,i ≤ a.length ∧ (∀ j,j < i → a.getD j 0 = b.getD j 0) ∧ k = a.length - i ∧
   S = [(0,.c (.sl 1 (kRows .i64 a))),(1,.c (.sl 1 (kRows .i64 b))),(5,.c (.im (.int .i64 i)))]) _ ⟨0,by omega,by omega,rfl,rfl⟩ ?_
  rintro k S' ⟨i,h1,h2,hk,rfl⟩
  (repeat' (first|(refine sA ?_;try intro KR kR)|(with_reducible refine sD O20 ?_;intro KR kR;simp only [O20,ordl,seval])|(refine sB ?_;intro K hK;simp (disch := omega) only [go_sem,seval,ne_eq];(try ((with_reducible first|refine Gt ?_|refine Gv rfl ?_);simp (disch := omega) only [go_sem,seval,ne_eq]));(repeat first|intro (xb : Blk)|intro (xk : Nat)|intro hx|refine pC ?_);refine hK _ ?_;clear K hK)|(refine sE ?_;simp only [go_sem,seval,L20,O20];refine kR _ ?_;clear KR kR)|(simp only [thenE,inB,seval])|((with_reducible refine Ac ?_);intro K hK;simp (disch := omega) only [condK,go_sem,seval,ne_eq];refine hK _ ?_ ?_;all_goals clear K hK;all_goals intro hq;all_goals (try simp only [qF,reduceCtorEq] at hq);all_goals (try (exfalso;first|exact hq|omega)))))
  ·(simp only [retQ,Try.results20];simp (disch := omega) only [resK,resT,resAV,Env.sel,Env.keys,List.map_nil,List.map_cons,List.all_nil,List.all_cons,AV.isS,Bool.not_false,Bool.and_self,Option.map_some,List.length_cons,List.length_nil,Nat.zero_add,Nat.reduceAdd,not_false_eq_true,true_and,and_true,ne_eq,go_sem,seval,ne_eq])
   rw [decide_eq_false]
   rintro rfl
   exact hq rfl
  ·refine gh_no ⟨a.length - (i + 1),by omega,i + 1,by omega,?_,rfl,?_⟩
   ·intro j hj
    by_cases e : j = i
    ·subst e;exact hq
    ·exact h2 j (by omega)
   ·((try simp (disch := omega) only [List.cons.injEq,Prod.mk.injEq,AV.c.injEq,AV.agg.injEq,AV.opt.injEq,AV.tup.injEq,AV.row.injEq,AV.box.injEq,AV.mapo.injEq,AC.im.injEq,AC.sl.injEq,AC.adr.injEq,AC.ref.injEq,AC.ptr.injEq,AC.own.injEq,AC.fn.injEq,Value.int.injEq,Value.bool.injEq,Value.string.injEq,heq_eq_eq,go_sem,seval,ne_eq]);(try (repeat' refine And.intro ?_ ?_));all_goals (first|rfl|omega|skip))
  ·(simp only [retQ,Try.results20];simp (disch := omega) only [resK,resT,resAV,Env.sel,Env.keys,List.map_nil,List.map_cons,List.all_nil,List.all_cons,AV.isS,Bool.not_false,Bool.and_self,Option.map_some,List.length_cons,List.length_nil,Nat.zero_add,Nat.reduceAdd,not_false_eq_true,true_and,and_true,ne_eq,go_sem,seval,ne_eq])
   have : a = b := List.ext_getElem hl fun j h3 h4 => by
    have := h2 j (by omega)
    simpa [List.getD_eq_getElem?_getD,h3,h4] using this
   rw [decide_eq_true this]
end Go.Proofs.Ytllemobnfpljfaa
