import Derived.Test.YtllemobnfpljfaaRankP
import Derived.Test.YtllemobnfpljfaaHty
set_option linter.unusedSimpArgs false
set_option linter.unusedVariables false
set_option maxRecDepth 100000
set_option maxHeartbeats 8000000
namespace Go.Proofs.Ytllemobnfpljfaa
open Go Go.Hs
def L86 (r : Nat) : Option (List Nat) := kl r [(0,[0,1]),(1,[0,1,7,8,9]),(2,[0,1,7,8,9,10]),(3,[0,1,6,7,8,9]),(4,[0,1,7,8,9,16]),(5,[4]),(6,[0,1,7,8,9]),(7,[4])]
def O86 (r : Nat) : List Nat × OT := ordl r []
def L39 (r : Nat) : Option (List Nat) := kl r [(0,[1,2]),(1,[1,2,19]),(2,[4]),(3,[1,2,20,21]),(4,[1,2,20,21,22]),(5,[1,2,5,20,21]),(6,[1,2,5,20,21,43]),(7,[4]),(8,[1,2,5,20,21,44,45]),(9,[1,2,5,20,21,44,45,46]),(10,[1,2,5,6,20,21,44,45]),(11,[1,2,5,6,7,20,21,44,45]),(12,[1,2,5,20,21,44,45,90]),(13,[4]),(14,[1,2,5,20,21,44,45]),(15,[1,2,20,21]),(16,[4])]
def O39 (r : Nat) : List Nat × OT := ordl r []
def L40 (r : Nat) : Option (List Nat) := kl r [(0,[1,2]),(1,[1,2,19]),(2,[4]),(3,[1,2,5]),(4,[1,2,5,22]),(5,[1,2,5]),(6,[1,2,5,42]),(7,[4]),(8,[1,2,6]),(9,[1,2,6,45]),(10,[1,2,6]),(11,[1,2,6,7]),(12,[1,2,6,7,50]),(13,[1,2,6,7]),(14,[1,2,6,7,88]),(15,[4]),(16,[1,2,6,7,133]),(17,[4]),(18,[4])]
def O40 (r : Nat) : List Nat × OT := ordl r [(16,([],.val 0 (.val 1 (.val 2 (.val 3 (.val 4 (.val 6 (.val 9 (.load 5 (.val 7 (.load 8 (.val 10 (.load 11 (.val 12 (.val 13 (.val 14 (.val 16 (.val 19 (.load 15 (.val 17 (.load 18 (.val 20 (.load 21 (.val 22 (.val 23 (.val 24 (.val 25 (.val 27 (.val 30 (.val 33 (.val 35 (.val 38 (.load 26 (.val 28 (.load 29 (.val 31 (.load 32 (.load 34 (.val 36 (.load 37 (.val 39 (.load 40 (.val 41 (.val 42 (.val 43 (.val 44 (.done)))))))))))))))))))))))))))))))))))))))))))))))]
attribute [local go_sem] length_rRows getRow
theorem square_ok (m : List (List Int)) (n : Int) (hm : m.length ≤ 1000) (hr : ∀ r ∈ m,r.length ≤ 1000) : Contract Try.prog 86 [.c (.sl 1 (rRows m)),.c (.im (.int .i64 n))] (.c (.im (.bool (squareB m n)))) := by
 (refine contract_of_awp (L := L86) Try.func86 rfl (by kernel_rfl) (by first|rfl|decide) (by first|rfl|kernel_rfl) ?_;simp only [Try.ntmps86,initEnv,Env.keys,List.map_nil,List.map_cons,List.append_nil,List.cons_append,List.nil_append])
 (repeat (first|(refine sA ?_;try intro KR kR)|(with_reducible refine sD O86 ?_;intro KR kR;simp only [O86,ordl,seval])|(refine sB ?_;intro K hK;simp (disch := omega) only [go_sem,seval];(try ((with_reducible first|refine Gt ?_|refine Gv rfl ?_);simp (disch := omega) only [go_sem,seval]));(repeat first|intro (xb : Blk)|intro (xk : Nat)|intro hx|refine pC ?_);refine hK _ ?_;clear K hK)|(refine sE ?_;simp only [go_sem,seval,L39,O39,L40,O40,L86,O86];refine kR _ ?_;clear KR kR)|(simp only [thenE,inB,seval])))
 refine awp_loop [0,1,7,8,9] (fun k S => ∃ i : Nat,i ≤ m.length ∧ (∀ j : Nat,j < i → ((rAt m j).length : Int) = n) ∧ k = m.length - i ∧
  S = [(0,.c (.sl 1 (rRows m))),(1,.c (.im (.int .i64 n))),(7,.c (.sl 1 (rRows m))),(8,.c (.im (.int .i64 m.length))),(9,.c (.im (.int .i64 i)))]) _ ⟨0,by omega,fun _ h => absurd h (Nat.not_lt_zero _),rfl,rfl⟩ ?_
 rintro k S' ⟨i,h1,h2,hk,rfl⟩
 (repeat (first|(refine sA ?_;try intro KR kR)|(with_reducible refine sD O86 ?_;intro KR kR;simp only [O86,ordl,seval])|(refine sB ?_;intro K hK;simp (disch := omega) only [go_sem,seval];(try ((with_reducible first|refine Gt ?_|refine Gv rfl ?_);simp (disch := omega) only [go_sem,seval]));(repeat first|intro (xb : Blk)|intro (xk : Nat)|intro hx|refine pC ?_);refine hK _ ?_;clear K hK)|(refine sE ?_;simp only [go_sem,seval,L39,O39,L40,O40,L86,O86];refine kR _ ?_;clear KR kR)|(simp only [thenE,inB,seval])))
 ((with_reducible refine Ac ?_);intro K hK;simp (disch := omega) only [condK,go_sem,seval];refine hK _ ?_ ?_;all_goals clear K hK;all_goals intro hq;all_goals (try simp only [qF,reduceCtorEq] at hq);all_goals (try (exfalso;first|exact hq|omega)))
 ·have hi : i < m.length := by omega
  have hl := hr _ (rAt_mem hi)
  (repeat (first|(refine sA ?_;try intro KR kR)|(with_reducible refine sD O86 ?_;intro KR kR;simp only [O86,ordl,seval])|(refine sB ?_;intro K hK;simp (disch := omega) only [go_sem,seval];(try ((with_reducible first|refine Gt ?_|refine Gv rfl ?_);simp (disch := omega) only [go_sem,seval]));(repeat first|intro (xb : Blk)|intro (xk : Nat)|intro hx|refine pC ?_);refine hK _ ?_;clear K hK)|(refine sE ?_;simp only [go_sem,seval,L39,O39,L40,O40,L86,O86];refine kR _ ?_;clear KR kR)|(simp only [thenE,inB,seval])))
  ((with_reducible refine Ac ?_);intro K hK;simp (disch := omega) only [condK,go_sem,seval];refine hK _ ?_ ?_;all_goals clear K hK;all_goals intro hq;all_goals (try simp only [qF,reduceCtorEq] at hq);all_goals (try (exfalso;first|exact hq|omega)))
  ·(repeat (first|(refine sA ?_;try intro KR kR)|(with_reducible refine sD O86 ?_;intro KR kR;simp only [O86,ordl,seval])|(refine sB ?_;intro K hK;simp (disch := omega) only [go_sem,seval];(try ((with_reducible first|refine Gt ?_|refine Gv rfl ?_);simp (disch := omega) only [go_sem,seval]));(repeat first|intro (xb : Blk)|intro (xk : Nat)|intro hx|refine pC ?_);refine hK _ ?_;clear K hK)|(refine sE ?_;simp only [go_sem,seval,L39,O39,L40,O40,L86,O86];refine kR _ ?_;clear KR kR)|(simp only [thenE,inB,seval])))
   (simp only [retQ,Try.results86];simp (disch := omega) only [resK,resT,resAV,Env.sel,Env.keys,List.map_nil,List.map_cons,List.all_nil,List.all_cons,AV.isS,Bool.not_false,Bool.and_self,Option.map_some,List.length_cons,List.length_nil,Nat.zero_add,Nat.reduceAdd,not_false_eq_true,true_and,and_true,ne_eq,go_sem,seval,ne_eq])
   rw [squareB_f (fun h => hq (h.2 i hi))]
  ·(repeat (first|(refine sA ?_;try intro KR kR)|(with_reducible refine sD O86 ?_;intro KR kR;simp only [O86,ordl,seval])|(refine sB ?_;intro K hK;simp (disch := omega) only [go_sem,seval];(try ((with_reducible first|refine Gt ?_|refine Gv rfl ?_);simp (disch := omega) only [go_sem,seval]));(repeat first|intro (xb : Blk)|intro (xk : Nat)|intro hx|refine pC ?_);refine hK _ ?_;clear K hK)|(refine sE ?_;simp only [go_sem,seval,L39,O39,L40,O40,L86,O86];refine kR _ ?_;clear KR kR)|(simp only [thenE,inB,seval])))
   refine gh_no ⟨m.length - (i + 1),by omega,i + 1,by omega,fun j hj => ?_,rfl,rfl⟩
   by_cases e : j = i
   ·subst e;omega
   ·exact h2 j (by omega)
 ·have ei : i = m.length := by omega
  (repeat (first|(refine sA ?_;try intro KR kR)|(with_reducible refine sD O86 ?_;intro KR kR;simp only [O86,ordl,seval])|(refine sB ?_;intro K hK;simp (disch := omega) only [go_sem,seval];(try ((with_reducible first|refine Gt ?_|refine Gv rfl ?_);simp (disch := omega) only [go_sem,seval]));(repeat first|intro (xb : Blk)|intro (xk : Nat)|intro hx|refine pC ?_);refine hK _ ?_;clear K hK)|(refine sE ?_;simp only [go_sem,seval,L39,O39,L40,O40,L86,O86];refine kR _ ?_;clear KR kR)|(simp only [thenE,inB,seval])))
  (simp only [retQ,Try.results86];simp (disch := omega) only [resK,resT,resAV,Env.sel,Env.keys,List.map_nil,List.map_cons,List.all_nil,List.all_cons,AV.isS,Bool.not_false,Bool.and_self,Option.map_some,List.length_cons,List.length_nil,Nat.zero_add,Nat.reduceAdd,not_false_eq_true,true_and,and_true,ne_eq,go_sem,seval,ne_eq])
  by_cases e : (m.length : Int) = n
  ·rw [squareB_t ⟨e,fun j hj => h2 j (by omega)⟩];simp [e]
  ·rw [squareB_f (fun h => e h.1)];simp [e]
set_option maxHeartbeats 4000000 in
theorem rkRight_ok (b d : List (List Int)) (n : Int) (hb : b.length ≤ 1000) (hd : d.length ≤ 1000) (hbr : ∀ r ∈ b,r.length ≤ 1000) (hdr : ∀ r ∈ d,r.length ≤ 1000) : Contract Try.prog 39 [.agg [.sl 1 (rRows b),.sl 1 (rRows d)],.c (.im (.int .i64 n))] (.c (.im (.bool (rkB b d n)))) := by
 (refine contract_of_awp (L := L39) Try.func39 rfl (by kernel_rfl) (by first|rfl|decide) (by first|rfl|kernel_rfl) ?_;simp only [Try.ntmps39,initEnv,Env.keys,List.map_nil,List.map_cons,List.append_nil,List.cons_append,List.nil_append])
 (repeat (first|(refine sA ?_;try intro KR kR)|(with_reducible refine sD O39 ?_;intro KR kR;simp only [O39,ordl,seval])|(refine sB ?_;intro K hK;simp (disch := omega) only [go_sem,seval];(try ((with_reducible first|refine Gt ?_|refine Gv rfl ?_);simp (disch := omega) only [go_sem,seval]));(repeat first|intro (xb : Blk)|intro (xk : Nat)|intro hx|refine pC ?_);refine hK _ ?_;clear K hK)|(refine sE ?_;simp only [go_sem,seval,L39,O39,L40,O40,L86,O86];refine kR _ ?_;clear KR kR)|(simp only [thenE,inB,seval])))
 (refine sB ?_;intro K hK;simp (disch := omega) only [go_sem,seval];(try ((with_reducible refine Gt ?_);simp (disch := omega) only [go_sem,seval]));refine cN ?_;simp (disch := omega) only [go_sem,seval];refine ⟨_,_,ContractH.n (square_ok b n hb hbr),?_⟩;intro r H' hr hk;(try obtain rfl := keys_nil hk);(first|subst hr|(obtain ⟨_,rfl⟩ := hr)|(obtain ⟨_,_,rfl⟩ := hr)|(obtain ⟨_,_,_,rfl⟩ := hr));(try simp (disch := omega) only [AV.flat,AC.flat,AC.flat.flatL,AC.flat.flatLL,go_sem,seval]);(repeat first|intro (xb : Blk)|intro (xk : Nat)|intro hx|refine pC ?_);refine hK _ ?_;clear K hK)
 (repeat (first|(refine sA ?_;try intro KR kR)|(with_reducible refine sD O39 ?_;intro KR kR;simp only [O39,ordl,seval])|(refine sB ?_;intro K hK;simp (disch := omega) only [go_sem,seval];(try ((with_reducible first|refine Gt ?_|refine Gv rfl ?_);simp (disch := omega) only [go_sem,seval]));(repeat first|intro (xb : Blk)|intro (xk : Nat)|intro hx|refine pC ?_);refine hK _ ?_;clear K hK)|(refine sE ?_;simp only [go_sem,seval,L39,O39,L40,O40,L86,O86];refine kR _ ?_;clear KR kR)|(simp only [thenE,inB,seval])))
 ((with_reducible (first|refine Oz ?_|refine Rg ?_));intro K hK;simp (disch := omega) only [go_sem,seval];(with_reducible refine Gv rfl ?_);simp (disch := omega) only [go_sem,seval];refine ⟨_,fun hg => square_ok d n hd hdr,?_⟩;(try simp (disch := omega) only [go_sem,seval]);(repeat first|intro (xb : Blk)|intro (xk : Nat)|intro hx|refine pC ?_);refine hK _ ?_;clear K hK)
 (repeat (first|(refine sA ?_;try intro KR kR)|(with_reducible refine sD O39 ?_;intro KR kR;simp only [O39,ordl,seval])|(refine sB ?_;intro K hK;simp (disch := omega) only [go_sem,seval];(try ((with_reducible first|refine Gt ?_|refine Gv rfl ?_);simp (disch := omega) only [go_sem,seval]));(repeat first|intro (xb : Blk)|intro (xk : Nat)|intro hx|refine pC ?_);refine hK _ ?_;clear K hK)|(refine sE ?_;simp only [go_sem,seval,L39,O39,L40,O40,L86,O86];refine kR _ ?_;clear KR kR)|(simp only [thenE,inB,seval])))
 ((with_reducible refine Ac ?_);intro K hK;simp (disch := omega) only [condK,go_sem,seval];refine hK _ ?_ ?_;all_goals clear K hK;all_goals intro hq;all_goals (try simp only [qF,reduceCtorEq] at hq);all_goals (try (exfalso;first|exact hq|omega)))
 ·(repeat (first|(refine sA ?_;try intro KR kR)|(with_reducible refine sD O39 ?_;intro KR kR;simp only [O39,ordl,seval])|(refine sB ?_;intro K hK;simp (disch := omega) only [go_sem,seval];(try ((with_reducible first|refine Gt ?_|refine Gv rfl ?_);simp (disch := omega) only [go_sem,seval]));(repeat first|intro (xb : Blk)|intro (xk : Nat)|intro hx|refine pC ?_);refine hK _ ?_;clear K hK)|(refine sE ?_;simp only [go_sem,seval,L39,O39,L40,O40,L86,O86];refine kR _ ?_;clear KR kR)|(simp only [thenE,inB,seval])))
  (simp only [retQ,Try.results39];simp (disch := omega) only [resK,resT,resAV,Env.sel,Env.keys,List.map_nil,List.map_cons,List.all_nil,List.all_cons,AV.isS,Bool.not_false,Bool.and_self,Option.map_some,List.length_cons,List.length_nil,Nat.zero_add,Nat.reduceAdd,not_false_eq_true,true_and,and_true,ne_eq,go_sem,seval,ne_eq])
  rw [rkB_f]
  rintro ⟨h1,h2,_⟩
  rw [squareB_t h1,squareB_t h2] at hq
  rcases hq with hq|hq <;> cases hq
 ·have h1 := squareB_iff.1 hq.1
  have h2 := squareB_iff.1 hq.2
  have hn := h1.1
  have hn2 := h2.1
  (repeat (first|(refine sA ?_;try intro KR kR)|(with_reducible refine sD O39 ?_;intro KR kR;simp only [O39,ordl,seval])|(refine sB ?_;intro K hK;simp (disch := omega) only [go_sem,seval];(try ((with_reducible first|refine Gt ?_|refine Gv rfl ?_);simp (disch := omega) only [go_sem,seval]));(repeat first|intro (xb : Blk)|intro (xk : Nat)|intro hx|refine pC ?_);refine hK _ ?_;clear K hK)|(refine sE ?_;simp only [go_sem,seval,L39,O39,L40,O40,L86,O86];refine kR _ ?_;clear KR kR)|(simp only [thenE,inB,seval])))
  generalize xk = kb
  refine awp_loop [1,2,20,21,1002] (fun k S => ∃ i : Nat,i ≤ b.length ∧ (∀ j : Nat,j < i → RkRow b d n.toNat j) ∧ k = b.length - i ∧
   S = [(1,.c (.im (.int .i64 n))),(2,.c (.ptr 1002 [] kb 2 0 0)),(20,.c (.im (.int .i64 n))),(21,.c (.im (.int .i64 i))),(1002,.box kb 55 [.sl 1 (rRows b),.sl 1 (rRows d)])]) _ ⟨0,by omega,fun _ h => absurd h (Nat.not_lt_zero _),rfl,rfl⟩ ?_
  rintro k S' ⟨i,hi1,hi2,hk,rfl⟩
  (repeat (first|(refine sA ?_;try intro KR kR)|(with_reducible refine sD O39 ?_;intro KR kR;simp only [O39,ordl,seval])|(refine sB ?_;intro K hK;simp (disch := omega) only [go_sem,seval];(try ((with_reducible first|refine Gt ?_|refine Gv rfl ?_);simp (disch := omega) only [go_sem,seval]));(repeat first|intro (xb : Blk)|intro (xk : Nat)|intro hx|refine pC ?_);refine hK _ ?_;clear K hK)|(refine sE ?_;simp only [go_sem,seval,L39,O39,L40,O40,L86,O86];refine kR _ ?_;clear KR kR)|(simp only [thenE,inB,seval])))
  ((with_reducible refine Ac ?_);intro K hK;simp (disch := omega) only [condK,go_sem,seval];refine hK _ ?_ ?_;all_goals clear K hK;all_goals intro hq;all_goals (try simp only [qF,reduceCtorEq] at hq);all_goals (try (exfalso;first|exact hq|omega)))
  ·have hi : i < b.length := by omega
   have hi' : i < d.length := by omega
   have l1 := h1.2 i hi
   have l2 := h2.2 i hi'
   (repeat (first|(refine sA ?_;try intro KR kR)|(with_reducible refine sD O39 ?_;intro KR kR;simp only [O39,ordl,seval])|(refine sB ?_;intro K hK;simp (disch := omega) only [go_sem,seval];(try ((with_reducible first|refine Gt ?_|refine Gv rfl ?_);simp (disch := omega) only [go_sem,seval]));(repeat first|intro (xb : Blk)|intro (xk : Nat)|intro hx|refine pC ?_);refine hK _ ?_;clear K hK)|(refine sE ?_;simp only [go_sem,seval,L39,O39,L40,O40,L86,O86];refine kR _ ?_;clear KR kR)|(simp only [thenE,inB,seval])))
   ((with_reducible refine Ac ?_);intro K hK;simp (disch := omega) only [condK,go_sem,seval];refine hK _ ?_ ?_;all_goals clear K hK;all_goals intro hq;all_goals (try simp only [qF,reduceCtorEq] at hq);all_goals (try (exfalso;first|exact hq|omega)))
   ·(repeat (first|(refine sA ?_;try intro KR kR)|(with_reducible refine sD O39 ?_;intro KR kR;simp only [O39,ordl,seval])|(refine sB ?_;intro K hK;simp (disch := omega) only [go_sem,seval];(try ((with_reducible first|refine Gt ?_|refine Gv rfl ?_);simp (disch := omega) only [go_sem,seval]));(repeat first|intro (xb : Blk)|intro (xk : Nat)|intro hx|refine pC ?_);refine hK _ ?_;clear K hK)|(refine sE ?_;simp only [go_sem,seval,L39,O39,L40,O40,L86,O86];refine kR _ ?_;clear KR kR)|(simp only [thenE,inB,seval])))
    (simp only [retQ,Try.results39];simp (disch := omega) only [resK,resT,resAV,Env.sel,Env.keys,List.map_nil,List.map_cons,List.all_nil,List.all_cons,AV.isS,Bool.not_false,Bool.and_self,Option.map_some,List.length_cons,List.length_nil,Nat.zero_add,Nat.reduceAdd,not_false_eq_true,true_and,and_true,ne_eq,go_sem,seval,ne_eq])
    rw [rkB_f]
    rintro ⟨_,_,h⟩
    have h := h i (by omega)
    have e1 := h.1
    have e2 := h.2.1
    unfold rGet at e1 e2
    omega
   ·have hq1 := hq
    (repeat (first|(refine sA ?_;try intro KR kR)|(with_reducible refine sD O39 ?_;intro KR kR;simp only [O39,ordl,seval])|(refine sB ?_;intro K hK;simp (disch := omega) only [go_sem,seval];(try ((with_reducible first|refine Gt ?_|refine Gv rfl ?_);simp (disch := omega) only [go_sem,seval]));(repeat first|intro (xb : Blk)|intro (xk : Nat)|intro hx|refine pC ?_);refine hK _ ?_;clear K hK)|(refine sE ?_;simp only [go_sem,seval,L39,O39,L40,O40,L86,O86];refine kR _ ?_;clear KR kR)|(simp only [thenE,inB,seval])))
    refine awp_loop [1,2,5,20,21,44,45,1002] (fun k' S => ∃ c : Nat,c ≤ b.length ∧ (∀ j : Nat,j < c → RkCell b d i j) ∧ k' = b.length - c ∧
     S = [(1,.c (.im (.int .i64 n))),(2,.c (.ptr 1002 [] kb 2 0 0)),(5,.c (.im (.int .i64 i))),(20,.c (.im (.int .i64 n))),(21,.c (.im (.int .i64 i))),(44,.c (.im (.int .i64 n))),(45,.c (.im (.int .i64 c))),(1002,.box kb 55 [.sl 1 (rRows b),.sl 1 (rRows d)])]) _ ⟨0,by omega,fun _ h => absurd h (Nat.not_lt_zero _),rfl,rfl⟩ ?_
    rintro k' S' ⟨c,hc1,hc2,hk',rfl⟩
    (repeat (first|(refine sA ?_;try intro KR kR)|(with_reducible refine sD O39 ?_;intro KR kR;simp only [O39,ordl,seval])|(refine sB ?_;intro K hK;simp (disch := omega) only [go_sem,seval];(try ((with_reducible first|refine Gt ?_|refine Gv rfl ?_);simp (disch := omega) only [go_sem,seval]));(repeat first|intro (xb : Blk)|intro (xk : Nat)|intro hx|refine pC ?_);refine hK _ ?_;clear K hK)|(refine sE ?_;simp only [go_sem,seval,L39,O39,L40,O40,L86,O86];refine kR _ ?_;clear KR kR)|(simp only [thenE,inB,seval])))
    ((with_reducible refine Ac ?_);intro K hK;simp (disch := omega) only [condK,go_sem,seval];refine hK _ ?_ ?_;all_goals clear K hK;all_goals intro hq;all_goals (try simp only [qF,reduceCtorEq] at hq);all_goals (try (exfalso;first|exact hq|omega)))
    ·have hc : c < b.length := by omega
     have hc' : c < d.length := by omega
     have l3 := h2.2 c hc'
     have w1 : (rAt d i).getD c 0 = 1 → IntKind.i64.wrap (0 - (rAt d i).getD c 0) = -1 := fun h => by rw [h];rfl
     have w2 : (rAt d i).getD c 0 = -1 → IntKind.i64.wrap (0 - (rAt d i).getD c 0) = 1 := fun h => by rw [h];rfl
     (repeat (first|(refine sA ?_;try intro KR kR)|(with_reducible refine sD O39 ?_;intro KR kR;simp only [O39,ordl,seval])|(refine sB ?_;intro K hK;simp (disch := omega) only [go_sem,seval];(try ((with_reducible first|refine Gt ?_|refine Gv rfl ?_);simp (disch := omega) only [go_sem,seval]));(repeat first|intro (xb : Blk)|intro (xk : Nat)|intro hx|refine pC ?_);refine hK _ ?_;clear K hK)|(refine sE ?_;simp only [go_sem,seval,L39,O39,L40,O40,L86,O86];refine kR _ ?_;clear KR kR)|(simp only [thenE,inB,seval])))
     ((with_reducible refine Ac ?_);intro K hK;simp (disch := omega) only [condK,go_sem,seval];refine hK _ ?_ ?_;all_goals clear K hK;all_goals intro hq;all_goals (try simp only [qF,reduceCtorEq] at hq);all_goals (try (exfalso;first|exact hq|omega)))
     ·(repeat (first|(refine sA ?_;try intro KR kR)|(with_reducible refine sD O39 ?_;intro KR kR;simp only [O39,ordl,seval])|(refine sB ?_;intro K hK;simp (disch := omega) only [go_sem,seval];(try ((with_reducible first|refine Gt ?_|refine Gv rfl ?_);simp (disch := omega) only [go_sem,seval]));(repeat first|intro (xb : Blk)|intro (xk : Nat)|intro hx|refine pC ?_);refine hK _ ?_;clear K hK)|(refine sE ?_;simp only [go_sem,seval,L39,O39,L40,O40,L86,O86];refine kR _ ?_;clear KR kR)|(simp only [thenE,inB,seval])))
      (simp only [retQ,Try.results39];simp (disch := omega) only [resK,resT,resAV,Env.sel,Env.keys,List.map_nil,List.map_cons,List.all_nil,List.all_cons,AV.isS,Bool.not_false,Bool.and_self,Option.map_some,List.length_cons,List.length_nil,Nat.zero_add,Nat.reduceAdd,not_false_eq_true,true_and,and_true,ne_eq,go_sem,seval,ne_eq])
      rw [rkB_f]
      rintro ⟨_,_,h⟩
      have h := (h i (by omega)).2.2 c (by omega)
      unfold RkCell rGet at h
      omega
     ·(repeat (first|(refine sA ?_;try intro KR kR)|(with_reducible refine sD O39 ?_;intro KR kR;simp only [O39,ordl,seval])|(refine sB ?_;intro K hK;simp (disch := omega) only [go_sem,seval];(try ((with_reducible first|refine Gt ?_|refine Gv rfl ?_);simp (disch := omega) only [go_sem,seval]));(repeat first|intro (xb : Blk)|intro (xk : Nat)|intro hx|refine pC ?_);refine hK _ ?_;clear K hK)|(refine sE ?_;simp only [go_sem,seval,L39,O39,L40,O40,L86,O86];refine kR _ ?_;clear KR kR)|(simp only [thenE,inB,seval])))
      refine gh_no ⟨b.length - (c + 1),by omega,c + 1,by omega,fun j hj => ?_,rfl,rfl⟩
      by_cases e : j = c
      ·subst e
       unfold RkCell rGet
       omega
      ·exact hc2 j (by omega)
    ·have ec : c = b.length := by omega
     (repeat (first|(refine sA ?_;try intro KR kR)|(with_reducible refine sD O39 ?_;intro KR kR;simp only [O39,ordl,seval])|(refine sB ?_;intro K hK;simp (disch := omega) only [go_sem,seval];(try ((with_reducible first|refine Gt ?_|refine Gv rfl ?_);simp (disch := omega) only [go_sem,seval]));(repeat first|intro (xb : Blk)|intro (xk : Nat)|intro hx|refine pC ?_);refine hK _ ?_;clear K hK)|(refine sE ?_;simp only [go_sem,seval,L39,O39,L40,O40,L86,O86];refine kR _ ?_;clear KR kR)|(simp only [thenE,inB,seval])))
     refine gh_no ⟨b.length - (i + 1),by omega,i + 1,by omega,fun j hj => ?_,rfl,rfl⟩
     by_cases e : j = i
     ·subst e
      exact ⟨hq1.1,hq1.2,fun c' hc' => hc2 c' (by omega)⟩
     ·exact hi2 j (by omega)
  ·have ei : i = b.length := by omega
   (repeat (first|(refine sA ?_;try intro KR kR)|(with_reducible refine sD O39 ?_;intro KR kR;simp only [O39,ordl,seval])|(refine sB ?_;intro K hK;simp (disch := omega) only [go_sem,seval];(try ((with_reducible first|refine Gt ?_|refine Gv rfl ?_);simp (disch := omega) only [go_sem,seval]));(repeat first|intro (xb : Blk)|intro (xk : Nat)|intro hx|refine pC ?_);refine hK _ ?_;clear K hK)|(refine sE ?_;simp only [go_sem,seval,L39,O39,L40,O40,L86,O86];refine kR _ ?_;clear KR kR)|(simp only [thenE,inB,seval])))
   (simp only [retQ,Try.results39];simp (disch := omega) only [resK,resT,resAV,Env.sel,Env.keys,List.map_nil,List.map_cons,List.all_nil,List.all_cons,AV.isS,Bool.not_false,Bool.and_self,Option.map_some,List.length_cons,List.length_nil,Nat.zero_add,Nat.reduceAdd,not_false_eq_true,true_and,and_true,ne_eq,go_sem,seval,ne_eq])
   rw [rkB_t ⟨h1,h2,fun j hj => hi2 j (by omega)⟩]
set_option maxHeartbeats 8000000 in
theorem refRkRight_ok (b d : List (List Int)) (n : Int) (hb : b.length ≤ 1000) (hd : d.length ≤ 1000) (hbr : ∀ r ∈ b,r.length ≤ 1000) (hdr : ∀ r ∈ d,r.length ≤ 1000) : Contract Try.prog 40 [.agg [.sl 1 (rRows b),.sl 1 (rRows d)],.c (.im (.int .i64 n))] (.c (.im (.bool (rkB b d n)))) := by
 (refine contract_of_awp (L := L40) Try.func40 rfl (by kernel_rfl) (by first|rfl|decide) (by first|rfl|kernel_rfl) ?_;simp only [Try.ntmps40,initEnv,Env.keys,List.map_nil,List.map_cons,List.append_nil,List.cons_append,List.nil_append])
 (repeat (first|(refine sA ?_;try intro KR kR)|(with_reducible refine sD O40 ?_;intro KR kR;simp only [O40,ordl,seval])|(refine sB ?_;intro K hK;simp (disch := omega) only [go_sem,seval];(try ((with_reducible first|refine Gt ?_|refine Gv rfl ?_);simp (disch := omega) only [go_sem,seval]));(repeat first|intro (xb : Blk)|intro (xk : Nat)|intro hx|refine pC ?_);refine hK _ ?_;clear K hK)|(refine sE ?_;simp only [go_sem,seval,L39,O39,L40,O40,L86,O86];refine kR _ ?_;clear KR kR)|(simp only [thenE,inB,seval])))
 ((with_reducible refine Ac ?_);intro K hK;simp (disch := omega) only [condK,go_sem,seval];refine hK _ ?_ ?_;all_goals clear K hK;all_goals intro hq;all_goals (try simp only [qF,reduceCtorEq] at hq);all_goals (try (exfalso;first|exact hq|omega)))
 ·(repeat (first|(refine sA ?_;try intro KR kR)|(with_reducible refine sD O40 ?_;intro KR kR;simp only [O40,ordl,seval])|(refine sB ?_;intro K hK;simp (disch := omega) only [go_sem,seval];(try ((with_reducible first|refine Gt ?_|refine Gv rfl ?_);simp (disch := omega) only [go_sem,seval]));(repeat first|intro (xb : Blk)|intro (xk : Nat)|intro hx|refine pC ?_);refine hK _ ?_;clear K hK)|(refine sE ?_;simp only [go_sem,seval,L39,O39,L40,O40,L86,O86];refine kR _ ?_;clear KR kR)|(simp only [thenE,inB,seval])))
  (simp only [retQ,Try.results40];simp (disch := omega) only [resK,resT,resAV,Env.sel,Env.keys,List.map_nil,List.map_cons,List.all_nil,List.all_cons,AV.isS,Bool.not_false,Bool.and_self,Option.map_some,List.length_cons,List.length_nil,Nat.zero_add,Nat.reduceAdd,not_false_eq_true,true_and,and_true,ne_eq,go_sem,seval,ne_eq])
  rw [rkB_f]
  rintro ⟨h1,h2,_⟩
  have := h1.1
  have := h2.1
  omega
 ·have hn : (b.length : Int) = n := by omega
  have hn2 : (d.length : Int) = n := by omega
  (repeat (first|(refine sA ?_;try intro KR kR)|(with_reducible refine sD O40 ?_;intro KR kR;simp only [O40,ordl,seval])|(refine sB ?_;intro K hK;simp (disch := omega) only [go_sem,seval];(try ((with_reducible first|refine Gt ?_|refine Gv rfl ?_);simp (disch := omega) only [go_sem,seval]));(repeat first|intro (xb : Blk)|intro (xk : Nat)|intro hx|refine pC ?_);refine hK _ ?_;clear K hK)|(refine sE ?_;simp only [go_sem,seval,L39,O39,L40,O40,L86,O86];refine kR _ ?_;clear KR kR)|(simp only [thenE,inB,seval])))
  generalize xk = kb
  refine awp_loop [1,2,5,1002] (fun k S => ∃ i : Nat,i ≤ b.length ∧ (∀ j : Nat,j < i → ((rAt b j).length : Int) = n ∧ ((rAt d j).length : Int) = n) ∧ k = b.length - i ∧
   S = [(1,.c (.im (.int .i64 n))),(2,.c (.ptr 1002 [] kb 2 0 0)),(5,.c (.im (.int .i64 i))),(1002,.box kb 55 [.sl 1 (rRows b),.sl 1 (rRows d)])]) _ ⟨0,by omega,fun _ h => absurd h (Nat.not_lt_zero _),rfl,rfl⟩ ?_
  rintro k S' ⟨i,hi1,hi2,hk,rfl⟩
  (repeat (first|(refine sA ?_;try intro KR kR)|(with_reducible refine sD O40 ?_;intro KR kR;simp only [O40,ordl,seval])|(refine sB ?_;intro K hK;simp (disch := omega) only [go_sem,seval];(try ((with_reducible first|refine Gt ?_|refine Gv rfl ?_);simp (disch := omega) only [go_sem,seval]));(repeat first|intro (xb : Blk)|intro (xk : Nat)|intro hx|refine pC ?_);refine hK _ ?_;clear K hK)|(refine sE ?_;simp only [go_sem,seval,L39,O39,L40,O40,L86,O86];refine kR _ ?_;clear KR kR)|(simp only [thenE,inB,seval])))
  ((with_reducible refine Ac ?_);intro K hK;simp (disch := omega) only [condK,go_sem,seval];refine hK _ ?_ ?_;all_goals clear K hK;all_goals intro hq;all_goals (try simp only [qF,reduceCtorEq] at hq);all_goals (try (exfalso;first|exact hq|omega)))
  ·have hi : i < b.length := by omega
   have hi' : i < d.length := by omega
   have m1 := hbr _ (rAt_mem hi)
   have m2 := hdr _ (rAt_mem hi')
   (repeat (first|(refine sA ?_;try intro KR kR)|(with_reducible refine sD O40 ?_;intro KR kR;simp only [O40,ordl,seval])|(refine sB ?_;intro K hK;simp (disch := omega) only [go_sem,seval];(try ((with_reducible first|refine Gt ?_|refine Gv rfl ?_);simp (disch := omega) only [go_sem,seval]));(repeat first|intro (xb : Blk)|intro (xk : Nat)|intro hx|refine pC ?_);refine hK _ ?_;clear K hK)|(refine sE ?_;simp only [go_sem,seval,L39,O39,L40,O40,L86,O86];refine kR _ ?_;clear KR kR)|(simp only [thenE,inB,seval])))
   ((with_reducible refine Ac ?_);intro K hK;simp (disch := omega) only [condK,go_sem,seval];refine hK _ ?_ ?_;all_goals clear K hK;all_goals intro hq;all_goals (try simp only [qF,reduceCtorEq] at hq);all_goals (try (exfalso;first|exact hq|omega)))
   ·(repeat (first|(refine sA ?_;try intro KR kR)|(with_reducible refine sD O40 ?_;intro KR kR;simp only [O40,ordl,seval])|(refine sB ?_;intro K hK;simp (disch := omega) only [go_sem,seval];(try ((with_reducible first|refine Gt ?_|refine Gv rfl ?_);simp (disch := omega) only [go_sem,seval]));(repeat first|intro (xb : Blk)|intro (xk : Nat)|intro hx|refine pC ?_);refine hK _ ?_;clear K hK)|(refine sE ?_;simp only [go_sem,seval,L39,O39,L40,O40,L86,O86];refine kR _ ?_;clear KR kR)|(simp only [thenE,inB,seval])))
    (simp only [retQ,Try.results40];simp (disch := omega) only [resK,resT,resAV,Env.sel,Env.keys,List.map_nil,List.map_cons,List.all_nil,List.all_cons,AV.isS,Bool.not_false,Bool.and_self,Option.map_some,List.length_cons,List.length_nil,Nat.zero_add,Nat.reduceAdd,not_false_eq_true,true_and,and_true,ne_eq,go_sem,seval,ne_eq])
    rw [rkB_f]
    rintro ⟨h1,h2,_⟩
    have := h1.2 i hi
    have := h2.2 i hi'
    omega
   ·(repeat (first|(refine sA ?_;try intro KR kR)|(with_reducible refine sD O40 ?_;intro KR kR;simp only [O40,ordl,seval])|(refine sB ?_;intro K hK;simp (disch := omega) only [go_sem,seval];(try ((with_reducible first|refine Gt ?_|refine Gv rfl ?_);simp (disch := omega) only [go_sem,seval]));(repeat first|intro (xb : Blk)|intro (xk : Nat)|intro hx|refine pC ?_);refine hK _ ?_;clear K hK)|(refine sE ?_;simp only [go_sem,seval,L39,O39,L40,O40,L86,O86];refine kR _ ?_;clear KR kR)|(simp only [thenE,inB,seval])))
    refine gh_no ⟨b.length - (i + 1),by omega,i + 1,by omega,fun j hj => ?_,rfl,rfl⟩
    by_cases e : j = i
    ·subst e;omega
    ·exact hi2 j (by omega)
  ·have h1 : Square b n := ⟨hn,fun j hj => (hi2 j (by omega)).1⟩
   have h2 : Square d n := ⟨hn2,fun j hj => (hi2 j (by omega)).2⟩
   clear hi2 hk hi1
   (repeat (first|(refine sA ?_;try intro KR kR)|(with_reducible refine sD O40 ?_;intro KR kR;simp only [O40,ordl,seval])|(refine sB ?_;intro K hK;simp (disch := omega) only [go_sem,seval];(try ((with_reducible first|refine Gt ?_|refine Gv rfl ?_);simp (disch := omega) only [go_sem,seval]));(repeat first|intro (xb : Blk)|intro (xk : Nat)|intro hx|refine pC ?_);refine hK _ ?_;clear K hK)|(refine sE ?_;simp only [go_sem,seval,L39,O39,L40,O40,L86,O86];refine kR _ ?_;clear KR kR)|(simp only [thenE,inB,seval])))
   refine awp_loop [1,2,6,1002] (fun k S => ∃ i : Nat,i ≤ b.length ∧ (∀ j : Nat,j < i → RkRow b d n.toNat j) ∧ k = b.length - i ∧
    S = [(1,.c (.im (.int .i64 n))),(2,.c (.ptr 1002 [] kb 2 0 0)),(6,.c (.im (.int .i64 i))),(1002,.box kb 55 [.sl 1 (rRows b),.sl 1 (rRows d)])]) _ ⟨0,by omega,fun _ h => absurd h (Nat.not_lt_zero _),rfl,rfl⟩ ?_
   rintro k S' ⟨i,hi1,hi2,hk,rfl⟩
   (repeat (first|(refine sA ?_;try intro KR kR)|(with_reducible refine sD O40 ?_;intro KR kR;simp only [O40,ordl,seval])|(refine sB ?_;intro K hK;simp (disch := omega) only [go_sem,seval];(try ((with_reducible first|refine Gt ?_|refine Gv rfl ?_);simp (disch := omega) only [go_sem,seval]));(repeat first|intro (xb : Blk)|intro (xk : Nat)|intro hx|refine pC ?_);refine hK _ ?_;clear K hK)|(refine sE ?_;simp only [go_sem,seval,L39,O39,L40,O40,L86,O86];refine kR _ ?_;clear KR kR)|(simp only [thenE,inB,seval])))
   ((with_reducible refine Ac ?_);intro K hK;simp (disch := omega) only [condK,go_sem,seval];refine hK _ ?_ ?_;all_goals clear K hK;all_goals intro hq;all_goals (try simp only [qF,reduceCtorEq] at hq);all_goals (try (exfalso;first|exact hq|omega)))
   ·have hi : i < b.length := by omega
    have hi' : i < d.length := by omega
    have l1 := h1.2 i hi
    have l2 := h2.2 i hi'
    (repeat (first|(refine sA ?_;try intro KR kR)|(with_reducible refine sD O40 ?_;intro KR kR;simp only [O40,ordl,seval])|(refine sB ?_;intro K hK;simp (disch := omega) only [go_sem,seval];(try ((with_reducible first|refine Gt ?_|refine Gv rfl ?_);simp (disch := omega) only [go_sem,seval]));(repeat first|intro (xb : Blk)|intro (xk : Nat)|intro hx|refine pC ?_);refine hK _ ?_;clear K hK)|(refine sE ?_;simp only [go_sem,seval,L39,O39,L40,O40,L86,O86];refine kR _ ?_;clear KR kR)|(simp only [thenE,inB,seval])))
    refine awp_loop [1,2,6,7,1002] (fun k' S => ∃ c : Nat,c ≤ b.length ∧ (∀ j : Nat,j < c → RkCell b d i j) ∧ (i < c → rGet b i i = 0 ∧ rGet d i i = 0) ∧ k' = b.length - c ∧
     S = [(1,.c (.im (.int .i64 n))),(2,.c (.ptr 1002 [] kb 2 0 0)),(6,.c (.im (.int .i64 i))),(7,.c (.im (.int .i64 c))),(1002,.box kb 55 [.sl 1 (rRows b),.sl 1 (rRows d)])]) _ ⟨0,by omega,fun _ h => absurd h (Nat.not_lt_zero _),fun h => absurd h (Nat.not_lt_zero _),rfl,rfl⟩ ?_
    rintro k' S' ⟨c,hc1,hc2,hc3,hk',rfl⟩
    (repeat (first|(refine sA ?_;try intro KR kR)|(with_reducible refine sD O40 ?_;intro KR kR;simp only [O40,ordl,seval])|(refine sB ?_;intro K hK;simp (disch := omega) only [go_sem,seval];(try ((with_reducible first|refine Gt ?_|refine Gv rfl ?_);simp (disch := omega) only [go_sem,seval]));(repeat first|intro (xb : Blk)|intro (xk : Nat)|intro hx|refine pC ?_);refine hK _ ?_;clear K hK)|(refine sE ?_;simp only [go_sem,seval,L39,O39,L40,O40,L86,O86];refine kR _ ?_;clear KR kR)|(simp only [thenE,inB,seval])))
    ((with_reducible refine Ac ?_);intro K hK;simp (disch := omega) only [condK,go_sem,seval];refine hK _ ?_ ?_;all_goals clear K hK;all_goals intro hq;all_goals (try simp only [qF,reduceCtorEq] at hq);all_goals (try (exfalso;first|exact hq|omega)))
    ·have hc : c < b.length := by omega
     have hc' : c < d.length := by omega
     have l3 := h2.2 c hc'
     have w1 : (rAt d i).getD c 0 = 1 → IntKind.i64.wrap (0 - (rAt d i).getD c 0) = -1 := fun h => by rw [h];rfl
     have w2 : (rAt d i).getD c 0 = -1 → IntKind.i64.wrap (0 - (rAt d i).getD c 0) = 1 := fun h => by rw [h];rfl
     have w3 : (rAt d i).getD c 0 = 1 → IntKind.i64.wrap (- (rAt d i).getD c 0) = -1 := fun h => by rw [h];rfl
     have w4 : (rAt d i).getD c 0 = -1 → IntKind.i64.wrap (- (rAt d i).getD c 0) = 1 := fun h => by rw [h];rfl
     have hbad : RkOk b d n → RkCell b d i c ∧ rGet b i i = 0 ∧ rGet d i i = 0 := fun h => ⟨(h.2.2 i (by omega)).2.2 c (by omega),(h.2.2 i (by omega)).1,(h.2.2 i (by omega)).2.1⟩
     (repeat (first|(refine sA ?_;try intro KR kR)|(with_reducible refine sD O40 ?_;intro KR kR;simp only [O40,ordl,seval])|(refine sB ?_;intro K hK;simp (disch := omega) only [go_sem,seval];(try ((with_reducible first|refine Gt ?_|refine Gv rfl ?_);simp (disch := omega) only [go_sem,seval]));(repeat first|intro (xb : Blk)|intro (xk : Nat)|intro hx|refine pC ?_);refine hK _ ?_;clear K hK)|(refine sE ?_;simp only [go_sem,seval,L39,O39,L40,O40,L86,O86];refine kR _ ?_;clear KR kR)|(simp only [thenE,inB,seval])))
     ((with_reducible refine Ac ?_);intro K hK;simp (disch := omega) only [condK,go_sem,seval];refine hK _ ?_ ?_;all_goals clear K hK;all_goals intro hq;all_goals (try simp only [qF,reduceCtorEq] at hq);all_goals (try (exfalso;first|exact hq|omega)))
     ·(repeat (first|(refine sA ?_;try intro KR kR)|(with_reducible refine sD O40 ?_;intro KR kR;simp only [O40,ordl,seval])|(refine sB ?_;intro K hK;simp (disch := omega) only [go_sem,seval];(try ((with_reducible first|refine Gt ?_|refine Gv rfl ?_);simp (disch := omega) only [go_sem,seval]));(repeat first|intro (xb : Blk)|intro (xk : Nat)|intro hx|refine pC ?_);refine hK _ ?_;clear K hK)|(refine sE ?_;simp only [go_sem,seval,L39,O39,L40,O40,L86,O86];refine kR _ ?_;clear KR kR)|(simp only [thenE,inB,seval])))
      (simp only [retQ,Try.results40];simp (disch := omega) only [resK,resT,resAV,Env.sel,Env.keys,List.map_nil,List.map_cons,List.all_nil,List.all_cons,AV.isS,Bool.not_false,Bool.and_self,Option.map_some,List.length_cons,List.length_nil,Nat.zero_add,Nat.reduceAdd,not_false_eq_true,true_and,and_true,ne_eq,go_sem,seval,ne_eq])
      rw [rkB_f]
      intro h
      have h := hbad h
      unfold RkCell rGet at h
      by_cases e : i = c
      ·subst e;omega
      ·omega
     ·have hq1 := hq
      (repeat (first|(refine sA ?_;try intro KR kR)|(with_reducible refine sD O40 ?_;intro KR kR;simp only [O40,ordl,seval])|(refine sB ?_;intro K hK;simp (disch := omega) only [go_sem,seval];(try ((with_reducible first|refine Gt ?_|refine Gv rfl ?_);simp (disch := omega) only [go_sem,seval]));(repeat first|intro (xb : Blk)|intro (xk : Nat)|intro hx|refine pC ?_);refine hK _ ?_;clear K hK)|(refine sE ?_;simp only [go_sem,seval,L39,O39,L40,O40,L86,O86];refine kR _ ?_;clear KR kR)|(simp only [thenE,inB,seval])))
      ((with_reducible refine Ac ?_);intro K hK;simp (disch := omega) only [condK,go_sem,seval];refine hK _ ?_ ?_;all_goals clear K hK;all_goals intro hq;all_goals (try simp only [qF,reduceCtorEq] at hq);all_goals (try (exfalso;first|exact hq|omega)))
      ·(repeat (first|(refine sA ?_;try intro KR kR)|(with_reducible refine sD O40 ?_;intro KR kR;simp only [O40,ordl,seval])|(refine sB ?_;intro K hK;simp (disch := omega) only [go_sem,seval];(try ((with_reducible first|refine Gt ?_|refine Gv rfl ?_);simp (disch := omega) only [go_sem,seval]));(repeat first|intro (xb : Blk)|intro (xk : Nat)|intro hx|refine pC ?_);refine hK _ ?_;clear K hK)|(refine sE ?_;simp only [go_sem,seval,L39,O39,L40,O40,L86,O86];refine kR _ ?_;clear KR kR)|(simp only [thenE,inB,seval])))
       (simp only [retQ,Try.results40];simp (disch := omega) only [resK,resT,resAV,Env.sel,Env.keys,List.map_nil,List.map_cons,List.all_nil,List.all_cons,AV.isS,Bool.not_false,Bool.and_self,Option.map_some,List.length_cons,List.length_nil,Nat.zero_add,Nat.reduceAdd,not_false_eq_true,true_and,and_true,ne_eq,go_sem,seval,ne_eq])
       rw [rkB_f]
       intro h
       have h := hbad h
       unfold RkCell rGet at h
       omega
      ·(repeat (first|(refine sA ?_;try intro KR kR)|(with_reducible refine sD O40 ?_;intro KR kR;simp only [O40,ordl,seval])|(refine sB ?_;intro K hK;simp (disch := omega) only [go_sem,seval];(try ((with_reducible first|refine Gt ?_|refine Gv rfl ?_);simp (disch := omega) only [go_sem,seval]));(repeat first|intro (xb : Blk)|intro (xk : Nat)|intro hx|refine pC ?_);refine hK _ ?_;clear K hK)|(refine sE ?_;simp only [go_sem,seval,L39,O39,L40,O40,L86,O86];refine kR _ ?_;clear KR kR)|(simp only [thenE,inB,seval])))
       refine gh_no ⟨b.length - (c + 1),by omega,c + 1,by omega,fun j hj => ?_,fun h => ?_,rfl,rfl⟩
       ·by_cases e : j = c
        ·subst e
         unfold RkCell rGet
         omega
        ·exact hc2 j (by omega)
       ·by_cases e : i = c
        ·subst e
         unfold rGet
         omega
        ·exact hc3 (by omega)
    ·have ec : c = b.length := by omega
     (repeat (first|(refine sA ?_;try intro KR kR)|(with_reducible refine sD O40 ?_;intro KR kR;simp only [O40,ordl,seval])|(refine sB ?_;intro K hK;simp (disch := omega) only [go_sem,seval];(try ((with_reducible first|refine Gt ?_|refine Gv rfl ?_);simp (disch := omega) only [go_sem,seval]));(repeat first|intro (xb : Blk)|intro (xk : Nat)|intro hx|refine pC ?_);refine hK _ ?_;clear K hK)|(refine sE ?_;simp only [go_sem,seval,L39,O39,L40,O40,L86,O86];refine kR _ ?_;clear KR kR)|(simp only [thenE,inB,seval])))
     refine gh_no ⟨b.length - (i + 1),by omega,i + 1,by omega,fun j hj => ?_,rfl,rfl⟩
     by_cases e : j = i
     ·subst e
      have h3 := hc3 (by omega)
      exact ⟨h3.1,h3.2,fun c' hc' => hc2 c' (by omega)⟩
     ·exact hi2 j (by omega)
   ·(repeat (first|(refine sA ?_;try intro KR kR)|(with_reducible refine sD O40 ?_;intro KR kR;simp only [O40,ordl,seval])|(refine sB ?_;intro K hK;simp (disch := omega) only [go_sem,seval];(try ((with_reducible first|refine Gt ?_|refine Gv rfl ?_);simp (disch := omega) only [go_sem,seval]));(repeat first|intro (xb : Blk)|intro (xk : Nat)|intro hx|refine pC ?_);refine hK _ ?_;clear K hK)|(refine sE ?_;simp only [go_sem,seval,L39,O39,L40,O40,L86,O86];refine kR _ ?_;clear KR kR)|(simp only [thenE,inB,seval])))
    (simp only [retQ,Try.results40];simp (disch := omega) only [resK,resT,resAV,Env.sel,Env.keys,List.map_nil,List.map_cons,List.all_nil,List.all_cons,AV.isS,Bool.not_false,Bool.and_self,Option.map_some,List.length_cons,List.length_nil,Nat.zero_add,Nat.reduceAdd,not_false_eq_true,true_and,and_true,ne_eq,go_sem,seval,ne_eq])
    rw [rkB_t ⟨h1,h2,fun j hj => hi2 j (by omega)⟩]
end Go.Proofs.Ytllemobnfpljfaa
