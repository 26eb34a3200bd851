import Derived.Test.YtllemobnfpljfaaTrZ
import Derived.Test.YtllemobnfpljfaaInts
set_option linter.unusedSimpArgs false
set_option linter.unusedVariables false
set_option maxRecDepth 10000
set_option maxRecDepth 100000
set_option maxHeartbeats 8000000
namespace Go.Proofs.Ytllemobnfpljfaa
open Go Go.Hs
def L144 (r : Nat) : Option (List Nat) := kl r [(0,[0,1,2]),(1,[0,1,2,17]),(2,[6,7]),(3,[0,1,2,8]),(4,[0,1,2,8,9]),(5,[0,1,2,8,9,10]),(6,[0,1,2,8,9,10,21]),(7,[0,1,2,8,9,10]),(8,[0,1,2,8,10,11,12]),(9,[0,1,2,8,10,11,35]),(10,[6,7]),(11,[0,1,2,8,10]),(12,[0,1,2,8,9,10]),(13,[0,8,9,45]),(14,[8,13,14]),(15,[8,13,53]),(16,[6,7]),(17,[8]),(18,[6,7])]
def O144 (r : Nat) : List Nat × OT := ordl r []
def L145 (r : Nat) : Option (List Nat) := kl r [(0,[0,1]),(1,[0,1,6]),(2,[0,1,6,11]),(3,[0,1,6]),(4,[0,1,6,7]),(5,[0,1,6,7,29]),(6,[0,1,6,7]),(7,[0,1,6,7,46]),(8,[4,5]),(9,[4,5])]
def O145 (r : Nat) : List Nat × OT := ordl r [(7,([],.val 0 (.val 1 (.val 2 (.val 4 (.val 7 (.val 8 (.val 9 (.val 11 (.load 3 (.val 5 (.load 6 (.load 10 (.val 12 (.load 13 (.val 14 (.done)))))))))))))))))]
theorem tbnT {a b : Int} (h : a ≠ b) : (a != b) = true := by simpa using h
theorem tbnF {a b : Int} (h : a = b) : (a != b) = false := by simpa using h
theorem rRows_snoc {m : List (List Int)} {r : List Int} : rRows m ++ [[.sl 1 (kRows .i64 r)]] = rRows (m ++ [r]) := by simp [rRows]
theorem rRows_frzT' : ∀ {m : List (List Int)},AC.frz.frzLL (rRows m) = rRows m
 | [] => rfl
 | x :: m => by
  have h := rRows_frzT' (m := m)
  have h2 := kRows_frz (k := .i64) (l := x)
  unfold rRows at h ⊢
  simp only [List.map_cons,AC.frz.frzLL,AC.frz.frzL,AC.frz,h,h2]
theorem rRows_frzT {m : List (List Int)} : frzLL (rRows m) = rRows m := by
 have := rRows_frzT' (m := m)
 unfold frzLL
 rw [this]
theorem takeRr {m : List (List Int)} : (rRows m).take m.length = rRows m := List.take_of_length_le (by rw [length_rRows];exact Nat.le_refl _)
theorem exRr {m : List (List Int)} : ex (rRows m) 0 m.length = rRows m := by rw [ex_eq,List.drop_zero,Nat.sub_zero,takeRr]
def frN (l : List Tm) (run : List Int) (n : Nat) : List (List Int) := (List.range n).map (frI l run)
theorem frN_len {l : List Tm} {run : List Int} {n : Nat} : (frN l run n).length = n := by simp [frN]
theorem rowAt_len {l : List Tm} {run : List Int} {n i : Nat} (h : i < n) : rAt (frN l run n) i = frI l run i := by
 unfold rAt frN
 simp [List.getD_eq_getElem?_getD,h]
theorem frN_succ {l : List Tm} {run : List Int} {n : Nat} : frN l run (n + 1) = frN l run n ++ [frI l run n] := by simp [frN,List.range_succ]
attribute [local go_sem] tltT tltF tleT tleF tbeT tbeF tbnT tbnF AV.isS length_rRows rRows_snoc rRows_frzT getRow takeRr exRr rowAt_len
set_option maxRecDepth 100000 in
set_option maxHeartbeats 8000000 in
theorem frames_ok (l : List Tm) (hr : rightF l = true) (run : List Int) (hrl : run.length ≤ 1000) (hall : ∀ i,i < run.length → (hopI l run i).isSome = true) : ContractR Try.prog 144 [.c (.sl 8 (tRows l)),.c (.sl 1 (kRows .i64 run)),.c (.im (.bool false))] (fun r => ∃ b,r = .tup [.c (.own b 25 1 (rRows (frN l run run.length))),.c (.im (.bool true))]) := by
 have ht := term_of_right hr
 have hl := ht.le
 have hrr := refRight_ok l (by omega)
 rw [hr] at hrr
 (refine contract_of_awp (L := L144) Try.func144 rfl (by kernel_rfl) (by first|rfl|decide) (by first|rfl|kernel_rfl) ?_;simp only [Try.ntmps144,initEnv,Env.keys,List.map_nil,List.map_cons,List.append_nil,List.cons_append,List.nil_append])
 (repeat (first|(refine sA ?_;try intro KR kR)|(with_reducible refine sD O144 ?_;intro KR kR;simp only [O144,ordl,seval])|(refine sB ?_;intro K hK;simp (disch := omega) only [go_sem,seval];(try ((with_reducible first|refine Gt ?_|refine gopO_f rfl ?_|refine Gv rfl ?_);simp (disch := omega) only [go_sem,seval]));(repeat first|intro (xb : Blk)|intro (xk : Nat)|intro hx|refine pC ?_);refine hK _ ?_;clear K hK)|(refine sE ?_;simp only [go_sem,seval,L144,O144,L145,O145];refine kR _ ?_;clear KR kR)|(simp only [thenE,inB,seval])))
 (refine sB ?_;intro K hK;simp (disch := omega) only [go_sem,seval];(try ((with_reducible refine Gt ?_);simp (disch := omega) only [go_sem,seval]));refine cN ?_;simp (disch := omega) only [go_sem,seval];refine ⟨_,_,ContractH.n (hrr),?_⟩;intro r H' hr hk;(try obtain rfl := keys_nil hk);(first|subst hr|(obtain ⟨_,rfl⟩ := hr)|(obtain ⟨_,_,rfl⟩ := hr)|(obtain ⟨_,_,_,rfl⟩ := hr));(try simp (disch := omega) only [AV.flat,AC.flat,AC.flat.flatL,AC.flat.flatLL,go_sem,seval]);(repeat first|intro (xb : Blk)|intro (xk : Nat)|intro hx|refine pC ?_);refine hK _ ?_;clear K hK)
 (repeat (first|(refine sA ?_;try intro KR kR)|(with_reducible refine sD O144 ?_;intro KR kR;simp only [O144,ordl,seval])|(refine sB ?_;intro K hK;simp (disch := omega) only [go_sem,seval];(try ((with_reducible first|refine Gt ?_|refine gopO_f rfl ?_|refine Gv rfl ?_);simp (disch := omega) only [go_sem,seval]));(repeat first|intro (xb : Blk)|intro (xk : Nat)|intro hx|refine pC ?_);refine hK _ ?_;clear K hK)|(refine sE ?_;simp only [go_sem,seval,L144,O144,L145,O145];refine kR _ ?_;clear KR kR)|(simp only [thenE,inB,seval])))
 ((with_reducible refine Ac ?_);intro K hK;simp (disch := omega) only [condK,go_sem,seval];refine hK _ ?_ ?_;all_goals clear K hK;all_goals intro hq;all_goals (try simp only [qF,reduceCtorEq] at hq);all_goals (try (exfalso;first|exact hq|omega)))
 (repeat (first|(refine sA ?_;try intro KR kR)|(with_reducible refine sD O144 ?_;intro KR kR;simp only [O144,ordl,seval])|(refine sB ?_;intro K hK;simp (disch := omega) only [go_sem,seval];(try ((with_reducible first|refine Gt ?_|refine gopO_f rfl ?_|refine Gv rfl ?_);simp (disch := omega) only [go_sem,seval]));(repeat first|intro (xb : Blk)|intro (xk : Nat)|intro hx|refine pC ?_);refine hK _ ?_;clear K hK)|(refine sE ?_;simp only [go_sem,seval,L144,O144,L145,O145];refine kR _ ?_;clear KR kR)|(simp only [thenE,inB,seval])))
 refine awp_loop [0,1,2,8,9,10,1008] (fun n S => ∃ (i : Nat) (b : Blk) (F : List (List Int)),i ≤ run.length ∧ n + i = run.length ∧ F = frN l run i ∧ S = [(0,.c (.sl 8 (tRows l))),(1,.c (.sl 1 (kRows .i64 run))),(2,.c (.im (.bool false))),(8,.c (.ref 1008 [] b 1 0 F.length)),(9,.c (.im (.int .i64 (prevI run i)))),(10,.c (.im (.int .i64 i))),(1008,.row b 25 1 (rRows F))]) run.length ⟨0,none,[],by omega,by omega,rfl,rfl⟩ ?_
 rintro n S' ⟨i,b,F,hi,hni,hF,rfl⟩
 have lF : F.length = i := by rw [hF,frN_len]
 (repeat (first|(refine sA ?_;try intro KR kR)|(with_reducible refine sD O144 ?_;intro KR kR;simp only [O144,ordl,seval])|(refine sB ?_;intro K hK;simp (disch := omega) only [go_sem,seval];(try ((with_reducible first|refine Gt ?_|refine gopO_f rfl ?_|refine Gv rfl ?_);simp (disch := omega) only [go_sem,seval]));(repeat first|intro (xb : Blk)|intro (xk : Nat)|intro hx|refine pC ?_);refine hK _ ?_;clear K hK)|(refine sE ?_;simp only [go_sem,seval,L144,O144,L145,O145];refine kR _ ?_;clear KR kR)|(simp only [thenE,inB,seval])))
 ((with_reducible refine Ac ?_);intro K hK;simp (disch := omega) only [condK,go_sem,seval];refine hK _ ?_ ?_;all_goals clear K hK;all_goals intro hq;all_goals (try simp only [qF,reduceCtorEq] at hq);all_goals (try (exfalso;first|exact hq|omega)))
 ·have hi2 : i < run.length := by omega
  obtain ⟨h,hh⟩ := Option.isSome_iff_exists.1 (hall i hi2)
  have hh2 : hopF l (prevI run i) (run.getD i 0) = some h := hh
  have hc := hop18_ok l (by omega) (prevI run i) (run.getD i 0)
  rw [hh2] at hc
  have hc : Contract Try.prog 161 [.c (.sl 8 (tRows l)),.c (.im (.int .i64 (prevI run i))),.c (.im (.int .i64 (run.getD i 0)))] (.tup [.ag [.im (.int .i64 h.1),.im (.int .i64 h.2.1),.sl 1 (kRows .i64 h.2.2)],.c (.im (.bool true))]) := hc
  have hfi : frI l run i = h.2.2 := by unfold frI;rw [hh]
  have hpv : prevI run (i + 1) = run.getD i 0 := by unfold prevI;rw [if_neg (by omega)];rfl
  clear hq
  (repeat (first|(refine sA ?_;try intro KR kR)|(with_reducible refine sD O144 ?_;intro KR kR;simp only [O144,ordl,seval])|(refine sB ?_;intro K hK;simp (disch := omega) only [go_sem,seval];(try ((with_reducible first|refine Gt ?_|refine gopO_f rfl ?_|refine Gv rfl ?_);simp (disch := omega) only [go_sem,seval]));(repeat first|intro (xb : Blk)|intro (xk : Nat)|intro hx|refine pC ?_);refine hK _ ?_;clear K hK)|(refine sE ?_;simp only [go_sem,seval,L144,O144,L145,O145];refine kR _ ?_;clear KR kR)|(simp only [thenE,inB,seval])))
  (refine sB ?_;intro K hK;simp (disch := omega) only [go_sem,seval];(try ((with_reducible refine Gt ?_);simp (disch := omega) only [go_sem,seval]));refine cN ?_;simp (disch := omega) only [go_sem,seval];refine ⟨_,_,ContractH.n (hc),?_⟩;intro r H' hr hk;(try obtain rfl := keys_nil hk);(first|subst hr|(obtain ⟨_,rfl⟩ := hr)|(obtain ⟨_,_,rfl⟩ := hr)|(obtain ⟨_,_,_,rfl⟩ := hr));(try simp (disch := omega) only [AV.flat,AC.flat,AC.flat.flatL,AC.flat.flatLL,go_sem,seval]);(repeat first|intro (xb : Blk)|intro (xk : Nat)|intro hx|refine pC ?_);refine hK _ ?_;clear K hK)
  (repeat (first|(refine sA ?_;try intro KR kR)|(with_reducible refine sD O144 ?_;intro KR kR;simp only [O144,ordl,seval])|(refine sB ?_;intro K hK;simp (disch := omega) only [go_sem,seval];(try ((with_reducible first|refine Gt ?_|refine gopO_f rfl ?_|refine Gv rfl ?_);simp (disch := omega) only [go_sem,seval]));(repeat first|intro (xb : Blk)|intro (xk : Nat)|intro hx|refine pC ?_);refine hK _ ?_;clear K hK)|(refine sE ?_;simp only [go_sem,seval,L144,O144,L145,O145];refine kR _ ?_;clear KR kR)|(simp only [thenE,inB,seval])))
  ((with_reducible refine Ac ?_);intro K hK;simp (disch := omega) only [condK,go_sem,seval];refine hK _ ?_ ?_;all_goals clear K hK;all_goals intro hq;all_goals (try simp only [qF,reduceCtorEq] at hq);all_goals (try (exfalso;first|exact hq|omega)))
  (repeat (first|(refine sA ?_;try intro KR kR)|(with_reducible refine sD O144 ?_;intro KR kR;simp only [O144,ordl,seval])|(refine sB ?_;intro K hK;simp (disch := omega) only [go_sem,seval];(try ((with_reducible first|refine Gt ?_|refine gopO_f rfl ?_|refine Gv rfl ?_);simp (disch := omega) only [go_sem,seval]));(repeat first|intro (xb : Blk)|intro (xk : Nat)|intro hx|refine pC ?_);refine hK _ ?_;clear K hK)|(refine sE ?_;simp only [go_sem,seval,L144,O144,L145,O145];refine kR _ ?_;clear KR kR)|(simp only [thenE,inB,seval])))
  refine gh_no ⟨run.length - (i + 1),by omega,i + 1,xb,F ++ [h.2.2],by omega,by omega,by rw [frN_succ,hF,hfi],?_⟩
  rw [hpv]
  ((try simp (disch := omega) only [List.cons.injEq,Prod.mk.injEq,AV.c.injEq,AV.agg.injEq,AV.opt.injEq,AV.tup.injEq,AV.row.injEq,AV.box.injEq,AV.mapo.injEq,AC.im.injEq,AC.sl.injEq,AC.adr.injEq,AC.ref.injEq,AC.ptr.injEq,AC.own.injEq,AC.fn.injEq,Value.int.injEq,Value.bool.injEq,Value.string.injEq,heq_eq_eq,go_sem,seval]);(try (repeat' refine And.intro ?_ ?_));all_goals (first|rfl|omega|skip))
 ·have e : i = run.length := by omega
  subst e
  (repeat (first|(refine sA ?_;try intro KR kR)|(with_reducible refine sD O144 ?_;intro KR kR;simp only [O144,ordl,seval])|(refine sB ?_;intro K hK;simp (disch := omega) only [go_sem,seval];(try ((with_reducible first|refine Gt ?_|refine gopO_f rfl ?_|refine Gv rfl ?_);simp (disch := omega) only [go_sem,seval]));(repeat first|intro (xb : Blk)|intro (xk : Nat)|intro hx|refine pC ?_);refine hK _ ?_;clear K hK)|(refine sE ?_;simp only [go_sem,seval,L144,O144,L145,O145];refine kR _ ?_;clear KR kR)|(simp only [thenE,inB,seval])))
  ((with_reducible refine Ac ?_);intro K hK;simp (disch := omega) only [condK,go_sem,seval];refine hK _ ?_ ?_;all_goals clear K hK;all_goals intro hq;all_goals (try simp only [qF,reduceCtorEq] at hq);all_goals (try (exfalso;first|exact hq|omega)))
  (repeat (first|(refine sA ?_;try intro KR kR)|(with_reducible refine sD O144 ?_;intro KR kR;simp only [O144,ordl,seval])|(refine sB ?_;intro K hK;simp (disch := omega) only [go_sem,seval];(try ((with_reducible first|refine Gt ?_|refine gopO_f rfl ?_|refine Gv rfl ?_);simp (disch := omega) only [go_sem,seval]));(repeat first|intro (xb : Blk)|intro (xk : Nat)|intro hx|refine pC ?_);refine hK _ ?_;clear K hK)|(refine sE ?_;simp only [go_sem,seval,L144,O144,L145,O145];refine kR _ ?_;clear KR kR)|(simp only [thenE,inB,seval])))
  (simp only [retQ,Try.results144];simp (disch := omega) only [resK,resT,resAV,Env.sel,Env.keys,List.map_nil,List.map_cons,List.all_nil,List.all_cons,AV.isS,Bool.not_false,Bool.and_self,Option.map_some,List.length_cons,List.length_nil,Nat.zero_add,Nat.reduceAdd,not_false_eq_true,true_and,and_true,ne_eq,go_sem,seval,ne_eq])
  exact ⟨b,by rw [hF]⟩
structure PartL (A B : List (List Int)) (k s : Nat) : Prop where
 ka : k < A.length
 kb : k < B.length
 same : ∀ i,i < k → rAt A i = rAt B i
 pre : (rAt A k).take s = (rAt B k).take s
 sa : s < (rAt A k).length
 sb : s < (rAt B k).length
 ne : (rAt A k).getD s 0 ≠ (rAt B k).getD s 0
theorem take_at {a b : List Int} {s j : Nat} (h : a.take s = b.take s) (hj : j < s) : a.getD j 0 = b.getD j 0 := by
 have := congrArg (fun l => l.getD j 0) h
 simpa [List.getD_eq_getElem?_getD,List.getElem?_take,hj] using this
set_option maxRecDepth 100000 in
set_option maxHeartbeats 8000000 in
theorem partT_ok (A B : List (List Int)) (k s : Nat) (p : PartL A B k s) (hA : A.length ≤ 1000) (hB : B.length ≤ 1000) (hAr : ∀ i,(rAt A i).length ≤ 1000000) (hBr : ∀ i,(rAt B i).length ≤ 1000000) : Contract Try.prog 145 [.c (.sl 1 (rRows A)),.c (.sl 1 (rRows B))] (.tup [.c (.im (.int .i64 k)),.c (.im (.int .i64 s))]) := by
 have ka := p.ka
 have kb := p.kb
 (refine contract_of_awp (L := L145) Try.func145 rfl (by kernel_rfl) (by first|rfl|decide) (by first|rfl|kernel_rfl) ?_;simp only [Try.ntmps145,initEnv,Env.keys,List.map_nil,List.map_cons,List.append_nil,List.cons_append,List.nil_append])
 (repeat (first|(refine sA ?_;try intro KR kR)|(with_reducible refine sD O145 ?_;intro KR kR;simp only [O145,ordl,seval])|(refine sB ?_;intro K hK;simp (disch := omega) only [go_sem,seval];(try ((with_reducible first|refine Gt ?_|refine gopO_f rfl ?_|refine Gv rfl ?_);simp (disch := omega) only [go_sem,seval]));(repeat first|intro (xb : Blk)|intro (xk : Nat)|intro hx|refine pC ?_);refine hK _ ?_;clear K hK)|(refine sE ?_;simp only [go_sem,seval,L144,O144,L145,O145];refine kR _ ?_;clear KR kR)|(simp only [thenE,inB,seval])))
 refine awp_loop [0,1,6] (fun n S => ∃ (i : Nat),i ≤ k ∧ n + i = k ∧ S = [(0,.c (.sl 1 (rRows A))),(1,.c (.sl 1 (rRows B))),(6,.c (.im (.int .i64 i)))]) k ⟨0,by omega,by omega,rfl⟩ ?_
 rintro n S' ⟨i,hi,hni,rfl⟩
 (repeat (first|(refine sA ?_;try intro KR kR)|(with_reducible refine sD O145 ?_;intro KR kR;simp only [O145,ordl,seval])|(refine sB ?_;intro K hK;simp (disch := omega) only [go_sem,seval];(try ((with_reducible first|refine Gt ?_|refine gopO_f rfl ?_|refine Gv rfl ?_);simp (disch := omega) only [go_sem,seval]));(repeat first|intro (xb : Blk)|intro (xk : Nat)|intro hx|refine pC ?_);refine hK _ ?_;clear K hK)|(refine sE ?_;simp only [go_sem,seval,L144,O144,L145,O145];refine kR _ ?_;clear KR kR)|(simp only [thenE,inB,seval])))
 ((with_reducible refine Ac ?_);intro K hK;simp (disch := omega) only [condK,go_sem,seval];refine hK _ ?_ ?_;all_goals clear K hK;all_goals intro hq;all_goals (try simp only [qF,reduceCtorEq] at hq);all_goals (try (exfalso;first|exact hq|omega)))
 clear hq
 have la := hAr i
 have lb := hBr i
 have sm : i < k → rAt A i = rAt B i := fun h => p.same i h
 have pe : ∀ j,(i < k ∨ j < s) → (rAt A i).getD j 0 = (rAt B i).getD j 0 := fun j h => by
  by_cases e : i < k
  ·rw [sm e]
  ·have e : i = k := by omega
   subst e
   exact take_at p.pre (by omega)
 have at_k : i = k → s < (rAt A i).length ∧ s < (rAt B i).length ∧ (rAt A i).getD s 0 ≠ (rAt B i).getD s 0 := fun e => by
  subst e;exact ⟨p.sa,p.sb,p.ne⟩
 (repeat (first|(refine sA ?_;try intro KR kR)|(with_reducible refine sD O145 ?_;intro KR kR;simp only [O145,ordl,seval])|(refine sB ?_;intro K hK;simp (disch := omega) only [go_sem,seval];(try ((with_reducible first|refine Gt ?_|refine gopO_f rfl ?_|refine Gv rfl ?_);simp (disch := omega) only [go_sem,seval]));(repeat first|intro (xb : Blk)|intro (xk : Nat)|intro hx|refine pC ?_);refine hK _ ?_;clear K hK)|(refine sE ?_;simp only [go_sem,seval,L144,O144,L145,O145];refine kR _ ?_;clear KR kR)|(simp only [thenE,inB,seval])))
 refine awp_loop [0,1,6,7] (fun n S => ∃ (j : Nat),j ≤ (rAt A i).length ∧ n + j = (rAt A i).length ∧ (i = k → j ≤ s) ∧ S = [(0,.c (.sl 1 (rRows A))),(1,.c (.sl 1 (rRows B))),(6,.c (.im (.int .i64 i))),(7,.c (.im (.int .i64 j)))]) (rAt A i).length ⟨0,by omega,by omega,fun _ => by omega,rfl⟩ ?_
 rintro n2 S' ⟨j,hj,hnj,hjs,rfl⟩
 by_cases c1 : j < (rAt A i).length
 ·by_cases c2 : j < (rAt B i).length
  ·by_cases c3 : (rAt A i).getD j 0 = (rAt B i).getD j 0
   ·(repeat (first|(refine sA ?_;try intro KR kR)|(with_reducible refine sD O145 ?_;intro KR kR;simp only [O145,ordl,seval])|(refine sB ?_;intro K hK;simp (disch := omega) only [go_sem,seval];(try ((with_reducible first|refine Gt ?_|refine gopO_f rfl ?_|refine Gv rfl ?_);simp (disch := omega) only [go_sem,seval]));(repeat first|intro (xb : Blk)|intro (xk : Nat)|intro hx|refine pC ?_);refine hK _ ?_;clear K hK)|(refine sE ?_;simp only [go_sem,seval,L144,O144,L145,O145];refine kR _ ?_;clear KR kR)|(simp only [thenE,inB,seval])))
    ((with_reducible refine Ac ?_);intro K hK;simp (disch := omega) only [condK,go_sem,seval];refine hK _ ?_ ?_;all_goals clear K hK;all_goals intro hq;all_goals (try simp only [qF,reduceCtorEq] at hq);all_goals (try (exfalso;first|exact hq|omega)))
    (repeat (first|(refine sA ?_;try intro KR kR)|(with_reducible refine sD O145 ?_;intro KR kR;simp only [O145,ordl,seval])|(refine sB ?_;intro K hK;simp (disch := omega) only [go_sem,seval];(try ((with_reducible first|refine Gt ?_|refine gopO_f rfl ?_|refine Gv rfl ?_);simp (disch := omega) only [go_sem,seval]));(repeat first|intro (xb : Blk)|intro (xk : Nat)|intro hx|refine pC ?_);refine hK _ ?_;clear K hK)|(refine sE ?_;simp only [go_sem,seval,L144,O144,L145,O145];refine kR _ ?_;clear KR kR)|(simp only [thenE,inB,seval])))
    ((with_reducible refine Ac ?_);intro K hK;simp (disch := omega) only [condK,go_sem,seval];refine hK _ ?_ ?_;all_goals clear K hK;all_goals intro hq;all_goals (try simp only [qF,reduceCtorEq] at hq);all_goals (try (exfalso;first|exact hq|omega)))
    (repeat (first|(refine sA ?_;try intro KR kR)|(with_reducible refine sD O145 ?_;intro KR kR;simp only [O145,ordl,seval])|(refine sB ?_;intro K hK;simp (disch := omega) only [go_sem,seval];(try ((with_reducible first|refine Gt ?_|refine gopO_f rfl ?_|refine Gv rfl ?_);simp (disch := omega) only [go_sem,seval]));(repeat first|intro (xb : Blk)|intro (xk : Nat)|intro hx|refine pC ?_);refine hK _ ?_;clear K hK)|(refine sE ?_;simp only [go_sem,seval,L144,O144,L145,O145];refine kR _ ?_;clear KR kR)|(simp only [thenE,inB,seval])))
    refine gh_no ⟨(rAt A i).length - (j + 1),by omega,j + 1,by omega,by omega,fun e => ?_,?_⟩
    ·have := at_k e
     have := hjs e
     by_cases ee : j = s
     ·subst ee;exact absurd c3 (by have := (at_k e).2.2;exact this)
     ·omega
    ·((try simp (disch := omega) only [List.cons.injEq,Prod.mk.injEq,AV.c.injEq,AV.agg.injEq,AV.opt.injEq,AV.tup.injEq,AV.row.injEq,AV.box.injEq,AV.mapo.injEq,AC.im.injEq,AC.sl.injEq,AC.adr.injEq,AC.ref.injEq,AC.ptr.injEq,AC.own.injEq,AC.fn.injEq,Value.int.injEq,Value.bool.injEq,Value.string.injEq,heq_eq_eq,go_sem,seval]);(try (repeat' refine And.intro ?_ ?_));all_goals (first|rfl|omega|skip))
   ·have e1 : i = k := by
     by_cases e : i < k
     ·exact absurd (pe j (.inl e)) c3
     ·omega
    have e2 : j = s := by
     have := hjs e1
     by_cases e : j < s
     ·exact absurd (pe j (.inr e)) c3
     ·omega
    subst e1
    subst e2
    (repeat (first|(refine sA ?_;try intro KR kR)|(with_reducible refine sD O145 ?_;intro KR kR;simp only [O145,ordl,seval])|(refine sB ?_;intro K hK;simp (disch := omega) only [go_sem,seval];(try ((with_reducible first|refine Gt ?_|refine gopO_f rfl ?_|refine Gv rfl ?_);simp (disch := omega) only [go_sem,seval]));(repeat first|intro (xb : Blk)|intro (xk : Nat)|intro hx|refine pC ?_);refine hK _ ?_;clear K hK)|(refine sE ?_;simp only [go_sem,seval,L144,O144,L145,O145];refine kR _ ?_;clear KR kR)|(simp only [thenE,inB,seval])))
    ((with_reducible refine Ac ?_);intro K hK;simp (disch := omega) only [condK,go_sem,seval];refine hK _ ?_ ?_;all_goals clear K hK;all_goals intro hq;all_goals (try simp only [qF,reduceCtorEq] at hq);all_goals (try (exfalso;first|exact hq|omega)))
    (repeat (first|(refine sA ?_;try intro KR kR)|(with_reducible refine sD O145 ?_;intro KR kR;simp only [O145,ordl,seval])|(refine sB ?_;intro K hK;simp (disch := omega) only [go_sem,seval];(try ((with_reducible first|refine Gt ?_|refine gopO_f rfl ?_|refine Gv rfl ?_);simp (disch := omega) only [go_sem,seval]));(repeat first|intro (xb : Blk)|intro (xk : Nat)|intro hx|refine pC ?_);refine hK _ ?_;clear K hK)|(refine sE ?_;simp only [go_sem,seval,L144,O144,L145,O145];refine kR _ ?_;clear KR kR)|(simp only [thenE,inB,seval])))
    ((with_reducible refine Ac ?_);intro K hK;simp (disch := omega) only [condK,go_sem,seval];refine hK _ ?_ ?_;all_goals clear K hK;all_goals intro hq;all_goals (try simp only [qF,reduceCtorEq] at hq);all_goals (try (exfalso;first|exact hq|omega)))
    (repeat (first|(refine sA ?_;try intro KR kR)|(with_reducible refine sD O145 ?_;intro KR kR;simp only [O145,ordl,seval])|(refine sB ?_;intro K hK;simp (disch := omega) only [go_sem,seval];(try ((with_reducible first|refine Gt ?_|refine gopO_f rfl ?_|refine Gv rfl ?_);simp (disch := omega) only [go_sem,seval]));(repeat first|intro (xb : Blk)|intro (xk : Nat)|intro hx|refine pC ?_);refine hK _ ?_;clear K hK)|(refine sE ?_;simp only [go_sem,seval,L144,O144,L145,O145];refine kR _ ?_;clear KR kR)|(simp only [thenE,inB,seval])))
    (simp only [retQ,Try.results145];simp (disch := omega) only [resK,resT,resAV,Env.sel,Env.keys,List.map_nil,List.map_cons,List.all_nil,List.all_cons,AV.isS,Bool.not_false,Bool.and_self,Option.map_some,List.length_cons,List.length_nil,Nat.zero_add,Nat.reduceAdd,not_false_eq_true,true_and,and_true,ne_eq,go_sem,seval,ne_eq])
  ·have e1 : i < k := by
    by_cases e : i = k
    ·have := at_k e;have := hjs e;omega
    ·omega
   rw [sm e1] at c1
   omega
 ·have e1 : i < k := by
   by_cases e : i = k
   ·have := at_k e;have := hjs e;omega
   ·omega
  (repeat (first|(refine sA ?_;try intro KR kR)|(with_reducible refine sD O145 ?_;intro KR kR;simp only [O145,ordl,seval])|(refine sB ?_;intro K hK;simp (disch := omega) only [go_sem,seval];(try ((with_reducible first|refine Gt ?_|refine gopO_f rfl ?_|refine Gv rfl ?_);simp (disch := omega) only [go_sem,seval]));(repeat first|intro (xb : Blk)|intro (xk : Nat)|intro hx|refine pC ?_);refine hK _ ?_;clear K hK)|(refine sE ?_;simp only [go_sem,seval,L144,O144,L145,O145];refine kR _ ?_;clear KR kR)|(simp only [thenE,inB,seval])))
  ((with_reducible refine Ac ?_);intro K hK;simp (disch := omega) only [condK,go_sem,seval];refine hK _ ?_ ?_;all_goals clear K hK;all_goals intro hq;all_goals (try simp only [qF,reduceCtorEq] at hq);all_goals (try (exfalso;first|exact hq|omega)))
  (repeat (first|(refine sA ?_;try intro KR kR)|(with_reducible refine sD O145 ?_;intro KR kR;simp only [O145,ordl,seval])|(refine sB ?_;intro K hK;simp (disch := omega) only [go_sem,seval];(try ((with_reducible first|refine Gt ?_|refine gopO_f rfl ?_|refine Gv rfl ?_);simp (disch := omega) only [go_sem,seval]));(repeat first|intro (xb : Blk)|intro (xk : Nat)|intro hx|refine pC ?_);refine hK _ ?_;clear K hK)|(refine sE ?_;simp only [go_sem,seval,L144,O144,L145,O145];refine kR _ ?_;clear KR kR)|(simp only [thenE,inB,seval])))
  refine gh_no ⟨k - (i + 1),by omega,i + 1,by omega,by omega,?_⟩
  ((try simp (disch := omega) only [List.cons.injEq,Prod.mk.injEq,AV.c.injEq,AV.agg.injEq,AV.opt.injEq,AV.tup.injEq,AV.row.injEq,AV.box.injEq,AV.mapo.injEq,AC.im.injEq,AC.sl.injEq,AC.adr.injEq,AC.ref.injEq,AC.ptr.injEq,AC.own.injEq,AC.fn.injEq,Value.int.injEq,Value.bool.injEq,Value.string.injEq,heq_eq_eq,go_sem,seval]);(try (repeat' refine And.intro ?_ ?_));all_goals (first|rfl|omega|skip))
end Go.Proofs.Ytllemobnfpljfaa
