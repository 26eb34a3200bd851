import Derived.Test.YtllemobnfpljfaaTrY
set_option linter.unusedSimpArgs false
set_option linter.unusedVariables false
set_option maxRecDepth 10000
set_option maxRecDepth 100000
set_option maxHeartbeats 8000000
namespace Go.Proofs.Ytllemobnfpljfaa
open Go Go.Hs
def L161 (r : Nat) : Option (List Nat) := kl r [(0,[0,1,2,6]),(1,[0,1,2,6,8]),(2,[0,2,6,8,14]),(3,[2,6,8]),(4,[2,6,8,9]),(5,[2,6,8,9,23]),(6,[2,6,8,9]),(7,[2,6,8,9,32]),(8,[6,7]),(9,[6,7])]
def O161 (r : Nat) : List Nat × OT := ordl r []
def L55 (r : Nat) : Option (List Nat) := kl r [(0,[0,1,2,6]),(1,[0,1,2,6,8]),(2,[0,2,6,8,14]),(3,[2,6,8]),(4,[2,6,8,9]),(5,[2,6,8,9,23]),(6,[2,6,8,9]),(7,[2,6,8,9,32]),(8,[6,7]),(9,[6,7])]
def O55 (r : Nat) : List Nat × OT := ordl r []
def hopC : Option Hq → List AC
 | some h => [.im (.int .i64 h.1),.im (.int .i64 h.2.1),.sl 1 (kRows .i64 h.2.2)]
 | none => [.im (.int .i64 0),.im (.int .i64 0),.nil]
theorem find_some : ∀ {A : List Hq} {r : Int} {i : Nat},i < A.length → (qAt A i).1 = r → (∀ j,j < i → (qAt A j).1 ≠ r) → A.find? (fun h => decide (h.1 = r)) = some (qAt A i)
 | [],r,i,h,_,_ => by simp at h
 | x :: A,r,0,_,e,_ => by
  have e : x.1 = r := e
  rw [List.find?_cons,decide_eq_true e];rfl
 | x :: A,r,i + 1,h,e,hs => by
  have h0 : x.1 ≠ r := hs 0 (by omega)
  rw [List.find?_cons,decide_eq_false h0]
  exact find_some (A := A) (i := i) (by simpa using h) e (fun j hj => hs (j + 1) (by omega))
theorem find_none2 : ∀ {A : List Hq} {r : Int},(∀ j,j < A.length → (qAt A j).1 ≠ r) → A.find? (fun h => decide (h.1 = r)) = none
 | [],r,_ => rfl
 | x :: A,r,hs => by
  have h0 : x.1 ≠ r := hs 0 (by simp)
  rw [List.find?_cons,decide_eq_false h0]
  exact find_none2 (A := A) (fun j hj => hs (j + 1) (by simpa using hj))
theorem root_len {l : List Tm} : (rootF l).length ≤ 400 := by
 unfold rootF
 split
 ·rename_i hr
  have ht := term_of_right hr
  exact intoF_len hr (by have := ht.pos;omega)
 ·simp
theorem from_len {l : List Tm} {p : Int} : (fromF l p).length ≤ 64 * 200000 := by
 unfold fromF
 split
 ·rename_i hp
  have hr := right_places hp
  obtain ⟨f1,_,_⟩ := leafN_ok hr hp
  rw [fromN_A]
  exact Nat.le_trans (fromA_len _) (Nat.mul_le_mul placesF_length (allF_len hr f1))
 ·simp
attribute [local go_sem] tltT tltF tleT tleF tbeT tbeF AV.isS length_hqO hqO_flat takeHq hqO_frz length_hQ hQ_frz getQ0 getQ1 getQR hQ_snoc takeQ exQ Tm.cs binSet length_tRows tRows_ex tRows_frz getK getA getB getN getTm getSet
set_option maxRecDepth 100000 in
set_option maxHeartbeats 8000000 in
theorem hop18_ok (l : List Tm) (hl : l.length ≤ 1000) (p r : Int) : Contract Try.prog 161 [.c (.sl 8 (tRows l)),.c (.im (.int .i64 p)),.c (.im (.int .i64 r))] (.tup [.ag (hopC (hopF l p r)),.c (.im (.bool (hopF l p r).isSome))]) := by
 have hfr := from_okT l hl p
 have hfi := first_ok l hl
 by_cases hp : p = -1
 ·obtain ⟨A,hA0⟩ : ∃ A,A = rootF l := ⟨_,rfl⟩
  have hA : hopF l p r = A.find? (fun h => decide (h.1 = r)) := by rw [hopF,if_pos hp,hA0]
  rw [← hA0] at hfi
  have hAl : A.length ≤ 400 := by rw [hA0];exact root_len
  (refine contract_of_awp (L := L161) Try.func161 rfl (by kernel_rfl) (by first|rfl|decide) (by first|rfl|kernel_rfl) ?_;simp only [Try.ntmps161,initEnv,Env.keys,List.map_nil,List.map_cons,List.append_nil,List.cons_append,List.nil_append])
  (first|(refine sA ?_;try intro KR kR)|(with_reducible refine sD O161 ?_;intro KR kR;simp only [O161,ordl,seval]))
  (first|(refine sA ?_;try intro KR kR)|(with_reducible refine sD O161 ?_;intro KR kR;simp only [O161,ordl,seval]))
  (repeat' (first|(refine sB ?_;intro K hK;simp (disch := omega) only [go_sem,seval];(try ((with_reducible first|refine Gt ?_|refine gopO_f rfl ?_|refine Gv rfl ?_);simp (disch := omega) only [go_sem,seval]));(repeat first|intro (xb : Blk)|intro (xk : Nat)|intro hx|refine pC ?_);refine hK _ ?_;clear K hK)|(refine sE ?_;simp only [go_sem,seval,L55,O55,L161,O161];refine kR _ ?_;clear KR kR)|(simp only [thenE,inB,seval])|((with_reducible (first|refine Rb ?_ ?_|refine Rc ?_ ?_ ?_));all_goals (simp only [↓reduceIte,reduceCtorEq,Nat.reduceEqDiff]))))
  generalize xk = k6
  (repeat (first|(refine sA ?_;try intro KR kR)|(with_reducible refine sD O161 ?_;intro KR kR;simp only [O161,ordl,seval])|(refine sB ?_;intro K hK;simp (disch := omega) only [go_sem,seval];(try ((with_reducible first|refine Gt ?_|refine gopO_f rfl ?_|refine Gv rfl ?_);simp (disch := omega) only [go_sem,seval]));(repeat first|intro (xb : Blk)|intro (xk : Nat)|intro hx|refine pC ?_);refine hK _ ?_;clear K hK)|(refine sE ?_;simp only [go_sem,seval,L55,O55,L161,O161];refine kR _ ?_;clear KR kR)|(simp only [thenE,inB,seval])))
  (refine sB ?_;intro K hK;simp (disch := omega) only [go_sem,seval];(try ((with_reducible refine Gt ?_);simp (disch := omega) only [go_sem,seval]));refine cN ?_;simp (disch := omega) only [go_sem,seval];refine ⟨_,_,ContractH.n (hfr),?_⟩;intro r H' hr hk;(try obtain rfl := keys_nil hk);(obtain ⟨b1,rfl⟩ := hr);(try simp (disch := omega) only [AV.flat,AC.flat,AC.flat.flatL,AC.flat.flatLL,go_sem,seval]);(repeat first|intro (xb : Blk)|intro (xk : Nat)|intro hx|refine pC ?_);refine hK _ ?_;clear K hK)
  (repeat (first|(refine sA ?_;try intro KR kR)|(with_reducible refine sD O161 ?_;intro KR kR;simp only [O161,ordl,seval])|(refine sB ?_;intro K hK;simp (disch := omega) only [go_sem,seval];(try ((with_reducible first|refine Gt ?_|refine gopO_f rfl ?_|refine Gv rfl ?_);simp (disch := omega) only [go_sem,seval]));(repeat first|intro (xb : Blk)|intro (xk : Nat)|intro hx|refine pC ?_);refine hK _ ?_;clear K hK)|(refine sE ?_;simp only [go_sem,seval,L55,O55,L161,O161];refine kR _ ?_;clear KR kR)|(simp only [thenE,inB,seval])))
  ((with_reducible refine Ac ?_);intro K hK;simp (disch := omega) only [condK,go_sem,seval];refine hK _ ?_ ?_;all_goals clear K hK;all_goals intro hq;all_goals (try simp only [qF,reduceCtorEq] at hq);all_goals (try (exfalso;first|exact hq|omega)))
  (repeat (first|(refine sA ?_;try intro KR kR)|(with_reducible refine sD O161 ?_;intro KR kR;simp only [O161,ordl,seval])|(refine sB ?_;intro K hK;simp (disch := omega) only [go_sem,seval];(try ((with_reducible first|refine Gt ?_|refine gopO_f rfl ?_|refine Gv rfl ?_);simp (disch := omega) only [go_sem,seval]));(repeat first|intro (xb : Blk)|intro (xk : Nat)|intro hx|refine pC ?_);refine hK _ ?_;clear K hK)|(refine sE ?_;simp only [go_sem,seval,L55,O55,L161,O161];refine kR _ ?_;clear KR kR)|(simp only [thenE,inB,seval])))
  (refine sB ?_;intro K hK;simp (disch := omega) only [go_sem,seval];(try ((with_reducible refine Gt ?_);simp (disch := omega) only [go_sem,seval]));refine cN ?_;simp (disch := omega) only [go_sem,seval];refine ⟨_,_,ContractH.n (hfi),?_⟩;intro r H' hr hk;(try obtain rfl := keys_nil hk);(obtain ⟨b2,R,hR,rfl⟩ := hr);(try simp (disch := omega) only [AV.flat,AC.flat,AC.flat.flatL,AC.flat.flatLL,go_sem,seval]);(repeat first|intro (xb : Blk)|intro (xk : Nat)|intro hx|refine pC ?_);refine hK _ ?_;clear K hK)
  have lR : R.length = A.length := by rw [← hR,List.length_map]
  (repeat' (first|(refine sB ?_;intro K hK;simp (disch := omega) only [go_sem,seval];(try ((with_reducible first|refine Gt ?_|refine gopO_f rfl ?_|refine Gv rfl ?_);simp (disch := omega) only [go_sem,seval]));(repeat first|intro (xb : Blk)|intro (xk : Nat)|intro hx|refine pC ?_);refine hK _ ?_;clear K hK)|(refine sE ?_;simp only [go_sem,seval,L55,O55,L161,O161];refine kR _ ?_;clear KR kR)|(simp only [thenE,inB,seval])|((with_reducible (first|refine Rb ?_ ?_|refine Rc ?_ ?_ ?_));all_goals (simp only [↓reduceIte,reduceCtorEq,Nat.reduceEqDiff]))))
  (first|(refine sA ?_;try intro KR kR)|(with_reducible refine sD O161 ?_;intro KR kR;simp only [O161,ordl,seval]))
  (first|(refine sA ?_;try intro KR kR)|(with_reducible refine sD O161 ?_;intro KR kR;simp only [O161,ordl,seval]))
  refine awp_ghkT (.pubIn 1019) ?_
  intro K hK
  simp (disch := omega) only [ghK,go_sem,seval]
  (repeat (refine ⟨by first|omega|rfl|decide|simp,?_⟩))
  refine hK _ ?_
  clear K hK
  (try simp only [hqO_frz'])
  rw [hR,lR]
  (repeat (first|(refine sA ?_;try intro KR kR)|(with_reducible refine sD O161 ?_;intro KR kR;simp only [O161,ordl,seval])|(refine sB ?_;intro K hK;simp (disch := omega) only [go_sem,seval];(try ((with_reducible first|refine Gt ?_|refine gopO_f rfl ?_|refine Gv rfl ?_);simp (disch := omega) only [go_sem,seval]));(repeat first|intro (xb : Blk)|intro (xk : Nat)|intro hx|refine pC ?_);refine hK _ ?_;clear K hK)|(refine sE ?_;simp only [go_sem,seval,L55,O55,L161,O161];refine kR _ ?_;clear KR kR)|(simp only [thenE,inB,seval])))
  generalize hcells : (hopF l p r) = o at *
  refine awp_loop [2,6,8,9,1006,1019] (fun n S => ∃ (i : Nat),i ≤ A.length ∧ n + i = A.length ∧ (∀ j,j < i → (qAt A j).1 ≠ r) ∧ S = [(2,.c (.im (.int .i64 r))),(6,.c (.ptr 1006 [] k6 3 0 0)),(8,.c (.ref 1019 [] b2 3 0 A.length)),(9,.c (.im (.int .i64 i))),(1006,.box k6 69 [.im (.int .i64 0),.im (.int .i64 0),.nil]),(1019,.row b2 69 3 (hQ A))]) A.length ⟨0,by omega,by omega,fun j hj => (by omega),rfl⟩ ?_
  rintro n S' ⟨i,hi,hni,hs,rfl⟩
  (repeat (first|(refine sA ?_;try intro KR kR)|(with_reducible refine sD O161 ?_;intro KR kR;simp only [O161,ordl,seval])|(refine sB ?_;intro K hK;simp (disch := omega) only [go_sem,seval];(try ((with_reducible first|refine Gt ?_|refine gopO_f rfl ?_|refine Gv rfl ?_);simp (disch := omega) only [go_sem,seval]));(repeat first|intro (xb : Blk)|intro (xk : Nat)|intro hx|refine pC ?_);refine hK _ ?_;clear K hK)|(refine sE ?_;simp only [go_sem,seval,L55,O55,L161,O161];refine kR _ ?_;clear KR kR)|(simp only [thenE,inB,seval])))
  ((with_reducible refine Ac ?_);intro K hK;simp (disch := omega) only [condK,go_sem,seval];refine hK _ ?_ ?_;all_goals clear K hK;all_goals intro hq;all_goals (try simp only [qF,reduceCtorEq] at hq);all_goals (try (exfalso;first|exact hq|omega)))
  ·have hi2 : i < A.length := by omega
   clear hq
   by_cases e : (qAt A i).1 = r
   ·have hfo := find_some hi2 e hs
    rw [← hA] at hfo
    subst hfo
    (repeat (first|(refine sA ?_;try intro KR kR)|(with_reducible refine sD O161 ?_;intro KR kR;simp only [O161,ordl,seval])|(refine sB ?_;intro K hK;simp (disch := omega) only [go_sem,seval];(try ((with_reducible first|refine Gt ?_|refine gopO_f rfl ?_|refine Gv rfl ?_);simp (disch := omega) only [go_sem,seval]));(repeat first|intro (xb : Blk)|intro (xk : Nat)|intro hx|refine pC ?_);refine hK _ ?_;clear K hK)|(refine sE ?_;simp only [go_sem,seval,L55,O55,L161,O161];refine kR _ ?_;clear KR kR)|(simp only [thenE,inB,seval])))
    ((with_reducible refine Ac ?_);intro K hK;simp (disch := omega) only [condK,go_sem,seval];refine hK _ ?_ ?_;all_goals clear K hK;all_goals intro hq;all_goals (try simp only [qF,reduceCtorEq] at hq);all_goals (try (exfalso;first|exact hq|omega)))
    (repeat (first|(refine sA ?_;try intro KR kR)|(with_reducible refine sD O161 ?_;intro KR kR;simp only [O161,ordl,seval])|(refine sB ?_;intro K hK;simp (disch := omega) only [go_sem,seval];(try ((with_reducible first|refine Gt ?_|refine gopO_f rfl ?_|refine Gv rfl ?_);simp (disch := omega) only [go_sem,seval]));(repeat first|intro (xb : Blk)|intro (xk : Nat)|intro hx|refine pC ?_);refine hK _ ?_;clear K hK)|(refine sE ?_;simp only [go_sem,seval,L55,O55,L161,O161];refine kR _ ?_;clear KR kR)|(simp only [thenE,inB,seval])))
    (simp only [retQ,Try.results161];simp (disch := omega) only [resK,resT,resAV,Env.sel,Env.keys,List.map_nil,List.map_cons,List.all_nil,List.all_cons,AV.isS,Bool.not_false,Bool.and_self,Option.map_some,List.length_cons,List.length_nil,Nat.zero_add,Nat.reduceAdd,not_false_eq_true,true_and,and_true,ne_eq,go_sem,seval,ne_eq])
    rfl
   ·(repeat (first|(refine sA ?_;try intro KR kR)|(with_reducible refine sD O161 ?_;intro KR kR;simp only [O161,ordl,seval])|(refine sB ?_;intro K hK;simp (disch := omega) only [go_sem,seval];(try ((with_reducible first|refine Gt ?_|refine gopO_f rfl ?_|refine Gv rfl ?_);simp (disch := omega) only [go_sem,seval]));(repeat first|intro (xb : Blk)|intro (xk : Nat)|intro hx|refine pC ?_);refine hK _ ?_;clear K hK)|(refine sE ?_;simp only [go_sem,seval,L55,O55,L161,O161];refine kR _ ?_;clear KR kR)|(simp only [thenE,inB,seval])))
    ((with_reducible refine Ac ?_);intro K hK;simp (disch := omega) only [condK,go_sem,seval];refine hK _ ?_ ?_;all_goals clear K hK;all_goals intro hq;all_goals (try simp only [qF,reduceCtorEq] at hq);all_goals (try (exfalso;first|exact hq|omega)))
    (repeat (first|(refine sA ?_;try intro KR kR)|(with_reducible refine sD O161 ?_;intro KR kR;simp only [O161,ordl,seval])|(refine sB ?_;intro K hK;simp (disch := omega) only [go_sem,seval];(try ((with_reducible first|refine Gt ?_|refine gopO_f rfl ?_|refine Gv rfl ?_);simp (disch := omega) only [go_sem,seval]));(repeat first|intro (xb : Blk)|intro (xk : Nat)|intro hx|refine pC ?_);refine hK _ ?_;clear K hK)|(refine sE ?_;simp only [go_sem,seval,L55,O55,L161,O161];refine kR _ ?_;clear KR kR)|(simp only [thenE,inB,seval])))
    refine gh_no ⟨A.length - (i + 1),by omega,i + 1,by omega,by omega,fun j hj => ?_,?_⟩
    ·by_cases c : j = i
     ·subst c;exact e
     ·exact hs j (by omega)
    ·((try simp (disch := omega) only [List.cons.injEq,Prod.mk.injEq,AV.c.injEq,AV.agg.injEq,AV.opt.injEq,AV.tup.injEq,AV.row.injEq,AV.box.injEq,AV.mapo.injEq,AC.im.injEq,AC.sl.injEq,AC.adr.injEq,AC.ref.injEq,AC.ptr.injEq,AC.own.injEq,AC.fn.injEq,Value.int.injEq,Value.bool.injEq,Value.string.injEq,heq_eq_eq,go_sem,seval]);(try (repeat' refine And.intro ?_ ?_));all_goals (first|rfl|omega|skip))
  ·have e : i = A.length := by omega
   subst e
   have hfo := find_none2 hs
   rw [← hA] at hfo
   subst hfo
   (repeat (first|(refine sA ?_;try intro KR kR)|(with_reducible refine sD O161 ?_;intro KR kR;simp only [O161,ordl,seval])|(refine sB ?_;intro K hK;simp (disch := omega) only [go_sem,seval];(try ((with_reducible first|refine Gt ?_|refine gopO_f rfl ?_|refine Gv rfl ?_);simp (disch := omega) only [go_sem,seval]));(repeat first|intro (xb : Blk)|intro (xk : Nat)|intro hx|refine pC ?_);refine hK _ ?_;clear K hK)|(refine sE ?_;simp only [go_sem,seval,L55,O55,L161,O161];refine kR _ ?_;clear KR kR)|(simp only [thenE,inB,seval])))
   (simp only [retQ,Try.results161];simp (disch := omega) only [resK,resT,resAV,Env.sel,Env.keys,List.map_nil,List.map_cons,List.all_nil,List.all_cons,AV.isS,Bool.not_false,Bool.and_self,Option.map_some,List.length_cons,List.length_nil,Nat.zero_add,Nat.reduceAdd,not_false_eq_true,true_and,and_true,ne_eq,go_sem,seval,ne_eq])
   rfl
 ·obtain ⟨A,hA0⟩ : ∃ A,A = fromF l p := ⟨_,rfl⟩
  have hA : hopF l p r = A.find? (fun h => decide (h.1 = r)) := by rw [hopF,if_neg hp,hA0]
  rw [← hA0] at hfr
  have hAl : A.length ≤ 64 * 200000 := by rw [hA0];exact from_len
  (refine contract_of_awp (L := L161) Try.func161 rfl (by kernel_rfl) (by first|rfl|decide) (by first|rfl|kernel_rfl) ?_;simp only [Try.ntmps161,initEnv,Env.keys,List.map_nil,List.map_cons,List.append_nil,List.cons_append,List.nil_append])
  (first|(refine sA ?_;try intro KR kR)|(with_reducible refine sD O161 ?_;intro KR kR;simp only [O161,ordl,seval]))
  (first|(refine sA ?_;try intro KR kR)|(with_reducible refine sD O161 ?_;intro KR kR;simp only [O161,ordl,seval]))
  (repeat' (first|(refine sB ?_;intro K hK;simp (disch := omega) only [go_sem,seval];(try ((with_reducible first|refine Gt ?_|refine gopO_f rfl ?_|refine Gv rfl ?_);simp (disch := omega) only [go_sem,seval]));(repeat first|intro (xb : Blk)|intro (xk : Nat)|intro hx|refine pC ?_);refine hK _ ?_;clear K hK)|(refine sE ?_;simp only [go_sem,seval,L55,O55,L161,O161];refine kR _ ?_;clear KR kR)|(simp only [thenE,inB,seval])|((with_reducible (first|refine Rb ?_ ?_|refine Rc ?_ ?_ ?_));all_goals (simp only [↓reduceIte,reduceCtorEq,Nat.reduceEqDiff]))))
  generalize xk = k6
  (repeat (first|(refine sA ?_;try intro KR kR)|(with_reducible refine sD O161 ?_;intro KR kR;simp only [O161,ordl,seval])|(refine sB ?_;intro K hK;simp (disch := omega) only [go_sem,seval];(try ((with_reducible first|refine Gt ?_|refine gopO_f rfl ?_|refine Gv rfl ?_);simp (disch := omega) only [go_sem,seval]));(repeat first|intro (xb : Blk)|intro (xk : Nat)|intro hx|refine pC ?_);refine hK _ ?_;clear K hK)|(refine sE ?_;simp only [go_sem,seval,L55,O55,L161,O161];refine kR _ ?_;clear KR kR)|(simp only [thenE,inB,seval])))
  (refine sB ?_;intro K hK;simp (disch := omega) only [go_sem,seval];(try ((with_reducible refine Gt ?_);simp (disch := omega) only [go_sem,seval]));refine cN ?_;simp (disch := omega) only [go_sem,seval];refine ⟨_,_,ContractH.n (hfr),?_⟩;intro r H' hr hk;(try obtain rfl := keys_nil hk);(obtain ⟨b1,rfl⟩ := hr);(try simp (disch := omega) only [AV.flat,AC.flat,AC.flat.flatL,AC.flat.flatLL,go_sem,seval]);(repeat first|intro (xb : Blk)|intro (xk : Nat)|intro hx|refine pC ?_);refine hK _ ?_;clear K hK)
  (repeat (first|(refine sA ?_;try intro KR kR)|(with_reducible refine sD O161 ?_;intro KR kR;simp only [O161,ordl,seval])|(refine sB ?_;intro K hK;simp (disch := omega) only [go_sem,seval];(try ((with_reducible first|refine Gt ?_|refine gopO_f rfl ?_|refine Gv rfl ?_);simp (disch := omega) only [go_sem,seval]));(repeat first|intro (xb : Blk)|intro (xk : Nat)|intro hx|refine pC ?_);refine hK _ ?_;clear K hK)|(refine sE ?_;simp only [go_sem,seval,L55,O55,L161,O161];refine kR _ ?_;clear KR kR)|(simp only [thenE,inB,seval])))
  ((with_reducible refine Ac ?_);intro K hK;simp (disch := omega) only [condK,go_sem,seval];refine hK _ ?_ ?_;all_goals clear K hK;all_goals intro hq;all_goals (try simp only [qF,reduceCtorEq] at hq);all_goals (try (exfalso;first|exact hq|omega)))
  (repeat (first|(refine sA ?_;try intro KR kR)|(with_reducible refine sD O161 ?_;intro KR kR;simp only [O161,ordl,seval])|(refine sB ?_;intro K hK;simp (disch := omega) only [go_sem,seval];(try ((with_reducible first|refine Gt ?_|refine gopO_f rfl ?_|refine Gv rfl ?_);simp (disch := omega) only [go_sem,seval]));(repeat first|intro (xb : Blk)|intro (xk : Nat)|intro hx|refine pC ?_);refine hK _ ?_;clear K hK)|(refine sE ?_;simp only [go_sem,seval,L55,O55,L161,O161];refine kR _ ?_;clear KR kR)|(simp only [thenE,inB,seval])))
  generalize hcells : (hopF l p r) = o at *
  refine awp_loop [2,6,8,9,1006,1012] (fun n S => ∃ (i : Nat),i ≤ A.length ∧ n + i = A.length ∧ (∀ j,j < i → (qAt A j).1 ≠ r) ∧ S = [(2,.c (.im (.int .i64 r))),(6,.c (.ptr 1006 [] k6 3 0 0)),(8,.c (.ref 1012 [] b1 3 0 A.length)),(9,.c (.im (.int .i64 i))),(1006,.box k6 69 [.im (.int .i64 0),.im (.int .i64 0),.nil]),(1012,.row b1 69 3 (hQ A))]) A.length ⟨0,by omega,by omega,fun j hj => (by omega),rfl⟩ ?_
  rintro n S' ⟨i,hi,hni,hs,rfl⟩
  (repeat (first|(refine sA ?_;try intro KR kR)|(with_reducible refine sD O161 ?_;intro KR kR;simp only [O161,ordl,seval])|(refine sB ?_;intro K hK;simp (disch := omega) only [go_sem,seval];(try ((with_reducible first|refine Gt ?_|refine gopO_f rfl ?_|refine Gv rfl ?_);simp (disch := omega) only [go_sem,seval]));(repeat first|intro (xb : Blk)|intro (xk : Nat)|intro hx|refine pC ?_);refine hK _ ?_;clear K hK)|(refine sE ?_;simp only [go_sem,seval,L55,O55,L161,O161];refine kR _ ?_;clear KR kR)|(simp only [thenE,inB,seval])))
  ((with_reducible refine Ac ?_);intro K hK;simp (disch := omega) only [condK,go_sem,seval];refine hK _ ?_ ?_;all_goals clear K hK;all_goals intro hq;all_goals (try simp only [qF,reduceCtorEq] at hq);all_goals (try (exfalso;first|exact hq|omega)))
  ·have hi2 : i < A.length := by omega
   clear hq
   by_cases e : (qAt A i).1 = r
   ·have hfo := find_some hi2 e hs
    rw [← hA] at hfo
    subst hfo
    (repeat (first|(refine sA ?_;try intro KR kR)|(with_reducible refine sD O161 ?_;intro KR kR;simp only [O161,ordl,seval])|(refine sB ?_;intro K hK;simp (disch := omega) only [go_sem,seval];(try ((with_reducible first|refine Gt ?_|refine gopO_f rfl ?_|refine Gv rfl ?_);simp (disch := omega) only [go_sem,seval]));(repeat first|intro (xb : Blk)|intro (xk : Nat)|intro hx|refine pC ?_);refine hK _ ?_;clear K hK)|(refine sE ?_;simp only [go_sem,seval,L55,O55,L161,O161];refine kR _ ?_;clear KR kR)|(simp only [thenE,inB,seval])))
    ((with_reducible refine Ac ?_);intro K hK;simp (disch := omega) only [condK,go_sem,seval];refine hK _ ?_ ?_;all_goals clear K hK;all_goals intro hq;all_goals (try simp only [qF,reduceCtorEq] at hq);all_goals (try (exfalso;first|exact hq|omega)))
    (repeat (first|(refine sA ?_;try intro KR kR)|(with_reducible refine sD O161 ?_;intro KR kR;simp only [O161,ordl,seval])|(refine sB ?_;intro K hK;simp (disch := omega) only [go_sem,seval];(try ((with_reducible first|refine Gt ?_|refine gopO_f rfl ?_|refine Gv rfl ?_);simp (disch := omega) only [go_sem,seval]));(repeat first|intro (xb : Blk)|intro (xk : Nat)|intro hx|refine pC ?_);refine hK _ ?_;clear K hK)|(refine sE ?_;simp only [go_sem,seval,L55,O55,L161,O161];refine kR _ ?_;clear KR kR)|(simp only [thenE,inB,seval])))
    (simp only [retQ,Try.results161];simp (disch := omega) only [resK,resT,resAV,Env.sel,Env.keys,List.map_nil,List.map_cons,List.all_nil,List.all_cons,AV.isS,Bool.not_false,Bool.and_self,Option.map_some,List.length_cons,List.length_nil,Nat.zero_add,Nat.reduceAdd,not_false_eq_true,true_and,and_true,ne_eq,go_sem,seval,ne_eq])
    rfl
   ·(repeat (first|(refine sA ?_;try intro KR kR)|(with_reducible refine sD O161 ?_;intro KR kR;simp only [O161,ordl,seval])|(refine sB ?_;intro K hK;simp (disch := omega) only [go_sem,seval];(try ((with_reducible first|refine Gt ?_|refine gopO_f rfl ?_|refine Gv rfl ?_);simp (disch := omega) only [go_sem,seval]));(repeat first|intro (xb : Blk)|intro (xk : Nat)|intro hx|refine pC ?_);refine hK _ ?_;clear K hK)|(refine sE ?_;simp only [go_sem,seval,L55,O55,L161,O161];refine kR _ ?_;clear KR kR)|(simp only [thenE,inB,seval])))
    ((with_reducible refine Ac ?_);intro K hK;simp (disch := omega) only [condK,go_sem,seval];refine hK _ ?_ ?_;all_goals clear K hK;all_goals intro hq;all_goals (try simp only [qF,reduceCtorEq] at hq);all_goals (try (exfalso;first|exact hq|omega)))
    (repeat (first|(refine sA ?_;try intro KR kR)|(with_reducible refine sD O161 ?_;intro KR kR;simp only [O161,ordl,seval])|(refine sB ?_;intro K hK;simp (disch := omega) only [go_sem,seval];(try ((with_reducible first|refine Gt ?_|refine gopO_f rfl ?_|refine Gv rfl ?_);simp (disch := omega) only [go_sem,seval]));(repeat first|intro (xb : Blk)|intro (xk : Nat)|intro hx|refine pC ?_);refine hK _ ?_;clear K hK)|(refine sE ?_;simp only [go_sem,seval,L55,O55,L161,O161];refine kR _ ?_;clear KR kR)|(simp only [thenE,inB,seval])))
    refine gh_no ⟨A.length - (i + 1),by omega,i + 1,by omega,by omega,fun j hj => ?_,?_⟩
    ·by_cases c : j = i
     ·subst c;exact e
     ·exact hs j (by omega)
    ·((try simp (disch := omega) only [List.cons.injEq,Prod.mk.injEq,AV.c.injEq,AV.agg.injEq,AV.opt.injEq,AV.tup.injEq,AV.row.injEq,AV.box.injEq,AV.mapo.injEq,AC.im.injEq,AC.sl.injEq,AC.adr.injEq,AC.ref.injEq,AC.ptr.injEq,AC.own.injEq,AC.fn.injEq,Value.int.injEq,Value.bool.injEq,Value.string.injEq,heq_eq_eq,go_sem,seval]);(try (repeat' refine And.intro ?_ ?_));all_goals (first|rfl|omega|skip))
  ·have e : i = A.length := by omega
   subst e
   have hfo := find_none2 hs
   rw [← hA] at hfo
   subst hfo
   (repeat (first|(refine sA ?_;try intro KR kR)|(with_reducible refine sD O161 ?_;intro KR kR;simp only [O161,ordl,seval])|(refine sB ?_;intro K hK;simp (disch := omega) only [go_sem,seval];(try ((with_reducible first|refine Gt ?_|refine gopO_f rfl ?_|refine Gv rfl ?_);simp (disch := omega) only [go_sem,seval]));(repeat first|intro (xb : Blk)|intro (xk : Nat)|intro hx|refine pC ?_);refine hK _ ?_;clear K hK)|(refine sE ?_;simp only [go_sem,seval,L55,O55,L161,O161];refine kR _ ?_;clear KR kR)|(simp only [thenE,inB,seval])))
   (simp only [retQ,Try.results161];simp (disch := omega) only [resK,resT,resAV,Env.sel,Env.keys,List.map_nil,List.map_cons,List.all_nil,List.all_cons,AV.isS,Bool.not_false,Bool.and_self,Option.map_some,List.length_cons,List.length_nil,Nat.zero_add,Nat.reduceAdd,not_false_eq_true,true_and,and_true,ne_eq,go_sem,seval,ne_eq])
   rfl
set_option maxRecDepth 100000 in
set_option maxHeartbeats 8000000 in
theorem hop19_ok (l : List Tm) (hl : l.length ≤ 1000) (p r : Int) : Contract Try.prog 55 [.c (.sl 8 (tRows l)),.c (.im (.int .i64 p)),.c (.im (.int .i64 r))] (.tup [.ag (hopC (hopF l p r)),.c (.im (.bool (hopF l p r).isSome))]) := by
 have hfr := from_okT l hl p
 have hfi := first_ok l hl
 by_cases hp : p = -1
 ·obtain ⟨A,hA0⟩ : ∃ A,A = rootF l := ⟨_,rfl⟩
  have hA : hopF l p r = A.find? (fun h => decide (h.1 = r)) := by rw [hopF,if_pos hp,hA0]
  rw [← hA0] at hfi
  have hAl : A.length ≤ 400 := by rw [hA0];exact root_len
  (refine contract_of_awp (L := L55) Try.func55 rfl (by kernel_rfl) (by first|rfl|decide) (by first|rfl|kernel_rfl) ?_;simp only [Try.ntmps55,initEnv,Env.keys,List.map_nil,List.map_cons,List.append_nil,List.cons_append,List.nil_append])
  (first|(refine sA ?_;try intro KR kR)|(with_reducible refine sD O55 ?_;intro KR kR;simp only [O55,ordl,seval]))
  (first|(refine sA ?_;try intro KR kR)|(with_reducible refine sD O55 ?_;intro KR kR;simp only [O55,ordl,seval]))
  (repeat' (first|(refine sB ?_;intro K hK;simp (disch := omega) only [go_sem,seval];(try ((with_reducible first|refine Gt ?_|refine gopO_f rfl ?_|refine Gv rfl ?_);simp (disch := omega) only [go_sem,seval]));(repeat first|intro (xb : Blk)|intro (xk : Nat)|intro hx|refine pC ?_);refine hK _ ?_;clear K hK)|(refine sE ?_;simp only [go_sem,seval,L55,O55,L161,O161];refine kR _ ?_;clear KR kR)|(simp only [thenE,inB,seval])|((with_reducible (first|refine Rb ?_ ?_|refine Rc ?_ ?_ ?_));all_goals (simp only [↓reduceIte,reduceCtorEq,Nat.reduceEqDiff]))))
  generalize xk = k6
  (repeat (first|(refine sA ?_;try intro KR kR)|(with_reducible refine sD O55 ?_;intro KR kR;simp only [O55,ordl,seval])|(refine sB ?_;intro K hK;simp (disch := omega) only [go_sem,seval];(try ((with_reducible first|refine Gt ?_|refine gopO_f rfl ?_|refine Gv rfl ?_);simp (disch := omega) only [go_sem,seval]));(repeat first|intro (xb : Blk)|intro (xk : Nat)|intro hx|refine pC ?_);refine hK _ ?_;clear K hK)|(refine sE ?_;simp only [go_sem,seval,L55,O55,L161,O161];refine kR _ ?_;clear KR kR)|(simp only [thenE,inB,seval])))
  (refine sB ?_;intro K hK;simp (disch := omega) only [go_sem,seval];(try ((with_reducible refine Gt ?_);simp (disch := omega) only [go_sem,seval]));refine cN ?_;simp (disch := omega) only [go_sem,seval];refine ⟨_,_,ContractH.n (hfr),?_⟩;intro r H' hr hk;(try obtain rfl := keys_nil hk);(obtain ⟨b1,rfl⟩ := hr);(try simp (disch := omega) only [AV.flat,AC.flat,AC.flat.flatL,AC.flat.flatLL,go_sem,seval]);(repeat first|intro (xb : Blk)|intro (xk : Nat)|intro hx|refine pC ?_);refine hK _ ?_;clear K hK)
  (repeat (first|(refine sA ?_;try intro KR kR)|(with_reducible refine sD O55 ?_;intro KR kR;simp only [O55,ordl,seval])|(refine sB ?_;intro K hK;simp (disch := omega) only [go_sem,seval];(try ((with_reducible first|refine Gt ?_|refine gopO_f rfl ?_|refine Gv rfl ?_);simp (disch := omega) only [go_sem,seval]));(repeat first|intro (xb : Blk)|intro (xk : Nat)|intro hx|refine pC ?_);refine hK _ ?_;clear K hK)|(refine sE ?_;simp only [go_sem,seval,L55,O55,L161,O161];refine kR _ ?_;clear KR kR)|(simp only [thenE,inB,seval])))
  ((with_reducible refine Ac ?_);intro K hK;simp (disch := omega) only [condK,go_sem,seval];refine hK _ ?_ ?_;all_goals clear K hK;all_goals intro hq;all_goals (try simp only [qF,reduceCtorEq] at hq);all_goals (try (exfalso;first|exact hq|omega)))
  (repeat (first|(refine sA ?_;try intro KR kR)|(with_reducible refine sD O55 ?_;intro KR kR;simp only [O55,ordl,seval])|(refine sB ?_;intro K hK;simp (disch := omega) only [go_sem,seval];(try ((with_reducible first|refine Gt ?_|refine gopO_f rfl ?_|refine Gv rfl ?_);simp (disch := omega) only [go_sem,seval]));(repeat first|intro (xb : Blk)|intro (xk : Nat)|intro hx|refine pC ?_);refine hK _ ?_;clear K hK)|(refine sE ?_;simp only [go_sem,seval,L55,O55,L161,O161];refine kR _ ?_;clear KR kR)|(simp only [thenE,inB,seval])))
  (refine sB ?_;intro K hK;simp (disch := omega) only [go_sem,seval];(try ((with_reducible refine Gt ?_);simp (disch := omega) only [go_sem,seval]));refine cN ?_;simp (disch := omega) only [go_sem,seval];refine ⟨_,_,ContractH.n (hfi),?_⟩;intro r H' hr hk;(try obtain rfl := keys_nil hk);(obtain ⟨b2,R,hR,rfl⟩ := hr);(try simp (disch := omega) only [AV.flat,AC.flat,AC.flat.flatL,AC.flat.flatLL,go_sem,seval]);(repeat first|intro (xb : Blk)|intro (xk : Nat)|intro hx|refine pC ?_);refine hK _ ?_;clear K hK)
  have lR : R.length = A.length := by rw [← hR,List.length_map]
  (repeat' (first|(refine sB ?_;intro K hK;simp (disch := omega) only [go_sem,seval];(try ((with_reducible first|refine Gt ?_|refine gopO_f rfl ?_|refine Gv rfl ?_);simp (disch := omega) only [go_sem,seval]));(repeat first|intro (xb : Blk)|intro (xk : Nat)|intro hx|refine pC ?_);refine hK _ ?_;clear K hK)|(refine sE ?_;simp only [go_sem,seval,L55,O55,L161,O161];refine kR _ ?_;clear KR kR)|(simp only [thenE,inB,seval])|((with_reducible (first|refine Rb ?_ ?_|refine Rc ?_ ?_ ?_));all_goals (simp only [↓reduceIte,reduceCtorEq,Nat.reduceEqDiff]))))
  (first|(refine sA ?_;try intro KR kR)|(with_reducible refine sD O55 ?_;intro KR kR;simp only [O55,ordl,seval]))
  (first|(refine sA ?_;try intro KR kR)|(with_reducible refine sD O55 ?_;intro KR kR;simp only [O55,ordl,seval]))
  refine awp_ghkT (.pubIn 1019) ?_
  intro K hK
  simp (disch := omega) only [ghK,go_sem,seval]
  (repeat (refine ⟨by first|omega|rfl|decide|simp,?_⟩))
  refine hK _ ?_
  clear K hK
  (try simp only [hqO_frz'])
  rw [hR,lR]
  (repeat (first|(refine sA ?_;try intro KR kR)|(with_reducible refine sD O55 ?_;intro KR kR;simp only [O55,ordl,seval])|(refine sB ?_;intro K hK;simp (disch := omega) only [go_sem,seval];(try ((with_reducible first|refine Gt ?_|refine gopO_f rfl ?_|refine Gv rfl ?_);simp (disch := omega) only [go_sem,seval]));(repeat first|intro (xb : Blk)|intro (xk : Nat)|intro hx|refine pC ?_);refine hK _ ?_;clear K hK)|(refine sE ?_;simp only [go_sem,seval,L55,O55,L161,O161];refine kR _ ?_;clear KR kR)|(simp only [thenE,inB,seval])))
  generalize hcells : (hopF l p r) = o at *
  refine awp_loop [2,6,8,9,1006,1019] (fun n S => ∃ (i : Nat),i ≤ A.length ∧ n + i = A.length ∧ (∀ j,j < i → (qAt A j).1 ≠ r) ∧ S = [(2,.c (.im (.int .i64 r))),(6,.c (.ptr 1006 [] k6 3 0 0)),(8,.c (.ref 1019 [] b2 3 0 A.length)),(9,.c (.im (.int .i64 i))),(1006,.box k6 69 [.im (.int .i64 0),.im (.int .i64 0),.nil]),(1019,.row b2 69 3 (hQ A))]) A.length ⟨0,by omega,by omega,fun j hj => (by omega),rfl⟩ ?_
  rintro n S' ⟨i,hi,hni,hs,rfl⟩
  (repeat (first|(refine sA ?_;try intro KR kR)|(with_reducible refine sD O55 ?_;intro KR kR;simp only [O55,ordl,seval])|(refine sB ?_;intro K hK;simp (disch := omega) only [go_sem,seval];(try ((with_reducible first|refine Gt ?_|refine gopO_f rfl ?_|refine Gv rfl ?_);simp (disch := omega) only [go_sem,seval]));(repeat first|intro (xb : Blk)|intro (xk : Nat)|intro hx|refine pC ?_);refine hK _ ?_;clear K hK)|(refine sE ?_;simp only [go_sem,seval,L55,O55,L161,O161];refine kR _ ?_;clear KR kR)|(simp only [thenE,inB,seval])))
  ((with_reducible refine Ac ?_);intro K hK;simp (disch := omega) only [condK,go_sem,seval];refine hK _ ?_ ?_;all_goals clear K hK;all_goals intro hq;all_goals (try simp only [qF,reduceCtorEq] at hq);all_goals (try (exfalso;first|exact hq|omega)))
  ·have hi2 : i < A.length := by omega
   clear hq
   by_cases e : (qAt A i).1 = r
   ·have hfo := find_some hi2 e hs
    rw [← hA] at hfo
    subst hfo
    (repeat (first|(refine sA ?_;try intro KR kR)|(with_reducible refine sD O55 ?_;intro KR kR;simp only [O55,ordl,seval])|(refine sB ?_;intro K hK;simp (disch := omega) only [go_sem,seval];(try ((with_reducible first|refine Gt ?_|refine gopO_f rfl ?_|refine Gv rfl ?_);simp (disch := omega) only [go_sem,seval]));(repeat first|intro (xb : Blk)|intro (xk : Nat)|intro hx|refine pC ?_);refine hK _ ?_;clear K hK)|(refine sE ?_;simp only [go_sem,seval,L55,O55,L161,O161];refine kR _ ?_;clear KR kR)|(simp only [thenE,inB,seval])))
    ((with_reducible refine Ac ?_);intro K hK;simp (disch := omega) only [condK,go_sem,seval];refine hK _ ?_ ?_;all_goals clear K hK;all_goals intro hq;all_goals (try simp only [qF,reduceCtorEq] at hq);all_goals (try (exfalso;first|exact hq|omega)))
    (repeat (first|(refine sA ?_;try intro KR kR)|(with_reducible refine sD O55 ?_;intro KR kR;simp only [O55,ordl,seval])|(refine sB ?_;intro K hK;simp (disch := omega) only [go_sem,seval];(try ((with_reducible first|refine Gt ?_|refine gopO_f rfl ?_|refine Gv rfl ?_);simp (disch := omega) only [go_sem,seval]));(repeat first|intro (xb : Blk)|intro (xk : Nat)|intro hx|refine pC ?_);refine hK _ ?_;clear K hK)|(refine sE ?_;simp only [go_sem,seval,L55,O55,L161,O161];refine kR _ ?_;clear KR kR)|(simp only [thenE,inB,seval])))
    (simp only [retQ,Try.results55];simp (disch := omega) only [resK,resT,resAV,Env.sel,Env.keys,List.map_nil,List.map_cons,List.all_nil,List.all_cons,AV.isS,Bool.not_false,Bool.and_self,Option.map_some,List.length_cons,List.length_nil,Nat.zero_add,Nat.reduceAdd,not_false_eq_true,true_and,and_true,ne_eq,go_sem,seval,ne_eq])
    rfl
   ·(repeat (first|(refine sA ?_;try intro KR kR)|(with_reducible refine sD O55 ?_;intro KR kR;simp only [O55,ordl,seval])|(refine sB ?_;intro K hK;simp (disch := omega) only [go_sem,seval];(try ((with_reducible first|refine Gt ?_|refine gopO_f rfl ?_|refine Gv rfl ?_);simp (disch := omega) only [go_sem,seval]));(repeat first|intro (xb : Blk)|intro (xk : Nat)|intro hx|refine pC ?_);refine hK _ ?_;clear K hK)|(refine sE ?_;simp only [go_sem,seval,L55,O55,L161,O161];refine kR _ ?_;clear KR kR)|(simp only [thenE,inB,seval])))
    ((with_reducible refine Ac ?_);intro K hK;simp (disch := omega) only [condK,go_sem,seval];refine hK _ ?_ ?_;all_goals clear K hK;all_goals intro hq;all_goals (try simp only [qF,reduceCtorEq] at hq);all_goals (try (exfalso;first|exact hq|omega)))
    (repeat (first|(refine sA ?_;try intro KR kR)|(with_reducible refine sD O55 ?_;intro KR kR;simp only [O55,ordl,seval])|(refine sB ?_;intro K hK;simp (disch := omega) only [go_sem,seval];(try ((with_reducible first|refine Gt ?_|refine gopO_f rfl ?_|refine Gv rfl ?_);simp (disch := omega) only [go_sem,seval]));(repeat first|intro (xb : Blk)|intro (xk : Nat)|intro hx|refine pC ?_);refine hK _ ?_;clear K hK)|(refine sE ?_;simp only [go_sem,seval,L55,O55,L161,O161];refine kR _ ?_;clear KR kR)|(simp only [thenE,inB,seval])))
    refine gh_no ⟨A.length - (i + 1),by omega,i + 1,by omega,by omega,fun j hj => ?_,?_⟩
    ·by_cases c : j = i
     ·subst c;exact e
     ·exact hs j (by omega)
    ·((try simp (disch := omega) only [List.cons.injEq,Prod.mk.injEq,AV.c.injEq,AV.agg.injEq,AV.opt.injEq,AV.tup.injEq,AV.row.injEq,AV.box.injEq,AV.mapo.injEq,AC.im.injEq,AC.sl.injEq,AC.adr.injEq,AC.ref.injEq,AC.ptr.injEq,AC.own.injEq,AC.fn.injEq,Value.int.injEq,Value.bool.injEq,Value.string.injEq,heq_eq_eq,go_sem,seval]);(try (repeat' refine And.intro ?_ ?_));all_goals (first|rfl|omega|skip))
  ·have e : i = A.length := by omega
   subst e
   have hfo := find_none2 hs
   rw [← hA] at hfo
   subst hfo
   (repeat (first|(refine sA ?_;try intro KR kR)|(with_reducible refine sD O55 ?_;intro KR kR;simp only [O55,ordl,seval])|(refine sB ?_;intro K hK;simp (disch := omega) only [go_sem,seval];(try ((with_reducible first|refine Gt ?_|refine gopO_f rfl ?_|refine Gv rfl ?_);simp (disch := omega) only [go_sem,seval]));(repeat first|intro (xb : Blk)|intro (xk : Nat)|intro hx|refine pC ?_);refine hK _ ?_;clear K hK)|(refine sE ?_;simp only [go_sem,seval,L55,O55,L161,O161];refine kR _ ?_;clear KR kR)|(simp only [thenE,inB,seval])))
   (simp only [retQ,Try.results55];simp (disch := omega) only [resK,resT,resAV,Env.sel,Env.keys,List.map_nil,List.map_cons,List.all_nil,List.all_cons,AV.isS,Bool.not_false,Bool.and_self,Option.map_some,List.length_cons,List.length_nil,Nat.zero_add,Nat.reduceAdd,not_false_eq_true,true_and,and_true,ne_eq,go_sem,seval,ne_eq])
   rfl
 ·obtain ⟨A,hA0⟩ : ∃ A,A = fromF l p := ⟨_,rfl⟩
  have hA : hopF l p r = A.find? (fun h => decide (h.1 = r)) := by rw [hopF,if_neg hp,hA0]
  rw [← hA0] at hfr
  have hAl : A.length ≤ 64 * 200000 := by rw [hA0];exact from_len
  (refine contract_of_awp (L := L55) Try.func55 rfl (by kernel_rfl) (by first|rfl|decide) (by first|rfl|kernel_rfl) ?_;simp only [Try.ntmps55,initEnv,Env.keys,List.map_nil,List.map_cons,List.append_nil,List.cons_append,List.nil_append])
  (first|(refine sA ?_;try intro KR kR)|(with_reducible refine sD O55 ?_;intro KR kR;simp only [O55,ordl,seval]))
  (first|(refine sA ?_;try intro KR kR)|(with_reducible refine sD O55 ?_;intro KR kR;simp only [O55,ordl,seval]))
  (repeat' (first|(refine sB ?_;intro K hK;simp (disch := omega) only [go_sem,seval];(try ((with_reducible first|refine Gt ?_|refine gopO_f rfl ?_|refine Gv rfl ?_);simp (disch := omega) only [go_sem,seval]));(repeat first|intro (xb : Blk)|intro (xk : Nat)|intro hx|refine pC ?_);refine hK _ ?_;clear K hK)|(refine sE ?_;simp only [go_sem,seval,L55,O55,L161,O161];refine kR _ ?_;clear KR kR)|(simp only [thenE,inB,seval])|((with_reducible (first|refine Rb ?_ ?_|refine Rc ?_ ?_ ?_));all_goals (simp only [↓reduceIte,reduceCtorEq,Nat.reduceEqDiff]))))
  generalize xk = k6
  (repeat (first|(refine sA ?_;try intro KR kR)|(with_reducible refine sD O55 ?_;intro KR kR;simp only [O55,ordl,seval])|(refine sB ?_;intro K hK;simp (disch := omega) only [go_sem,seval];(try ((with_reducible first|refine Gt ?_|refine gopO_f rfl ?_|refine Gv rfl ?_);simp (disch := omega) only [go_sem,seval]));(repeat first|intro (xb : Blk)|intro (xk : Nat)|intro hx|refine pC ?_);refine hK _ ?_;clear K hK)|(refine sE ?_;simp only [go_sem,seval,L55,O55,L161,O161];refine kR _ ?_;clear KR kR)|(simp only [thenE,inB,seval])))
  (refine sB ?_;intro K hK;simp (disch := omega) only [go_sem,seval];(try ((with_reducible refine Gt ?_);simp (disch := omega) only [go_sem,seval]));refine cN ?_;simp (disch := omega) only [go_sem,seval];refine ⟨_,_,ContractH.n (hfr),?_⟩;intro r H' hr hk;(try obtain rfl := keys_nil hk);(obtain ⟨b1,rfl⟩ := hr);(try simp (disch := omega) only [AV.flat,AC.flat,AC.flat.flatL,AC.flat.flatLL,go_sem,seval]);(repeat first|intro (xb : Blk)|intro (xk : Nat)|intro hx|refine pC ?_);refine hK _ ?_;clear K hK)
  (repeat (first|(refine sA ?_;try intro KR kR)|(with_reducible refine sD O55 ?_;intro KR kR;simp only [O55,ordl,seval])|(refine sB ?_;intro K hK;simp (disch := omega) only [go_sem,seval];(try ((with_reducible first|refine Gt ?_|refine gopO_f rfl ?_|refine Gv rfl ?_);simp (disch := omega) only [go_sem,seval]));(repeat first|intro (xb : Blk)|intro (xk : Nat)|intro hx|refine pC ?_);refine hK _ ?_;clear K hK)|(refine sE ?_;simp only [go_sem,seval,L55,O55,L161,O161];refine kR _ ?_;clear KR kR)|(simp only [thenE,inB,seval])))
  ((with_reducible refine Ac ?_);intro K hK;simp (disch := omega) only [condK,go_sem,seval];refine hK _ ?_ ?_;all_goals clear K hK;all_goals intro hq;all_goals (try simp only [qF,reduceCtorEq] at hq);all_goals (try (exfalso;first|exact hq|omega)))
  (repeat (first|(refine sA ?_;try intro KR kR)|(with_reducible refine sD O55 ?_;intro KR kR;simp only [O55,ordl,seval])|(refine sB ?_;intro K hK;simp (disch := omega) only [go_sem,seval];(try ((with_reducible first|refine Gt ?_|refine gopO_f rfl ?_|refine Gv rfl ?_);simp (disch := omega) only [go_sem,seval]));(repeat first|intro (xb : Blk)|intro (xk : Nat)|intro hx|refine pC ?_);refine hK _ ?_;clear K hK)|(refine sE ?_;simp only [go_sem,seval,L55,O55,L161,O161];refine kR _ ?_;clear KR kR)|(simp only [thenE,inB,seval])))
  generalize hcells : (hopF l p r) = o at *
  refine awp_loop [2,6,8,9,1006,1012] (fun n S => ∃ (i : Nat),i ≤ A.length ∧ n + i = A.length ∧ (∀ j,j < i → (qAt A j).1 ≠ r) ∧ S = [(2,.c (.im (.int .i64 r))),(6,.c (.ptr 1006 [] k6 3 0 0)),(8,.c (.ref 1012 [] b1 3 0 A.length)),(9,.c (.im (.int .i64 i))),(1006,.box k6 69 [.im (.int .i64 0),.im (.int .i64 0),.nil]),(1012,.row b1 69 3 (hQ A))]) A.length ⟨0,by omega,by omega,fun j hj => (by omega),rfl⟩ ?_
  rintro n S' ⟨i,hi,hni,hs,rfl⟩
  (repeat (first|(refine sA ?_;try intro KR kR)|(with_reducible refine sD O55 ?_;intro KR kR;simp only [O55,ordl,seval])|(refine sB ?_;intro K hK;simp (disch := omega) only [go_sem,seval];(try ((with_reducible first|refine Gt ?_|refine gopO_f rfl ?_|refine Gv rfl ?_);simp (disch := omega) only [go_sem,seval]));(repeat first|intro (xb : Blk)|intro (xk : Nat)|intro hx|refine pC ?_);refine hK _ ?_;clear K hK)|(refine sE ?_;simp only [go_sem,seval,L55,O55,L161,O161];refine kR _ ?_;clear KR kR)|(simp only [thenE,inB,seval])))
  ((with_reducible refine Ac ?_);intro K hK;simp (disch := omega) only [condK,go_sem,seval];refine hK _ ?_ ?_;all_goals clear K hK;all_goals intro hq;all_goals (try simp only [qF,reduceCtorEq] at hq);all_goals (try (exfalso;first|exact hq|omega)))
  ·have hi2 : i < A.length := by omega
   clear hq
   by_cases e : (qAt A i).1 = r
   ·have hfo := find_some hi2 e hs
    rw [← hA] at hfo
    subst hfo
    (repeat (first|(refine sA ?_;try intro KR kR)|(with_reducible refine sD O55 ?_;intro KR kR;simp only [O55,ordl,seval])|(refine sB ?_;intro K hK;simp (disch := omega) only [go_sem,seval];(try ((with_reducible first|refine Gt ?_|refine gopO_f rfl ?_|refine Gv rfl ?_);simp (disch := omega) only [go_sem,seval]));(repeat first|intro (xb : Blk)|intro (xk : Nat)|intro hx|refine pC ?_);refine hK _ ?_;clear K hK)|(refine sE ?_;simp only [go_sem,seval,L55,O55,L161,O161];refine kR _ ?_;clear KR kR)|(simp only [thenE,inB,seval])))
    ((with_reducible refine Ac ?_);intro K hK;simp (disch := omega) only [condK,go_sem,seval];refine hK _ ?_ ?_;all_goals clear K hK;all_goals intro hq;all_goals (try simp only [qF,reduceCtorEq] at hq);all_goals (try (exfalso;first|exact hq|omega)))
    (repeat (first|(refine sA ?_;try intro KR kR)|(with_reducible refine sD O55 ?_;intro KR kR;simp only [O55,ordl,seval])|(refine sB ?_;intro K hK;simp (disch := omega) only [go_sem,seval];(try ((with_reducible first|refine Gt ?_|refine gopO_f rfl ?_|refine Gv rfl ?_);simp (disch := omega) only [go_sem,seval]));(repeat first|intro (xb : Blk)|intro (xk : Nat)|intro hx|refine pC ?_);refine hK _ ?_;clear K hK)|(refine sE ?_;simp only [go_sem,seval,L55,O55,L161,O161];refine kR _ ?_;clear KR kR)|(simp only [thenE,inB,seval])))
    (simp only [retQ,Try.results55];simp (disch := omega) only [resK,resT,resAV,Env.sel,Env.keys,List.map_nil,List.map_cons,List.all_nil,List.all_cons,AV.isS,Bool.not_false,Bool.and_self,Option.map_some,List.length_cons,List.length_nil,Nat.zero_add,Nat.reduceAdd,not_false_eq_true,true_and,and_true,ne_eq,go_sem,seval,ne_eq])
    rfl
   ·(repeat (first|(refine sA ?_;try intro KR kR)|(with_reducible refine sD O55 ?_;intro KR kR;simp only [O55,ordl,seval])|(refine sB ?_;intro K hK;simp (disch := omega) only [go_sem,seval];(try ((with_reducible first|refine Gt ?_|refine gopO_f rfl ?_|refine Gv rfl ?_);simp (disch := omega) only [go_sem,seval]));(repeat first|intro (xb : Blk)|intro (xk : Nat)|intro hx|refine pC ?_);refine hK _ ?_;clear K hK)|(refine sE ?_;simp only [go_sem,seval,L55,O55,L161,O161];refine kR _ ?_;clear KR kR)|(simp only [thenE,inB,seval])))
    ((with_reducible refine Ac ?_);intro K hK;simp (disch := omega) only [condK,go_sem,seval];refine hK _ ?_ ?_;all_goals clear K hK;all_goals intro hq;all_goals (try simp only [qF,reduceCtorEq] at hq);all_goals (try (exfalso;first|exact hq|omega)))
    (repeat (first|(refine sA ?_;try intro KR kR)|(with_reducible refine sD O55 ?_;intro KR kR;simp only [O55,ordl,seval])|(refine sB ?_;intro K hK;simp (disch := omega) only [go_sem,seval];(try ((with_reducible first|refine Gt ?_|refine gopO_f rfl ?_|refine Gv rfl ?_);simp (disch := omega) only [go_sem,seval]));(repeat first|intro (xb : Blk)|intro (xk : Nat)|intro hx|refine pC ?_);refine hK _ ?_;clear K hK)|(refine sE ?_;simp only [go_sem,seval,L55,O55,L161,O161];refine kR _ ?_;clear KR kR)|(simp only [thenE,inB,seval])))
    refine gh_no ⟨A.length - (i + 1),by omega,i + 1,by omega,by omega,fun j hj => ?_,?_⟩
    ·by_cases c : j = i
     ·subst c;exact e
     ·exact hs j (by omega)
    ·((try simp (disch := omega) only [List.cons.injEq,Prod.mk.injEq,AV.c.injEq,AV.agg.injEq,AV.opt.injEq,AV.tup.injEq,AV.row.injEq,AV.box.injEq,AV.mapo.injEq,AC.im.injEq,AC.sl.injEq,AC.adr.injEq,AC.ref.injEq,AC.ptr.injEq,AC.own.injEq,AC.fn.injEq,Value.int.injEq,Value.bool.injEq,Value.string.injEq,heq_eq_eq,go_sem,seval]);(try (repeat' refine And.intro ?_ ?_));all_goals (first|rfl|omega|skip))
  ·have e : i = A.length := by omega
   subst e
   have hfo := find_none2 hs
   rw [← hA] at hfo
   subst hfo
   (repeat (first|(refine sA ?_;try intro KR kR)|(with_reducible refine sD O55 ?_;intro KR kR;simp only [O55,ordl,seval])|(refine sB ?_;intro K hK;simp (disch := omega) only [go_sem,seval];(try ((with_reducible first|refine Gt ?_|refine gopO_f rfl ?_|refine Gv rfl ?_);simp (disch := omega) only [go_sem,seval]));(repeat first|intro (xb : Blk)|intro (xk : Nat)|intro hx|refine pC ?_);refine hK _ ?_;clear K hK)|(refine sE ?_;simp only [go_sem,seval,L55,O55,L161,O161];refine kR _ ?_;clear KR kR)|(simp only [thenE,inB,seval])))
   (simp only [retQ,Try.results55];simp (disch := omega) only [resK,resT,resAV,Env.sel,Env.keys,List.map_nil,List.map_cons,List.all_nil,List.all_cons,AV.isS,Bool.not_false,Bool.and_self,Option.map_some,List.length_cons,List.length_nil,Nat.zero_add,Nat.reduceAdd,not_false_eq_true,true_and,and_true,ne_eq,go_sem,seval,ne_eq])
   rfl
end Go.Proofs.Ytllemobnfpljfaa
