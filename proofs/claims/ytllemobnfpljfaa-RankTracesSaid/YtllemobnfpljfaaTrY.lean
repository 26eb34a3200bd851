import Derived.Test.YtllemobnfpljfaaTrX
set_option linter.unusedSimpArgs false
set_option linter.unusedVariables false
set_option maxRecDepth 10000
set_option maxRecDepth 100000
set_option maxHeartbeats 8000000
namespace Go.Proofs.Ytllemobnfpljfaa
open Go Go.Hs
def L106 (r : Nat) : Option (List Nat) := kl r [(0,[0,1]),(1,[0,1,19]),(2,[4]),(3,[0,5]),(4,[0,5,8]),(5,[0,5,8,9]),(6,[0,5,8,9,31]),(7,[0,5,8,9]),(8,[0,5,8,9,10]),(9,[0,5,8,9,10,37]),(10,[0,5,8,9,10]),(11,[0,5,8,9,10,46]),(12,[0,5,8,9,10]),(13,[4])]
def O106 (r : Nat) : List Nat × OT := ordl r []
theorem tltT {a b : Int} (h : a < b) : decide (a < b) = true := decide_eq_true h
theorem tltF {a b : Int} (h : ¬ a < b) : decide (a < b) = false := decide_eq_false h
theorem tleT {a b : Int} (h : a ≤ b) : decide (a ≤ b) = true := decide_eq_true h
theorem tleF {a b : Int} (h : ¬ a ≤ b) : decide (a ≤ b) = false := decide_eq_false h
theorem tbeT {a b : Int} (h : a = b) : (a == b) = true := by simpa using h
theorem tbeF {a b : Int} (h : a ≠ b) : (a == b) = false := by simpa using h
theorem outF_len {l : List Tm} (hr : rightF l = true) {f m : Nat} {out : List Hq} (hx : nodeS l f (m + 1) < l.length) : (outF l f m out).length ≤ out.length + 400 := by
 unfold outF
 split
 ·rename_i hg
  have := intoF_len (s := backS l f m) hr (goal_lt (q := nodeS l f m) hr hx hg)
  have := addN_len (T := (deepF l).getD (nodeS l f (m + 1)) 0) (H := intoF l (goalF l (nodeS l f m) (nodeS l f (m + 1))).toNat (backS l f m)) (out := out) (intoF l (goalF l (nodeS l f m) (nodeS l f (m + 1))).toNat (backS l f m)).length
  omega
 ·omega
theorem climbR_len {l : List Tm} (hr : rightF l = true) {f : Nat} (hf : f < l.length) : ∀ n m out,climbOk l f m → (climbR l f n m out).length ≤ out.length + 400 * n
 | 0,_,_,_ => by simp [climbR]
 | n + 1,m,out,ok => by
  rw [climbR]
  split
  ·omega
  ·rename_i hu
   have c := climb_ok hr hf m ok
   obtain ⟨g1,_,_⟩ := up_deep hr c.1 (by omega)
   have g1 : nodeS l f (m + 1) < l.length := g1
   have ol := outF_len hr (out := out) g1
   split
   ·omega
   ·rename_i hc
    have := climbR_len hr hf n (m + 1) (outF l f m out) (fun j hj => by
     by_cases e : j = m
     ·subst e
      refine ⟨by omega,fun c => ?_⟩
      by_cases k : canB l (tAt l (nodeS l f (j + 1))).b.toNat = true
      ·exact k
      ·exact absurd ⟨c,k⟩ hc
     ·exact ok j (by omega))
    omega
theorem allF_len {l : List Tm} (hr : rightF l = true) {f : Nat} (hf : f < l.length) : (allF l f).length ≤ 200000 := by
 have := climbR_len hr hf (l.length + 1) 0 [] (fun j hj => by omega)
 have ht := term_of_right hr
 have := ht.le
 unfold allF
 simp only [List.length_nil] at *
 omega
def fromA (A : List Hq) : Nat → List Hq
 | 0 => []
 | r + 1 => fromA A r ++ pickR r A
theorem fromN_A {l : List Tm} {f : Nat} : ∀ n,fromN l f n = fromA (allF l f) n
 | 0 => rfl
 | n + 1 => by rw [fromN,fromA,fromN_A n]
theorem fromA_len {A : List Hq} : ∀ n,(fromA A n).length ≤ n * A.length
 | 0 => by simp [fromA]
 | n + 1 => by
  have := fromA_len (A := A) n
  have h : (pickR (n : Int) A).length ≤ A.length := List.length_filter_le _ _
  rw [fromA,List.length_append,Nat.succ_mul];omega
theorem pick_succ {A : List Hq} {r : Int} {k : Nat} (h : k < A.length) : pickR r (A.take (k + 1)) = pickR r (A.take k) ++ if (qAt A k).1 = r then [qAt A k] else [] := by
 have e : qAt A k = A[k] := by unfold qAt;rw [List.getD_eq_getElem?_getD,List.getElem?_eq_getElem h];rfl
 unfold pickR
 rw [List.take_succ_eq_append_getElem h,List.filter_append,← e]
 by_cases c : (qAt A k).1 = r
 ·simp [c]
 ·simp [c]
attribute [local go_sem] tltT tltF tleT tleF tbeT tbeF AV.isS length_hqO hqO_flat takeHq hqO_frz length_hQ hQ_frz getQ0 getQ1 getQR hQ_snoc takeQ exQ Tm.cs binSet length_tRows tRows_ex tRows_frz getK getA getB getN getTm getSet
set_option maxRecDepth 100000 in
set_option maxHeartbeats 8000000 in
theorem from_okT (l : List Tm) (hl : l.length ≤ 1000) (p : Int) : ContractR Try.prog 106 [.c (.sl 8 (tRows l)),.c (.im (.int .i64 p))] (fun r => ∃ b,r = .c (.own b 69 3 (hQ (fromF l p)))) := by
 have hlv := refLeaves_ok l hl
 have pll := placesF_length (l := l)
 by_cases hp0 : p < 0
 ·have e : fromF l p = [] := by rw [fromF,if_neg (by omega)]
  rw [e]
  (refine contract_of_awp (L := L106) Try.func106 rfl (by kernel_rfl) (by first|rfl|decide) (by first|rfl|kernel_rfl) ?_;simp only [Try.ntmps106,initEnv,Env.keys,List.map_nil,List.map_cons,List.append_nil,List.cons_append,List.nil_append])
  (repeat' (first|(refine sA ?_;try intro KR kR)|(with_reducible refine sD O106 ?_;intro KR kR;simp only [O106,ordl,seval])|(refine sB ?_;intro K hK;simp (disch := omega) only [go_sem,seval];(try ((with_reducible first|refine Gt ?_|refine gopO_f rfl ?_|refine Gv rfl ?_);simp (disch := omega) only [go_sem,seval]));(repeat first|intro (xb : Blk)|intro (xk : Nat)|intro hx|refine pC ?_);refine hK _ ?_;clear K hK)|(refine sE ?_;simp only [go_sem,seval,L106,O106];refine kR _ ?_;clear KR kR)|(simp only [thenE,inB,seval])|((with_reducible refine Ac ?_);intro K hK;simp (disch := omega) only [condK,go_sem,seval];refine hK _ ?_ ?_;all_goals clear K hK;all_goals intro hq;all_goals (try simp only [qF,reduceCtorEq] at hq);all_goals (try (exfalso;first|exact hq|omega)))))
  (simp only [retQ,Try.results106];simp (disch := omega) only [resK,resT,resAV,Env.sel,Env.keys,List.map_nil,List.map_cons,List.all_nil,List.all_cons,AV.isS,Bool.not_false,Bool.and_self,Option.map_some,List.length_cons,List.length_nil,Nat.zero_add,Nat.reduceAdd,not_false_eq_true,true_and,and_true,ne_eq,go_sem,seval,ne_eq])
  exact ⟨none,rfl⟩
 ·by_cases hp1 : p < (placesF l).length
  ·have hp : 0 ≤ p ∧ p < (placesF l).length := ⟨by omega,hp1⟩
   have hr := right_places hp
   obtain ⟨f1,f2,f3⟩ := leafN_ok hr hp
   have hcl := climb_walk l hl p hp
   have hal := allF_len hr f1
   have hfr : fromF l p = fromA (allF l (leafN l p)) (placesF l).length := by rw [fromF,if_pos hp,fromN_A]
   generalize leafN l p = f at *
   (refine contract_of_awp (L := L106) Try.func106 rfl (by kernel_rfl) (by first|rfl|decide) (by first|rfl|kernel_rfl) ?_;simp only [Try.ntmps106,initEnv,Env.keys,List.map_nil,List.map_cons,List.append_nil,List.cons_append,List.nil_append])
   (repeat (first|(refine sA ?_;try intro KR kR)|(with_reducible refine sD O106 ?_;intro KR kR;simp only [O106,ordl,seval])|(refine sB ?_;intro K hK;simp (disch := omega) only [go_sem,seval];(try ((with_reducible first|refine Gt ?_|refine gopO_f rfl ?_|refine Gv rfl ?_);simp (disch := omega) only [go_sem,seval]));(repeat first|intro (xb : Blk)|intro (xk : Nat)|intro hx|refine pC ?_);refine hK _ ?_;clear K hK)|(refine sE ?_;simp only [go_sem,seval,L106,O106];refine kR _ ?_;clear KR kR)|(simp only [thenE,inB,seval])))
   (refine sB ?_;intro K hK;simp (disch := omega) only [go_sem,seval];(try ((with_reducible refine Gt ?_);simp (disch := omega) only [go_sem,seval]));refine cN ?_;simp (disch := omega) only [go_sem,seval];refine ⟨_,_,ContractH.n (hlv),?_⟩;intro r H' hr hk;(try obtain rfl := keys_nil hk);(obtain ⟨b0,rfl⟩ := hr);(try simp (disch := omega) only [AV.flat,AC.flat,AC.flat.flatL,AC.flat.flatLL,go_sem,seval]);(repeat first|intro (xb : Blk)|intro (xk : Nat)|intro hx|refine pC ?_);refine hK _ ?_;clear K hK)
   (repeat (first|(refine sA ?_;try intro KR kR)|(with_reducible refine sD O106 ?_;intro KR kR;simp only [O106,ordl,seval])|(refine sB ?_;intro K hK;simp (disch := omega) only [go_sem,seval];(try ((with_reducible first|refine Gt ?_|refine gopO_f rfl ?_|refine Gv rfl ?_);simp (disch := omega) only [go_sem,seval]));(repeat first|intro (xb : Blk)|intro (xk : Nat)|intro hx|refine pC ?_);refine hK _ ?_;clear K hK)|(refine sE ?_;simp only [go_sem,seval,L106,O106];refine kR _ ?_;clear KR kR)|(simp only [thenE,inB,seval])))
   ((with_reducible refine Ac ?_);intro K hK;simp (disch := omega) only [condK,go_sem,seval];refine hK _ ?_ ?_;all_goals clear K hK;all_goals intro hq;all_goals (try simp only [qF,reduceCtorEq] at hq);all_goals (try (exfalso;first|exact hq|omega)))
   (repeat (first|(refine sA ?_;try intro KR kR)|(with_reducible refine sD O106 ?_;intro KR kR;simp only [O106,ordl,seval])|(refine sB ?_;intro K hK;simp (disch := omega) only [go_sem,seval];(try ((with_reducible first|refine Gt ?_|refine gopO_f rfl ?_|refine Gv rfl ?_);simp (disch := omega) only [go_sem,seval]));(repeat first|intro (xb : Blk)|intro (xk : Nat)|intro hx|refine pC ?_);refine hK _ ?_;clear K hK)|(refine sE ?_;simp only [go_sem,seval,L106,O106];refine kR _ ?_;clear KR kR)|(simp only [thenE,inB,seval])))
   (refine sB ?_;intro K hK;simp (disch := omega) only [go_sem,seval];(try ((with_reducible refine Gt ?_);simp (disch := omega) only [go_sem,seval]));refine cN ?_;simp (disch := omega) only [go_sem,seval];refine ⟨_,_,ContractH.n (hcl),?_⟩;intro r H' hr hk;(try obtain rfl := keys_nil hk);(obtain ⟨cb,rfl|⟨b2,st,rfl⟩⟩ := hr);(try simp (disch := omega) only [AV.flat,AC.flat,AC.flat.flatL,AC.flat.flatLL,go_sem,seval]);(repeat first|intro (xb : Blk)|intro (xk : Nat)|intro hx|refine pC ?_);refine hK _ ?_;clear K hK)
   ·(repeat (first|(refine sA ?_;try intro KR kR)|(with_reducible refine sD O106 ?_;intro KR kR;simp only [O106,ordl,seval])|(refine sB ?_;intro K hK;simp (disch := omega) only [go_sem,seval];(try ((with_reducible first|refine Gt ?_|refine gopO_f rfl ?_|refine Gv rfl ?_);simp (disch := omega) only [go_sem,seval]));(repeat first|intro (xb : Blk)|intro (xk : Nat)|intro hx|refine pC ?_);refine hK _ ?_;clear K hK)|(refine sE ?_;simp only [go_sem,seval,L106,O106];refine kR _ ?_;clear KR kR)|(simp only [thenE,inB,seval])))
    generalize allF l f = A at *
    refine awp_loop [0,5,8,9,1008,123000] (fun n S => ∃ (i : Nat) (ob : Blk),i ≤ (placesF l).length ∧ n + i = (placesF l).length ∧ S = [(0,.c (.sl 8 (tRows l))),(5,.c (.ref 123000 [] cb 3 0 A.length)),(8,.c (.ref 1008 [] ob 3 0 (fromA A i).length)),(9,.c (.im (.int .i64 i))),(1008,.row ob 69 3 (hQ (fromA A i))),(123000,.row cb 69 3 (hQ A))]) (placesF l).length ⟨0,none,by omega,by omega,rfl⟩ ?_
    rintro n S' ⟨i,ob,hi,hni,rfl⟩
    have fl : (fromA A i).length ≤ 64 * 200000 := Nat.le_trans (fromA_len (A := A) i) (Nat.mul_le_mul (by omega) hal)
    (repeat (first|(refine sA ?_;try intro KR kR)|(with_reducible refine sD O106 ?_;intro KR kR;simp only [O106,ordl,seval])|(refine sB ?_;intro K hK;simp (disch := omega) only [go_sem,seval];(try ((with_reducible first|refine Gt ?_|refine gopO_f rfl ?_|refine Gv rfl ?_);simp (disch := omega) only [go_sem,seval]));(repeat first|intro (xb : Blk)|intro (xk : Nat)|intro hx|refine pC ?_);refine hK _ ?_;clear K hK)|(refine sE ?_;simp only [go_sem,seval,L106,O106];refine kR _ ?_;clear KR kR)|(simp only [thenE,inB,seval])))
    (refine sB ?_;intro K hK;simp (disch := omega) only [go_sem,seval];(try ((with_reducible refine Gt ?_);simp (disch := omega) only [go_sem,seval]));refine cN ?_;simp (disch := omega) only [go_sem,seval];refine ⟨_,_,ContractH.n (hlv),?_⟩;intro r H' hr hk;(try obtain rfl := keys_nil hk);(obtain ⟨b5,rfl⟩ := hr);(try simp (disch := omega) only [AV.flat,AC.flat,AC.flat.flatL,AC.flat.flatLL,go_sem,seval]);(repeat first|intro (xb : Blk)|intro (xk : Nat)|intro hx|refine pC ?_);refine hK _ ?_;clear K hK)
    (repeat (first|(refine sA ?_;try intro KR kR)|(with_reducible refine sD O106 ?_;intro KR kR;simp only [O106,ordl,seval])|(refine sB ?_;intro K hK;simp (disch := omega) only [go_sem,seval];(try ((with_reducible first|refine Gt ?_|refine gopO_f rfl ?_|refine Gv rfl ?_);simp (disch := omega) only [go_sem,seval]));(repeat first|intro (xb : Blk)|intro (xk : Nat)|intro hx|refine pC ?_);refine hK _ ?_;clear K hK)|(refine sE ?_;simp only [go_sem,seval,L106,O106];refine kR _ ?_;clear KR kR)|(simp only [thenE,inB,seval])))
    ((with_reducible refine Ac ?_);intro K hK;simp (disch := omega) only [condK,go_sem,seval];refine hK _ ?_ ?_;all_goals clear K hK;all_goals intro hq;all_goals (try simp only [qF,reduceCtorEq] at hq);all_goals (try (exfalso;first|exact hq|omega)))
    ·have hi2 : i < (placesF l).length := by omega
     clear hq
     (repeat (first|(refine sA ?_;try intro KR kR)|(with_reducible refine sD O106 ?_;intro KR kR;simp only [O106,ordl,seval])|(refine sB ?_;intro K hK;simp (disch := omega) only [go_sem,seval];(try ((with_reducible first|refine Gt ?_|refine gopO_f rfl ?_|refine Gv rfl ?_);simp (disch := omega) only [go_sem,seval]));(repeat first|intro (xb : Blk)|intro (xk : Nat)|intro hx|refine pC ?_);refine hK _ ?_;clear K hK)|(refine sE ?_;simp only [go_sem,seval,L106,O106];refine kR _ ?_;clear KR kR)|(simp only [thenE,inB,seval])))
     refine awp_loop [0,5,8,9,10,1008,123000] (fun n S => ∃ (k : Nat) (o2 : List Hq) (ob : Blk),k ≤ A.length ∧ n + k = A.length ∧ o2 = fromA A i ++ pickR i (A.take k) ∧ S = [(0,.c (.sl 8 (tRows l))),(5,.c (.ref 123000 [] cb 3 0 A.length)),(8,.c (.ref 1008 [] ob 3 0 o2.length)),(9,.c (.im (.int .i64 i))),(10,.c (.im (.int .i64 k))),(1008,.row ob 69 3 (hQ o2)),(123000,.row cb 69 3 (hQ A))]) A.length ⟨0,fromA A i,ob,by omega,by omega,(List.append_nil _).symm,rfl⟩ ?_
     rintro n2 S' ⟨k,o2,ob2,hk,hnk,ho2,rfl⟩
     have ol : o2.length ≤ (fromA A i).length + k := by
      rw [ho2,List.length_append]
      have := List.length_filter_le (fun h : Hq => decide (h.1 = (i : Int))) (A.take k)
      have e : (pickR (i : Int) (A.take k)).length ≤ (A.take k).length := this
      rw [List.length_take] at e;omega
     (repeat (first|(refine sA ?_;try intro KR kR)|(with_reducible refine sD O106 ?_;intro KR kR;simp only [O106,ordl,seval])|(refine sB ?_;intro K hK;simp (disch := omega) only [go_sem,seval];(try ((with_reducible first|refine Gt ?_|refine gopO_f rfl ?_|refine Gv rfl ?_);simp (disch := omega) only [go_sem,seval]));(repeat first|intro (xb : Blk)|intro (xk : Nat)|intro hx|refine pC ?_);refine hK _ ?_;clear K hK)|(refine sE ?_;simp only [go_sem,seval,L106,O106];refine kR _ ?_;clear KR kR)|(simp only [thenE,inB,seval])))
     ((with_reducible refine Ac ?_);intro K hK;simp (disch := omega) only [condK,go_sem,seval];refine hK _ ?_ ?_;all_goals clear K hK;all_goals intro hq;all_goals (try simp only [qF,reduceCtorEq] at hq);all_goals (try (exfalso;first|exact hq|omega)))
     ·have hk2 : k < A.length := by omega
      have tk := pick_succ (r := (i : Int)) hk2
      clear hq
      by_cases e : (qAt A k).1 = i
      ·rw [if_pos e] at tk
       (repeat (first|(refine sA ?_;try intro KR kR)|(with_reducible refine sD O106 ?_;intro KR kR;simp only [O106,ordl,seval])|(refine sB ?_;intro K hK;simp (disch := omega) only [go_sem,seval];(try ((with_reducible first|refine Gt ?_|refine gopO_f rfl ?_|refine Gv rfl ?_);simp (disch := omega) only [go_sem,seval]));(repeat first|intro (xb : Blk)|intro (xk : Nat)|intro hx|refine pC ?_);refine hK _ ?_;clear K hK)|(refine sE ?_;simp only [go_sem,seval,L106,O106];refine kR _ ?_;clear KR kR)|(simp only [thenE,inB,seval])))
       ((with_reducible refine Ac ?_);intro K hK;simp (disch := omega) only [condK,go_sem,seval];refine hK _ ?_ ?_;all_goals clear K hK;all_goals intro hq;all_goals (try simp only [qF,reduceCtorEq] at hq);all_goals (try (exfalso;first|exact hq|omega)))
       (repeat (first|(refine sA ?_;try intro KR kR)|(with_reducible refine sD O106 ?_;intro KR kR;simp only [O106,ordl,seval])|(refine sB ?_;intro K hK;simp (disch := omega) only [go_sem,seval];(try ((with_reducible first|refine Gt ?_|refine gopO_f rfl ?_|refine Gv rfl ?_);simp (disch := omega) only [go_sem,seval]));(repeat first|intro (xb : Blk)|intro (xk : Nat)|intro hx|refine pC ?_);refine hK _ ?_;clear K hK)|(refine sE ?_;simp only [go_sem,seval,L106,O106];refine kR _ ?_;clear KR kR)|(simp only [thenE,inB,seval])))
       refine gh_no ⟨A.length - (k + 1),by omega,k + 1,o2 ++ [((qAt A k).1,(qAt A k).2.1,(qAt A k).2.2)],xb,by omega,by omega,by rw [tk,ho2,List.append_assoc],?_⟩
       ((try simp (disch := omega) only [List.cons.injEq,Prod.mk.injEq,AV.c.injEq,AV.agg.injEq,AV.opt.injEq,AV.tup.injEq,AV.row.injEq,AV.box.injEq,AV.mapo.injEq,AC.im.injEq,AC.sl.injEq,AC.adr.injEq,AC.ref.injEq,AC.ptr.injEq,AC.own.injEq,AC.fn.injEq,Value.int.injEq,Value.bool.injEq,Value.string.injEq,heq_eq_eq,go_sem,seval]);(try (repeat' refine And.intro ?_ ?_));all_goals (first|rfl|omega|skip))
      ·rw [if_neg e] at tk
       (repeat (first|(refine sA ?_;try intro KR kR)|(with_reducible refine sD O106 ?_;intro KR kR;simp only [O106,ordl,seval])|(refine sB ?_;intro K hK;simp (disch := omega) only [go_sem,seval];(try ((with_reducible first|refine Gt ?_|refine gopO_f rfl ?_|refine Gv rfl ?_);simp (disch := omega) only [go_sem,seval]));(repeat first|intro (xb : Blk)|intro (xk : Nat)|intro hx|refine pC ?_);refine hK _ ?_;clear K hK)|(refine sE ?_;simp only [go_sem,seval,L106,O106];refine kR _ ?_;clear KR kR)|(simp only [thenE,inB,seval])))
       ((with_reducible refine Ac ?_);intro K hK;simp (disch := omega) only [condK,go_sem,seval];refine hK _ ?_ ?_;all_goals clear K hK;all_goals intro hq;all_goals (try simp only [qF,reduceCtorEq] at hq);all_goals (try (exfalso;first|exact hq|omega)))
       (repeat (first|(refine sA ?_;try intro KR kR)|(with_reducible refine sD O106 ?_;intro KR kR;simp only [O106,ordl,seval])|(refine sB ?_;intro K hK;simp (disch := omega) only [go_sem,seval];(try ((with_reducible first|refine Gt ?_|refine gopO_f rfl ?_|refine Gv rfl ?_);simp (disch := omega) only [go_sem,seval]));(repeat first|intro (xb : Blk)|intro (xk : Nat)|intro hx|refine pC ?_);refine hK _ ?_;clear K hK)|(refine sE ?_;simp only [go_sem,seval,L106,O106];refine kR _ ?_;clear KR kR)|(simp only [thenE,inB,seval])))
       refine gh_no ⟨A.length - (k + 1),by omega,k + 1,o2,ob2,by omega,by omega,by rw [tk,ho2,List.append_nil],?_⟩
       ((try simp (disch := omega) only [List.cons.injEq,Prod.mk.injEq,AV.c.injEq,AV.agg.injEq,AV.opt.injEq,AV.tup.injEq,AV.row.injEq,AV.box.injEq,AV.mapo.injEq,AC.im.injEq,AC.sl.injEq,AC.adr.injEq,AC.ref.injEq,AC.ptr.injEq,AC.own.injEq,AC.fn.injEq,Value.int.injEq,Value.bool.injEq,Value.string.injEq,heq_eq_eq,go_sem,seval]);(try (repeat' refine And.intro ?_ ?_));all_goals (first|rfl|omega|skip))
     ·have e : k = A.length := by omega
      subst e
      rw [List.take_length] at ho2
      have ho3 : o2 = fromA A (i + 1) := ho2
      rw [ho3]
      (repeat (first|(refine sA ?_;try intro KR kR)|(with_reducible refine sD O106 ?_;intro KR kR;simp only [O106,ordl,seval])|(refine sB ?_;intro K hK;simp (disch := omega) only [go_sem,seval];(try ((with_reducible first|refine Gt ?_|refine gopO_f rfl ?_|refine Gv rfl ?_);simp (disch := omega) only [go_sem,seval]));(repeat first|intro (xb : Blk)|intro (xk : Nat)|intro hx|refine pC ?_);refine hK _ ?_;clear K hK)|(refine sE ?_;simp only [go_sem,seval,L106,O106];refine kR _ ?_;clear KR kR)|(simp only [thenE,inB,seval])))
      refine gh_no ⟨(placesF l).length - (i + 1),by omega,i + 1,ob2,by omega,by omega,?_⟩
      ((try simp (disch := omega) only [List.cons.injEq,Prod.mk.injEq,AV.c.injEq,AV.agg.injEq,AV.opt.injEq,AV.tup.injEq,AV.row.injEq,AV.box.injEq,AV.mapo.injEq,AC.im.injEq,AC.sl.injEq,AC.adr.injEq,AC.ref.injEq,AC.ptr.injEq,AC.own.injEq,AC.fn.injEq,Value.int.injEq,Value.bool.injEq,Value.string.injEq,heq_eq_eq,go_sem,seval]);(try (repeat' refine And.intro ?_ ?_));all_goals (first|rfl|omega|skip))
    ·have e : i = (placesF l).length := by omega
     subst e
     (repeat (first|(refine sA ?_;try intro KR kR)|(with_reducible refine sD O106 ?_;intro KR kR;simp only [O106,ordl,seval])|(refine sB ?_;intro K hK;simp (disch := omega) only [go_sem,seval];(try ((with_reducible first|refine Gt ?_|refine gopO_f rfl ?_|refine Gv rfl ?_);simp (disch := omega) only [go_sem,seval]));(repeat first|intro (xb : Blk)|intro (xk : Nat)|intro hx|refine pC ?_);refine hK _ ?_;clear K hK)|(refine sE ?_;simp only [go_sem,seval,L106,O106];refine kR _ ?_;clear KR kR)|(simp only [thenE,inB,seval])))
     (simp only [retQ,Try.results106];simp (disch := omega) only [resK,resT,resAV,Env.sel,Env.keys,List.map_nil,List.map_cons,List.all_nil,List.all_cons,AV.isS,Bool.not_false,Bool.and_self,Option.map_some,List.length_cons,List.length_nil,Nat.zero_add,Nat.reduceAdd,not_false_eq_true,true_and,and_true,ne_eq,go_sem,seval,ne_eq])
     rw [hfr]
     exact ⟨ob,rfl⟩
   ·simp (disch := omega) only [go_sem,seval]
    (repeat first|intro (xb : Blk)|intro (xk : Nat)|intro hx|refine pC ?_);refine hK _ ?_;clear K hK
    (repeat (first|(refine sA ?_;try intro KR kR)|(with_reducible refine sD O106 ?_;intro KR kR;simp only [O106,ordl,seval])|(refine sB ?_;intro K hK;simp (disch := omega) only [go_sem,seval];(try ((with_reducible first|refine Gt ?_|refine gopO_f rfl ?_|refine Gv rfl ?_);simp (disch := omega) only [go_sem,seval]));(repeat first|intro (xb : Blk)|intro (xk : Nat)|intro hx|refine pC ?_);refine hK _ ?_;clear K hK)|(refine sE ?_;simp only [go_sem,seval,L106,O106];refine kR _ ?_;clear KR kR)|(simp only [thenE,inB,seval])))
    generalize allF l f = A at *
    refine awp_loop [0,5,8,9,1008,123000] (fun n S => ∃ (i : Nat) (ob : Blk),i ≤ (placesF l).length ∧ n + i = (placesF l).length ∧ S = [(0,.c (.sl 8 (tRows l))),(5,.c (.ref 123000 [] cb 3 0 A.length)),(8,.c (.ref 1008 [] ob 3 0 (fromA A i).length)),(9,.c (.im (.int .i64 i))),(1008,.row ob 69 3 (hQ (fromA A i))),(123000,.row cb 69 3 (hQ A))]) (placesF l).length ⟨0,none,by omega,by omega,rfl⟩ ?_
    rintro n S' ⟨i,ob,hi,hni,rfl⟩
    have fl : (fromA A i).length ≤ 64 * 200000 := Nat.le_trans (fromA_len (A := A) i) (Nat.mul_le_mul (by omega) hal)
    (repeat (first|(refine sA ?_;try intro KR kR)|(with_reducible refine sD O106 ?_;intro KR kR;simp only [O106,ordl,seval])|(refine sB ?_;intro K hK;simp (disch := omega) only [go_sem,seval];(try ((with_reducible first|refine Gt ?_|refine gopO_f rfl ?_|refine Gv rfl ?_);simp (disch := omega) only [go_sem,seval]));(repeat first|intro (xb : Blk)|intro (xk : Nat)|intro hx|refine pC ?_);refine hK _ ?_;clear K hK)|(refine sE ?_;simp only [go_sem,seval,L106,O106];refine kR _ ?_;clear KR kR)|(simp only [thenE,inB,seval])))
    (refine sB ?_;intro K hK;simp (disch := omega) only [go_sem,seval];(try ((with_reducible refine Gt ?_);simp (disch := omega) only [go_sem,seval]));refine cN ?_;simp (disch := omega) only [go_sem,seval];refine ⟨_,_,ContractH.n (hlv),?_⟩;intro r H' hr hk;(try obtain rfl := keys_nil hk);(obtain ⟨b5,rfl⟩ := hr);(try simp (disch := omega) only [AV.flat,AC.flat,AC.flat.flatL,AC.flat.flatLL,go_sem,seval]);(repeat first|intro (xb : Blk)|intro (xk : Nat)|intro hx|refine pC ?_);refine hK _ ?_;clear K hK)
    (repeat (first|(refine sA ?_;try intro KR kR)|(with_reducible refine sD O106 ?_;intro KR kR;simp only [O106,ordl,seval])|(refine sB ?_;intro K hK;simp (disch := omega) only [go_sem,seval];(try ((with_reducible first|refine Gt ?_|refine gopO_f rfl ?_|refine Gv rfl ?_);simp (disch := omega) only [go_sem,seval]));(repeat first|intro (xb : Blk)|intro (xk : Nat)|intro hx|refine pC ?_);refine hK _ ?_;clear K hK)|(refine sE ?_;simp only [go_sem,seval,L106,O106];refine kR _ ?_;clear KR kR)|(simp only [thenE,inB,seval])))
    ((with_reducible refine Ac ?_);intro K hK;simp (disch := omega) only [condK,go_sem,seval];refine hK _ ?_ ?_;all_goals clear K hK;all_goals intro hq;all_goals (try simp only [qF,reduceCtorEq] at hq);all_goals (try (exfalso;first|exact hq|omega)))
    ·have hi2 : i < (placesF l).length := by omega
     clear hq
     (repeat (first|(refine sA ?_;try intro KR kR)|(with_reducible refine sD O106 ?_;intro KR kR;simp only [O106,ordl,seval])|(refine sB ?_;intro K hK;simp (disch := omega) only [go_sem,seval];(try ((with_reducible first|refine Gt ?_|refine gopO_f rfl ?_|refine Gv rfl ?_);simp (disch := omega) only [go_sem,seval]));(repeat first|intro (xb : Blk)|intro (xk : Nat)|intro hx|refine pC ?_);refine hK _ ?_;clear K hK)|(refine sE ?_;simp only [go_sem,seval,L106,O106];refine kR _ ?_;clear KR kR)|(simp only [thenE,inB,seval])))
     refine awp_loop [0,5,8,9,10,1008,123000] (fun n S => ∃ (k : Nat) (o2 : List Hq) (ob : Blk),k ≤ A.length ∧ n + k = A.length ∧ o2 = fromA A i ++ pickR i (A.take k) ∧ S = [(0,.c (.sl 8 (tRows l))),(5,.c (.ref 123000 [] cb 3 0 A.length)),(8,.c (.ref 1008 [] ob 3 0 o2.length)),(9,.c (.im (.int .i64 i))),(10,.c (.im (.int .i64 k))),(1008,.row ob 69 3 (hQ o2)),(123000,.row cb 69 3 (hQ A))]) A.length ⟨0,fromA A i,ob,by omega,by omega,(List.append_nil _).symm,rfl⟩ ?_
     rintro n2 S' ⟨k,o2,ob2,hk,hnk,ho2,rfl⟩
     have ol : o2.length ≤ (fromA A i).length + k := by
      rw [ho2,List.length_append]
      have := List.length_filter_le (fun h : Hq => decide (h.1 = (i : Int))) (A.take k)
      have e : (pickR (i : Int) (A.take k)).length ≤ (A.take k).length := this
      rw [List.length_take] at e;omega
     (repeat (first|(refine sA ?_;try intro KR kR)|(with_reducible refine sD O106 ?_;intro KR kR;simp only [O106,ordl,seval])|(refine sB ?_;intro K hK;simp (disch := omega) only [go_sem,seval];(try ((with_reducible first|refine Gt ?_|refine gopO_f rfl ?_|refine Gv rfl ?_);simp (disch := omega) only [go_sem,seval]));(repeat first|intro (xb : Blk)|intro (xk : Nat)|intro hx|refine pC ?_);refine hK _ ?_;clear K hK)|(refine sE ?_;simp only [go_sem,seval,L106,O106];refine kR _ ?_;clear KR kR)|(simp only [thenE,inB,seval])))
     ((with_reducible refine Ac ?_);intro K hK;simp (disch := omega) only [condK,go_sem,seval];refine hK _ ?_ ?_;all_goals clear K hK;all_goals intro hq;all_goals (try simp only [qF,reduceCtorEq] at hq);all_goals (try (exfalso;first|exact hq|omega)))
     ·have hk2 : k < A.length := by omega
      have tk := pick_succ (r := (i : Int)) hk2
      clear hq
      by_cases e : (qAt A k).1 = i
      ·rw [if_pos e] at tk
       (repeat (first|(refine sA ?_;try intro KR kR)|(with_reducible refine sD O106 ?_;intro KR kR;simp only [O106,ordl,seval])|(refine sB ?_;intro K hK;simp (disch := omega) only [go_sem,seval];(try ((with_reducible first|refine Gt ?_|refine gopO_f rfl ?_|refine Gv rfl ?_);simp (disch := omega) only [go_sem,seval]));(repeat first|intro (xb : Blk)|intro (xk : Nat)|intro hx|refine pC ?_);refine hK _ ?_;clear K hK)|(refine sE ?_;simp only [go_sem,seval,L106,O106];refine kR _ ?_;clear KR kR)|(simp only [thenE,inB,seval])))
       ((with_reducible refine Ac ?_);intro K hK;simp (disch := omega) only [condK,go_sem,seval];refine hK _ ?_ ?_;all_goals clear K hK;all_goals intro hq;all_goals (try simp only [qF,reduceCtorEq] at hq);all_goals (try (exfalso;first|exact hq|omega)))
       (repeat (first|(refine sA ?_;try intro KR kR)|(with_reducible refine sD O106 ?_;intro KR kR;simp only [O106,ordl,seval])|(refine sB ?_;intro K hK;simp (disch := omega) only [go_sem,seval];(try ((with_reducible first|refine Gt ?_|refine gopO_f rfl ?_|refine Gv rfl ?_);simp (disch := omega) only [go_sem,seval]));(repeat first|intro (xb : Blk)|intro (xk : Nat)|intro hx|refine pC ?_);refine hK _ ?_;clear K hK)|(refine sE ?_;simp only [go_sem,seval,L106,O106];refine kR _ ?_;clear KR kR)|(simp only [thenE,inB,seval])))
       refine gh_no ⟨A.length - (k + 1),by omega,k + 1,o2 ++ [((qAt A k).1,(qAt A k).2.1,(qAt A k).2.2)],xb,by omega,by omega,by rw [tk,ho2,List.append_assoc],?_⟩
       ((try simp (disch := omega) only [List.cons.injEq,Prod.mk.injEq,AV.c.injEq,AV.agg.injEq,AV.opt.injEq,AV.tup.injEq,AV.row.injEq,AV.box.injEq,AV.mapo.injEq,AC.im.injEq,AC.sl.injEq,AC.adr.injEq,AC.ref.injEq,AC.ptr.injEq,AC.own.injEq,AC.fn.injEq,Value.int.injEq,Value.bool.injEq,Value.string.injEq,heq_eq_eq,go_sem,seval]);(try (repeat' refine And.intro ?_ ?_));all_goals (first|rfl|omega|skip))
      ·rw [if_neg e] at tk
       (repeat (first|(refine sA ?_;try intro KR kR)|(with_reducible refine sD O106 ?_;intro KR kR;simp only [O106,ordl,seval])|(refine sB ?_;intro K hK;simp (disch := omega) only [go_sem,seval];(try ((with_reducible first|refine Gt ?_|refine gopO_f rfl ?_|refine Gv rfl ?_);simp (disch := omega) only [go_sem,seval]));(repeat first|intro (xb : Blk)|intro (xk : Nat)|intro hx|refine pC ?_);refine hK _ ?_;clear K hK)|(refine sE ?_;simp only [go_sem,seval,L106,O106];refine kR _ ?_;clear KR kR)|(simp only [thenE,inB,seval])))
       ((with_reducible refine Ac ?_);intro K hK;simp (disch := omega) only [condK,go_sem,seval];refine hK _ ?_ ?_;all_goals clear K hK;all_goals intro hq;all_goals (try simp only [qF,reduceCtorEq] at hq);all_goals (try (exfalso;first|exact hq|omega)))
       (repeat (first|(refine sA ?_;try intro KR kR)|(with_reducible refine sD O106 ?_;intro KR kR;simp only [O106,ordl,seval])|(refine sB ?_;intro K hK;simp (disch := omega) only [go_sem,seval];(try ((with_reducible first|refine Gt ?_|refine gopO_f rfl ?_|refine Gv rfl ?_);simp (disch := omega) only [go_sem,seval]));(repeat first|intro (xb : Blk)|intro (xk : Nat)|intro hx|refine pC ?_);refine hK _ ?_;clear K hK)|(refine sE ?_;simp only [go_sem,seval,L106,O106];refine kR _ ?_;clear KR kR)|(simp only [thenE,inB,seval])))
       refine gh_no ⟨A.length - (k + 1),by omega,k + 1,o2,ob2,by omega,by omega,by rw [tk,ho2,List.append_nil],?_⟩
       ((try simp (disch := omega) only [List.cons.injEq,Prod.mk.injEq,AV.c.injEq,AV.agg.injEq,AV.opt.injEq,AV.tup.injEq,AV.row.injEq,AV.box.injEq,AV.mapo.injEq,AC.im.injEq,AC.sl.injEq,AC.adr.injEq,AC.ref.injEq,AC.ptr.injEq,AC.own.injEq,AC.fn.injEq,Value.int.injEq,Value.bool.injEq,Value.string.injEq,heq_eq_eq,go_sem,seval]);(try (repeat' refine And.intro ?_ ?_));all_goals (first|rfl|omega|skip))
     ·have e : k = A.length := by omega
      subst e
      rw [List.take_length] at ho2
      have ho3 : o2 = fromA A (i + 1) := ho2
      rw [ho3]
      (repeat (first|(refine sA ?_;try intro KR kR)|(with_reducible refine sD O106 ?_;intro KR kR;simp only [O106,ordl,seval])|(refine sB ?_;intro K hK;simp (disch := omega) only [go_sem,seval];(try ((with_reducible first|refine Gt ?_|refine gopO_f rfl ?_|refine Gv rfl ?_);simp (disch := omega) only [go_sem,seval]));(repeat first|intro (xb : Blk)|intro (xk : Nat)|intro hx|refine pC ?_);refine hK _ ?_;clear K hK)|(refine sE ?_;simp only [go_sem,seval,L106,O106];refine kR _ ?_;clear KR kR)|(simp only [thenE,inB,seval])))
      refine gh_no ⟨(placesF l).length - (i + 1),by omega,i + 1,ob2,by omega,by omega,?_⟩
      ((try simp (disch := omega) only [List.cons.injEq,Prod.mk.injEq,AV.c.injEq,AV.agg.injEq,AV.opt.injEq,AV.tup.injEq,AV.row.injEq,AV.box.injEq,AV.mapo.injEq,AC.im.injEq,AC.sl.injEq,AC.adr.injEq,AC.ref.injEq,AC.ptr.injEq,AC.own.injEq,AC.fn.injEq,Value.int.injEq,Value.bool.injEq,Value.string.injEq,heq_eq_eq,go_sem,seval]);(try (repeat' refine And.intro ?_ ?_));all_goals (first|rfl|omega|skip))
    ·have e : i = (placesF l).length := by omega
     subst e
     (repeat (first|(refine sA ?_;try intro KR kR)|(with_reducible refine sD O106 ?_;intro KR kR;simp only [O106,ordl,seval])|(refine sB ?_;intro K hK;simp (disch := omega) only [go_sem,seval];(try ((with_reducible first|refine Gt ?_|refine gopO_f rfl ?_|refine Gv rfl ?_);simp (disch := omega) only [go_sem,seval]));(repeat first|intro (xb : Blk)|intro (xk : Nat)|intro hx|refine pC ?_);refine hK _ ?_;clear K hK)|(refine sE ?_;simp only [go_sem,seval,L106,O106];refine kR _ ?_;clear KR kR)|(simp only [thenE,inB,seval])))
     (simp only [retQ,Try.results106];simp (disch := omega) only [resK,resT,resAV,Env.sel,Env.keys,List.map_nil,List.map_cons,List.all_nil,List.all_cons,AV.isS,Bool.not_false,Bool.and_self,Option.map_some,List.length_cons,List.length_nil,Nat.zero_add,Nat.reduceAdd,not_false_eq_true,true_and,and_true,ne_eq,go_sem,seval,ne_eq])
     rw [hfr]
     exact ⟨ob,rfl⟩
  ·have e : fromF l p = [] := by rw [fromF,if_neg (by omega)]
   rw [e]
   (refine contract_of_awp (L := L106) Try.func106 rfl (by kernel_rfl) (by first|rfl|decide) (by first|rfl|kernel_rfl) ?_;simp only [Try.ntmps106,initEnv,Env.keys,List.map_nil,List.map_cons,List.append_nil,List.cons_append,List.nil_append])
   (repeat (first|(refine sA ?_;try intro KR kR)|(with_reducible refine sD O106 ?_;intro KR kR;simp only [O106,ordl,seval])|(refine sB ?_;intro K hK;simp (disch := omega) only [go_sem,seval];(try ((with_reducible first|refine Gt ?_|refine gopO_f rfl ?_|refine Gv rfl ?_);simp (disch := omega) only [go_sem,seval]));(repeat first|intro (xb : Blk)|intro (xk : Nat)|intro hx|refine pC ?_);refine hK _ ?_;clear K hK)|(refine sE ?_;simp only [go_sem,seval,L106,O106];refine kR _ ?_;clear KR kR)|(simp only [thenE,inB,seval])))
   (refine sB ?_;intro K hK;simp (disch := omega) only [go_sem,seval];(try ((with_reducible refine Gt ?_);simp (disch := omega) only [go_sem,seval]));refine cN ?_;simp (disch := omega) only [go_sem,seval];refine ⟨_,_,ContractH.n (hlv),?_⟩;intro r H' hr hk;(try obtain rfl := keys_nil hk);(obtain ⟨b0,rfl⟩ := hr);(try simp (disch := omega) only [AV.flat,AC.flat,AC.flat.flatL,AC.flat.flatLL,go_sem,seval]);(repeat first|intro (xb : Blk)|intro (xk : Nat)|intro hx|refine pC ?_);refine hK _ ?_;clear K hK)
   (repeat' (first|(refine sA ?_;try intro KR kR)|(with_reducible refine sD O106 ?_;intro KR kR;simp only [O106,ordl,seval])|(refine sB ?_;intro K hK;simp (disch := omega) only [go_sem,seval];(try ((with_reducible first|refine Gt ?_|refine gopO_f rfl ?_|refine Gv rfl ?_);simp (disch := omega) only [go_sem,seval]));(repeat first|intro (xb : Blk)|intro (xk : Nat)|intro hx|refine pC ?_);refine hK _ ?_;clear K hK)|(refine sE ?_;simp only [go_sem,seval,L106,O106];refine kR _ ?_;clear KR kR)|(simp only [thenE,inB,seval])|((with_reducible refine Ac ?_);intro K hK;simp (disch := omega) only [condK,go_sem,seval];refine hK _ ?_ ?_;all_goals clear K hK;all_goals intro hq;all_goals (try simp only [qF,reduceCtorEq] at hq);all_goals (try (exfalso;first|exact hq|omega)))))
   (simp only [retQ,Try.results106];simp (disch := omega) only [resK,resT,resAV,Env.sel,Env.keys,List.map_nil,List.map_cons,List.all_nil,List.all_cons,AV.isS,Bool.not_false,Bool.and_self,Option.map_some,List.length_cons,List.length_nil,Nat.zero_add,Nat.reduceAdd,not_false_eq_true,true_and,and_true,ne_eq,go_sem,seval,ne_eq])
   exact ⟨none,rfl⟩
end Go.Proofs.Ytllemobnfpljfaa
