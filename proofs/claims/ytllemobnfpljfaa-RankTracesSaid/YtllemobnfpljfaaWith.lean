import Derived.Test.YtllemobnfpljfaaTerm
set_option linter.unusedSimpArgs false
set_option linter.unusedVariables false
set_option maxRecDepth 100000
set_option maxHeartbeats 8000000
namespace Go.Proofs.Ytllemobnfpljfaa
open Go Go.Hs
def L90 (r : Nat) : Option (List Nat) := kl r [(0,[0]),(1,[0,3]),(2,[0,3,8,9]),(3,[0,3,8,9,10]),(4,[0,3,4,8,9]),(5,[0,3,8,9]),(6,[0,3,8,9]),(7,[2])]
def O90 (r : Nat) : List Nat × OT := ordl r []
def L43 (r : Nat) : Option (List Nat) := kl r [(0,[1,2]),(1,[1,2,8]),(2,[2]),(3,[1,2,3]),(4,[1,2,3,4]),(5,[1,2,3,4,20,21]),(6,[1,2,3,4,20,21,22]),(7,[1,2,3,4,5,20,21]),(8,[1,2,3,4,5,20,21]),(9,[1,2,3,4,5,20,21]),(10,[1,2,3,4,20,21]),(11,[1,2,3,4,20,21]),(12,[2])]
def O43 (r : Nat) : List Nat × OT := ordl r [(8,([10],.val 0 (.val 2 (.val 5 (.val 7 (.load 1 (.val 3 (.load 4 (.load 6 (.val 8 (.load 9 (.eff 10 (.done))))))))))))),(9,([10],.val 0 (.val 2 (.val 5 (.val 7 (.load 1 (.val 3 (.load 4 (.load 6 (.val 8 (.load 9 (.eff 10 (.done))))))))))))),(10,([13,15],.val 0 (.val 2 (.val 5 (.val 6 (.val 8 (.val 11 (.load 1 (.val 3 (.load 4 (.load 7 (.val 9 (.load 10 (.val 12 (.eff 13 (.val 14 (.eff 15 (.done))))))))))))))))))]
def L91 (r : Nat) : Option (List Nat) := kl r [(0,[0,2]),(1,[0,2,3]),(2,[0,2,3,4]),(3,[0,2,3,4,7]),(4,[0,2,3,4]),(5,[0,2,3,4]),(6,[0,2,3,4]),(7,[2])]
def O91 (r : Nat) : List Nat × OT := ordl r [(5,([5,7],.val 0 (.val 2 (.load 1 (.grow 3 (.grow 4 (.eff 5 (.val 6 (.eff 7 (.done)))))))))),(6,([5,7],.val 0 (.val 2 (.load 1 (.grow 3 (.grow 4 (.eff 5 (.val 6 (.eff 7 (.done))))))))))]
def Zero (m : List (Blk × List Int)) (n : Nat) : Prop := m.length = n ∧ ∀ i,i < n → vAt m i = List.replicate n 0
theorem Zero.snoc {m : List (Blk × List Int)} {n i : Nat} {b : Blk} (h1 : m.length = i) (h2 : ∀ j,j < i → vAt m j = List.replicate n 0) : ∀ j,j < i + 1 → vAt (m ++ [(b,List.replicate n 0)]) j = List.replicate n 0 := by
  intro j hj
  by_cases e : j < i
  · rw [← h2 j e]
    unfold vAt
    simp [List.getD_eq_getElem?_getD,List.getElem?_append_left (show j < m.length by omega)]
  · have : j = m.length := by omega
    subst this
    unfold vAt
    simp [List.getD_eq_getElem?_getD]
theorem take_oRows {m : List (Blk × List Int)} {k : Nat} (h : m.length ≤ k) : (oRows m).take k = oRows m := List.take_of_length_le (by rw [length_oRows];omega)
theorem take_rep {n k : Nat} {z : Int} (h : n ≤ k) : (List.replicate n z).take k = List.replicate n z := List.take_of_length_le (by simp [h])
attribute [local go_sem] List.take_of_length_le Nat.min_eq_right List.length_drop take_oRows take_rep length_rRows getRow length_oRows getOwn getO updO setO getOwn' getO' getOwn'' getO'' bAt_set vAt_same vAt_same' vAt_other frz_oRows oRows_snoc
theorem table_ok (n : Nat) (hn : n ≤ 1000) : ContractR Try.prog 90 [.c (.im (.int .i64 n))] (fun r => ∃ b m,r = .c (.own b 25 1 (oRows m)) ∧ Zero m n) := by
  (refine contract_of_awp (L := L90) Try.func90 rfl (by kernel_rfl) (by first|rfl|decide) (by first|rfl|kernel_rfl) ?_;simp only [Try.ntmps90,initEnv,Env.keys,List.map_nil,List.map_cons,List.append_nil,List.cons_append,List.nil_append])
  (repeat (first|(refine sA ?_;try intro KR kR)|(with_reducible refine sD O90 ?_;intro KR kR;simp only [O90,ordl,seval])|(refine sB ?_;intro K hK;simp (disch := omega) only [go_sem,seval];(try ((with_reducible first|refine Gt ?_|refine gopO_f rfl ?_|refine Gv rfl ?_);simp (disch := omega) only [go_sem,seval]));(repeat first|intro (xb : Blk)|intro (xk : Nat)|intro hx|refine pC ?_);refine hK _ ?_;clear K hK)|(refine sE ?_;simp only [go_sem,seval,L43,O43,L90,O90,L91,O91];refine kR _ ?_;clear KR kR)|(simp only [thenE,inB,seval])))
  generalize xk = kb
  refine awp_loop [0,3,8,9,1006] (fun k S => ∃ (i : Nat) (m : List (Blk × List Int)),i ≤ n ∧ m.length = i ∧ (∀ j,j < i → vAt m j = List.replicate n 0) ∧ k = n - i ∧
    S = [(0,.c (.im (.int .i64 n))),(3,.c (.ref 1006 [] (some (kb,n)) 1 0 n)),(8,.c (.im (.int .i64 n))),(9,.c (.im (.int .i64 i))),(1006,.row (some (kb,n)) 25 1 (oRows m ++ List.replicate (n - i) [.nil]))]) _ ⟨0,[],by omega,rfl,fun _ h => absurd h (Nat.not_lt_zero _),rfl,rfl⟩ ?_
  rintro k S' ⟨i,m,h1,h2,h3,hk,rfl⟩
  (repeat (first|(refine sA ?_;try intro KR kR)|(with_reducible refine sD O90 ?_;intro KR kR;simp only [O90,ordl,seval])|(refine sB ?_;intro K hK;simp (disch := omega) only [go_sem,seval];(try ((with_reducible first|refine Gt ?_|refine gopO_f rfl ?_|refine Gv rfl ?_);simp (disch := omega) only [go_sem,seval]));(repeat first|intro (xb : Blk)|intro (xk : Nat)|intro hx|refine pC ?_);refine hK _ ?_;clear K hK)|(refine sE ?_;simp only [go_sem,seval,L43,O43,L90,O90,L91,O91];refine kR _ ?_;clear KR kR)|(simp only [thenE,inB,seval])))
  ((with_reducible refine Ac ?_);intro K hK;simp (disch := omega) only [condK,go_sem,seval];refine hK _ ?_ ?_;all_goals clear K hK;all_goals intro hq;all_goals (try simp only [qF,reduceCtorEq] at hq);all_goals (try (exfalso;first|exact hq|omega)))
  · have hi : i < n := by omega
    (repeat (first|(refine sA ?_;try intro KR kR)|(with_reducible refine sD O90 ?_;intro KR kR;simp only [O90,ordl,seval])|(refine sB ?_;intro K hK;simp (disch := omega) only [go_sem,seval];(try ((with_reducible first|refine Gt ?_|refine gopO_f rfl ?_|refine Gv rfl ?_);simp (disch := omega) only [go_sem,seval]));(repeat first|intro (xb : Blk)|intro (xk : Nat)|intro hx|refine pC ?_);refine hK _ ?_;clear K hK)|(refine sE ?_;simp only [go_sem,seval,L43,O43,L90,O90,L91,O91];refine kR _ ?_;clear KR kR)|(simp only [thenE,inB,seval])))
    refine gh_no ⟨n - (i + 1),by omega,i + 1,m ++ [(some (xk,n),List.replicate n 0)],by omega,by simp [h2],Zero.snoc h2 h3,rfl,?_⟩
    rw [tabStep h2 hi]
    rfl
  · have e : i = n := by omega
    subst e
    (repeat (first|(refine sA ?_;try intro KR kR)|(with_reducible refine sD O90 ?_;intro KR kR;simp only [O90,ordl,seval])|(refine sB ?_;intro K hK;simp (disch := omega) only [go_sem,seval];(try ((with_reducible first|refine Gt ?_|refine gopO_f rfl ?_|refine Gv rfl ?_);simp (disch := omega) only [go_sem,seval]));(repeat first|intro (xb : Blk)|intro (xk : Nat)|intro hx|refine pC ?_);refine hK _ ?_;clear K hK)|(refine sE ?_;simp only [go_sem,seval,L43,O43,L90,O90,L91,O91];refine kR _ ?_;clear KR kR)|(simp only [thenE,inB,seval])))
    (simp only [retQ,Try.results90];simp (disch := omega) only [resK,resT,resAV,Env.sel,Env.keys,List.map_nil,List.map_cons,List.all_nil,List.all_cons,AV.isS,Bool.not_false,Bool.and_self,Option.map_some,List.length_cons,List.length_nil,Nat.zero_add,Nat.reduceAdd,not_false_eq_true,true_and,and_true,ne_eq,go_sem,seval,ne_eq])
    refine ⟨by omega,some (kb,i),m,?_,h2,h3⟩
    rw [show i - i = 0 by omega,List.replicate_zero,List.append_nil,List.take_of_length_le (by rw [length_oRows];omega)]
set_option maxRecDepth 20000 in
set_option maxHeartbeats 4000000 in
theorem with0_ok (b d : List (List Int)) (hb : b.length ≤ 900) (hd : d.length ≤ 900) (hbr : ∀ r ∈ b,r.length ≤ 1000) (hdr : ∀ r ∈ d,r.length ≤ 1000) :
    ContractR Try.prog 43 [.agg [.sl 1 (rRows b),.sl 1 (rRows d)]] (fun r => (rkB b d b.length = true ∧ r = .agg [.sl 1 (rRows (withB b)),.sl 1 (rRows (withD d))]) ∨ (rkB b d b.length = false ∧ r = .agg [.nil,.nil])) := by
  (refine contract_of_awp (L := L43) Try.func43 rfl (by kernel_rfl) (by first|rfl|decide) (by first|rfl|kernel_rfl) ?_;simp only [Try.ntmps43,initEnv,Env.keys,List.map_nil,List.map_cons,List.append_nil,List.cons_append,List.nil_append])
  (repeat (first|(refine sA ?_;try intro KR kR)|(with_reducible refine sD O43 ?_;intro KR kR;simp only [O43,ordl,seval])|(refine sB ?_;intro K hK;simp (disch := omega) only [go_sem,seval];(try ((with_reducible first|refine Gt ?_|refine gopO_f rfl ?_|refine Gv rfl ?_);simp (disch := omega) only [go_sem,seval]));(repeat first|intro (xb : Blk)|intro (xk : Nat)|intro hx|refine pC ?_);refine hK _ ?_;clear K hK)|(refine sE ?_;simp only [go_sem,seval,L43,O43,L90,O90,L91,O91];refine kR _ ?_;clear KR kR)|(simp only [thenE,inB,seval])))
  (refine sB ?_;intro K hK;simp (disch := omega) only [go_sem,seval];(try ((with_reducible refine Gt ?_);simp (disch := omega) only [go_sem,seval]));refine cN ?_;simp (disch := omega) only [go_sem,seval];refine ⟨_,_,ContractH.n (right_ok b d (by omega) (by omega) hbr hdr),?_⟩;intro r H' hr hk;(try obtain rfl := keys_nil hk);(first|subst hr|(obtain ⟨_,rfl⟩ := hr)|(obtain ⟨_,_,rfl⟩ := hr)|(obtain ⟨_,_,_,rfl⟩ := hr));(try simp (disch := omega) only [AV.flat,AC.flat,AC.flat.flatL,AC.flat.flatLL,go_sem,seval]);(repeat first|intro (xb : Blk)|intro (xk : Nat)|intro hx|refine pC ?_);refine hK _ ?_;clear K hK)
  (repeat (first|(refine sA ?_;try intro KR kR)|(with_reducible refine sD O43 ?_;intro KR kR;simp only [O43,ordl,seval])|(refine sB ?_;intro K hK;simp (disch := omega) only [go_sem,seval];(try ((with_reducible first|refine Gt ?_|refine gopO_f rfl ?_|refine Gv rfl ?_);simp (disch := omega) only [go_sem,seval]));(repeat first|intro (xb : Blk)|intro (xk : Nat)|intro hx|refine pC ?_);refine hK _ ?_;clear K hK)|(refine sE ?_;simp only [go_sem,seval,L43,O43,L90,O90,L91,O91];refine kR _ ?_;clear KR kR)|(simp only [thenE,inB,seval])))
  ((with_reducible refine Ac ?_);intro K hK;simp (disch := omega) only [condK,go_sem,seval];refine hK _ ?_ ?_;all_goals clear K hK;all_goals intro hq;all_goals (try simp only [qF,reduceCtorEq] at hq);all_goals (try (exfalso;first|exact hq|omega)))
  · (repeat (first|(refine sA ?_;try intro KR kR)|(with_reducible refine sD O43 ?_;intro KR kR;simp only [O43,ordl,seval])|(refine sB ?_;intro K hK;simp (disch := omega) only [go_sem,seval];(try ((with_reducible first|refine Gt ?_|refine gopO_f rfl ?_|refine Gv rfl ?_);simp (disch := omega) only [go_sem,seval]));(repeat first|intro (xb : Blk)|intro (xk : Nat)|intro hx|refine pC ?_);refine hK _ ?_;clear K hK)|(refine sE ?_;simp only [go_sem,seval,L43,O43,L90,O90,L91,O91];refine kR _ ?_;clear KR kR)|(simp only [thenE,inB,seval])))
    (simp only [retQ,Try.results43];simp (disch := omega) only [resK,resT,resAV,Env.sel,Env.keys,List.map_nil,List.map_cons,List.all_nil,List.all_cons,AV.isS,Bool.not_false,Bool.and_self,Option.map_some,List.length_cons,List.length_nil,Nat.zero_add,Nat.reduceAdd,not_false_eq_true,true_and,and_true,ne_eq,go_sem,seval,ne_eq])
    exact .inr hq
  · have hr := rkB_iff.1 hq
    have hq1 := hq
    obtain ⟨l1,l2,l3,l4⟩ := rk_lens hr
    (repeat (first|(refine sA ?_;try intro KR kR)|(with_reducible refine sD O43 ?_;intro KR kR;simp only [O43,ordl,seval])|(refine sB ?_;intro K hK;simp (disch := omega) only [go_sem,seval];(try ((with_reducible first|refine Gt ?_|refine gopO_f rfl ?_|refine Gv rfl ?_);simp (disch := omega) only [go_sem,seval]));(repeat first|intro (xb : Blk)|intro (xk : Nat)|intro hx|refine pC ?_);refine hK _ ?_;clear K hK)|(refine sE ?_;simp only [go_sem,seval,L43,O43,L90,O90,L91,O91];refine kR _ ?_;clear KR kR)|(simp only [thenE,inB,seval])))
    (refine sB ?_;intro K hK;simp (disch := omega) only [go_sem,seval];(try ((with_reducible refine Gt ?_);simp (disch := omega) only [go_sem,seval]));refine cN ?_;simp (disch := omega) only [go_sem,seval];refine ⟨_,_,ContractH.n (table_ok (b.length + 1) (by omega)),?_⟩;intro r H' hr hk;(try obtain rfl := keys_nil hk);(obtain ⟨b1,m1,rfl,z1⟩ := hr);(try simp (disch := omega) only [AV.flat,AC.flat,AC.flat.flatL,AC.flat.flatLL,go_sem,seval]);(repeat first|intro (xb : Blk)|intro (xk : Nat)|intro hx|refine pC ?_);refine hK _ ?_;clear K hK)
    (repeat (first|(refine sA ?_;try intro KR kR)|(with_reducible refine sD O43 ?_;intro KR kR;simp only [O43,ordl,seval])|(refine sB ?_;intro K hK;simp (disch := omega) only [go_sem,seval];(try ((with_reducible first|refine Gt ?_|refine gopO_f rfl ?_|refine Gv rfl ?_);simp (disch := omega) only [go_sem,seval]));(repeat first|intro (xb : Blk)|intro (xk : Nat)|intro hx|refine pC ?_);refine hK _ ?_;clear K hK)|(refine sE ?_;simp only [go_sem,seval,L43,O43,L90,O90,L91,O91];refine kR _ ?_;clear KR kR)|(simp only [thenE,inB,seval])))
    (refine sB ?_;intro K hK;simp (disch := omega) only [go_sem,seval];(try ((with_reducible refine Gt ?_);simp (disch := omega) only [go_sem,seval]));refine cN ?_;simp (disch := omega) only [go_sem,seval];refine ⟨_,_,ContractH.n (table_ok (b.length + 1) (by omega)),?_⟩;intro r H' hr hk;(try obtain rfl := keys_nil hk);(obtain ⟨b2,m2,rfl,z2⟩ := hr);(try simp (disch := omega) only [AV.flat,AC.flat,AC.flat.flatL,AC.flat.flatLL,go_sem,seval]);(repeat first|intro (xb : Blk)|intro (xk : Nat)|intro hx|refine pC ?_);refine hK _ ?_;clear K hK)
    have n1 := z1.1
    have n2 := z2.1
    (repeat (first|(refine sA ?_;try intro KR kR)|(with_reducible refine sD O43 ?_;intro KR kR;simp only [O43,ordl,seval])|(refine sB ?_;intro K hK;simp (disch := omega) only [go_sem,seval];(try ((with_reducible first|refine Gt ?_|refine gopO_f rfl ?_|refine Gv rfl ?_);simp (disch := omega) only [go_sem,seval]));(repeat first|intro (xb : Blk)|intro (xk : Nat)|intro hx|refine pC ?_);refine hK _ ?_;clear K hK)|(refine sE ?_;simp only [go_sem,seval,L43,O43,L90,O90,L91,O91];refine kR _ ?_;clear KR kR)|(simp only [thenE,inB,seval])))
    generalize xk = k4
    rename_i k1 k2 _ _
    refine awp_loop [1,2,3,4,20,21,1001,1002,1004] (fun k S => ∃ (i : Nat) (m m2 : List (Blk × List Int)),i ≤ b.length ∧ m.length = b.length + 1 ∧ m2.length = b.length + 1 ∧ (∀ j,j ≤ b.length → vAt m j = if j < i then rAt b j ++ [0] else List.replicate (b.length + 1) 0) ∧
      (∀ j,j < b.length → vAt m2 j = if j < i then rAt d j ++ [1] else List.replicate (b.length + 1) 0) ∧ vAt m2 b.length = List.replicate i (-1) ++ List.replicate (b.length + 1 - i) 0 ∧ k = b.length - i ∧
      S = [(1,.c (.ptr 1001 [] k1 2 0 0)),(2,.c (.ptr 1002 [] k2 2 0 0)),(3,.c (.im (.int .i64 b.length))),(4,.c (.ptr 1004 [] k4 2 0 0)),(20,.c (.im (.int .i64 b.length))),(21,.c (.im (.int .i64 i))),(1001,.box k1 55 [.sl 1 (rRows b),.sl 1 (rRows d)]),(1002,.box k2 55 [.nil,.nil]),(1004,.box k4 55 [.own b1 25 1 (oRows m),.own b2 25 1 (oRows m2)])]) _ ⟨0,m1,m2,by omega,n1,n2,fun j hj => ?_,fun j hj => ?_,?_,rfl,rfl⟩ ?_
    · rw [if_neg (by omega)];exact z1.2 j (by omega)
    · rw [if_neg (by omega)];exact z2.2 j (by omega)
    · rw [z2.2 _ (by omega)];rfl
    rintro k S' ⟨i,n1,n2,h1,h2,h3,h4,h5,h6,hk,rfl⟩
    (repeat (first|(refine sA ?_;try intro KR kR)|(with_reducible refine sD O43 ?_;intro KR kR;simp only [O43,ordl,seval])|(refine sB ?_;intro K hK;simp (disch := omega) only [go_sem,seval];(try ((with_reducible first|refine Gt ?_|refine gopO_f rfl ?_|refine Gv rfl ?_);simp (disch := omega) only [go_sem,seval]));(repeat first|intro (xb : Blk)|intro (xk : Nat)|intro hx|refine pC ?_);refine hK _ ?_;clear K hK)|(refine sE ?_;simp only [go_sem,seval,L43,O43,L90,O90,L91,O91];refine kR _ ?_;clear KR kR)|(simp only [thenE,inB,seval])))
    ((with_reducible refine Ac ?_);intro K hK;simp (disch := omega) only [condK,go_sem,seval];refine hK _ ?_ ?_;all_goals clear K hK;all_goals intro hq;all_goals (try simp only [qF,reduceCtorEq] at hq);all_goals (try (exfalso;first|exact hq|omega)))
    · have hi : i < b.length := by omega
      have e1 := h4 i (by omega)
      have e2 := h5 i (by omega)
      rw [if_neg (by omega)] at e1 e2
      have r1 := l3 i hi
      have r2 := l4 i hi
      have v1 : (vAt n1 i).length = b.length + 1 := by rw [e1];simp
      have v2 : (vAt n2 i).length = b.length + 1 := by rw [e2];simp
      have v3 : (vAt n2 b.length).length = b.length + 1 := by rw [h6];simp;omega
      (repeat (first|(refine sA ?_;try intro KR kR)|(with_reducible refine sD O43 ?_;intro KR kR;simp only [O43,ordl,seval])|(refine sB ?_;intro K hK;simp (disch := omega) only [go_sem,seval];(try ((with_reducible first|refine Gt ?_|refine gopO_f rfl ?_|refine Gv rfl ?_);simp (disch := omega) only [go_sem,seval]));(repeat first|intro (xb : Blk)|intro (xk : Nat)|intro hx|refine pC ?_);refine hK _ ?_;clear K hK)|(refine sE ?_;simp only [go_sem,seval,L43,O43,L90,O90,L91,O91];refine kR _ ?_;clear KR kR)|(simp only [thenE,inB,seval])))
      have q1 : rAt b i ++ List.drop (rAt b i).length (vAt n1 i) = rAt b i ++ [0] := by
        rw [e1,r1,List.drop_replicate];simp
      have q2 : (rAt d i ++ List.drop (rAt d i).length (vAt n2 i)).set b.length 1 = rAt d i ++ [1] := by
        rw [e2,r2,List.drop_replicate,show b.length + 1 - b.length = 0 + 1 by omega,set_mid r2];simp
      have q3 : (vAt n2 b.length).set i (-1) = List.replicate (i + 1) (-1) ++ List.replicate (b.length + 1 - (i + 1)) 0 := by
        rw [h6,show b.length + 1 - i = (b.length - i) + 1 by omega,set_mid (by simp),rep_snoc,show b.length + 1 - (i + 1) = b.length - i by omega]
      refine gh_no ⟨b.length - (i + 1),by omega,i + 1,_,_,by omega,by rw [List.length_set];exact h2,by rw [List.length_set,List.length_set];exact h3,fun j hj => ?_,fun j hj => ?_,?_,rfl,rfl⟩
      · rw [q1]
        by_cases e : j = i
        · subst e
          rw [vAt_same (by omega),if_pos (by omega)]
        · rw [vAt_other (fun h => e h.symm),h4 j hj]
          by_cases e2 : j < i
          · rw [if_pos e2,if_pos (by omega)]
          · rw [if_neg e2,if_neg (by omega)]
      · rw [q2,vAt_other (by omega)]
        by_cases e : j = i
        · subst e
          rw [vAt_same (by omega),if_pos (by omega)]
        · rw [vAt_other (fun h => e h.symm),h5 j hj]
          by_cases e2 : j < i
          · rw [if_pos e2,if_pos (by omega)]
          · rw [if_neg e2,if_neg (by omega)]
      · rw [q3,vAt_same' (by omega)]
    · have ei : i = b.length := by omega
      subst ei
      have f1 : n1.map (·.2) = withB b := by
        refine with_ext (by simpa using h2) (fun j hj => ?_) ?_
        · rw [rAt_map,h4 j (by omega),if_pos hj]
        · rw [rAt_map,h4 _ (Nat.le_refl _),if_neg (by omega)]
      have f2 : n2.map (·.2) = withD d := by
        refine with_ext (by simpa [l2] using h3) (fun j hj => ?_) ?_
        · rw [rAt_map,h5 j (by omega),if_pos (by omega)]
        · rw [rAt_map,l2,h6];simp
      (first|(refine sA ?_;try intro KR kR)|(with_reducible refine sD O43 ?_;intro KR kR;simp only [O43,ordl,seval]))
      (simp only [thenE,inB,seval])
      (first|(refine sA ?_;try intro KR kR)|(with_reducible refine sD O43 ?_;intro KR kR;simp only [O43,ordl,seval]))
      (refine awp_gh (.pubIn 1004) ?_;simp (disch := omega) only [ghK,go_sem,seval];(repeat (refine ⟨by (first|omega|(intro hg;simp [-List.getD_eq_getElem?_getD] at hg;omega)|assumption|decide),?_⟩)))
      refine ⟨rfl,?_⟩
      (repeat (first|(refine sA ?_;try intro KR kR)|(with_reducible refine sD O43 ?_;intro KR kR;simp only [O43,ordl,seval])|(refine sB ?_;intro K hK;simp (disch := omega) only [go_sem,seval];(try ((with_reducible first|refine Gt ?_|refine gopO_f rfl ?_|refine Gv rfl ?_);simp (disch := omega) only [go_sem,seval]));(repeat first|intro (xb : Blk)|intro (xk : Nat)|intro hx|refine pC ?_);refine hK _ ?_;clear K hK)|(refine sE ?_;simp only [go_sem,seval,L43,O43,L90,O90,L91,O91];refine kR _ ?_;clear KR kR)|(simp only [thenE,inB,seval])))
      (simp only [retQ,Try.results43];simp (disch := omega) only [resK,resT,resAV,Env.sel,Env.keys,List.map_nil,List.map_cons,List.all_nil,List.all_cons,AV.isS,Bool.not_false,Bool.and_self,Option.map_some,List.length_cons,List.length_nil,Nat.zero_add,Nat.reduceAdd,not_false_eq_true,true_and,and_true,ne_eq,go_sem,seval,ne_eq])
      rw [f1,f2]
      exact .inl ⟨hq1,rfl⟩
theorem with_ok (b d : List (List Int)) (hb : b.length ≤ 900) (hd : d.length ≤ 900) (hbr : ∀ r ∈ b,r.length ≤ 1000) (hdr : ∀ r ∈ d,r.length ≤ 1000) :
    Contract Try.prog 43 [.agg [.sl 1 (rRows b),.sl 1 (rRows d)]] (.agg [.sl 1 (rRows (withBF b d)),.sl 1 (rRows (withDF b d))]) := by
  refine nilPair (s1 := 1) (s2 := 1) (with0_ok b d hb hd hbr hdr) ?_
  rintro r (⟨h1,rfl⟩|⟨h1,rfl⟩)
  · left;rw [withBF,withDF,if_pos h1,if_pos h1]
  · right;rw [withBF,withDF,if_neg (by rw [h1];decide),if_neg (by rw [h1];decide)];exact ⟨rfl,rfl⟩
end Go.Proofs.Ytllemobnfpljfaa
