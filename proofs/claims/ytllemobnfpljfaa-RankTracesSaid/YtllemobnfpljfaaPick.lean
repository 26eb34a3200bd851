import Derived.Test.YtllemobnfpljfaaRankF
set_option linter.unusedSimpArgs false
set_option linter.unusedVariables false
set_option maxRecDepth 100000
set_option maxHeartbeats 8000000
namespace Go.Proofs.Ytllemobnfpljfaa
open Go Go.Hs
def L50 (r : Nat) : Option (List Nat) := kl r [(0,[1,2,3]),(1,[1,2,3,7]),(2,[1,2,3,7,12]),(3,[6]),(4,[1,2,3,7,8]),(5,[1,3,7,8,22,23]),(6,[1,3,7,8,22,23,24]),(7,[1,3,7,8,9,22,23]),(8,[1,3,7,8,9,22,23,42]),(9,[1,3,7,8,22,23]),(10,[1,3,7,8,22,23]),(11,[6])]
def O50 (r : Nat) : List Nat × OT := ordl r [(8,([],.val 1 (.val 2 (.val 3 (.load 0 (.load 4 (.grow 5 (.val 6 (.val 7 (.val 8 (.val 9 (.val 11 (.val 12 (.load 10 (.grow 13 (.val 14 (.val 15 (.val 16 (.done)))))))))))))))))))]
theorem dlt_t {a b : Int} (h : a < b) : decide (a < b) = true := decide_eq_true h
theorem dlt_f {a b : Int} (h : ¬ a < b) : decide (a < b) = false := decide_eq_false h
theorem dle_t {a b : Int} (h : a ≤ b) : decide (a ≤ b) = true := decide_eq_true h
theorem dle_f {a b : Int} (h : ¬ a ≤ b) : decide (a ≤ b) = false := decide_eq_false h
theorem min_len {x y : Nat} : (if (x : Int) < y then (x : Int) else y) = ((min y x : Nat) : Int) := by split <;> omega
theorem pickN_succ {b d : List (List Int)} {fr : List Int} {h : List Hp} {i : Nat} : pickN b d fr h (i + 1) = if hasR b (fr.getD i 0) ∧ (pickN b d fr h i < 0 ∨ 0 < agF b d fr h i (pickN b d fr h i).toNat) then (i : Int) else pickN b d fr h i := rfl
attribute [local go_sem] dlt_t dlt_f dle_t dle_f length_rRows getRow length_hRows getH0 getH1 getHR
set_option maxHeartbeats 4000000 in
theorem pick_ok (b d : List (List Int)) (fr : List Int) (h : List Hp) (hf : fr.length ≤ 1000) (hh : h.length ≤ 1000) (ht : ∀ i,i < h.length → 0 ≤ (hAt h i).2 ∧ (hAt h i).2 ≤ 1000000) (hb : b.length ≤ 1000) (hd : d.length ≤ 1000) (hbr : ∀ r ∈ b,r.length ≤ 1000) (hdr : ∀ r ∈ d,r.length ≤ 1000) :
    Contract Try.prog 50 [.agg [.sl 1 (rRows b),.sl 1 (rRows d)],.c (.sl 1 (kRows .i64 fr)),.c (.sl 3 (hRows h))] (.c (.im (.int .i64 (pickF b d fr h)))) := by
  (refine contract_of_awp (L := L50) Try.func50 rfl (by kernel_rfl) (by first|rfl|decide) (by first|rfl|kernel_rfl) ?_;simp only [Try.ntmps50,initEnv,Env.keys,List.map_nil,List.map_cons,List.append_nil,List.cons_append,List.nil_append])
  (repeat (first|(refine sA ?_;try intro KR kR)|(with_reducible refine sD O50 ?_;intro KR kR;simp only [O50,ordl,seval])|(refine sB ?_;intro K hK;simp (disch := omega) only [go_sem,seval];(try ((with_reducible first|refine Gt ?_|refine gopO_fi rfl ?_|refine Gv rfl ?_);simp (disch := omega) only [go_sem,seval]));(repeat first|intro (xb : Blk)|intro (xk : Nat)|intro hx|refine pC ?_);refine hK _ ?_;clear K hK)|(refine sE ?_;simp only [go_sem,seval,L50,O50];refine kR _ ?_;clear KR kR)|(simp only [thenE,inB,seval])))
  (refine sB ?_;intro K hK;simp (disch := omega) only [go_sem,seval];(try ((with_reducible refine Gt ?_);simp (disch := omega) only [go_sem,seval]));refine cN ?_;simp (disch := omega) only [go_sem,seval];refine ⟨_,_,ContractH.n (right_ok b d hb hd hbr hdr),?_⟩;intro r H' hr hk;(try obtain rfl := keys_nil hk);(first|subst hr|(obtain ⟨_,rfl⟩ := hr)|(obtain ⟨_,_,rfl⟩ := hr)|(obtain ⟨_,_,_,rfl⟩ := hr));(try simp (disch := omega) only [AV.flat,AC.flat,AC.flat.flatL,AC.flat.flatLL,go_sem,seval]);(repeat first|intro (xb : Blk)|intro (xk : Nat)|intro hx|refine pC ?_);refine hK _ ?_;clear K hK)
  (repeat (first|(refine sA ?_;try intro KR kR)|(with_reducible refine sD O50 ?_;intro KR kR;simp only [O50,ordl,seval])|(refine sB ?_;intro K hK;simp (disch := omega) only [go_sem,seval];(try ((with_reducible first|refine Gt ?_|refine gopO_fi rfl ?_|refine Gv rfl ?_);simp (disch := omega) only [go_sem,seval]));(repeat first|intro (xb : Blk)|intro (xk : Nat)|intro hx|refine pC ?_);refine hK _ ?_;clear K hK)|(refine sE ?_;simp only [go_sem,seval,L50,O50];refine kR _ ?_;clear KR kR)|(simp only [thenE,inB,seval])))
  ((with_reducible refine Ac ?_);intro K hK;simp (disch := omega) only [condK,go_sem,seval];refine hK _ ?_ ?_;all_goals clear K hK;all_goals intro hq;all_goals (try simp only [qF,reduceCtorEq] at hq);all_goals (try (exfalso;first|exact hq|omega)))
  · (repeat (first|(refine sA ?_;try intro KR kR)|(with_reducible refine sD O50 ?_;intro KR kR;simp only [O50,ordl,seval])|(refine sB ?_;intro K hK;simp (disch := omega) only [go_sem,seval];(try ((with_reducible first|refine Gt ?_|refine gopO_fi rfl ?_|refine Gv rfl ?_);simp (disch := omega) only [go_sem,seval]));(repeat first|intro (xb : Blk)|intro (xk : Nat)|intro hx|refine pC ?_);refine hK _ ?_;clear K hK)|(refine sE ?_;simp only [go_sem,seval,L50,O50];refine kR _ ?_;clear KR kR)|(simp only [thenE,inB,seval])))
    (simp only [retQ,Try.results50];simp (disch := omega) only [resK,resT,resAV,Env.sel,Env.keys,List.map_nil,List.map_cons,List.all_nil,List.all_cons,AV.isS,Bool.not_false,Bool.and_self,Option.map_some,List.length_cons,List.length_nil,Nat.zero_add,Nat.reduceAdd,not_false_eq_true,true_and,and_true,ne_eq,go_sem,seval,ne_eq])
    rw [pickF,hq];rfl
  · have hr := rkB_iff.1 hq
    have hq1 := hq
    (repeat (first|(refine sA ?_;try intro KR kR)|(with_reducible refine sD O50 ?_;intro KR kR;simp only [O50,ordl,seval])|(refine sB ?_;intro K hK;simp (disch := omega) only [go_sem,seval];(try ((with_reducible first|refine Gt ?_|refine gopO_fi rfl ?_|refine Gv rfl ?_);simp (disch := omega) only [go_sem,seval]));(repeat first|intro (xb : Blk)|intro (xk : Nat)|intro hx|refine pC ?_);refine hK _ ?_;clear K hK)|(refine sE ?_;simp only [go_sem,seval,L50,O50];refine kR _ ?_;clear KR kR)|(simp only [thenE,inB,seval])))
    generalize xk = k8
    rename_i k3
    rw [min_len]
    refine awp_loop [1,3,7,8,22,23,1003,1008] (fun k S => ∃ i : Nat,i ≤ min fr.length h.length ∧ k + i = min fr.length h.length ∧
      S = [(1,.c (.sl 1 (kRows .i64 fr))),(3,.c (.ptr 1003 [] k3 2 0 0)),(7,.c (.im (.int .i64 (pickN b d fr h i)))),(8,.c (.ptr 1008 [] k8 4 0 0)),(22,.c (.im (.int .i64 ((min fr.length h.length : Nat) : Int)))),(23,.c (.im (.int .i64 i))),(1003,.box k3 55 [.sl 1 (rRows b),.sl 1 (rRows d)]),(1008,.box k8 139 [.sl 1 (rRows b),.sl 1 (rRows d),.sl 1 (kRows .i64 fr),.sl 3 (hRows h)])]) (min fr.length h.length) ⟨0,by omega,by omega,rfl⟩ ?_
    rintro k S' ⟨i,h1,hk,rfl⟩
    obtain ⟨p1,p2,p3⟩ := pickN_in (b := b) (d := d) (fr := fr) (h := h) i
    (repeat (first|(refine sA ?_;try intro KR kR)|(with_reducible refine sD O50 ?_;intro KR kR;simp only [O50,ordl,seval])|(refine sB ?_;intro K hK;simp (disch := omega) only [go_sem,seval];(try ((with_reducible first|refine Gt ?_|refine gopO_fi rfl ?_|refine Gv rfl ?_);simp (disch := omega) only [go_sem,seval]));(repeat first|intro (xb : Blk)|intro (xk : Nat)|intro hx|refine pC ?_);refine hK _ ?_;clear K hK)|(refine sE ?_;simp only [go_sem,seval,L50,O50];refine kR _ ?_;clear KR kR)|(simp only [thenE,inB,seval])))
    ((with_reducible refine Ac ?_);intro K hK;simp (disch := omega) only [condK,go_sem,seval];refine hK _ ?_ ?_;all_goals clear K hK;all_goals intro hq;all_goals (try simp only [qF,reduceCtorEq] at hq);all_goals (try (exfalso;first|exact hq|omega)))
    · have hi : i < fr.length := by omega
      have hi2 : i < h.length := by omega
      have hs := pickN_succ (b := b) (d := d) (fr := fr) (h := h) (i := i)
      (repeat (first|(refine sA ?_;try intro KR kR)|(with_reducible refine sD O50 ?_;intro KR kR;simp only [O50,ordl,seval])|(refine sB ?_;intro K hK;simp (disch := omega) only [go_sem,seval];(try ((with_reducible first|refine Gt ?_|refine gopO_fi rfl ?_|refine Gv rfl ?_);simp (disch := omega) only [go_sem,seval]));(repeat first|intro (xb : Blk)|intro (xk : Nat)|intro hx|refine pC ?_);refine hK _ ?_;clear K hK)|(refine sE ?_;simp only [go_sem,seval,L50,O50];refine kR _ ?_;clear KR kR)|(simp only [thenE,inB,seval])))
      (refine sB ?_;intro K hK;simp (disch := omega) only [go_sem,seval];(try ((with_reducible refine Gt ?_);simp (disch := omega) only [go_sem,seval]));refine cN ?_;simp (disch := omega) only [go_sem,seval];refine ⟨_,_,ContractH.n (has_ok b d (fr.getD i 0) hb),?_⟩;intro r H' hr hk;(try obtain rfl := keys_nil hk);(first|subst hr|(obtain ⟨_,rfl⟩ := hr)|(obtain ⟨_,_,rfl⟩ := hr)|(obtain ⟨_,_,_,rfl⟩ := hr));(try simp (disch := omega) only [AV.flat,AC.flat,AC.flat.flatL,AC.flat.flatLL,go_sem,seval]);(repeat first|intro (xb : Blk)|intro (xk : Nat)|intro hx|refine pC ?_);refine hK _ ?_;clear K hK)
      cases hx : hasB' b (fr.getD i 0) with
      | false =>
        have hx2 : ¬ hasR b (fr.getD i 0) := fun h => by unfold hasB' at hx;unfold hasR at h;simp [-List.getD_eq_getElem?_getD] at hx;omega
        (repeat (first|(refine sA ?_;try intro KR kR)|(with_reducible refine sD O50 ?_;intro KR kR;simp only [O50,ordl,seval])|(refine sB ?_;intro K hK;simp (disch := omega) only [go_sem,seval];(try ((with_reducible first|refine Gt ?_|refine gopO_fi rfl ?_|refine Gv rfl ?_);simp (disch := omega) only [go_sem,seval]));(repeat first|intro (xb : Blk)|intro (xk : Nat)|intro hx|refine pC ?_);refine hK _ ?_;clear K hK)|(refine sE ?_;simp only [go_sem,seval,L50,O50];refine kR _ ?_;clear KR kR)|(simp only [thenE,inB,seval])))
        ((with_reducible refine Ac ?_);intro K hK;simp (disch := omega) only [condK,go_sem,seval];refine hK _ ?_ ?_;all_goals clear K hK;all_goals intro hq;all_goals (try simp only [qF,reduceCtorEq] at hq);all_goals (try (exfalso;first|exact hq|omega)))
        (repeat (first|(refine sA ?_;try intro KR kR)|(with_reducible refine sD O50 ?_;intro KR kR;simp only [O50,ordl,seval])|(refine sB ?_;intro K hK;simp (disch := omega) only [go_sem,seval];(try ((with_reducible first|refine Gt ?_|refine gopO_fi rfl ?_|refine Gv rfl ?_);simp (disch := omega) only [go_sem,seval]));(repeat first|intro (xb : Blk)|intro (xk : Nat)|intro hx|refine pC ?_);refine hK _ ?_;clear K hK)|(refine sE ?_;simp only [go_sem,seval,L50,O50];refine kR _ ?_;clear KR kR)|(simp only [thenE,inB,seval])))
        refine gh_no ⟨min fr.length h.length - (i + 1),by omega,i + 1,by omega,by omega,?_⟩
        rw [hs,if_neg (fun h => hx2 h.1)]
        rfl
      | true =>
        have hx2 : hasR b (fr.getD i 0) := by unfold hasB' at hx;unfold hasR;simp [-List.getD_eq_getElem?_getD] at hx;omega
        by_cases h0 : pickN b d fr h i < 0
        · (repeat (first|(refine sA ?_;try intro KR kR)|(with_reducible refine sD O50 ?_;intro KR kR;simp only [O50,ordl,seval])|(refine sB ?_;intro K hK;simp (disch := omega) only [go_sem,seval];(try ((with_reducible first|refine Gt ?_|refine gopO_fi rfl ?_|refine Gv rfl ?_);simp (disch := omega) only [go_sem,seval]));(repeat first|intro (xb : Blk)|intro (xk : Nat)|intro hx|refine pC ?_);refine hK _ ?_;clear K hK)|(refine sE ?_;simp only [go_sem,seval,L50,O50];refine kR _ ?_;clear KR kR)|(simp only [thenE,inB,seval])))
          ((with_reducible refine Ac ?_);intro K hK;simp (disch := omega) only [condK,go_sem,seval];refine hK _ ?_ ?_;all_goals clear K hK;all_goals intro hq;all_goals (try simp only [qF,reduceCtorEq] at hq);all_goals (try (exfalso;first|exact hq|omega)))
          (repeat (first|(refine sA ?_;try intro KR kR)|(with_reducible refine sD O50 ?_;intro KR kR;simp only [O50,ordl,seval])|(refine sB ?_;intro K hK;simp (disch := omega) only [go_sem,seval];(try ((with_reducible first|refine Gt ?_|refine gopO_fi rfl ?_|refine Gv rfl ?_);simp (disch := omega) only [go_sem,seval]));(repeat first|intro (xb : Blk)|intro (xk : Nat)|intro hx|refine pC ?_);refine hK _ ?_;clear K hK)|(refine sE ?_;simp only [go_sem,seval,L50,O50];refine kR _ ?_;clear KR kR)|(simp only [thenE,inB,seval])))
          refine gh_no ⟨min fr.length h.length - (i + 1),by omega,i + 1,by omega,by omega,?_⟩
          rw [hs,if_pos ⟨hx2,.inl h0⟩]
          rfl
        · obtain ⟨bk,hbk⟩ := Int.eq_ofNat_of_zero_le (show 0 ≤ pickN b d fr h i by omega)
          have hfk := p3 (by omega)
          rw [hbk] at hs p2 hfk h0
          rw [Int.toNat_natCast] at hs hfk
          rw [hbk]
          (repeat (first|(refine sA ?_;try intro KR kR)|(with_reducible refine sD O50 ?_;intro KR kR;simp only [O50,ordl,seval])|(refine sB ?_;intro K hK;simp (disch := omega) only [go_sem,seval];(try ((with_reducible first|refine Gt ?_|refine gopO_fi rfl ?_|refine Gv rfl ?_);simp (disch := omega) only [go_sem,seval]));(repeat first|intro (xb : Blk)|intro (xk : Nat)|intro hx|refine pC ?_);refine hK _ ?_;clear K hK)|(refine sE ?_;simp only [go_sem,seval,L50,O50];refine kR _ ?_;clear KR kR)|(simp only [thenE,inB,seval])))
          (refine sB ?_;intro K hK;simp (disch := omega) only [go_sem,seval];(try ((with_reducible refine Gt ?_);simp (disch := omega) only [go_sem,seval]));refine cN ?_;simp (disch := omega) only [go_sem,seval];refine ⟨_,_,ContractH.n (ahead_ok b d fr h i bk hr hi hi2 (by omega) (by omega) hx2 hfk (ht i hi2) (ht bk (by omega)) hb hf hh),?_⟩;intro r H' hr hk;(try obtain rfl := keys_nil hk);(first|subst hr|(obtain ⟨_,rfl⟩ := hr)|(obtain ⟨_,_,rfl⟩ := hr)|(obtain ⟨_,_,_,rfl⟩ := hr));(try simp (disch := omega) only [AV.flat,AC.flat,AC.flat.flatL,AC.flat.flatLL,go_sem,seval]);(repeat first|intro (xb : Blk)|intro (xk : Nat)|intro hx|refine pC ?_);refine hK _ ?_;clear K hK)
          (repeat (first|(refine sA ?_;try intro KR kR)|(with_reducible refine sD O50 ?_;intro KR kR;simp only [O50,ordl,seval])|(refine sB ?_;intro K hK;simp (disch := omega) only [go_sem,seval];(try ((with_reducible first|refine Gt ?_|refine gopO_fi rfl ?_|refine Gv rfl ?_);simp (disch := omega) only [go_sem,seval]));(repeat first|intro (xb : Blk)|intro (xk : Nat)|intro hx|refine pC ?_);refine hK _ ?_;clear K hK)|(refine sE ?_;simp only [go_sem,seval,L50,O50];refine kR _ ?_;clear KR kR)|(simp only [thenE,inB,seval])))
          ((with_reducible refine Ac ?_);intro K hK;simp (disch := omega) only [condK,go_sem,seval];refine hK _ ?_ ?_;all_goals clear K hK;all_goals intro hq;all_goals (try simp only [qF,reduceCtorEq] at hq);all_goals (try (exfalso;first|exact hq|omega)))
          · (repeat (first|(refine sA ?_;try intro KR kR)|(with_reducible refine sD O50 ?_;intro KR kR;simp only [O50,ordl,seval])|(refine sB ?_;intro K hK;simp (disch := omega) only [go_sem,seval];(try ((with_reducible first|refine Gt ?_|refine gopO_fi rfl ?_|refine Gv rfl ?_);simp (disch := omega) only [go_sem,seval]));(repeat first|intro (xb : Blk)|intro (xk : Nat)|intro hx|refine pC ?_);refine hK _ ?_;clear K hK)|(refine sE ?_;simp only [go_sem,seval,L50,O50];refine kR _ ?_;clear KR kR)|(simp only [thenE,inB,seval])))
            refine gh_no ⟨min fr.length h.length - (i + 1),by omega,i + 1,by omega,by omega,?_⟩
            rw [hs,if_pos ⟨hx2,.inr hq⟩]
            rfl
          · (repeat (first|(refine sA ?_;try intro KR kR)|(with_reducible refine sD O50 ?_;intro KR kR;simp only [O50,ordl,seval])|(refine sB ?_;intro K hK;simp (disch := omega) only [go_sem,seval];(try ((with_reducible first|refine Gt ?_|refine gopO_fi rfl ?_|refine Gv rfl ?_);simp (disch := omega) only [go_sem,seval]));(repeat first|intro (xb : Blk)|intro (xk : Nat)|intro hx|refine pC ?_);refine hK _ ?_;clear K hK)|(refine sE ?_;simp only [go_sem,seval,L50,O50];refine kR _ ?_;clear KR kR)|(simp only [thenE,inB,seval])))
            refine gh_no ⟨min fr.length h.length - (i + 1),by omega,i + 1,by omega,by omega,?_⟩
            rw [hs,if_neg (by rintro ⟨_,h|h⟩;(omega);(exact hq h))]
            rfl
    · have ei : i = min fr.length h.length := by omega
      (repeat (first|(refine sA ?_;try intro KR kR)|(with_reducible refine sD O50 ?_;intro KR kR;simp only [O50,ordl,seval])|(refine sB ?_;intro K hK;simp (disch := omega) only [go_sem,seval];(try ((with_reducible first|refine Gt ?_|refine gopO_fi rfl ?_|refine Gv rfl ?_);simp (disch := omega) only [go_sem,seval]));(repeat first|intro (xb : Blk)|intro (xk : Nat)|intro hx|refine pC ?_);refine hK _ ?_;clear K hK)|(refine sE ?_;simp only [go_sem,seval,L50,O50];refine kR _ ?_;clear KR kR)|(simp only [thenE,inB,seval])))
      (simp only [retQ,Try.results50];simp (disch := omega) only [resK,resT,resAV,Env.sel,Env.keys,List.map_nil,List.map_cons,List.all_nil,List.all_cons,AV.isS,Bool.not_false,Bool.and_self,Option.map_some,List.length_cons,List.length_nil,Nat.zero_add,Nat.reduceAdd,not_false_eq_true,true_and,and_true,ne_eq,go_sem,seval,ne_eq])
      rw [pickF,hq1,if_pos rfl,ei]
end Go.Proofs.Ytllemobnfpljfaa
