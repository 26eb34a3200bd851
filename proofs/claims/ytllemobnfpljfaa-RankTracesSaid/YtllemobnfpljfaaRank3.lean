import Derived.Test.YtllemobnfpljfaaRank2
set_option linter.unusedSimpArgs false
set_option linter.unusedVariables false
set_option maxRecDepth 100000
set_option maxHeartbeats 8000000
namespace Go.Proofs.Ytllemobnfpljfaa
open Go Go.Hs
def L89 (r : Nat) : Option (List Nat) := kl r [(0,[1]),(1,[2])]
def O89 (r : Nat) : List Nat × OT := ordl r []
def L92 (r : Nat) : Option (List Nat) := kl r [(0,[1,2]),(1,[4])]
def O92 (r : Nat) : List Nat × OT := ordl r []
def L45 (r : Nat) : Option (List Nat) := kl r [(0,[1,2]),(1,[1,2,5]),(2,[1,2,5,10]),(3,[4]),(4,[2,5,12,13,14]),(5,[2,5,12,13,14,15]),(6,[2,5,7,12,13,14]),(7,[2,5,7,12,13,14,35]),(8,[2,5,12,13,14]),(9,[2,5,12,13,14]),(10,[4])]
def O45 (r : Nat) : List Nat × OT := ordl r []
attribute [local go_sem] length_rRows getRow
theorem right_ok (b d : List (List Int)) (hb : b.length ≤ 1000) (hd : d.length ≤ 1000) (hbr : ∀ r ∈ b,r.length ≤ 1000) (hdr : ∀ r ∈ d,r.length ≤ 1000) : Contract Try.prog 89 [.agg [.sl 1 (rRows b),.sl 1 (rRows d)]] (.c (.im (.bool (rkB b d b.length)))) := by
  (refine contract_of_awp (L := L89) Try.func89 rfl (by kernel_rfl) (by first|rfl|decide) (by first|rfl|kernel_rfl) ?_;simp only [Try.ntmps89,initEnv,Env.keys,List.map_nil,List.map_cons,List.append_nil,List.cons_append,List.nil_append])
  (repeat (first|(refine sA ?_;try intro KR kR)|(with_reducible refine sD O89 ?_;intro KR kR;simp only [O89,ordl,seval])|(refine sB ?_;intro K hK;simp (disch := omega) only [go_sem,seval];(try ((with_reducible first|refine Gt ?_|refine gopO_f rfl ?_|refine Gv rfl ?_);simp (disch := omega) only [go_sem,seval]));(repeat first|intro (xb : Blk)|intro (xk : Nat)|intro hx|refine pC ?_);refine hK _ ?_;clear K hK)|(refine sE ?_;simp only [go_sem,seval,L45,O45,L89,O89,L92,O92];refine kR _ ?_;clear KR kR)|(simp only [thenE,inB,seval])))
  (refine sB ?_;intro K hK;simp (disch := omega) only [go_sem,seval];(try ((with_reducible refine Gt ?_);simp (disch := omega) only [go_sem,seval]));refine cN ?_;simp (disch := omega) only [go_sem,seval];refine ⟨_,_,ContractH.n (rkRight_ok b d b.length hb hd hbr hdr),?_⟩;intro r H' hr hk;(try obtain rfl := keys_nil hk);(first|subst hr|(obtain ⟨_,rfl⟩ := hr)|(obtain ⟨_,_,rfl⟩ := hr)|(obtain ⟨_,_,_,rfl⟩ := hr));(try simp (disch := omega) only [AV.flat,AC.flat,AC.flat.flatL,AC.flat.flatLL,go_sem,seval]);(repeat first|intro (xb : Blk)|intro (xk : Nat)|intro hx|refine pC ?_);refine hK _ ?_;clear K hK)
  (repeat (first|(refine sA ?_;try intro KR kR)|(with_reducible refine sD O89 ?_;intro KR kR;simp only [O89,ordl,seval])|(refine sB ?_;intro K hK;simp (disch := omega) only [go_sem,seval];(try ((with_reducible first|refine Gt ?_|refine gopO_f rfl ?_|refine Gv rfl ?_);simp (disch := omega) only [go_sem,seval]));(repeat first|intro (xb : Blk)|intro (xk : Nat)|intro hx|refine pC ?_);refine hK _ ?_;clear K hK)|(refine sE ?_;simp only [go_sem,seval,L45,O45,L89,O89,L92,O92];refine kR _ ?_;clear KR kR)|(simp only [thenE,inB,seval])))
  (simp only [retQ,Try.results89];simp (disch := omega) only [resK,resT,resAV,Env.sel,Env.keys,List.map_nil,List.map_cons,List.all_nil,List.all_cons,AV.isS,Bool.not_false,Bool.and_self,Option.map_some,List.length_cons,List.length_nil,Nat.zero_add,Nat.reduceAdd,not_false_eq_true,true_and,and_true,ne_eq,go_sem,seval,ne_eq])
def hasB' (b : List (List Int)) (i : Int) : Bool := decide (0 ≤ i) && decide (i < b.length)
theorem has_ok (b d : List (List Int)) (i : Int) (hb : b.length ≤ 1000) : Contract Try.prog 92 [.agg [.sl 1 (rRows b),.sl 1 (rRows d)],.c (.im (.int .i64 i))] (.c (.im (.bool (hasB' b i)))) := by
  (refine contract_of_awp (L := L92) Try.func92 rfl (by kernel_rfl) (by first|rfl|decide) (by first|rfl|kernel_rfl) ?_;simp only [Try.ntmps92,initEnv,Env.keys,List.map_nil,List.map_cons,List.append_nil,List.cons_append,List.nil_append])
  (repeat (first|(refine sA ?_;try intro KR kR)|(with_reducible refine sD O92 ?_;intro KR kR;simp only [O92,ordl,seval])|(refine sB ?_;intro K hK;simp (disch := omega) only [go_sem,seval];(try ((with_reducible first|refine Gt ?_|refine gopO_f rfl ?_|refine Gv rfl ?_);simp (disch := omega) only [go_sem,seval]));(repeat first|intro (xb : Blk)|intro (xk : Nat)|intro hx|refine pC ?_);refine hK _ ?_;clear K hK)|(refine sE ?_;simp only [go_sem,seval,L45,O45,L89,O89,L92,O92];refine kR _ ?_;clear KR kR)|(simp only [thenE,inB,seval])))
  (simp only [retQ,Try.results92];simp (disch := omega) only [resK,resT,resAV,Env.sel,Env.keys,List.map_nil,List.map_cons,List.all_nil,List.all_cons,AV.isS,Bool.not_false,Bool.and_self,Option.map_some,List.length_cons,List.length_nil,Nat.zero_add,Nat.reduceAdd,not_false_eq_true,true_and,and_true,ne_eq,go_sem,seval,ne_eq])
  rfl
def bestN (b d : List (List Int)) (o : List Int) : Nat → Int
  | 0 => -1
  | i + 1 => if (0 ≤ o.getD i 0 ∧ o.getD i 0 < b.length) ∧ (bestN b d o i < 0 ∨ 0 < rGet d (o.getD i 0).toNat (bestN b d o i).toNat) then o.getD i 0 else bestN b d o i
def bestF (b d : List (List Int)) (o : List Int) : Int := if rkB b d b.length then bestN b d o o.length else -1
theorem bestN_in {b d : List (List Int)} {o : List Int} : ∀ i,-1 ≤ bestN b d o i ∧ (bestN b d o i < b.length)
  | 0 => by simp [bestN];omega
  | i + 1 => by
    have := bestN_in (b := b) (d := d) (o := o) i
    unfold bestN
    split <;> omega
theorem best_ok (b d : List (List Int)) (o : List Int) (ho : o.length ≤ 1000) (hb : b.length ≤ 1000) (hd : d.length ≤ 1000) (hbr : ∀ r ∈ b,r.length ≤ 1000) (hdr : ∀ r ∈ d,r.length ≤ 1000) :
    Contract Try.prog 45 [.agg [.sl 1 (rRows b),.sl 1 (rRows d)],.c (.sl 1 (kRows .i64 o))] (.c (.im (.int .i64 (bestF b d o)))) := by
  (refine contract_of_awp (L := L45) Try.func45 rfl (by kernel_rfl) (by first|rfl|decide) (by first|rfl|kernel_rfl) ?_;simp only [Try.ntmps45,initEnv,Env.keys,List.map_nil,List.map_cons,List.append_nil,List.cons_append,List.nil_append])
  (repeat (first|(refine sA ?_;try intro KR kR)|(with_reducible refine sD O45 ?_;intro KR kR;simp only [O45,ordl,seval])|(refine sB ?_;intro K hK;simp (disch := omega) only [go_sem,seval];(try ((with_reducible first|refine Gt ?_|refine gopO_f rfl ?_|refine Gv rfl ?_);simp (disch := omega) only [go_sem,seval]));(repeat first|intro (xb : Blk)|intro (xk : Nat)|intro hx|refine pC ?_);refine hK _ ?_;clear K hK)|(refine sE ?_;simp only [go_sem,seval,L45,O45,L89,O89,L92,O92];refine kR _ ?_;clear KR kR)|(simp only [thenE,inB,seval])))
  (refine sB ?_;intro K hK;simp (disch := omega) only [go_sem,seval];(try ((with_reducible refine Gt ?_);simp (disch := omega) only [go_sem,seval]));refine cN ?_;simp (disch := omega) only [go_sem,seval];refine ⟨_,_,ContractH.n (right_ok b d hb hd hbr hdr),?_⟩;intro r H' hr hk;(try obtain rfl := keys_nil hk);(first|subst hr|(obtain ⟨_,rfl⟩ := hr)|(obtain ⟨_,_,rfl⟩ := hr)|(obtain ⟨_,_,_,rfl⟩ := hr));(try simp (disch := omega) only [AV.flat,AC.flat,AC.flat.flatL,AC.flat.flatLL,go_sem,seval]);(repeat first|intro (xb : Blk)|intro (xk : Nat)|intro hx|refine pC ?_);refine hK _ ?_;clear K hK)
  (repeat (first|(refine sA ?_;try intro KR kR)|(with_reducible refine sD O45 ?_;intro KR kR;simp only [O45,ordl,seval])|(refine sB ?_;intro K hK;simp (disch := omega) only [go_sem,seval];(try ((with_reducible first|refine Gt ?_|refine gopO_f rfl ?_|refine Gv rfl ?_);simp (disch := omega) only [go_sem,seval]));(repeat first|intro (xb : Blk)|intro (xk : Nat)|intro hx|refine pC ?_);refine hK _ ?_;clear K hK)|(refine sE ?_;simp only [go_sem,seval,L45,O45,L89,O89,L92,O92];refine kR _ ?_;clear KR kR)|(simp only [thenE,inB,seval])))
  ((with_reducible refine Ac ?_);intro K hK;simp (disch := omega) only [condK,go_sem,seval];refine hK _ ?_ ?_;all_goals clear K hK;all_goals intro hq;all_goals (try simp only [qF,reduceCtorEq] at hq);all_goals (try (exfalso;first|exact hq|omega)))
  · (repeat (first|(refine sA ?_;try intro KR kR)|(with_reducible refine sD O45 ?_;intro KR kR;simp only [O45,ordl,seval])|(refine sB ?_;intro K hK;simp (disch := omega) only [go_sem,seval];(try ((with_reducible first|refine Gt ?_|refine gopO_f rfl ?_|refine Gv rfl ?_);simp (disch := omega) only [go_sem,seval]));(repeat first|intro (xb : Blk)|intro (xk : Nat)|intro hx|refine pC ?_);refine hK _ ?_;clear K hK)|(refine sE ?_;simp only [go_sem,seval,L45,O45,L89,O89,L92,O92];refine kR _ ?_;clear KR kR)|(simp only [thenE,inB,seval])))
    (simp only [retQ,Try.results45];simp (disch := omega) only [resK,resT,resAV,Env.sel,Env.keys,List.map_nil,List.map_cons,List.all_nil,List.all_cons,AV.isS,Bool.not_false,Bool.and_self,Option.map_some,List.length_cons,List.length_nil,Nat.zero_add,Nat.reduceAdd,not_false_eq_true,true_and,and_true,ne_eq,go_sem,seval,ne_eq])
    rw [bestF,hq];rfl
  · have hr := rkB_iff.1 hq
    have hq1 := hq
    have h2 := hr.2.1
    have hn2 := h2.1
    (repeat (first|(refine sA ?_;try intro KR kR)|(with_reducible refine sD O45 ?_;intro KR kR;simp only [O45,ordl,seval])|(refine sB ?_;intro K hK;simp (disch := omega) only [go_sem,seval];(try ((with_reducible first|refine Gt ?_|refine gopO_f rfl ?_|refine Gv rfl ?_);simp (disch := omega) only [go_sem,seval]));(repeat first|intro (xb : Blk)|intro (xk : Nat)|intro hx|refine pC ?_);refine hK _ ?_;clear K hK)|(refine sE ?_;simp only [go_sem,seval,L45,O45,L89,O89,L92,O92];refine kR _ ?_;clear KR kR)|(simp only [thenE,inB,seval])))
    generalize xk = kb
    refine awp_loop [2,5,12,13,14,1002] (fun k S => ∃ i : Nat,i ≤ o.length ∧ k = o.length - i ∧
      S = [(2,.c (.ptr 1002 [] kb 2 0 0)),(5,.c (.im (.int .i64 (bestN b d o i)))),(12,.c (.sl 1 (kRows .i64 o))),(13,.c (.im (.int .i64 o.length))),(14,.c (.im (.int .i64 i))),(1002,.box kb 55 [.sl 1 (rRows b),.sl 1 (rRows d)])]) _ ⟨0,by omega,rfl,rfl⟩ ?_
    rintro k S' ⟨i,h1,hk,rfl⟩
    have bn := bestN_in (b := b) (d := d) (o := o) i
    have dl : ∀ j : Nat,j < d.length → (rAt d j).length = b.length := fun j hj => by have := h2.2 j hj;omega
    (repeat (first|(refine sA ?_;try intro KR kR)|(with_reducible refine sD O45 ?_;intro KR kR;simp only [O45,ordl,seval])|(refine sB ?_;intro K hK;simp (disch := omega) only [go_sem,seval];(try ((with_reducible first|refine Gt ?_|refine gopO_f rfl ?_|refine Gv rfl ?_);simp (disch := omega) only [go_sem,seval]));(repeat first|intro (xb : Blk)|intro (xk : Nat)|intro hx|refine pC ?_);refine hK _ ?_;clear K hK)|(refine sE ?_;simp only [go_sem,seval,L45,O45,L89,O89,L92,O92];refine kR _ ?_;clear KR kR)|(simp only [thenE,inB,seval])))
    ((with_reducible refine Ac ?_);intro K hK;simp (disch := omega) only [condK,go_sem,seval];refine hK _ ?_ ?_;all_goals clear K hK;all_goals intro hq;all_goals (try simp only [qF,reduceCtorEq] at hq);all_goals (try (exfalso;first|exact hq|omega)))
    · have hi : i < o.length := by omega
      have dl1 := dl (o.getD i 0).toNat
      have hs : bestN b d o (i + 1) = if (0 ≤ o.getD i 0 ∧ o.getD i 0 < b.length) ∧ (bestN b d o i < 0 ∨ 0 < rGet d (o.getD i 0).toNat (bestN b d o i).toNat) then o.getD i 0 else bestN b d o i := rfl
      (repeat (first|(refine sA ?_;try intro KR kR)|(with_reducible refine sD O45 ?_;intro KR kR;simp only [O45,ordl,seval])|(refine sB ?_;intro K hK;simp (disch := omega) only [go_sem,seval];(try ((with_reducible first|refine Gt ?_|refine gopO_f rfl ?_|refine Gv rfl ?_);simp (disch := omega) only [go_sem,seval]));(repeat first|intro (xb : Blk)|intro (xk : Nat)|intro hx|refine pC ?_);refine hK _ ?_;clear K hK)|(refine sE ?_;simp only [go_sem,seval,L45,O45,L89,O89,L92,O92];refine kR _ ?_;clear KR kR)|(simp only [thenE,inB,seval])))
      (refine sB ?_;intro K hK;simp (disch := omega) only [go_sem,seval];(try ((with_reducible refine Gt ?_);simp (disch := omega) only [go_sem,seval]));refine cN ?_;simp (disch := omega) only [go_sem,seval];refine ⟨_,_,ContractH.n (has_ok b d (o.getD i 0) hb),?_⟩;intro r H' hr hk;(try obtain rfl := keys_nil hk);(first|subst hr|(obtain ⟨_,rfl⟩ := hr)|(obtain ⟨_,_,rfl⟩ := hr)|(obtain ⟨_,_,_,rfl⟩ := hr));(try simp (disch := omega) only [AV.flat,AC.flat,AC.flat.flatL,AC.flat.flatLL,go_sem,seval]);(repeat first|intro (xb : Blk)|intro (xk : Nat)|intro hx|refine pC ?_);refine hK _ ?_;clear K hK)
      cases hx : hasB' b (o.getD i 0) with
      | false =>
        have hx2 : ¬ (0 ≤ o.getD i 0 ∧ o.getD i 0 < b.length) := fun h => by unfold hasB' at hx;simp [-List.getD_eq_getElem?_getD] at hx;omega
        (repeat (first|(refine sA ?_;try intro KR kR)|(with_reducible refine sD O45 ?_;intro KR kR;simp only [O45,ordl,seval])|(refine sB ?_;intro K hK;simp (disch := omega) only [go_sem,seval];(try ((with_reducible first|refine Gt ?_|refine gopO_f rfl ?_|refine Gv rfl ?_);simp (disch := omega) only [go_sem,seval]));(repeat first|intro (xb : Blk)|intro (xk : Nat)|intro hx|refine pC ?_);refine hK _ ?_;clear K hK)|(refine sE ?_;simp only [go_sem,seval,L45,O45,L89,O89,L92,O92];refine kR _ ?_;clear KR kR)|(simp only [thenE,inB,seval])))
        ((with_reducible refine Ac ?_);intro K hK;simp (disch := omega) only [condK,go_sem,seval];refine hK _ ?_ ?_;all_goals clear K hK;all_goals intro hq;all_goals (try simp only [qF,reduceCtorEq] at hq);all_goals (try (exfalso;first|exact hq|omega)))
        (repeat (first|(refine sA ?_;try intro KR kR)|(with_reducible refine sD O45 ?_;intro KR kR;simp only [O45,ordl,seval])|(refine sB ?_;intro K hK;simp (disch := omega) only [go_sem,seval];(try ((with_reducible first|refine Gt ?_|refine gopO_f rfl ?_|refine Gv rfl ?_);simp (disch := omega) only [go_sem,seval]));(repeat first|intro (xb : Blk)|intro (xk : Nat)|intro hx|refine pC ?_);refine hK _ ?_;clear K hK)|(refine sE ?_;simp only [go_sem,seval,L45,O45,L89,O89,L92,O92];refine kR _ ?_;clear KR kR)|(simp only [thenE,inB,seval])))
        refine gh_no ⟨o.length - (i + 1),by omega,i + 1,by omega,rfl,?_⟩
        rw [hs,if_neg (fun h => hx2 h.1)]
        rfl
      | true =>
        have hx2 : 0 ≤ o.getD i 0 ∧ o.getD i 0 < b.length := by unfold hasB' at hx;simp [-List.getD_eq_getElem?_getD] at hx;omega
        have hx3 : (o.getD i 0).toNat < d.length := by omega
        have dl2 := dl1 hx3
        (repeat (first|(refine sA ?_;try intro KR kR)|(with_reducible refine sD O45 ?_;intro KR kR;simp only [O45,ordl,seval])|(refine sB ?_;intro K hK;simp (disch := omega) only [go_sem,seval];(try ((with_reducible first|refine Gt ?_|refine gopO_f rfl ?_|refine Gv rfl ?_);simp (disch := omega) only [go_sem,seval]));(repeat first|intro (xb : Blk)|intro (xk : Nat)|intro hx|refine pC ?_);refine hK _ ?_;clear K hK)|(refine sE ?_;simp only [go_sem,seval,L45,O45,L89,O89,L92,O92];refine kR _ ?_;clear KR kR)|(simp only [thenE,inB,seval])))
        ((with_reducible refine Ac ?_);intro K hK;simp (disch := omega) only [condK,go_sem,seval];refine hK _ ?_ ?_;all_goals clear K hK;all_goals intro hq;all_goals (try simp only [qF,reduceCtorEq] at hq);all_goals (try (exfalso;first|exact hq|omega)))
        · (repeat (first|(refine sA ?_;try intro KR kR)|(with_reducible refine sD O45 ?_;intro KR kR;simp only [O45,ordl,seval])|(refine sB ?_;intro K hK;simp (disch := omega) only [go_sem,seval];(try ((with_reducible first|refine Gt ?_|refine gopO_f rfl ?_|refine Gv rfl ?_);simp (disch := omega) only [go_sem,seval]));(repeat first|intro (xb : Blk)|intro (xk : Nat)|intro hx|refine pC ?_);refine hK _ ?_;clear K hK)|(refine sE ?_;simp only [go_sem,seval,L45,O45,L89,O89,L92,O92];refine kR _ ?_;clear KR kR)|(simp only [thenE,inB,seval])))
          refine gh_no ⟨o.length - (i + 1),by omega,i + 1,by omega,rfl,?_⟩
          rw [hs,if_pos ⟨hx2,by unfold rGet;exact hq⟩]
          rfl
        · (repeat (first|(refine sA ?_;try intro KR kR)|(with_reducible refine sD O45 ?_;intro KR kR;simp only [O45,ordl,seval])|(refine sB ?_;intro K hK;simp (disch := omega) only [go_sem,seval];(try ((with_reducible first|refine Gt ?_|refine gopO_f rfl ?_|refine Gv rfl ?_);simp (disch := omega) only [go_sem,seval]));(repeat first|intro (xb : Blk)|intro (xk : Nat)|intro hx|refine pC ?_);refine hK _ ?_;clear K hK)|(refine sE ?_;simp only [go_sem,seval,L45,O45,L89,O89,L92,O92];refine kR _ ?_;clear KR kR)|(simp only [thenE,inB,seval])))
          refine gh_no ⟨o.length - (i + 1),by omega,i + 1,by omega,rfl,?_⟩
          rw [hs,if_neg (by unfold rGet;omega)]
          rfl
    · have ei : i = o.length := by omega
      (repeat (first|(refine sA ?_;try intro KR kR)|(with_reducible refine sD O45 ?_;intro KR kR;simp only [O45,ordl,seval])|(refine sB ?_;intro K hK;simp (disch := omega) only [go_sem,seval];(try ((with_reducible first|refine Gt ?_|refine gopO_f rfl ?_|refine Gv rfl ?_);simp (disch := omega) only [go_sem,seval]));(repeat first|intro (xb : Blk)|intro (xk : Nat)|intro hx|refine pC ?_);refine hK _ ?_;clear K hK)|(refine sE ?_;simp only [go_sem,seval,L45,O45,L89,O89,L92,O92];refine kR _ ?_;clear KR kR)|(simp only [thenE,inB,seval])))
      (simp only [retQ,Try.results45];simp (disch := omega) only [resK,resT,resAV,Env.sel,Env.keys,List.map_nil,List.map_cons,List.all_nil,List.all_cons,AV.isS,Bool.not_false,Bool.and_self,Option.map_some,List.length_cons,List.length_nil,Nat.zero_add,Nat.reduceAdd,not_false_eq_true,true_and,and_true,ne_eq,go_sem,seval,ne_eq])
      rw [bestF,hq1,if_pos rfl,ei]
end Go.Proofs.Ytllemobnfpljfaa
