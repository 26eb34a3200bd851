import Derived.Test.YtllemobnfpljfaaPick
import Derived.Test.YtllemobnfpljfaaWith
import Derived.Test.YtllemobnfpljfaaFork
set_option linter.unusedSimpArgs false
set_option linter.unusedVariables false
set_option maxRecDepth 100000
set_option maxHeartbeats 8000000
namespace Go.Proofs.Ytllemobnfpljfaa
open Go Go.Hs
def L37 (r : Nat) : Option (List Nat) := kl r [(0,[1]),(1,[1,14]),(2,[2]),(3,[1,3]),(4,[1,3,19]),(5,[1,3]),(6,[1,3,28]),(7,[2]),(8,[1,4]),(9,[1,4,33]),(10,[1,4]),(11,[1,4,42]),(12,[2]),(13,[2])]
def O37 (r : Nat) : List Nat × OT := ordl r []
def L38 (r : Nat) : Option (List Nat) := kl r [(0,[]),(1,[1]),(2,[2,3,4]),(3,[2,3,4,5]),(4,[0])]
def O38 (r : Nat) : List Nat × OT := ordl r [(4,([],.val 0 (.val 1 (.val 2 (.val 3 (.val 4 (.val 5 (.val 6 (.val 7 (.val 8 (.val 9 (.val 10 (.load 11 (.grow 12 (.val 13 (.val 14 (.load 15 (.grow 16 (.val 17 (.val 18 (.val 19 (.load 20 (.grow 21 (.grow 22 (.val 23 (.val 24 (.val 25 (.load 26 (.alt [27,28] 10 (fun i => if i = 27 then .grow 28 (.grow 29 (.val 30 (.val 31 (.val 32 (.load 33 (.load 34 (.grow 35 (.val 36 (.val 37 (.done)))))))))) else .grow 27 (.grow 29 (.val 30 (.val 31 (.val 32 (.load 33 (.load 34 (.grow 35 (.val 36 (.val 37 (.done))))))))))))))))))))))))))))))))))))))))]
def L47 (r : Nat) : Option (List Nat) := kl r [(0,[0]),(1,[0,3]),(2,[0,3,7]),(3,[0,3]),(4,[0,3,23]),(5,[2]),(6,[2])]
def O47 (r : Nat) : List Nat × OT := ordl r []
def Few (b d : List (List Int)) : Prop := b.length ≤ 20 ∧ d.length ≤ 20 ∧ (∀ i,i < b.length → (rAt b i).length ≤ 40) ∧ ∀ i,i < d.length → (rAt d i).length ≤ 40
instance {b d : List (List Int)} : Decidable (Few b d) := by unfold Few;infer_instance
attribute [local go_sem] length_rRows getRow length_hRows getH0 getH1 getHR dlt_t dlt_f beqT beqF bneT bneF
def Turns (h : List Hp) : Prop := h.length ≤ 40 ∧ ∀ i,i < h.length → 0 ≤ (hAt h i).2 ∧ (hAt h i).2 ≤ 500
instance {h : List Hp} : Decidable (Turns h) := by unfold Turns;infer_instance
def l19 : List Tm := [⟨2,-1,-1,0,0,0,0,0⟩,⟨5,0,-1,0,0,0,0,0⟩,⟨2,-1,-1,0,0,0,0,0⟩,⟨3,1,2,0,0,0,0,0⟩]
theorem s19_f : forkF l19 (0,2) (1,1) = (3,2,1) := by decide +kernel
theorem s19_b : withBF (withBF [] []) (withDF [] []) = [[0,0],[0,0]] := by decide +kernel
theorem s19_d : withDF (withBF [] []) (withDF [] []) = [[0,1],[-1,0]] := by decide +kernel
theorem s19_b1 : withBF [] [] = [[0]] := by decide +kernel
theorem s19_d1 : withDF [] [] = [[0]] := by decide +kernel
theorem s19_r2 : rkB [[0,0],[0,0]] [[0,1],[-1,0]] 2 = true := by decide +kernel
theorem s19_r1 : rkB [[0,0],[0,0]] [[0,1],[-1,0]] 1 = false := by decide +kernel
theorem s19_bs : bestF [[0,0],[0,0]] [[0,1],[-1,0]] [1,0] = 0 := by decide +kernel
theorem s19_pk : pickF [[0,0],[0,0]] [[0,1],[-1,0]] [1,0] [(0,0,none),(0,0,none)] = 1 := by decide +kernel
theorem withNil_ok : Contract Try.prog 43 [.agg [.nil,.nil]] (.agg [.sl 1 (rRows (withBF [] [])),.sl 1 (rRows (withDF [] []))]) := by
  refine contract_args (with_ok [] [] (by decide) (by decide) (by simp) (by simp)) ?_
  intro w p vs h
  cases h with
  | cons h1 h =>
    refine .cons ?_ h
    obtain ⟨us,rfl,hl⟩ := h1
    refine ⟨us,rfl,?_⟩
    generalize us.toList = l at hl
    cases hl with
    | cons k1 t => cases t with
      | cons k2 t =>
        cases k1;cases k2
        exact .cons (.nilS _ _) (.cons (.nilS _ _) t)
theorem pickC_ok (b d : List (List Int)) (fr : List Int) (h : List Hp) (hf : fr.length ≤ 1000) (hh : h.length ≤ 1000) (ht : ∀ i,i < h.length → 0 ≤ (hAt h i).2 ∧ (hAt h i).2 ≤ 1000000) (hb : b.length ≤ 1000) (hd : d.length ≤ 1000) (hbr : ∀ r ∈ b,r.length ≤ 1000) (hdr : ∀ r ∈ d,r.length ≤ 1000) :
    Contract Try.prog 50 [.agg [.sl 1 (rRows b),.sl 1 (rRows d)],.c (.sl 1 (kRows .i64 fr)),.c (.sl 3 (hRowsC h))] (.c (.im (.int .i64 (pickF b d fr h)))) := by
  refine contract_args (pick_ok b d fr h hf hh ht hb hd hbr hdr) ?_
  intro w p vs h
  cases h with
  | cons h1 h => cases h with
    | cons h2 h => cases h with
      | cons h3 h => exact .cons h1 (.cons h2 (.cons (rd_hops h3) h))
def xb : List (List Int) := [[0,0],[0,0]]
def xd : List (List Int) := [[0,1],[-1,0]]
def hz2 : List Hp := [(0,0,none),(0,0,none)]
theorem x_rows : (∀ r ∈ xb,r.length ≤ 1000) ∧ ∀ r ∈ xd,r.length ≤ 1000 := by decide
theorem hz_t : ∀ i,i < hz2.length → 0 ≤ (hAt hz2 i).2 ∧ (hAt hz2 i).2 ≤ 1000000 := by decide
set_option maxRecDepth 20000 in
set_option maxHeartbeats 4000000 in
theorem sure19_ok : Contract Try.prog 38 [] (.c (.im (.bool true))) := by
  (refine contract_of_awp (L := L38) Try.func38 rfl (by kernel_rfl) (by first|rfl|decide) (by first|rfl|kernel_rfl) ?_;simp only [Try.ntmps38,initEnv,Env.keys,List.map_nil,List.map_cons,List.append_nil,List.cons_append,List.nil_append])
  (repeat (first|(refine sA ?_;try intro KR kR)|(with_reducible refine sD O38 ?_;intro KR kR;simp only [O38,ordl,seval])|(refine sB ?_;intro K hK;simp (disch := omega) only [go_sem,seval];(try ((with_reducible first|refine Gt ?_|refine Gb ?_|refine Gn ?_|refine Gs ?_|refine Gv rfl ?_);simp (disch := omega) only [go_sem,seval]));(repeat first|intro (xb : Blk)|intro (xk : Nat)|intro hx|refine pC ?_);refine hK _ ?_;clear K hK)|(refine sE ?_;simp only [go_sem,seval,L37,O37,L38,O38,L47,O47];refine kR _ ?_;clear KR kR)|(simp only [thenE,inB,seval])))
  (refine sB ?_;intro K hK;simp (disch := omega) only [go_sem,seval];(try ((with_reducible refine Gt ?_);simp (disch := omega) only [go_sem,seval]));refine cN ?_;simp (disch := omega) only [go_sem,seval];refine ⟨_,_,ContractH.n (Fork_ok l19 (0,2) (1,1) none none (by decide) (by decide) (by decide)),?_⟩;intro r H' hr hk;(try obtain rfl := keys_nil hk);(first|subst hr|(obtain ⟨_,rfl⟩ := hr)|(obtain ⟨_,_,rfl⟩ := hr)|(obtain ⟨_,_,_,rfl⟩ := hr));(try simp (disch := omega) only [AV.flat,AC.flat,AC.flat.flatL,AC.flat.flatLL,go_sem,seval]);(repeat first|intro (xb : Blk)|intro (xk : Nat)|intro hx|refine pC ?_);refine hK _ ?_;clear K hK)
  simp only [s19_f]
  (repeat (first|(refine sA ?_;try intro KR kR)|(with_reducible refine sD O38 ?_;intro KR kR;simp only [O38,ordl,seval])|(refine sB ?_;intro K hK;simp (disch := omega) only [go_sem,seval];(try ((with_reducible first|refine Gt ?_|refine Gb ?_|refine Gn ?_|refine Gs ?_|refine Gv rfl ?_);simp (disch := omega) only [go_sem,seval]));(repeat first|intro (xb : Blk)|intro (xk : Nat)|intro hx|refine pC ?_);refine hK _ ?_;clear K hK)|(refine sE ?_;simp only [go_sem,seval,L37,O37,L38,O38,L47,O47];refine kR _ ?_;clear KR kR)|(simp only [thenE,inB,seval])))
  (refine sB ?_;intro K hK;simp (disch := omega) only [go_sem,seval];(try ((with_reducible refine Gt ?_);simp (disch := omega) only [go_sem,seval]));refine cN ?_;simp (disch := omega) only [go_sem,seval];refine ⟨_,_,ContractH.n (withNil_ok),?_⟩;intro r H' hr hk;(try obtain rfl := keys_nil hk);(first|subst hr|(obtain ⟨_,rfl⟩ := hr)|(obtain ⟨_,_,rfl⟩ := hr)|(obtain ⟨_,_,_,rfl⟩ := hr));(try simp (disch := omega) only [AV.flat,AC.flat,AC.flat.flatL,AC.flat.flatLL,go_sem,seval]);(repeat first|intro (xb : Blk)|intro (xk : Nat)|intro hx|refine pC ?_);refine hK _ ?_;clear K hK)
  (repeat (first|(refine sA ?_;try intro KR kR)|(with_reducible refine sD O38 ?_;intro KR kR;simp only [O38,ordl,seval])|(refine sB ?_;intro K hK;simp (disch := omega) only [go_sem,seval];(try ((with_reducible first|refine Gt ?_|refine Gb ?_|refine Gn ?_|refine Gs ?_|refine Gv rfl ?_);simp (disch := omega) only [go_sem,seval]));(repeat first|intro (xb : Blk)|intro (xk : Nat)|intro hx|refine pC ?_);refine hK _ ?_;clear K hK)|(refine sE ?_;simp only [go_sem,seval,L37,O37,L38,O38,L47,O47];refine kR _ ?_;clear KR kR)|(simp only [thenE,inB,seval])))
  (refine sB ?_;intro K hK;simp (disch := omega) only [go_sem,seval];(try ((with_reducible refine Gt ?_);simp (disch := omega) only [go_sem,seval]));refine cN ?_;simp (disch := omega) only [go_sem,seval];refine ⟨_,_,ContractH.n (with_ok (withBF [] []) (withDF [] []) (by decide) (by decide) (by decide) (by decide)),?_⟩;intro r H' hr hk;(try obtain rfl := keys_nil hk);(first|subst hr|(obtain ⟨_,rfl⟩ := hr)|(obtain ⟨_,_,rfl⟩ := hr)|(obtain ⟨_,_,_,rfl⟩ := hr));(try simp (disch := omega) only [AV.flat,AC.flat,AC.flat.flatL,AC.flat.flatLL,go_sem,seval]);(repeat first|intro (xb : Blk)|intro (xk : Nat)|intro hx|refine pC ?_);refine hK _ ?_;clear K hK)
  rw [s19_b,s19_d]
  (repeat (first|(refine sA ?_;try intro KR kR)|(with_reducible refine sD O38 ?_;intro KR kR;simp only [O38,ordl,seval])|(refine sB ?_;intro K hK;simp (disch := omega) only [go_sem,seval];(try ((with_reducible first|refine Gt ?_|refine Gb ?_|refine Gn ?_|refine Gs ?_|refine Gv rfl ?_);simp (disch := omega) only [go_sem,seval]));(repeat first|intro (xb : Blk)|intro (xk : Nat)|intro hx|refine pC ?_);refine hK _ ?_;clear K hK)|(refine sE ?_;simp only [go_sem,seval,L37,O37,L38,O38,L47,O47];refine kR _ ?_;clear KR kR)|(simp only [thenE,inB,seval])))
  (refine sB ?_;intro K hK;simp (disch := omega) only [go_sem,seval];(try ((with_reducible refine Gt ?_);simp (disch := omega) only [go_sem,seval]));refine cN ?_;simp (disch := omega) only [go_sem,seval];refine ⟨_,_,ContractH.n (rkRight_ok xb xd 2 (by decide) (by decide) x_rows.1 x_rows.2),?_⟩;intro r H' hr hk;(try obtain rfl := keys_nil hk);(first|subst hr|(obtain ⟨_,rfl⟩ := hr)|(obtain ⟨_,_,rfl⟩ := hr)|(obtain ⟨_,_,_,rfl⟩ := hr));(try simp (disch := omega) only [AV.flat,AC.flat,AC.flat.flatL,AC.flat.flatLL,go_sem,seval]);(repeat first|intro (xb : Blk)|intro (xk : Nat)|intro hx|refine pC ?_);refine hK _ ?_;clear K hK)
  rw [show rkB xb xd 2 = true from s19_r2]
  (repeat (first|(refine sA ?_;try intro KR kR)|(with_reducible refine sD O38 ?_;intro KR kR;simp only [O38,ordl,seval])|(refine sB ?_;intro K hK;simp (disch := omega) only [go_sem,seval];(try ((with_reducible first|refine Gt ?_|refine Gb ?_|refine Gn ?_|refine Gs ?_|refine Gv rfl ?_);simp (disch := omega) only [go_sem,seval]));(repeat first|intro (xb : Blk)|intro (xk : Nat)|intro hx|refine pC ?_);refine hK _ ?_;clear K hK)|(refine sE ?_;simp only [go_sem,seval,L37,O37,L38,O38,L47,O47];refine kR _ ?_;clear KR kR)|(simp only [thenE,inB,seval])))
  (refine sB ?_;intro K hK;simp (disch := omega) only [go_sem,seval];(try ((with_reducible refine Gt ?_);simp (disch := omega) only [go_sem,seval]));refine cN ?_;simp (disch := omega) only [go_sem,seval];refine ⟨_,_,ContractH.n (rkRight_ok xb xd 1 (by decide) (by decide) x_rows.1 x_rows.2),?_⟩;intro r H' hr hk;(try obtain rfl := keys_nil hk);(first|subst hr|(obtain ⟨_,rfl⟩ := hr)|(obtain ⟨_,_,rfl⟩ := hr)|(obtain ⟨_,_,_,rfl⟩ := hr));(try simp (disch := omega) only [AV.flat,AC.flat,AC.flat.flatL,AC.flat.flatLL,go_sem,seval]);(repeat first|intro (xb : Blk)|intro (xk : Nat)|intro hx|refine pC ?_);refine hK _ ?_;clear K hK)
  rw [show rkB xb xd 1 = false from s19_r1]
  (repeat (first|(refine sA ?_;try intro KR kR)|(with_reducible refine sD O38 ?_;intro KR kR;simp only [O38,ordl,seval])|(refine sB ?_;intro K hK;simp (disch := omega) only [go_sem,seval];(try ((with_reducible first|refine Gt ?_|refine Gb ?_|refine Gn ?_|refine Gs ?_|refine Gv rfl ?_);simp (disch := omega) only [go_sem,seval]));(repeat first|intro (xb : Blk)|intro (xk : Nat)|intro hx|refine pC ?_);refine hK _ ?_;clear K hK)|(refine sE ?_;simp only [go_sem,seval,L37,O37,L38,O38,L47,O47];refine kR _ ?_;clear KR kR)|(simp only [thenE,inB,seval])))
  (refine sB ?_;intro K hK;simp (disch := omega) only [go_sem,seval];(try ((with_reducible refine Gt ?_);simp (disch := omega) only [go_sem,seval]));refine cN ?_;simp (disch := omega) only [go_sem,seval];refine ⟨_,_,ContractH.n (best_ok xb xd [1,0] (by decide) (by decide) (by decide) x_rows.1 x_rows.2),?_⟩;intro r H' hr hk;(try obtain rfl := keys_nil hk);(first|subst hr|(obtain ⟨_,rfl⟩ := hr)|(obtain ⟨_,_,rfl⟩ := hr)|(obtain ⟨_,_,_,rfl⟩ := hr));(try simp (disch := omega) only [AV.flat,AC.flat,AC.flat.flatL,AC.flat.flatLL,go_sem,seval]);(repeat first|intro (xb : Blk)|intro (xk : Nat)|intro hx|refine pC ?_);refine hK _ ?_;clear K hK)
  rw [show bestF xb xd [1,0] = 0 from s19_bs]
  (repeat (first|(refine sA ?_;try intro KR kR)|(with_reducible refine sD O38 ?_;intro KR kR;simp only [O38,ordl,seval])|(refine sB ?_;intro K hK;simp (disch := omega) only [go_sem,seval];(try ((with_reducible first|refine Gt ?_|refine Gb ?_|refine Gn ?_|refine Gs ?_|refine Gv rfl ?_);simp (disch := omega) only [go_sem,seval]));(repeat first|intro (xb : Blk)|intro (xk : Nat)|intro hx|refine pC ?_);refine hK _ ?_;clear K hK)|(refine sE ?_;simp only [go_sem,seval,L37,O37,L38,O38,L47,O47];refine kR _ ?_;clear KR kR)|(simp only [thenE,inB,seval])))
  ((with_reducible (first|refine Rb ?_ ?_|refine Rc ?_ ?_ ?_));all_goals (simp only [↓reduceIte,reduceCtorEq,Nat.reduceEqDiff]))
  all_goals (repeat (first|(refine sA ?_;try intro KR kR)|(with_reducible refine sD O38 ?_;intro KR kR;simp only [O38,ordl,seval])|(refine sB ?_;intro K hK;simp (disch := omega) only [go_sem,seval];(try ((with_reducible first|refine Gt ?_|refine Gb ?_|refine Gn ?_|refine Gs ?_|refine Gv rfl ?_);simp (disch := omega) only [go_sem,seval]));(repeat first|intro (xb : Blk)|intro (xk : Nat)|intro hx|refine pC ?_);refine hK _ ?_;clear K hK)|(refine sE ?_;simp only [go_sem,seval,L37,O37,L38,O38,L47,O47];refine kR _ ?_;clear KR kR)|(simp only [thenE,inB,seval])))
  all_goals (refine sB ?_;intro K hK;simp (disch := omega) only [go_sem,seval];(try ((with_reducible refine Gt ?_);simp (disch := omega) only [go_sem,seval]));refine cN ?_;simp (disch := omega) only [go_sem,seval];refine ⟨_,_,ContractH.n (pickC_ok xb xd [1,0] hz2 (by decide) (by decide) hz_t (by decide) (by decide) x_rows.1 x_rows.2),?_⟩;intro r H' hr hk;(try obtain rfl := keys_nil hk);(first|subst hr|(obtain ⟨_,rfl⟩ := hr)|(obtain ⟨_,_,rfl⟩ := hr)|(obtain ⟨_,_,_,rfl⟩ := hr));(try simp (disch := omega) only [AV.flat,AC.flat,AC.flat.flatL,AC.flat.flatLL,go_sem,seval]);(repeat first|intro (xb : Blk)|intro (xk : Nat)|intro hx|refine pC ?_);refine hK _ ?_;clear K hK)
  all_goals rw [show pickF xb xd [1,0] hz2 = 1 from s19_pk]
  all_goals (repeat (first|(refine sA ?_;try intro KR kR)|(with_reducible refine sD O38 ?_;intro KR kR;simp only [O38,ordl,seval])|(refine sB ?_;intro K hK;simp (disch := omega) only [go_sem,seval];(try ((with_reducible first|refine Gt ?_|refine Gb ?_|refine Gn ?_|refine Gs ?_|refine Gv rfl ?_);simp (disch := omega) only [go_sem,seval]));(repeat first|intro (xb : Blk)|intro (xk : Nat)|intro hx|refine pC ?_);refine hK _ ?_;clear K hK)|(refine sE ?_;simp only [go_sem,seval,L37,O37,L38,O38,L47,O47];refine kR _ ?_;clear KR kR)|(simp only [thenE,inB,seval])))
  all_goals (refine sB ?_;intro K hK;simp (disch := omega) only [go_sem,seval];(try ((with_reducible refine Gt ?_);simp (disch := omega) only [go_sem,seval]));refine cN ?_;simp (disch := omega) only [go_sem,seval];refine ⟨_,_,ContractH.n (same_ok xb xd xb xd (by decide) (by decide) x_rows.1 x_rows.2 (by decide) (by decide) x_rows.1 x_rows.2),?_⟩;intro r H' hr hk;(try obtain rfl := keys_nil hk);(first|subst hr|(obtain ⟨_,rfl⟩ := hr)|(obtain ⟨_,_,rfl⟩ := hr)|(obtain ⟨_,_,_,rfl⟩ := hr));(try simp (disch := omega) only [AV.flat,AC.flat,AC.flat.flatL,AC.flat.flatLL,go_sem,seval]);(repeat first|intro (xb : Blk)|intro (xk : Nat)|intro hx|refine pC ?_);refine hK _ ?_;clear K hK)
  all_goals (repeat (first|(refine sA ?_;try intro KR kR)|(with_reducible refine sD O38 ?_;intro KR kR;simp only [O38,ordl,seval])|(refine sB ?_;intro K hK;simp (disch := omega) only [go_sem,seval];(try ((with_reducible first|refine Gt ?_|refine Gb ?_|refine Gn ?_|refine Gs ?_|refine Gv rfl ?_);simp (disch := omega) only [go_sem,seval]));(repeat first|intro (xb : Blk)|intro (xk : Nat)|intro hx|refine pC ?_);refine hK _ ?_;clear K hK)|(refine sE ?_;simp only [go_sem,seval,L37,O37,L38,O38,L47,O47];refine kR _ ?_;clear KR kR)|(simp only [thenE,inB,seval])))
  all_goals (simp only [retQ,Try.results38];simp (disch := omega) only [resK,resT,resAV,Env.sel,Env.keys,List.map_nil,List.map_cons,List.all_nil,List.all_cons,AV.isS,Bool.not_false,Bool.and_self,Option.map_some,List.length_cons,List.length_nil,Nat.zero_add,Nat.reduceAdd,not_false_eq_true,true_and,and_true,ne_eq,go_sem,seval,ne_eq])
end Go.Proofs.Ytllemobnfpljfaa
