import Derived.Test.YtllemobnfpljfaaTrV
import Derived.Test.YtllemobnfpljfaaRankP
import Derived.Test.YtllemobnfpljfaaPlace
set_option linter.unusedSimpArgs false
set_option linter.unusedVariables false
set_option maxRecDepth 100000
set_option maxHeartbeats 8000000
namespace Go.Hs
open Go
theorem awp_ghkT {P : Program} {n : Nat} {S : Env} {L : Nat → Option (List Nat)} {Q : Exit → Env → Prop} {id : Nat} {l : Array Oper} {d : Bool} (x : Gh) (h : ∀ K : Env → Prop,(∀ S',awp P n L (.region id l d) Q S' → K S') → ghK S x K) : awp P n L (.region id l d) Q S := awp_gh x (h _ fun _ h => h)
end Go.Hs
namespace Go.Proofs.Ytllemobnfpljfaa
open Go Go.Hs
def L107 (r : Nat) : Option (List Nat) := kl r [(0,[0,1]),(1,[0,1,17]),(2,[4]),(3,[4])]
def O107 (r : Nat) : List Nat × OT := ordl r []
def L158 (r : Nat) : Option (List Nat) := kl r [(0,[0,1]),(1,[0,1,5]),(2,[0,1,5,9]),(3,[0,1,5]),(4,[0,1,5,18]),(5,[4]),(6,[4])]
def O158 (r : Nat) : List Nat × OT := ordl r []
def hQ (o : List Hq) : List (List AC) := o.map fun h => [.im (.int .i64 h.1),.im (.int .i64 h.2.1),.sl 1 (kRows .i64 h.2.2)]
theorem length_hQ {o : List Hq} : (hQ o).length = o.length := by simp [hQ]
theorem hqO_frz' : ∀ {R : List (Blk × Hq)},AC.frz.frzLL (hqO R) = hQ (R.map (·.2))
 | [] => rfl
 | x :: R => by
  have h := hqO_frz' (R := R)
  have h2 := kRows_frz (k := .i64) (l := x.2.2.2)
  unfold hqO hQ at h ⊢
  simp only [List.map_cons,AC.frz.frzLL,AC.frz.frzL,AC.frz,h,h2]
theorem hqO_frz {R : List (Blk × Hq)} : frzLL (hqO R) = hQ (R.map (·.2)) := by
 have := hqO_frz' (R := R)
 unfold frzLL
 rw [this]
theorem hQ_frz' : ∀ {o : List Hq},AC.frz.frzLL (hQ o) = hQ o
 | [] => rfl
 | x :: o => by
  have h := hQ_frz' (o := o)
  have h2 := kRows_frz (k := .i64) (l := x.2.2)
  unfold hQ at h ⊢
  simp only [List.map_cons,AC.frz.frzLL,AC.frz.frzL,AC.frz,h,h2]
theorem hQ_frz {o : List Hq} : frzLL (hQ o) = hQ o := by
 have := hQ_frz' (o := o)
 unfold frzLL
 rw [this]
theorem getQ0 {z : AC} {o : List Hq} {i : Nat} (h : i < o.length) : getC z (hQ o) i 0 = .im (.int .i64 (qAt o i).1) := by
 unfold getC qAt
 simp [hQ,List.getD_eq_getElem?_getD,h]
theorem getQ1 {z : AC} {o : List Hq} {i : Nat} (h : i < o.length) : getC z (hQ o) i 1 = .im (.int .i64 (qAt o i).2.1) := by
 unfold getC qAt
 simp [hQ,List.getD_eq_getElem?_getD,h]
theorem getQR {z : List AC} {o : List Hq} {i : Nat} (h : i < o.length) : getR z (hQ o) i 0 3 = [.im (.int .i64 (qAt o i).1),.im (.int .i64 (qAt o i).2.1),.sl 1 (kRows .i64 (qAt o i).2.2)] := by
 unfold getR qAt
 simp [hQ,List.getD_eq_getElem?_getD,h]
theorem known_iff {o : List Hq} {p : Int} : knownF o p = true ↔ ∃ i,i < o.length ∧ (qAt o i).1 = p := by
 unfold knownF
 rw [List.any_eq_true]
 constructor
 ·rintro ⟨x,hx,e⟩
  obtain ⟨i,hi,rfl⟩ := List.mem_iff_getElem.1 hx
  exact ⟨i,hi,by unfold qAt;rw [List.getD_eq_getElem?_getD,List.getElem?_eq_getElem hi];exact of_decide_eq_true e⟩
 ·rintro ⟨i,hi,e⟩
  exact ⟨_,qAt_mem hi,decide_eq_true e⟩
attribute [local go_sem] length_hqO hqO_flat takeHq hqO_frz length_hQ hQ_frz getQ0 getQ1 getQR Tm.cs binSet length_tRows tRows_ex tRows_frz getK getA getB getN getTm getSet
set_option maxRecDepth 100000 in
set_option maxHeartbeats 8000000 in
theorem known_ok (o : List Hq) (p : Int) (ho : o.length ≤ 1000000) : Contract Try.prog 158 [.c (.sl 3 (hQ o)),.c (.im (.int .i64 p))] (.c (.im (.bool (knownF o p)))) := by
 (refine contract_of_awp (L := L158) Try.func158 rfl (by kernel_rfl) (by first|rfl|decide) (by first|rfl|kernel_rfl) ?_;simp only [Try.ntmps158,initEnv,Env.keys,List.map_nil,List.map_cons,List.append_nil,List.cons_append,List.nil_append])
 (repeat (first|(refine sA ?_;try intro KR kR)|(with_reducible refine sD O158 ?_;intro KR kR;simp only [O158,ordl,seval])|(refine sB ?_;intro K hK;simp (disch := omega) only [go_sem,seval];(try ((with_reducible first|refine Gt ?_|refine gopO_f rfl ?_|refine Gv rfl ?_);simp (disch := omega) only [go_sem,seval]));(repeat first|intro (xb : Blk)|intro (xk : Nat)|intro hx|refine pC ?_);refine hK _ ?_;clear K hK)|(refine sE ?_;simp only [go_sem,seval,L107,O107,L158,O158];refine kR _ ?_;clear KR kR)|(simp only [thenE,inB,seval])))
 refine awp_loop [0,1,5] (fun m S => ∃ (i : Nat),i ≤ o.length ∧ m + i = o.length ∧ (∀ j,j < i → (qAt o j).1 ≠ p) ∧ S = [(0,.c (.sl 3 (hQ o))),(1,.c (.im (.int .i64 p))),(5,.c (.im (.int .i64 i)))]) o.length ⟨0,by omega,by omega,fun j hj => (by omega),rfl⟩ ?_
 rintro m S' ⟨i,hi,hm,hs,rfl⟩
 (repeat (first|(refine sA ?_;try intro KR kR)|(with_reducible refine sD O158 ?_;intro KR kR;simp only [O158,ordl,seval])|(refine sB ?_;intro K hK;simp (disch := omega) only [go_sem,seval];(try ((with_reducible first|refine Gt ?_|refine gopO_f rfl ?_|refine Gv rfl ?_);simp (disch := omega) only [go_sem,seval]));(repeat first|intro (xb : Blk)|intro (xk : Nat)|intro hx|refine pC ?_);refine hK _ ?_;clear K hK)|(refine sE ?_;simp only [go_sem,seval,L107,O107,L158,O158];refine kR _ ?_;clear KR kR)|(simp only [thenE,inB,seval])))
 ((with_reducible refine Ac ?_);intro K hK;simp (disch := omega) only [condK,go_sem,seval];refine hK _ ?_ ?_;all_goals clear K hK;all_goals intro hq;all_goals (try simp only [qF,reduceCtorEq] at hq);all_goals (try (exfalso;first|exact hq|omega)))
 ·have hi2 : i < o.length := by omega
  clear hq
  by_cases e : (qAt o i).1 = p
  ·(repeat' (first|(refine sA ?_;try intro KR kR)|(with_reducible refine sD O158 ?_;intro KR kR;simp only [O158,ordl,seval])|(refine sB ?_;intro K hK;simp (disch := omega) only [go_sem,seval];(try ((with_reducible first|refine Gt ?_|refine gopO_f rfl ?_|refine Gv rfl ?_);simp (disch := omega) only [go_sem,seval]));(repeat first|intro (xb : Blk)|intro (xk : Nat)|intro hx|refine pC ?_);refine hK _ ?_;clear K hK)|(refine sE ?_;simp only [go_sem,seval,L107,O107,L158,O158];refine kR _ ?_;clear KR kR)|(simp only [thenE,inB,seval])|((with_reducible refine Ac ?_);intro K hK;simp (disch := omega) only [condK,go_sem,seval];refine hK _ ?_ ?_;all_goals clear K hK;all_goals intro hq;all_goals (try simp only [qF,reduceCtorEq] at hq);all_goals (try (exfalso;first|exact hq|omega)))))
   (simp only [retQ,Try.results158];simp (disch := omega) only [resK,resT,resAV,Env.sel,Env.keys,List.map_nil,List.map_cons,List.all_nil,List.all_cons,AV.isS,Bool.not_false,Bool.and_self,Option.map_some,List.length_cons,List.length_nil,Nat.zero_add,Nat.reduceAdd,not_false_eq_true,true_and,and_true,ne_eq,go_sem,seval,ne_eq])
   rw [known_iff.2 ⟨i,hi2,e⟩]
  ·(repeat' (first|(refine sA ?_;try intro KR kR)|(with_reducible refine sD O158 ?_;intro KR kR;simp only [O158,ordl,seval])|(refine sB ?_;intro K hK;simp (disch := omega) only [go_sem,seval];(try ((with_reducible first|refine Gt ?_|refine gopO_f rfl ?_|refine Gv rfl ?_);simp (disch := omega) only [go_sem,seval]));(repeat first|intro (xb : Blk)|intro (xk : Nat)|intro hx|refine pC ?_);refine hK _ ?_;clear K hK)|(refine sE ?_;simp only [go_sem,seval,L107,O107,L158,O158];refine kR _ ?_;clear KR kR)|(simp only [thenE,inB,seval])|((with_reducible refine Ac ?_);intro K hK;simp (disch := omega) only [condK,go_sem,seval];refine hK _ ?_ ?_;all_goals clear K hK;all_goals intro hq;all_goals (try simp only [qF,reduceCtorEq] at hq);all_goals (try (exfalso;first|exact hq|omega)))))
   refine gh_no ⟨o.length - (i + 1),by omega,i + 1,by omega,by omega,fun j hj => ?_,?_⟩
   ·by_cases c : j = i
    ·subst c;exact e
    ·exact hs j (by omega)
   ·((try simp (disch := omega) only [List.cons.injEq,Prod.mk.injEq,AV.c.injEq,AV.agg.injEq,AV.opt.injEq,AV.tup.injEq,AV.row.injEq,AV.box.injEq,AV.mapo.injEq,AC.im.injEq,AC.sl.injEq,AC.adr.injEq,AC.ref.injEq,AC.ptr.injEq,AC.own.injEq,AC.fn.injEq,Value.int.injEq,Value.bool.injEq,Value.string.injEq,heq_eq_eq,go_sem,seval]);(try (repeat' refine And.intro ?_ ?_));all_goals (first|rfl|omega|skip))
 ·have e : i = o.length := by omega
  subst e
  (repeat (first|(refine sA ?_;try intro KR kR)|(with_reducible refine sD O158 ?_;intro KR kR;simp only [O158,ordl,seval])|(refine sB ?_;intro K hK;simp (disch := omega) only [go_sem,seval];(try ((with_reducible first|refine Gt ?_|refine gopO_f rfl ?_|refine Gv rfl ?_);simp (disch := omega) only [go_sem,seval]));(repeat first|intro (xb : Blk)|intro (xk : Nat)|intro hx|refine pC ?_);refine hK _ ?_;clear K hK)|(refine sE ?_;simp only [go_sem,seval,L107,O107,L158,O158];refine kR _ ?_;clear KR kR)|(simp only [thenE,inB,seval])))
  (simp only [retQ,Try.results158];simp (disch := omega) only [resK,resT,resAV,Env.sel,Env.keys,List.map_nil,List.map_cons,List.all_nil,List.all_cons,AV.isS,Bool.not_false,Bool.and_self,Option.map_some,List.length_cons,List.length_nil,Nat.zero_add,Nat.reduceAdd,not_false_eq_true,true_and,and_true,ne_eq,go_sem,seval,ne_eq])
  cases hk : knownF o p with
  | false => rfl
  | true =>
   obtain ⟨j,j1,j2⟩ := known_iff.1 hk
   exact absurd j2 (hs j j1)
set_option maxRecDepth 100000 in
set_option maxHeartbeats 8000000 in
theorem first_ok (l : List Tm) (hl : l.length ≤ 1000) : ContractR Try.prog 107 [.c (.sl 8 (tRows l)),.c (.im (.int .i64 ((l.length : Int) - 1)))] (fun r => ∃ b R,R.map (·.2) = rootF l ∧ r = .c (.own b 69 3 (hqO R))) := by
 have hrr := refRight_ok l hl
 have hix := refIndex_ok l hl
 have hca := refCan_ok l hl
 cases hr : rightF l with
 | false =>
  rw [hr] at hrr
  (refine contract_of_awp (L := L107) Try.func107 rfl (by kernel_rfl) (by first|rfl|decide) (by first|rfl|kernel_rfl) ?_;simp only [Try.ntmps107,initEnv,Env.keys,List.map_nil,List.map_cons,List.append_nil,List.cons_append,List.nil_append])
  (repeat (first|(refine sA ?_;try intro KR kR)|(with_reducible refine sD O107 ?_;intro KR kR;simp only [O107,ordl,seval])|(refine sB ?_;intro K hK;simp (disch := omega) only [go_sem,seval];(try ((with_reducible first|refine Gt ?_|refine gopO_f rfl ?_|refine Gv rfl ?_);simp (disch := omega) only [go_sem,seval]));(repeat first|intro (xb : Blk)|intro (xk : Nat)|intro hx|refine pC ?_);refine hK _ ?_;clear K hK)|(refine sE ?_;simp only [go_sem,seval,L107,O107,L158,O158];refine kR _ ?_;clear KR kR)|(simp only [thenE,inB,seval])))
  (refine sB ?_;intro K hK;simp (disch := omega) only [go_sem,seval];(try ((with_reducible refine Gt ?_);simp (disch := omega) only [go_sem,seval]));refine cN ?_;simp (disch := omega) only [go_sem,seval];refine ⟨_,_,ContractH.n (hrr),?_⟩;intro r H' hr hk;(try obtain rfl := keys_nil hk);(first|subst hr|(obtain ⟨_,rfl⟩ := hr)|(obtain ⟨_,_,rfl⟩ := hr)|(obtain ⟨_,_,_,rfl⟩ := hr));(try simp (disch := omega) only [AV.flat,AC.flat,AC.flat.flatL,AC.flat.flatLL,go_sem,seval]);(repeat first|intro (xb : Blk)|intro (xk : Nat)|intro hx|refine pC ?_);refine hK _ ?_;clear K hK)
  (repeat' (first|(refine sA ?_;try intro KR kR)|(with_reducible refine sD O107 ?_;intro KR kR;simp only [O107,ordl,seval])|(refine sB ?_;intro K hK;simp (disch := omega) only [go_sem,seval];(try ((with_reducible first|refine Gt ?_|refine gopO_f rfl ?_|refine Gv rfl ?_);simp (disch := omega) only [go_sem,seval]));(repeat first|intro (xb : Blk)|intro (xk : Nat)|intro hx|refine pC ?_);refine hK _ ?_;clear K hK)|(refine sE ?_;simp only [go_sem,seval,L107,O107,L158,O158];refine kR _ ?_;clear KR kR)|(simp only [thenE,inB,seval])|((with_reducible refine Ac ?_);intro K hK;simp (disch := omega) only [condK,go_sem,seval];refine hK _ ?_ ?_;all_goals clear K hK;all_goals intro hq;all_goals (try simp only [qF,reduceCtorEq] at hq);all_goals (try (exfalso;first|exact hq|omega)))))
  (simp only [retQ,Try.results107];simp (disch := omega) only [resK,resT,resAV,Env.sel,Env.keys,List.map_nil,List.map_cons,List.all_nil,List.all_cons,AV.isS,Bool.not_false,Bool.and_self,Option.map_some,List.length_cons,List.length_nil,Nat.zero_add,Nat.reduceAdd,not_false_eq_true,true_and,and_true,ne_eq,go_sem,seval,ne_eq])
  refine ⟨none,[],?_,rfl⟩
  rw [rootF,if_neg (by rw [hr];decide)];rfl
 | true =>
  rw [hr] at hrr
  have ht := term_of_right hr
  have hp := ht.pos
  have hin := into_ok l hr l.length (l.length - 1) ((l.length : Int) - 1) [] (by omega) (by omega) (by omega) (by have := ht.le;simp;omega)
  have hin2 : ContractR Try.prog 141 [.c (.sl 8 (tRows l)),.c (.sl 1 (kRows .i64 (indexF l))),.c (.sl 1 (boRows (canF l))),.c (.im (.int .i64 ((l.length : Int) - 1))),.c .nil] (fun r => ∃ b R,R.map (·.2) = rootF l ∧ r = .c (.own b 69 3 (hqO R))) :=
   ContractH.nilArg [.c (.sl 8 (tRows l)),.c (.sl 1 (kRows .i64 (indexF l))),.c (.sl 1 (boRows (canF l))),.c (.im (.int .i64 ((l.length : Int) - 1)))] (bs := []) (sz := 1) (by rw [rootF,if_pos hr];exact hin)
  (refine contract_of_awp (L := L107) Try.func107 rfl (by kernel_rfl) (by first|rfl|decide) (by first|rfl|kernel_rfl) ?_;simp only [Try.ntmps107,initEnv,Env.keys,List.map_nil,List.map_cons,List.append_nil,List.cons_append,List.nil_append])
  (repeat (first|(refine sA ?_;try intro KR kR)|(with_reducible refine sD O107 ?_;intro KR kR;simp only [O107,ordl,seval])|(refine sB ?_;intro K hK;simp (disch := omega) only [go_sem,seval];(try ((with_reducible first|refine Gt ?_|refine gopO_f rfl ?_|refine Gv rfl ?_);simp (disch := omega) only [go_sem,seval]));(repeat first|intro (xb : Blk)|intro (xk : Nat)|intro hx|refine pC ?_);refine hK _ ?_;clear K hK)|(refine sE ?_;simp only [go_sem,seval,L107,O107,L158,O158];refine kR _ ?_;clear KR kR)|(simp only [thenE,inB,seval])))
  (refine sB ?_;intro K hK;simp (disch := omega) only [go_sem,seval];(try ((with_reducible refine Gt ?_);simp (disch := omega) only [go_sem,seval]));refine cN ?_;simp (disch := omega) only [go_sem,seval];refine ⟨_,_,ContractH.n (hrr),?_⟩;intro r H' hr hk;(try obtain rfl := keys_nil hk);(first|subst hr|(obtain ⟨_,rfl⟩ := hr)|(obtain ⟨_,_,rfl⟩ := hr)|(obtain ⟨_,_,_,rfl⟩ := hr));(try simp (disch := omega) only [AV.flat,AC.flat,AC.flat.flatL,AC.flat.flatLL,go_sem,seval]);(repeat first|intro (xb : Blk)|intro (xk : Nat)|intro hx|refine pC ?_);refine hK _ ?_;clear K hK)
  (repeat (first|(refine sA ?_;try intro KR kR)|(with_reducible refine sD O107 ?_;intro KR kR;simp only [O107,ordl,seval])|(refine sB ?_;intro K hK;simp (disch := omega) only [go_sem,seval];(try ((with_reducible first|refine Gt ?_|refine gopO_f rfl ?_|refine Gv rfl ?_);simp (disch := omega) only [go_sem,seval]));(repeat first|intro (xb : Blk)|intro (xk : Nat)|intro hx|refine pC ?_);refine hK _ ?_;clear K hK)|(refine sE ?_;simp only [go_sem,seval,L107,O107,L158,O158];refine kR _ ?_;clear KR kR)|(simp only [thenE,inB,seval])))
  ((with_reducible refine Ac ?_);intro K hK;simp (disch := omega) only [condK,go_sem,seval];refine hK _ ?_ ?_;all_goals clear K hK;all_goals intro hq;all_goals (try simp only [qF,reduceCtorEq] at hq);all_goals (try (exfalso;first|exact hq|omega)))
  (repeat (first|(refine sA ?_;try intro KR kR)|(with_reducible refine sD O107 ?_;intro KR kR;simp only [O107,ordl,seval])|(refine sB ?_;intro K hK;simp (disch := omega) only [go_sem,seval];(try ((with_reducible first|refine Gt ?_|refine gopO_f rfl ?_|refine Gv rfl ?_);simp (disch := omega) only [go_sem,seval]));(repeat first|intro (xb : Blk)|intro (xk : Nat)|intro hx|refine pC ?_);refine hK _ ?_;clear K hK)|(refine sE ?_;simp only [go_sem,seval,L107,O107,L158,O158];refine kR _ ?_;clear KR kR)|(simp only [thenE,inB,seval])))
  (refine sB ?_;intro K hK;simp (disch := omega) only [go_sem,seval];(try ((with_reducible refine Gt ?_);simp (disch := omega) only [go_sem,seval]));refine cN ?_;simp (disch := omega) only [go_sem,seval];refine ⟨_,_,ContractH.n (hix),?_⟩;intro r H' hr hk;(try obtain rfl := keys_nil hk);(obtain ⟨b1,rfl⟩ := hr);(try simp (disch := omega) only [AV.flat,AC.flat,AC.flat.flatL,AC.flat.flatLL,go_sem,seval]);(repeat first|intro (xb : Blk)|intro (xk : Nat)|intro hx|refine pC ?_);refine hK _ ?_;clear K hK)
  (repeat (first|(refine sA ?_;try intro KR kR)|(with_reducible refine sD O107 ?_;intro KR kR;simp only [O107,ordl,seval])|(refine sB ?_;intro K hK;simp (disch := omega) only [go_sem,seval];(try ((with_reducible first|refine Gt ?_|refine gopO_f rfl ?_|refine Gv rfl ?_);simp (disch := omega) only [go_sem,seval]));(repeat first|intro (xb : Blk)|intro (xk : Nat)|intro hx|refine pC ?_);refine hK _ ?_;clear K hK)|(refine sE ?_;simp only [go_sem,seval,L107,O107,L158,O158];refine kR _ ?_;clear KR kR)|(simp only [thenE,inB,seval])))
  (refine sB ?_;intro K hK;simp (disch := omega) only [go_sem,seval];(try ((with_reducible refine Gt ?_);simp (disch := omega) only [go_sem,seval]));refine cN ?_;simp (disch := omega) only [go_sem,seval];refine ⟨_,_,ContractH.n (hca),?_⟩;intro r H' hr hk;(try obtain rfl := keys_nil hk);(obtain ⟨b2,rfl⟩ := hr);(try simp (disch := omega) only [AV.flat,AC.flat,AC.flat.flatL,AC.flat.flatLL,go_sem,seval]);(repeat first|intro (xb : Blk)|intro (xk : Nat)|intro hx|refine pC ?_);refine hK _ ?_;clear K hK)
  (repeat (first|(refine sA ?_;try intro KR kR)|(with_reducible refine sD O107 ?_;intro KR kR;simp only [O107,ordl,seval])|(refine sB ?_;intro K hK;simp (disch := omega) only [go_sem,seval];(try ((with_reducible first|refine Gt ?_|refine gopO_f rfl ?_|refine Gv rfl ?_);simp (disch := omega) only [go_sem,seval]));(repeat first|intro (xb : Blk)|intro (xk : Nat)|intro hx|refine pC ?_);refine hK _ ?_;clear K hK)|(refine sE ?_;simp only [go_sem,seval,L107,O107,L158,O158];refine kR _ ?_;clear KR kR)|(simp only [thenE,inB,seval])))
  (refine sB ?_;intro K hK;simp (disch := omega) only [go_sem,seval];(try ((with_reducible refine Gt ?_);simp (disch := omega) only [go_sem,seval]));refine cN ?_;simp (disch := omega) only [go_sem,seval];refine ⟨_,_,ContractH.n (hin2),?_⟩;intro r H' hr hk;(try obtain rfl := keys_nil hk);(obtain ⟨b3,R,hR,rfl⟩ := hr);(try simp (disch := omega) only [AV.flat,AC.flat,AC.flat.flatL,AC.flat.flatLL,go_sem,seval]);(repeat first|intro (xb : Blk)|intro (xk : Nat)|intro hx|refine pC ?_);refine hK _ ?_;clear K hK)
  (repeat (first|(refine sA ?_;try intro KR kR)|(with_reducible refine sD O107 ?_;intro KR kR;simp only [O107,ordl,seval])|(refine sB ?_;intro K hK;simp (disch := omega) only [go_sem,seval];(try ((with_reducible first|refine Gt ?_|refine gopO_f rfl ?_|refine Gv rfl ?_);simp (disch := omega) only [go_sem,seval]));(repeat first|intro (xb : Blk)|intro (xk : Nat)|intro hx|refine pC ?_);refine hK _ ?_;clear K hK)|(refine sE ?_;simp only [go_sem,seval,L107,O107,L158,O158];refine kR _ ?_;clear KR kR)|(simp only [thenE,inB,seval])))
  (simp only [retQ,Try.results107];simp (disch := omega) only [resK,resT,resAV,Env.sel,Env.keys,List.map_nil,List.map_cons,List.all_nil,List.all_cons,AV.isS,Bool.not_false,Bool.and_self,Option.map_some,List.length_cons,List.length_nil,Nat.zero_add,Nat.reduceAdd,not_false_eq_true,true_and,and_true,ne_eq,go_sem,seval,ne_eq])
  exact ⟨b3,R,hR,rfl⟩
end Go.Proofs.Ytllemobnfpljfaa
