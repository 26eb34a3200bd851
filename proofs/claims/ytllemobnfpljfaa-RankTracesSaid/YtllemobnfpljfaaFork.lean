import Derived.Test.YtllemobnfpljfaaNextP
import Derived.Test.YtllemobnfpljfaaJoin
import Derived.Test.YtllemobnfpljfaaPlace
set_option linter.unusedSimpArgs false
set_option linter.unusedVariables false
set_option maxRecDepth 100000
set_option maxHeartbeats 8000000
namespace Go.Proofs.Ytllemobnfpljfaa
open Go Go.Hs
def L48 (r : Nat) : Option (List Nat) := kl r [(0,[0,4,5]),(1,[0,4,5,9]),(2,[0,4,5,9,10]),(3,[0,4,5,9,19]),(4,[6,7,8]),(5,[0,4,5,9,37]),(6,[6,7,8]),(7,[0,4,5,9,49]),(8,[6,7,8]),(9,[0,4,5,9,61]),(10,[11,12]),(11,[6,7,8]),(12,[0,14]),(13,[0,14,15]),(14,[15,100]),(15,[6,7,8]),(16,[6,7,8])]
def O48 (r : Nat) : List Nat × OT := ordl r [(6,([],.val 0 (.val 3 (.load 1 (.val 2 (.val 6 (.load 4 (.val 5 (.val 7 (.val 8 (.done))))))))))),(8,([],.val 0 (.val 3 (.load 1 (.val 2 (.val 6 (.load 4 (.val 5 (.val 7 (.val 8 (.done))))))))))),(12,([],.val 0 (.val 2 (.val 7 (.load 1 (.load 3 (.val 4 (.load 5 (.load 6 (.load 8 (.val 9 (.load 10 (.grow 11 (.val 12 (.done)))))))))))))))]
def L94 (r : Nat) : Option (List Nat) := kl r [(0,[1,2]),(1,[3])]
def O94 (r : Nat) : List Nat × OT := ordl r []
theorem fork_facts {l : List Tm} {a c : Int} (ha : inP l a = true) (hc : inP l c = true) : 0 ≤ a ∧ a < (placesF l).length ∧ 0 ≤ c ∧ c < (placesF l).length ∧ 0 ≤ forkQ l a c ∧ forkQ l a c < l.length ∧ (deepF l).length = l.length ∧ 1 ≤ forkD l a c ∧ forkD l a c ≤ l.length + 1 := by
  have hr : rightF l = true := by
    cases e : rightF l with
    | true => rfl
    | false => simp [inP,placesF_not e] at ha;omega
  have h1 : 0 ≤ a ∧ a < (placesF l).length := by simpa [inP] using ha
  have h2 : 0 ≤ c ∧ c < (placesF l).length := by simpa [inP] using hc
  obtain ⟨q1,g1,g2,_⟩ := placesF_get hr (p := a.toNat) (by omega)
  obtain ⟨q2,g3,g4,_⟩ := placesF_get hr (p := c.toNat) (by omega)
  obtain ⟨q,k1,k2,_⟩ := join_some hr (a := q1) (b := q2) (by omega) (by omega) (by omega) (by omega)
  have e : forkQ l a c = q := by rw [forkQ,g2,g4,k2]
  have hd := deepF_length (l := l)
  rw [if_pos hr] at hd
  have hs := deepS_le (up := upF l) (upF l).length q
  have hu := upF_length (l := l)
  rw [if_pos hr] at hu
  refine ⟨h1.1,h1.2,h2.1,h2.2,by omega,by omega,hd,?_,?_⟩
  · unfold forkD;rw [e,Int.toNat_natCast,deepF];omega
  · unfold forkD;rw [e,Int.toNat_natCast,deepF];omega
attribute [local go_sem] Tm.cs binSet length_tRows tRows_ex tRows_frz getK getA getB getN getTm getSet
theorem inC_ok (l : List Tm) (x : Int × Int) (k : Nat) (b : Blk) :
    ContractH Try.prog 94 [.agg [.im (.int .i64 x.1),.im (.int .i64 x.2),.dead],.c (.ptr 1009 [] k 1 0 0)] [(1009,.box k 25 [.own b 3 1 (kRows .i64 (placesF l))])]
      (fun r H => r = .c (.im (.bool (inP l x.1))) ∧ H = [(1009,.box k 25 [.own b 3 1 (kRows .i64 (placesF l))])]) := by
  have hp := placesF_length (l := l)
  (refine contract_of_awp (L := L94) Try.func94 rfl (by kernel_rfl) (by first|rfl|decide) (by first|rfl|kernel_rfl) ?_;simp only [Try.ntmps94,initEnv,Env.keys,List.map_nil,List.map_cons,List.append_nil,List.cons_append,List.nil_append])
  (repeat (first|(refine sA ?_;try intro KR kR)|(with_reducible refine sD O94 ?_;intro KR kR;simp only [O94,ordl,seval])|(refine sB ?_;intro K hK;simp (disch := omega) only [go_sem,seval];(try ((with_reducible first|refine Gt ?_|refine gopO_f rfl ?_|refine Gv rfl ?_);simp (disch := omega) only [go_sem,seval]));(repeat first|intro (xb : Blk)|intro (xk : Nat)|intro hx|refine pC ?_);refine hK _ ?_;clear K hK)|(refine sE ?_;simp only [go_sem,seval,L48,O48,L94,O94];refine kR _ ?_;clear KR kR)|(simp only [thenE,inB,seval])))
  (simp only [retQ,Try.results94];simp (disch := omega) only [resK,resT,resAV,Env.sel,Env.keys,List.map_nil,List.map_cons,List.all_nil,List.all_cons,AV.isS,Bool.not_false,Bool.and_self,Option.map_some,List.length_cons,List.length_nil,Nat.zero_add,Nat.reduceAdd,not_false_eq_true,true_and,and_true,ne_eq,go_sem,seval,ne_eq])
  rfl
set_option maxRecDepth 20000 in
set_option maxHeartbeats 4000000 in
theorem fork_aux (l : List Tm) (hl : l.length ≤ 1000) : ∀ (n : Nat) (x y : Int × Int),(y.1 < x.1 → 0 < n) → -1000000 ≤ x.2 ∧ x.2 ≤ 1000000 → -1000000 ≤ y.2 ∧ y.2 ≤ 1000000 →
    Contract Try.prog 48 [.c (.sl 8 (tRows l)),.agg [.im (.int .i64 x.1),.im (.int .i64 x.2),.dead],.agg [.im (.int .i64 y.1),.im (.int .i64 y.2),.dead]]
      (.tup [.c (.im (.int .i64 (forkF l x y).1)),.c (.im (.int .i64 (forkF l x y).2.1)),.c (.im (.int .i64 (forkF l x y).2.2))]) := by
  intro n
  induction n using Nat.strongRecOn with
  | _ n ih =>
    intro x y hn hx2 hy2
    have hp := placesF_length (l := l)
    (refine contract_of_awp (L := L48) Try.func48 rfl (by kernel_rfl) (by first|rfl|decide) (by first|rfl|kernel_rfl) ?_;simp only [Try.ntmps48,initEnv,Env.keys,List.map_nil,List.map_cons,List.append_nil,List.cons_append,List.nil_append])
    (repeat (first|(refine sA ?_;try intro KR kR)|(with_reducible refine sD O48 ?_;intro KR kR;simp only [O48,ordl,seval])|(refine sB ?_;intro K hK;simp (disch := omega) only [go_sem,seval];(try ((with_reducible first|refine Gt ?_|refine gopO_f rfl ?_|refine Gv rfl ?_);simp (disch := omega) only [go_sem,seval]));(repeat first|intro (xb : Blk)|intro (xk : Nat)|intro hx|refine pC ?_);refine hK _ ?_;clear K hK)|(refine sE ?_;simp only [go_sem,seval,L48,O48,L94,O94];refine kR _ ?_;clear KR kR)|(simp only [thenE,inB,seval])))
    (refine sB ?_;intro K hK;simp (disch := omega) only [go_sem,seval];(try ((with_reducible refine Gt ?_);simp (disch := omega) only [go_sem,seval]));refine cN ?_;simp (disch := omega) only [go_sem,seval];refine ⟨_,_,ContractH.n (Leaves_ok l),?_⟩;intro r H' hr hk;(try obtain rfl := keys_nil hk);(obtain ⟨b1,rfl⟩ := hr);(try simp (disch := omega) only [AV.flat,AC.flat,AC.flat.flatL,AC.flat.flatLL,go_sem,seval]);(repeat first|intro (xb : Blk)|intro (xk : Nat)|intro hx|refine pC ?_);refine hK _ ?_;clear K hK)
    (repeat (first|(refine sA ?_;try intro KR kR)|(with_reducible refine sD O48 ?_;intro KR kR;simp only [O48,ordl,seval])|(refine sB ?_;intro K hK;simp (disch := omega) only [go_sem,seval];(try ((with_reducible first|refine Gt ?_|refine gopO_f rfl ?_|refine Gv rfl ?_);simp (disch := omega) only [go_sem,seval]));(repeat first|intro (xb : Blk)|intro (xk : Nat)|intro hx|refine pC ?_);refine hK _ ?_;clear K hK)|(refine sE ?_;simp only [go_sem,seval,L48,O48,L94,O94];refine kR _ ?_;clear KR kR)|(simp only [thenE,inB,seval])))
    (refine sB ?_;intro K hK;simp (disch := omega) only [go_sem,seval];(try ((with_reducible refine Gt ?_);simp (disch := omega) only [go_sem,seval]));refine ⟨[1009],by simp,by simp [Env.sel,Env.get,Env.keys,AV.isS],?_⟩;simp (disch := omega) only [go_sem,seval];refine ⟨_,_,ContractH.n (inC_ok l x _ _),?_⟩;intro r H' hr hk;(try obtain rfl := keys_nil hk);(obtain ⟨rfl,rfl⟩ := hr);(try simp (disch := omega) only [AV.flat,AC.flat,AC.flat.flatL,AC.flat.flatLL,go_sem,seval]);(repeat first|intro (xb : Blk)|intro (xk : Nat)|intro hx|refine pC ?_);refine hK _ ?_;clear K hK)
    cases ax : inP l x.1 with
    | false =>
      have e : forkF l x y = (0,0,0) := by
        unfold forkF;rw [if_pos];rintro ⟨h,_⟩;rw [ax] at h;cases h
      (repeat (first|(refine sA ?_;try intro KR kR)|(with_reducible refine sD O48 ?_;intro KR kR;simp only [O48,ordl,seval])|(refine sB ?_;intro K hK;simp (disch := omega) only [go_sem,seval];(try ((with_reducible first|refine Gt ?_|refine gopO_f rfl ?_|refine Gv rfl ?_);simp (disch := omega) only [go_sem,seval]));(repeat first|intro (xb : Blk)|intro (xk : Nat)|intro hx|refine pC ?_);refine hK _ ?_;clear K hK)|(refine sE ?_;simp only [go_sem,seval,L48,O48,L94,O94];refine kR _ ?_;clear KR kR)|(simp only [thenE,inB,seval])))
      ((with_reducible refine Ac ?_);intro K hK;simp (disch := omega) only [condK,go_sem,seval];refine hK _ ?_ ?_;all_goals clear K hK;all_goals intro hq;all_goals (try simp only [qF,reduceCtorEq] at hq);all_goals (try (exfalso;first|exact hq|omega)))
      (repeat (first|(refine sA ?_;try intro KR kR)|(with_reducible refine sD O48 ?_;intro KR kR;simp only [O48,ordl,seval])|(refine sB ?_;intro K hK;simp (disch := omega) only [go_sem,seval];(try ((with_reducible first|refine Gt ?_|refine gopO_f rfl ?_|refine Gv rfl ?_);simp (disch := omega) only [go_sem,seval]));(repeat first|intro (xb : Blk)|intro (xk : Nat)|intro hx|refine pC ?_);refine hK _ ?_;clear K hK)|(refine sE ?_;simp only [go_sem,seval,L48,O48,L94,O94];refine kR _ ?_;clear KR kR)|(simp only [thenE,inB,seval])))
      (simp only [retQ,Try.results48];simp (disch := omega) only [resK,resT,resAV,Env.sel,Env.keys,List.map_nil,List.map_cons,List.all_nil,List.all_cons,AV.isS,Bool.not_false,Bool.and_self,Option.map_some,List.length_cons,List.length_nil,Nat.zero_add,Nat.reduceAdd,not_false_eq_true,true_and,and_true,ne_eq,go_sem,seval,ne_eq])
      rw [e]
    | true =>
      (repeat (first|(refine sA ?_;try intro KR kR)|(with_reducible refine sD O48 ?_;intro KR kR;simp only [O48,ordl,seval])|(refine sB ?_;intro K hK;simp (disch := omega) only [go_sem,seval];(try ((with_reducible first|refine Gt ?_|refine gopO_f rfl ?_|refine Gv rfl ?_);simp (disch := omega) only [go_sem,seval]));(repeat first|intro (xb : Blk)|intro (xk : Nat)|intro hx|refine pC ?_);refine hK _ ?_;clear K hK)|(refine sE ?_;simp only [go_sem,seval,L48,O48,L94,O94];refine kR _ ?_;clear KR kR)|(simp only [thenE,inB,seval])))
      (refine sB ?_;intro K hK;simp (disch := omega) only [go_sem,seval];(try ((with_reducible refine Gt ?_);simp (disch := omega) only [go_sem,seval]));refine ⟨[1009],by simp,by simp [Env.sel,Env.get,Env.keys,AV.isS],?_⟩;simp (disch := omega) only [go_sem,seval];refine ⟨_,_,ContractH.n (inC_ok l y _ _),?_⟩;intro r H' hr hk;(try obtain rfl := keys_nil hk);(obtain ⟨rfl,rfl⟩ := hr);(try simp (disch := omega) only [AV.flat,AC.flat,AC.flat.flatL,AC.flat.flatLL,go_sem,seval]);(repeat first|intro (xb : Blk)|intro (xk : Nat)|intro hx|refine pC ?_);refine hK _ ?_;clear K hK)
      cases ay : inP l y.1 with
      | false =>
        have e : forkF l x y = (0,0,0) := by
          unfold forkF;rw [if_pos];rintro ⟨_,h,_⟩;rw [ay] at h;cases h
        (repeat (first|(refine sA ?_;try intro KR kR)|(with_reducible refine sD O48 ?_;intro KR kR;simp only [O48,ordl,seval])|(refine sB ?_;intro K hK;simp (disch := omega) only [go_sem,seval];(try ((with_reducible first|refine Gt ?_|refine gopO_f rfl ?_|refine Gv rfl ?_);simp (disch := omega) only [go_sem,seval]));(repeat first|intro (xb : Blk)|intro (xk : Nat)|intro hx|refine pC ?_);refine hK _ ?_;clear K hK)|(refine sE ?_;simp only [go_sem,seval,L48,O48,L94,O94];refine kR _ ?_;clear KR kR)|(simp only [thenE,inB,seval])))
        ((with_reducible refine Ac ?_);intro K hK;simp (disch := omega) only [condK,go_sem,seval];refine hK _ ?_ ?_;all_goals clear K hK;all_goals intro hq;all_goals (try simp only [qF,reduceCtorEq] at hq);all_goals (try (exfalso;first|exact hq|omega)))
        (repeat (first|(refine sA ?_;try intro KR kR)|(with_reducible refine sD O48 ?_;intro KR kR;simp only [O48,ordl,seval])|(refine sB ?_;intro K hK;simp (disch := omega) only [go_sem,seval];(try ((with_reducible first|refine Gt ?_|refine gopO_f rfl ?_|refine Gv rfl ?_);simp (disch := omega) only [go_sem,seval]));(repeat first|intro (xb : Blk)|intro (xk : Nat)|intro hx|refine pC ?_);refine hK _ ?_;clear K hK)|(refine sE ?_;simp only [go_sem,seval,L48,O48,L94,O94];refine kR _ ?_;clear KR kR)|(simp only [thenE,inB,seval])))
        (simp only [retQ,Try.results48];simp (disch := omega) only [resK,resT,resAV,Env.sel,Env.keys,List.map_nil,List.map_cons,List.all_nil,List.all_cons,AV.isS,Bool.not_false,Bool.and_self,Option.map_some,List.length_cons,List.length_nil,Nat.zero_add,Nat.reduceAdd,not_false_eq_true,true_and,and_true,ne_eq,go_sem,seval,ne_eq])
        rw [e]
      | true =>
        obtain ⟨g1,g2,g3,g4,g5,g6,g7,g8,g9⟩ := fork_facts ax ay
        (repeat (first|(refine sA ?_;try intro KR kR)|(with_reducible refine sD O48 ?_;intro KR kR;simp only [O48,ordl,seval])|(refine sB ?_;intro K hK;simp (disch := omega) only [go_sem,seval];(try ((with_reducible first|refine Gt ?_|refine gopO_f rfl ?_|refine Gv rfl ?_);simp (disch := omega) only [go_sem,seval]));(repeat first|intro (xb : Blk)|intro (xk : Nat)|intro hx|refine pC ?_);refine hK _ ?_;clear K hK)|(refine sE ?_;simp only [go_sem,seval,L48,O48,L94,O94];refine kR _ ?_;clear KR kR)|(simp only [thenE,inB,seval])))
        ((with_reducible refine Ac ?_);intro K hK;simp (disch := omega) only [condK,go_sem,seval];refine hK _ ?_ ?_;all_goals clear K hK;all_goals intro hq;all_goals (try simp only [qF,reduceCtorEq] at hq);all_goals (try (exfalso;first|exact hq|omega)))
        · have e : forkF l x y = (0,0,0) := by
            unfold forkF;rw [if_pos];rintro ⟨_,_,h⟩;exact h hq
          (repeat (first|(refine sA ?_;try intro KR kR)|(with_reducible refine sD O48 ?_;intro KR kR;simp only [O48,ordl,seval])|(refine sB ?_;intro K hK;simp (disch := omega) only [go_sem,seval];(try ((with_reducible first|refine Gt ?_|refine gopO_f rfl ?_|refine Gv rfl ?_);simp (disch := omega) only [go_sem,seval]));(repeat first|intro (xb : Blk)|intro (xk : Nat)|intro hx|refine pC ?_);refine hK _ ?_;clear K hK)|(refine sE ?_;simp only [go_sem,seval,L48,O48,L94,O94];refine kR _ ?_;clear KR kR)|(simp only [thenE,inB,seval])))
          (simp only [retQ,Try.results48];simp (disch := omega) only [resK,resT,resAV,Env.sel,Env.keys,List.map_nil,List.map_cons,List.all_nil,List.all_cons,AV.isS,Bool.not_false,Bool.and_self,Option.map_some,List.length_cons,List.length_nil,Nat.zero_add,Nat.reduceAdd,not_false_eq_true,true_and,and_true,ne_eq,go_sem,seval,ne_eq])
          rw [e]
        · have hne : ¬¬(inP l x.1 = true ∧ inP l y.1 = true ∧ x.1 ≠ y.1) := not_not_intro ⟨ax,ay,hq⟩
          have hne2 := hq
          (repeat (first|(refine sA ?_;try intro KR kR)|(with_reducible refine sD O48 ?_;intro KR kR;simp only [O48,ordl,seval])|(refine sB ?_;intro K hK;simp (disch := omega) only [go_sem,seval];(try ((with_reducible first|refine Gt ?_|refine gopO_f rfl ?_|refine Gv rfl ?_);simp (disch := omega) only [go_sem,seval]));(repeat first|intro (xb : Blk)|intro (xk : Nat)|intro hx|refine pC ?_);refine hK _ ?_;clear K hK)|(refine sE ?_;simp only [go_sem,seval,L48,O48,L94,O94];refine kR _ ?_;clear KR kR)|(simp only [thenE,inB,seval])))
          ((with_reducible refine Ac ?_);intro K hK;simp (disch := omega) only [condK,go_sem,seval];refine hK _ ?_ ?_;all_goals clear K hK;all_goals intro hq;all_goals (try simp only [qF,reduceCtorEq] at hq);all_goals (try (exfalso;first|exact hq|omega)))
          · have e : forkF l x y = (x.2 + 1,y.2 + 1,1) := by
              unfold forkF;rw [if_neg hne,if_pos hq]
            (repeat (first|(refine sA ?_;try intro KR kR)|(with_reducible refine sD O48 ?_;intro KR kR;simp only [O48,ordl,seval])|(refine sB ?_;intro K hK;simp (disch := omega) only [go_sem,seval];(try ((with_reducible first|refine Gt ?_|refine gopO_f rfl ?_|refine Gv rfl ?_);simp (disch := omega) only [go_sem,seval]));(repeat first|intro (xb : Blk)|intro (xk : Nat)|intro hx|refine pC ?_);refine hK _ ?_;clear K hK)|(refine sE ?_;simp only [go_sem,seval,L48,O48,L94,O94];refine kR _ ?_;clear KR kR)|(simp only [thenE,inB,seval])))
            (simp only [retQ,Try.results48];simp (disch := omega) only [resK,resT,resAV,Env.sel,Env.keys,List.map_nil,List.map_cons,List.all_nil,List.all_cons,AV.isS,Bool.not_false,Bool.and_self,Option.map_some,List.length_cons,List.length_nil,Nat.zero_add,Nat.reduceAdd,not_false_eq_true,true_and,and_true,ne_eq,go_sem,seval,ne_eq])
            rw [e]
          · have q1 := hq
            (repeat (first|(refine sA ?_;try intro KR kR)|(with_reducible refine sD O48 ?_;intro KR kR;simp only [O48,ordl,seval])|(refine sB ?_;intro K hK;simp (disch := omega) only [go_sem,seval];(try ((with_reducible first|refine Gt ?_|refine gopO_f rfl ?_|refine Gv rfl ?_);simp (disch := omega) only [go_sem,seval]));(repeat first|intro (xb : Blk)|intro (xk : Nat)|intro hx|refine pC ?_);refine hK _ ?_;clear K hK)|(refine sE ?_;simp only [go_sem,seval,L48,O48,L94,O94];refine kR _ ?_;clear KR kR)|(simp only [thenE,inB,seval])))
            ((with_reducible refine Ac ?_);intro K hK;simp (disch := omega) only [condK,go_sem,seval];refine hK _ ?_ ?_;all_goals clear K hK;all_goals intro hq;all_goals (try simp only [qF,reduceCtorEq] at hq);all_goals (try (exfalso;first|exact hq|omega)))
            · have e : forkF l x y = (x.2 + 1,y.2 + 1,-1) := by
                unfold forkF;rw [if_neg hne,if_neg q1,if_pos hq]
              (repeat (first|(refine sA ?_;try intro KR kR)|(with_reducible refine sD O48 ?_;intro KR kR;simp only [O48,ordl,seval])|(refine sB ?_;intro K hK;simp (disch := omega) only [go_sem,seval];(try ((with_reducible first|refine Gt ?_|refine gopO_f rfl ?_|refine Gv rfl ?_);simp (disch := omega) only [go_sem,seval]));(repeat first|intro (xb : Blk)|intro (xk : Nat)|intro hx|refine pC ?_);refine hK _ ?_;clear K hK)|(refine sE ?_;simp only [go_sem,seval,L48,O48,L94,O94];refine kR _ ?_;clear KR kR)|(simp only [thenE,inB,seval])))
              (simp only [retQ,Try.results48];simp (disch := omega) only [resK,resT,resAV,Env.sel,Env.keys,List.map_nil,List.map_cons,List.all_nil,List.all_cons,AV.isS,Bool.not_false,Bool.and_self,Option.map_some,List.length_cons,List.length_nil,Nat.zero_add,Nat.reduceAdd,not_false_eq_true,true_and,and_true,ne_eq,go_sem,seval,ne_eq])
              rw [e]
            · have q2 := hq
              (repeat (first|(refine sA ?_;try intro KR kR)|(with_reducible refine sD O48 ?_;intro KR kR;simp only [O48,ordl,seval])|(refine sB ?_;intro K hK;simp (disch := omega) only [go_sem,seval];(try ((with_reducible first|refine Gt ?_|refine gopO_f rfl ?_|refine Gv rfl ?_);simp (disch := omega) only [go_sem,seval]));(repeat first|intro (xb : Blk)|intro (xk : Nat)|intro hx|refine pC ?_);refine hK _ ?_;clear K hK)|(refine sE ?_;simp only [go_sem,seval,L48,O48,L94,O94];refine kR _ ?_;clear KR kR)|(simp only [thenE,inB,seval])))
              ((with_reducible refine Ac ?_);intro K hK;simp (disch := omega) only [condK,go_sem,seval];refine hK _ ?_ ?_;all_goals clear K hK;all_goals intro hq;all_goals (try simp only [qF,reduceCtorEq] at hq);all_goals (try (exfalso;first|exact hq|omega)))
              · (repeat (first|(refine sA ?_;try intro KR kR)|(with_reducible refine sD O48 ?_;intro KR kR;simp only [O48,ordl,seval])|(refine sB ?_;intro K hK;simp (disch := omega) only [go_sem,seval];(try ((with_reducible first|refine Gt ?_|refine gopO_f rfl ?_|refine Gv rfl ?_);simp (disch := omega) only [go_sem,seval]));(repeat first|intro (xb : Blk)|intro (xk : Nat)|intro hx|refine pC ?_);refine hK _ ?_;clear K hK)|(refine sE ?_;simp only [go_sem,seval,L48,O48,L94,O94];refine kR _ ?_;clear KR kR)|(simp only [thenE,inB,seval])))
                (refine sB ?_;intro K hK;simp (disch := omega) only [go_sem,seval];(try ((with_reducible refine Gt ?_);simp (disch := omega) only [go_sem,seval]));refine cN ?_;simp (disch := omega) only [go_sem,seval];refine ⟨_,_,ContractH.n (ih 0 (hn hq) y x (fun h => by omega) hy2 hx2),?_⟩;intro r H' hr hk;(try obtain rfl := keys_nil hk);(first|subst hr|(obtain ⟨_,rfl⟩ := hr)|(obtain ⟨_,_,rfl⟩ := hr)|(obtain ⟨_,_,_,rfl⟩ := hr));(try simp (disch := omega) only [AV.flat,AC.flat,AC.flat.flatL,AC.flat.flatLL,go_sem,seval]);(repeat first|intro (xb : Blk)|intro (xk : Nat)|intro hx|refine pC ?_);refine hK _ ?_;clear K hK)
                have e := fork_swap (l := l) (x := y) (y := x)
                have e2 : (forkF l x y).2.2 = -1 := by
                  unfold forkF;rw [if_neg hne,if_neg q1,if_neg q2,if_pos hq]
                (repeat (first|(refine sA ?_;try intro KR kR)|(with_reducible refine sD O48 ?_;intro KR kR;simp only [O48,ordl,seval])|(refine sB ?_;intro K hK;simp (disch := omega) only [go_sem,seval];(try ((with_reducible first|refine Gt ?_|refine gopO_f rfl ?_|refine Gv rfl ?_);simp (disch := omega) only [go_sem,seval]));(repeat first|intro (xb : Blk)|intro (xk : Nat)|intro hx|refine pC ?_);refine hK _ ?_;clear K hK)|(refine sE ?_;simp only [go_sem,seval,L48,O48,L94,O94];refine kR _ ?_;clear KR kR)|(simp only [thenE,inB,seval])))
                (simp only [retQ,Try.results48];simp (disch := omega) only [resK,resT,resAV,Env.sel,Env.keys,List.map_nil,List.map_cons,List.all_nil,List.all_cons,AV.isS,Bool.not_false,Bool.and_self,Option.map_some,List.length_cons,List.length_nil,Nat.zero_add,Nat.reduceAdd,not_false_eq_true,true_and,and_true,ne_eq,go_sem,seval,ne_eq])
                rw [e2,e]
              · have q3 := hq
                have gj : joinF2 l ((placesF l).getD x.1.toNat 0) ((placesF l).getD y.1.toNat 0) = forkQ l x.1 y.1 := rfl
                have gd : (deepF l).getD (forkQ l x.1 y.1).toNat 0 = forkD l x.1 y.1 - 1 := by unfold forkD;omega
                (repeat (first|(refine sA ?_;try intro KR kR)|(with_reducible refine sD O48 ?_;intro KR kR;simp only [O48,ordl,seval])|(refine sB ?_;intro K hK;simp (disch := omega) only [go_sem,seval];(try ((with_reducible first|refine Gt ?_|refine gopO_f rfl ?_|refine Gv rfl ?_);simp (disch := omega) only [go_sem,seval]));(repeat first|intro (xb : Blk)|intro (xk : Nat)|intro hx|refine pC ?_);refine hK _ ?_;clear K hK)|(refine sE ?_;simp only [go_sem,seval,L48,O48,L94,O94];refine kR _ ?_;clear KR kR)|(simp only [thenE,inB,seval])))
                (refine sB ?_;intro K hK;simp (disch := omega) only [go_sem,seval];(try ((with_reducible refine Gt ?_);simp (disch := omega) only [go_sem,seval]));refine cN ?_;simp (disch := omega) only [go_sem,seval];refine ⟨_,_,ContractH.n (Join_ok l _ _ hl),?_⟩;intro r H' hr hk;(try obtain rfl := keys_nil hk);(first|subst hr|(obtain ⟨_,rfl⟩ := hr)|(obtain ⟨_,_,rfl⟩ := hr)|(obtain ⟨_,_,_,rfl⟩ := hr));(try simp (disch := omega) only [AV.flat,AC.flat,AC.flat.flatL,AC.flat.flatLL,go_sem,seval]);(repeat first|intro (xb : Blk)|intro (xk : Nat)|intro hx|refine pC ?_);refine hK _ ?_;clear K hK)
                rw [gj]
                (repeat (first|(refine sA ?_;try intro KR kR)|(with_reducible refine sD O48 ?_;intro KR kR;simp only [O48,ordl,seval])|(refine sB ?_;intro K hK;simp (disch := omega) only [go_sem,seval];(try ((with_reducible first|refine Gt ?_|refine gopO_f rfl ?_|refine Gv rfl ?_);simp (disch := omega) only [go_sem,seval]));(repeat first|intro (xb : Blk)|intro (xk : Nat)|intro hx|refine pC ?_);refine hK _ ?_;clear K hK)|(refine sE ?_;simp only [go_sem,seval,L48,O48,L94,O94];refine kR _ ?_;clear KR kR)|(simp only [thenE,inB,seval])))
                (refine sB ?_;intro K hK;simp (disch := omega) only [go_sem,seval];(try ((with_reducible refine Gt ?_);simp (disch := omega) only [go_sem,seval]));refine cN ?_;simp (disch := omega) only [go_sem,seval];refine ⟨_,_,ContractH.n (Deep_ok l hl),?_⟩;intro r H' hr hk;(try obtain rfl := keys_nil hk);(obtain ⟨b2,rfl⟩ := hr);(try simp (disch := omega) only [AV.flat,AC.flat,AC.flat.flatL,AC.flat.flatLL,go_sem,seval]);(repeat first|intro (xb : Blk)|intro (xk : Nat)|intro hx|refine pC ?_);refine hK _ ?_;clear K hK)
                (repeat (first|(refine sA ?_;try intro KR kR)|(with_reducible refine sD O48 ?_;intro KR kR;simp only [O48,ordl,seval])|(refine sB ?_;intro K hK;simp (disch := omega) only [go_sem,seval];(try ((with_reducible first|refine Gt ?_|refine gopO_f rfl ?_|refine Gv rfl ?_);simp (disch := omega) only [go_sem,seval]));(repeat first|intro (xb : Blk)|intro (xk : Nat)|intro hx|refine pC ?_);refine hK _ ?_;clear K hK)|(refine sE ?_;simp only [go_sem,seval,L48,O48,L94,O94];refine kR _ ?_;clear KR kR)|(simp only [thenE,inB,seval])))
                ((with_reducible refine Ac ?_);intro K hK;simp (disch := omega) only [condK,go_sem,seval];refine hK _ ?_ ?_;all_goals clear K hK;all_goals intro hq;all_goals (try simp only [qF,reduceCtorEq] at hq);all_goals (try (exfalso;first|exact hq|omega)))
                · have e : forkF l x y = (forkD l x.1 y.1 + 1,forkD l x.1 y.1,1) := by
                    unfold forkF;rw [if_neg hne,if_neg q1,if_neg q2,if_neg q3,if_pos hq]
                  (repeat (first|(refine sA ?_;try intro KR kR)|(with_reducible refine sD O48 ?_;intro KR kR;simp only [O48,ordl,seval])|(refine sB ?_;intro K hK;simp (disch := omega) only [go_sem,seval];(try ((with_reducible first|refine Gt ?_|refine gopO_f rfl ?_|refine Gv rfl ?_);simp (disch := omega) only [go_sem,seval]));(repeat first|intro (xb : Blk)|intro (xk : Nat)|intro hx|refine pC ?_);refine hK _ ?_;clear K hK)|(refine sE ?_;simp only [go_sem,seval,L48,O48,L94,O94];refine kR _ ?_;clear KR kR)|(simp only [thenE,inB,seval])))
                  (simp only [retQ,Try.results48];simp (disch := omega) only [resK,resT,resAV,Env.sel,Env.keys,List.map_nil,List.map_cons,List.all_nil,List.all_cons,AV.isS,Bool.not_false,Bool.and_self,Option.map_some,List.length_cons,List.length_nil,Nat.zero_add,Nat.reduceAdd,not_false_eq_true,true_and,and_true,ne_eq,go_sem,seval,ne_eq])
                  rw [e,gd,show forkD l x.1 y.1 - 1 + 1 = forkD l x.1 y.1 by omega]
                · have e : forkF l x y = (forkD l x.1 y.1,forkD l x.1 y.1,1) := by
                    unfold forkF;rw [if_neg hne,if_neg q1,if_neg q2,if_neg q3,if_neg hq]
                  (repeat (first|(refine sA ?_;try intro KR kR)|(with_reducible refine sD O48 ?_;intro KR kR;simp only [O48,ordl,seval])|(refine sB ?_;intro K hK;simp (disch := omega) only [go_sem,seval];(try ((with_reducible first|refine Gt ?_|refine gopO_f rfl ?_|refine Gv rfl ?_);simp (disch := omega) only [go_sem,seval]));(repeat first|intro (xb : Blk)|intro (xk : Nat)|intro hx|refine pC ?_);refine hK _ ?_;clear K hK)|(refine sE ?_;simp only [go_sem,seval,L48,O48,L94,O94];refine kR _ ?_;clear KR kR)|(simp only [thenE,inB,seval])))
                  (simp only [retQ,Try.results48];simp (disch := omega) only [resK,resT,resAV,Env.sel,Env.keys,List.map_nil,List.map_cons,List.all_nil,List.all_cons,AV.isS,Bool.not_false,Bool.and_self,Option.map_some,List.length_cons,List.length_nil,Nat.zero_add,Nat.reduceAdd,not_false_eq_true,true_and,and_true,ne_eq,go_sem,seval,ne_eq])
                  rw [e,gd,show forkD l x.1 y.1 - 1 + 1 = forkD l x.1 y.1 by omega]
theorem args3 {w : World} {p : Nat → Prop} {vs : List Value} {a : AV} {x1 x2 y1 y2 : Value} {o1 o2 : Option (List Int)} (h : RdAs w p vs [a,.agg [.im x1,.im x2,hC o1],.agg [.im y1,.im y2,hC o2]]) : RdAs w p vs [a,.agg [.im x1,.im x2,.dead],.agg [.im y1,.im y2,.dead]] := by
  cases h with
  | cons h1 h => cases h with
    | cons h2 h => cases h with
      | cons h3 h => exact .cons h1 (.cons (rdS_hop h2) (.cons (rdS_hop h3) h))
theorem Fork_ok (l : List Tm) (x y : Int × Int) (o1 o2 : Option (List Int)) (hl : l.length ≤ 1000) (hx2 : -1000000 ≤ x.2 ∧ x.2 ≤ 1000000) (hy2 : -1000000 ≤ y.2 ∧ y.2 ≤ 1000000) :
    Contract Try.prog 48 [.c (.sl 8 (tRows l)),.agg [.im (.int .i64 x.1),.im (.int .i64 x.2),hC o1],.agg [.im (.int .i64 y.1),.im (.int .i64 y.2),hC o2]]
      (.tup [.c (.im (.int .i64 (forkF l x y).1)),.c (.im (.int .i64 (forkF l x y).2.1)),.c (.im (.int .i64 (forkF l x y).2.2))]) :=
  contract_args (fork_aux l hl 1 x y (fun _ => by omega) hx2 hy2) fun w p vs h => args3 h
end Go.Proofs.Ytllemobnfpljfaa
