import Derived.Test.YtllemobnfpljfaaTrU
set_option linter.unusedSimpArgs false
set_option linter.unusedVariables false
set_option maxRecDepth 10000
set_option maxRecDepth 100000
set_option maxHeartbeats 8000000
namespace Go.Proofs.Ytllemobnfpljfaa
open Go Go.Hs
def L109 (r : Nat) : Option (List Nat) := kl r [(0,[0,1,2]),(1,[0,1,2,7]),(2,[0,1,2,7,8]),(3,[0,1,2,7,8,23]),(4,[0,1,2,7,8]),(5,[0,1,2,7,8,9]),(6,[0,1,2,7,8,9,42]),(7,[0,1,2,7,8,9]),(8,[0,1,2,7,8,9]),(9,[0,1,2,7,10]),(10,[0,1,2,7,10,11]),(11,[0,1,2,7,10,11,12]),(12,[0,1,2,7,10,11,12,63]),(13,[0,1,2,7,10,11,12]),(14,[0,1,2,7,10,11,12,13]),(15,[0,1,2,7,10,11,12,13,68]),(16,[0,1,2,7,10,11,12,13]),(17,[0,1,2,7,10,11,12,14]),(18,[0,1,2,7,10,11,12,14,77]),(19,[0,1,2,7,10,11,12,14]),(20,[0,1,2,7,10,11,12,14,93]),(21,[0,1,2,7,10,11,12,14]),(22,[0,1,2,7,10,11,12,14]),(23,[0,1,2,7,10,11,12]),(24,[6])]
def O109 (r : Nat) : List Nat × OT := ordl r []
theorem tmod_rng (x : Int) : -1 ≤ Int.tmod x 2 ∧ Int.tmod x 2 ≤ 1 := by
  by_cases h : 0 ≤ x
  · rw [Int.tmod_eq_emod_of_nonneg h];omega
  · have : Int.tmod x 2 = - Int.tmod (-x) 2 := by rw [Int.neg_tmod,Int.neg_neg]
    rw [this,Int.tmod_eq_emod_of_nonneg (by omega)];omega
theorem cnt_rng : ∀ {s : List Int},-3 * (s.length : Int) ≤ cnt s ∧ cnt s ≤ 3 * (s.length : Int)
  | [] => by simp [cnt]
  | x :: s => by
    have := cnt_rng (s := s)
    have := tmod_rng x
    have e : cnt (x :: s) = stp x + cnt s := rfl
    have e2 : stp x = 1 - 2 * Int.tmod x 2 := rfl
    rw [e,List.length_cons];omega
theorem cnt_take {X : List Int} {j : Nat} (h : j < X.length) : cnt (X.take (j + 1)) = cnt (X.take j) + stp (X.getD j 0) := by
  rw [List.take_succ_eq_append_getElem h,cnt_app,List.getD_eq_getElem?_getD,List.getElem?_eq_getElem h]
  simp [cnt]
theorem low_take {X : List Int} {j : Nat} {o w : Int} (h : j < X.length) : lowC o w (X.take (j + 1)) = if Int.tmod (X.getD j 0) 2 = 1 ∧ o + cnt (X.take j) < lowC o w (X.take j) then o + cnt (X.take j) else lowC o w (X.take j) := by
  rw [List.take_succ_eq_append_getElem h,lowC_app,List.getD_eq_getElem?_getD,List.getElem?_eq_getElem h]
  rfl
theorem open_rng {A : Nat → List Int} {N : Nat} (h : ∀ i,(A i).length ≤ N) : ∀ n,-3 * ((n * N : Nat) : Int) ≤ openN A n ∧ openN A n ≤ 3 * ((n * N : Nat) : Int)
  | 0 => by simp [openN]
  | n + 1 => by
    have i1 := open_rng h n
    have i2 := cnt_rng (s := A n)
    have i3 := h n
    rw [openN,Nat.succ_mul];omega
def open0 (A : Nat → List Int) (k s : Nat) : Int := openN A k + cnt ((A k).take s)
def lowsL (A : Nat → List Int) (k s n : Nat) : List Int := (List.range n).map (lowN A k s)
theorem lowsL_succ {A : Nat → List Int} {k s n : Nat} : lowsL A k s (n + 1) = lowsL A k s n ++ [lowN A k s n] := by simp [lowsL,List.range_succ]
theorem lowsL_len {A : Nat → List Int} {k s n : Nat} : (lowsL A k s n).length = n := by simp [lowsL]
def oAt (A : Nat → List Int) (k s t : Nat) : Int := if t = 0 then open0 A k s else openN A (k + t)
def wAt (A : Nat → List Int) (k s t : Nat) : Int := if t = 0 then open0 A k s + 1 else lowN A k s (t - 1)
def fromN2 (s t : Nat) : Nat := if t = 0 then s else 0
theorem low_at {A : Nat → List Int} {k s t : Nat} : lowC (oAt A k s t) (wAt A k s t) ((A (k + t)).drop (fromN2 s t)) = lowN A k s t := by
  cases t with
  | zero => rfl
  | succ t => rfl
theorem open_at {A : Nat → List Int} {k s t : Nat} : oAt A k s t + cnt ((A (k + t)).drop (fromN2 s t)) = oAt A k s (t + 1) := by
  cases t with
  | zero =>
    show openN A k + cnt ((A k).take s) + cnt ((A k).drop s) = openN A (k + 1)
    have := cnt_app (s := (A k).take s) (t := (A k).drop s)
    rw [List.take_append_drop] at this
    rw [openN];omega
  | succ t => rfl
attribute [local go_sem] tltT tltF tleT tleF tbeT tbeF tbnT tbnF AV.isS length_rRows rRows_frzT getRow takeRr exRr
set_option maxRecDepth 100000 in
set_option maxHeartbeats 8000000 in
theorem lowsT_ok (A : List (List Int)) (k s : Nat) (hk : k < A.length) (hs : s < (rAt A k).length) (hA : A.length ≤ 20) (hAr : ∀ i,(rAt A i).length ≤ 1000000) : ContractR Try.prog 109 [.c (.sl 1 (rRows A)),.c (.im (.int .i64 k)),.c (.im (.int .i64 s))] (fun r => ∃ b,r = .c (.own b 3 1 (kRows .i64 (lowsL (rAt A) k s (A.length - k))))) := by
  have orng := fun n (hn : n ≤ 20) => by
    have h1 := open_rng hAr n
    have h2 : n * 1000000 ≤ 20 * 1000000 := Nat.mul_le_mul hn (Nat.le_refl _)
    exact (⟨by omega,by omega⟩ : -60000000 ≤ openN (rAt A) n ∧ openN (rAt A) n ≤ 60000000)
  (refine contract_of_awp (L := L109) Try.func109 rfl (by kernel_rfl) (by first|rfl|decide) (by first|rfl|kernel_rfl) ?_;simp only [Try.ntmps109,initEnv,Env.keys,List.map_nil,List.map_cons,List.append_nil,List.cons_append,List.nil_append])
  (repeat (first|(refine sA ?_;try intro KR kR)|(with_reducible refine sD O109 ?_;intro KR kR;simp only [O109,ordl,seval])|(refine sB ?_;intro K hK;simp (disch := omega) only [go_sem,seval];(try ((with_reducible first|refine Gt ?_|refine gopO_f rfl ?_|refine Gv rfl ?_);simp (disch := omega) only [go_sem,seval]));(repeat first|intro (xb : Blk)|intro (xk : Nat)|intro hx|refine pC ?_);refine hK _ ?_;clear K hK)|(refine sE ?_;simp only [go_sem,seval,L109,O109];refine kR _ ?_;clear KR kR)|(simp only [thenE,inB,seval])))
  refine awp_loop [0,1,2,7,8] (fun n S => ∃ (f : Nat) (o : Int),f ≤ k + 1 ∧ n + f = k + 1 ∧ o = (if f ≤ k then openN (rAt A) f else open0 (rAt A) k s) ∧ S = [(0,.c (.sl 1 (rRows A))),(1,.c (.im (.int .i64 k))),(2,.c (.im (.int .i64 s))),(7,.c (.im (.int .i64 o))),(8,.c (.im (.int .i64 f)))]) (k + 1) ⟨0,0,by omega,by omega,by rw [if_pos (by omega)];rfl,rfl⟩ ?_
  rintro n S' ⟨f,o,hf,hnf,ho,rfl⟩
  by_cases hfk : f ≤ k
  · rw [if_pos hfk] at ho
    have og := orng f (by omega)
    have la := hAr f
    (repeat (first|(refine sA ?_;try intro KR kR)|(with_reducible refine sD O109 ?_;intro KR kR;simp only [O109,ordl,seval])|(refine sB ?_;intro K hK;simp (disch := omega) only [go_sem,seval];(try ((with_reducible first|refine Gt ?_|refine gopO_f rfl ?_|refine Gv rfl ?_);simp (disch := omega) only [go_sem,seval]));(repeat first|intro (xb : Blk)|intro (xk : Nat)|intro hx|refine pC ?_);refine hK _ ?_;clear K hK)|(refine sE ?_;simp only [go_sem,seval,L109,O109];refine kR _ ?_;clear KR kR)|(simp only [thenE,inB,seval])))
    ((with_reducible refine Ac ?_);intro K hK;simp (disch := omega) only [condK,go_sem,seval];refine hK _ ?_ ?_;all_goals clear K hK;all_goals intro hq;all_goals (try simp only [qF,reduceCtorEq] at hq);all_goals (try (exfalso;first|exact hq|omega)))
    clear hq
    (repeat (first|(refine sA ?_;try intro KR kR)|(with_reducible refine sD O109 ?_;intro KR kR;simp only [O109,ordl,seval])|(refine sB ?_;intro K hK;simp (disch := omega) only [go_sem,seval];(try ((with_reducible first|refine Gt ?_|refine gopO_f rfl ?_|refine Gv rfl ?_);simp (disch := omega) only [go_sem,seval]));(repeat first|intro (xb : Blk)|intro (xk : Nat)|intro hx|refine pC ?_);refine hK _ ?_;clear K hK)|(refine sE ?_;simp only [go_sem,seval,L109,O109];refine kR _ ?_;clear KR kR)|(simp only [thenE,inB,seval])))
    refine awp_loop [0,1,2,7,8,9] (fun n S => ∃ (j : Nat) (o2 : Int),j ≤ (if f < k then (rAt A f).length else s) ∧ n + j = (if f < k then (rAt A f).length else s) ∧ o2 = o + cnt ((rAt A f).take j) ∧ S = [(0,.c (.sl 1 (rRows A))),(1,.c (.im (.int .i64 k))),(2,.c (.im (.int .i64 s))),(7,.c (.im (.int .i64 o2))),(8,.c (.im (.int .i64 f))),(9,.c (.im (.int .i64 j)))]) (if f < k then (rAt A f).length else s) ⟨0,o,by omega,by omega,by rw [List.take_zero,cnt];omega,rfl⟩ ?_
    rintro n2 S' ⟨j,o2,hj,hnj,ho2,rfl⟩
    have cr := cnt_rng (s := (rAt A f).take j)
    have tl : ((rAt A f).take j).length ≤ (rAt A f).length := by rw [List.length_take];omega
    have tm := tmod_rng ((rAt A f).getD j 0)
    have st0 : stp ((rAt A f).getD j 0) = 1 - 2 * Int.tmod ((rAt A f).getD j 0) 2 := rfl
    have lim : (if f < k then (rAt A f).length else s) ≤ (rAt A f).length := by
      split
      · omega
      · have : f = k := by omega
        subst this;omega
    by_cases hjl : j < (if f < k then (rAt A f).length else s)
    · have ct := cnt_take (X := rAt A f) (j := j) (by omega)
      have j2 : j < (rAt A f).length := by omega
      by_cases hlt : f < k
      · (repeat (first|(refine sA ?_;try intro KR kR)|(with_reducible refine sD O109 ?_;intro KR kR;simp only [O109,ordl,seval])|(refine sB ?_;intro K hK;simp (disch := omega) only [go_sem,seval];(try ((with_reducible first|refine Gt ?_|refine gopO_f rfl ?_|refine Gv rfl ?_);simp (disch := omega) only [go_sem,seval]));(repeat first|intro (xb : Blk)|intro (xk : Nat)|intro hx|refine pC ?_);refine hK _ ?_;clear K hK)|(refine sE ?_;simp only [go_sem,seval,L109,O109];refine kR _ ?_;clear KR kR)|(simp only [thenE,inB,seval])))
        ((with_reducible refine Ac ?_);intro K hK;simp (disch := omega) only [condK,go_sem,seval];refine hK _ ?_ ?_;all_goals clear K hK;all_goals intro hq;all_goals (try simp only [qF,reduceCtorEq] at hq);all_goals (try (exfalso;first|exact hq|omega)))
        (repeat (first|(refine sA ?_;try intro KR kR)|(with_reducible refine sD O109 ?_;intro KR kR;simp only [O109,ordl,seval])|(refine sB ?_;intro K hK;simp (disch := omega) only [go_sem,seval];(try ((with_reducible first|refine Gt ?_|refine gopO_f rfl ?_|refine Gv rfl ?_);simp (disch := omega) only [go_sem,seval]));(repeat first|intro (xb : Blk)|intro (xk : Nat)|intro hx|refine pC ?_);refine hK _ ?_;clear K hK)|(refine sE ?_;simp only [go_sem,seval,L109,O109];refine kR _ ?_;clear KR kR)|(simp only [thenE,inB,seval])))
        refine gh_no ⟨(if f < k then (rAt A f).length else s) - (j + 1),by omega,j + 1,o2 + 1 - 2 * Int.tmod ((rAt A f).getD j 0) 2,by omega,by omega,by omega,?_⟩
        ((try simp (disch := omega) only [List.cons.injEq,Prod.mk.injEq,AV.c.injEq,AV.agg.injEq,AV.opt.injEq,AV.tup.injEq,AV.row.injEq,AV.box.injEq,AV.mapo.injEq,AC.im.injEq,AC.sl.injEq,AC.adr.injEq,AC.ref.injEq,AC.ptr.injEq,AC.own.injEq,AC.fn.injEq,Value.int.injEq,Value.bool.injEq,Value.string.injEq,heq_eq_eq,go_sem,seval]);(try (repeat' refine And.intro ?_ ?_));all_goals (first|rfl|omega|skip))
      · rw [if_neg hlt] at hjl
        (repeat (first|(refine sA ?_;try intro KR kR)|(with_reducible refine sD O109 ?_;intro KR kR;simp only [O109,ordl,seval])|(refine sB ?_;intro K hK;simp (disch := omega) only [go_sem,seval];(try ((with_reducible first|refine Gt ?_|refine gopO_f rfl ?_|refine Gv rfl ?_);simp (disch := omega) only [go_sem,seval]));(repeat first|intro (xb : Blk)|intro (xk : Nat)|intro hx|refine pC ?_);refine hK _ ?_;clear K hK)|(refine sE ?_;simp only [go_sem,seval,L109,O109];refine kR _ ?_;clear KR kR)|(simp only [thenE,inB,seval])))
        ((with_reducible refine Ac ?_);intro K hK;simp (disch := omega) only [condK,go_sem,seval];refine hK _ ?_ ?_;all_goals clear K hK;all_goals intro hq;all_goals (try simp only [qF,reduceCtorEq] at hq);all_goals (try (exfalso;first|exact hq|omega)))
        (repeat (first|(refine sA ?_;try intro KR kR)|(with_reducible refine sD O109 ?_;intro KR kR;simp only [O109,ordl,seval])|(refine sB ?_;intro K hK;simp (disch := omega) only [go_sem,seval];(try ((with_reducible first|refine Gt ?_|refine gopO_f rfl ?_|refine Gv rfl ?_);simp (disch := omega) only [go_sem,seval]));(repeat first|intro (xb : Blk)|intro (xk : Nat)|intro hx|refine pC ?_);refine hK _ ?_;clear K hK)|(refine sE ?_;simp only [go_sem,seval,L109,O109];refine kR _ ?_;clear KR kR)|(simp only [thenE,inB,seval])))
        refine gh_no ⟨(if f < k then (rAt A f).length else s) - (j + 1),by rw [if_neg hlt] at *;omega,j + 1,o2 + 1 - 2 * Int.tmod ((rAt A f).getD j 0) 2,by rw [if_neg hlt];omega,by rw [if_neg hlt] at *;omega,by omega,?_⟩
        ((try simp (disch := omega) only [List.cons.injEq,Prod.mk.injEq,AV.c.injEq,AV.agg.injEq,AV.opt.injEq,AV.tup.injEq,AV.row.injEq,AV.box.injEq,AV.mapo.injEq,AC.im.injEq,AC.sl.injEq,AC.adr.injEq,AC.ref.injEq,AC.ptr.injEq,AC.own.injEq,AC.fn.injEq,Value.int.injEq,Value.bool.injEq,Value.string.injEq,heq_eq_eq,go_sem,seval]);(try (repeat' refine And.intro ?_ ?_));all_goals (first|rfl|omega|skip))
    · have ej : j = (if f < k then (rAt A f).length else s) := by omega
      by_cases hlt : f < k
      · rw [if_pos hlt] at ej hjl
        have fin : o2 = (if f + 1 ≤ k then openN (rAt A) (f + 1) else open0 (rAt A) k s) := by
          rw [if_pos (by omega),ho2,ho,ej,List.take_length];rfl
        (repeat (first|(refine sA ?_;try intro KR kR)|(with_reducible refine sD O109 ?_;intro KR kR;simp only [O109,ordl,seval])|(refine sB ?_;intro K hK;simp (disch := omega) only [go_sem,seval];(try ((with_reducible first|refine Gt ?_|refine gopO_f rfl ?_|refine Gv rfl ?_);simp (disch := omega) only [go_sem,seval]));(repeat first|intro (xb : Blk)|intro (xk : Nat)|intro hx|refine pC ?_);refine hK _ ?_;clear K hK)|(refine sE ?_;simp only [go_sem,seval,L109,O109];refine kR _ ?_;clear KR kR)|(simp only [thenE,inB,seval])))
        ((with_reducible refine Ac ?_);intro K hK;simp (disch := omega) only [condK,go_sem,seval];refine hK _ ?_ ?_;all_goals clear K hK;all_goals intro hq;all_goals (try simp only [qF,reduceCtorEq] at hq);all_goals (try (exfalso;first|exact hq|omega)))
        (repeat (first|(refine sA ?_;try intro KR kR)|(with_reducible refine sD O109 ?_;intro KR kR;simp only [O109,ordl,seval])|(refine sB ?_;intro K hK;simp (disch := omega) only [go_sem,seval];(try ((with_reducible first|refine Gt ?_|refine gopO_f rfl ?_|refine Gv rfl ?_);simp (disch := omega) only [go_sem,seval]));(repeat first|intro (xb : Blk)|intro (xk : Nat)|intro hx|refine pC ?_);refine hK _ ?_;clear K hK)|(refine sE ?_;simp only [go_sem,seval,L109,O109];refine kR _ ?_;clear KR kR)|(simp only [thenE,inB,seval])))
        refine gh_no ⟨k + 1 - (f + 1),by omega,f + 1,o2,by omega,by omega,fin,?_⟩
        ((try simp (disch := omega) only [List.cons.injEq,Prod.mk.injEq,AV.c.injEq,AV.agg.injEq,AV.opt.injEq,AV.tup.injEq,AV.row.injEq,AV.box.injEq,AV.mapo.injEq,AC.im.injEq,AC.sl.injEq,AC.adr.injEq,AC.ref.injEq,AC.ptr.injEq,AC.own.injEq,AC.fn.injEq,Value.int.injEq,Value.bool.injEq,Value.string.injEq,heq_eq_eq,go_sem,seval]);(try (repeat' refine And.intro ?_ ?_));all_goals (first|rfl|omega|skip))
      · rw [if_neg hlt] at ej hjl
        have fin : o2 = (if f + 1 ≤ k then openN (rAt A) (f + 1) else open0 (rAt A) k s) := by
          have e : f = k := by omega
          rw [if_neg (by omega),ho2,ho,ej,e];rfl
        have j2 : j < (rAt A f).length := by have e : f = k := by omega
                                             subst e;omega
        (repeat (first|(refine sA ?_;try intro KR kR)|(with_reducible refine sD O109 ?_;intro KR kR;simp only [O109,ordl,seval])|(refine sB ?_;intro K hK;simp (disch := omega) only [go_sem,seval];(try ((with_reducible first|refine Gt ?_|refine gopO_f rfl ?_|refine Gv rfl ?_);simp (disch := omega) only [go_sem,seval]));(repeat first|intro (xb : Blk)|intro (xk : Nat)|intro hx|refine pC ?_);refine hK _ ?_;clear K hK)|(refine sE ?_;simp only [go_sem,seval,L109,O109];refine kR _ ?_;clear KR kR)|(simp only [thenE,inB,seval])))
        ((with_reducible refine Ac ?_);intro K hK;simp (disch := omega) only [condK,go_sem,seval];refine hK _ ?_ ?_;all_goals clear K hK;all_goals intro hq;all_goals (try simp only [qF,reduceCtorEq] at hq);all_goals (try (exfalso;first|exact hq|omega)))
        (repeat (first|(refine sA ?_;try intro KR kR)|(with_reducible refine sD O109 ?_;intro KR kR;simp only [O109,ordl,seval])|(refine sB ?_;intro K hK;simp (disch := omega) only [go_sem,seval];(try ((with_reducible first|refine Gt ?_|refine gopO_f rfl ?_|refine Gv rfl ?_);simp (disch := omega) only [go_sem,seval]));(repeat first|intro (xb : Blk)|intro (xk : Nat)|intro hx|refine pC ?_);refine hK _ ?_;clear K hK)|(refine sE ?_;simp only [go_sem,seval,L109,O109];refine kR _ ?_;clear KR kR)|(simp only [thenE,inB,seval])))
        refine gh_no ⟨k + 1 - (f + 1),by omega,f + 1,o2,by omega,by omega,fin,?_⟩
        ((try simp (disch := omega) only [List.cons.injEq,Prod.mk.injEq,AV.c.injEq,AV.agg.injEq,AV.opt.injEq,AV.tup.injEq,AV.row.injEq,AV.box.injEq,AV.mapo.injEq,AC.im.injEq,AC.sl.injEq,AC.adr.injEq,AC.ref.injEq,AC.ptr.injEq,AC.own.injEq,AC.fn.injEq,Value.int.injEq,Value.bool.injEq,Value.string.injEq,heq_eq_eq,go_sem,seval]);(try (repeat' refine And.intro ?_ ?_));all_goals (first|rfl|omega|skip))
  · rw [if_neg hfk] at ho
    have ef : f = k + 1 := by omega
    have og := orng k (by omega)
    have cr := cnt_rng (s := (rAt A k).take s)
    have tl : ((rAt A k).take s).length ≤ 1000000 := by have := hAr k;rw [List.length_take];omega
    have ob : -63000000 ≤ o ∧ o ≤ 63000000 := by rw [ho,open0];omega
    subst ef
    (repeat (first|(refine sA ?_;try intro KR kR)|(with_reducible refine sD O109 ?_;intro KR kR;simp only [O109,ordl,seval])|(refine sB ?_;intro K hK;simp (disch := omega) only [go_sem,seval];(try ((with_reducible first|refine Gt ?_|refine gopO_f rfl ?_|refine Gv rfl ?_);simp (disch := omega) only [go_sem,seval]));(repeat first|intro (xb : Blk)|intro (xk : Nat)|intro hx|refine pC ?_);refine hK _ ?_;clear K hK)|(refine sE ?_;simp only [go_sem,seval,L109,O109];refine kR _ ?_;clear KR kR)|(simp only [thenE,inB,seval])))
    ((with_reducible refine Ac ?_);intro K hK;simp (disch := omega) only [condK,go_sem,seval];refine hK _ ?_ ?_;all_goals clear K hK;all_goals intro hq;all_goals (try simp only [qF,reduceCtorEq] at hq);all_goals (try (exfalso;first|exact hq|omega)))
    (repeat (first|(refine sA ?_;try intro KR kR)|(with_reducible refine sD O109 ?_;intro KR kR;simp only [O109,ordl,seval])|(refine sB ?_;intro K hK;simp (disch := omega) only [go_sem,seval];(try ((with_reducible first|refine Gt ?_|refine gopO_f rfl ?_|refine Gv rfl ?_);simp (disch := omega) only [go_sem,seval]));(repeat first|intro (xb : Blk)|intro (xk : Nat)|intro hx|refine pC ?_);refine hK _ ?_;clear K hK)|(refine sE ?_;simp only [go_sem,seval,L109,O109];refine kR _ ?_;clear KR kR)|(simp only [thenE,inB,seval])))
    refine awp_loop [0,1,2,7,10,11,12,1011] (fun n S => ∃ (t : Nat) (b : Blk) (L : List Int) (o w : Int),t ≤ A.length - k ∧ n + t = A.length - k ∧ L = lowsL (rAt A) k s t ∧ o = oAt (rAt A) k s t ∧ w = wAt (rAt A) k s t ∧ S = [(0,.c (.sl 1 (rRows A))),(1,.c (.im (.int .i64 k))),(2,.c (.im (.int .i64 s))),(7,.c (.im (.int .i64 o))),(10,.c (.im (.int .i64 w))),(11,.c (.ref 1011 [] b 1 0 L.length)),(12,.c (.im (.int .i64 (k + t : Nat)))),(1011,.row b 3 1 (kRows .i64 L))]) (A.length - k) ⟨0,none,[],o,o + 1,by omega,by omega,rfl,ho,by rw [ho];rfl,rfl⟩ ?_
    clear ho ob
    rintro n2 S' ⟨t,b,L,o,w,ht,hnt,hL,ho,hw,rfl⟩
    have lL : L.length = t := by rw [hL,lowsL_len]
    have og2 := orng (k + t) (by omega)
    have ob : -63000000 ≤ o ∧ o ≤ 63000000 := by
      rw [ho,oAt]
      split
      · rw [open0];omega
      · omega
    by_cases htl : k + t < A.length
    · have la := hAr (k + t)
      obtain ⟨fr,hfr⟩ : ∃ fr,fr = fromN2 s t := ⟨_,rfl⟩
      obtain ⟨X,hX⟩ : ∃ X,X = (rAt A (k + t)).drop fr := ⟨_,rfl⟩
      have e1 := low_at (A := rAt A) (k := k) (s := s) (t := t)
      have e2 := open_at (A := rAt A) (k := k) (s := s) (t := t)
      rw [← hfr,← hX,← ho] at e1 e2
      rw [← hw] at e1
      have frl : fr ≤ (rAt A (k + t)).length := by
        rw [hfr,fromN2]
        split
        · rename_i h;subst h;rw [Nat.add_zero];omega
        · omega
      have lX : fr + X.length = (rAt A (k + t)).length := by rw [hX,List.length_drop];omega
      have gX : ∀ j,X.getD j 0 = (rAt A (k + t)).getD (fr + j) 0 := fun j => by rw [hX,List.getD_eq_getElem?_getD,List.getElem?_drop,← List.getD_eq_getElem?_getD]
      (repeat (first|(refine sA ?_;try intro KR kR)|(with_reducible refine sD O109 ?_;intro KR kR;simp only [O109,ordl,seval])|(refine sB ?_;intro K hK;simp (disch := omega) only [go_sem,seval];(try ((with_reducible first|refine Gt ?_|refine gopO_f rfl ?_|refine Gv rfl ?_);simp (disch := omega) only [go_sem,seval]));(repeat first|intro (xb : Blk)|intro (xk : Nat)|intro hx|refine pC ?_);refine hK _ ?_;clear K hK)|(refine sE ?_;simp only [go_sem,seval,L109,O109];refine kR _ ?_;clear KR kR)|(simp only [thenE,inB,seval])))
      ((with_reducible refine Ac ?_);intro K hK;simp (disch := omega) only [condK,go_sem,seval];refine hK _ ?_ ?_;all_goals clear K hK;all_goals intro hq;all_goals (try simp only [qF,reduceCtorEq] at hq);all_goals (try (exfalso;first|exact hq|omega)))
      clear hq
      (first|(refine sA ?_;try intro KR kR)|(with_reducible refine sD O109 ?_;intro KR kR;simp only [O109,ordl,seval]))
      (simp only [thenE,inB,seval])
      (first|(refine sA ?_;try intro KR kR)|(with_reducible refine sD O109 ?_;intro KR kR;simp only [O109,ordl,seval]))
      (first|(refine sA ?_;try intro KR kR)|(with_reducible refine sD O109 ?_;intro KR kR;simp only [O109,ordl,seval]))
      (first|(refine sA ?_;try intro KR kR)|(with_reducible refine sD O109 ?_;intro KR kR;simp only [O109,ordl,seval]))
      (first|(refine sA ?_;try intro KR kR)|(with_reducible refine sD O109 ?_;intro KR kR;simp only [O109,ordl,seval]))
      (repeat' (first|(refine sB ?_;intro K hK;simp (disch := omega) only [go_sem,seval];(try ((with_reducible first|refine Gt ?_|refine gopO_f rfl ?_|refine Gv rfl ?_);simp (disch := omega) only [go_sem,seval]));(repeat first|intro (xb : Blk)|intro (xk : Nat)|intro hx|refine pC ?_);refine hK _ ?_;clear K hK)|(refine sE ?_;simp only [go_sem,seval,L109,O109];refine kR _ ?_;clear KR kR)|(simp only [thenE,inB,seval])|((with_reducible (first|refine Rb ?_ ?_|refine Rc ?_ ?_ ?_));all_goals (simp only [↓reduceIte,reduceCtorEq,Nat.reduceEqDiff]))))
      refine awp_mid [0,1,2,7,10,11,12,13,1011] (fun S' => S' = [(0,.c (.sl 1 (rRows A))),(1,.c (.im (.int .i64 k))),(2,.c (.im (.int .i64 s))),(7,.c (.im (.int .i64 o))),(10,.c (.im (.int .i64 w))),(11,.c (.ref 1011 [] b 1 0 L.length)),(12,.c (.im (.int .i64 (k + t : Nat)))),(13,.c (.im (.int .i64 (fr : Nat)))),(1011,.row b 3 1 (kRows .i64 L))]) ?_ ?_
      · by_cases h0 : t = 0
        · have hfs : fr = s := by rw [hfr,fromN2,if_pos h0]
          rw [hfs]
          (repeat (first|(refine sA ?_;try intro KR kR)|(with_reducible refine sD O109 ?_;intro KR kR;simp only [O109,ordl,seval])|(refine sB ?_;intro K hK;simp (disch := omega) only [go_sem,seval];(try ((with_reducible first|refine Gt ?_|refine gopO_f rfl ?_|refine Gv rfl ?_);simp (disch := omega) only [go_sem,seval]));(repeat first|intro (xb : Blk)|intro (xk : Nat)|intro hx|refine pC ?_);refine hK _ ?_;clear K hK)|(refine sE ?_;simp only [go_sem,seval,L109,O109];refine kR _ ?_;clear KR kR)|(simp only [thenE,inB,seval])))
          ((with_reducible refine Ac ?_);intro K hK;simp (disch := omega) only [condK,go_sem,seval];refine hK _ ?_ ?_;all_goals clear K hK;all_goals intro hq;all_goals (try simp only [qF,reduceCtorEq] at hq);all_goals (try (exfalso;first|exact hq|omega)))
          (repeat (first|(refine sA ?_;try intro KR kR)|(with_reducible refine sD O109 ?_;intro KR kR;simp only [O109,ordl,seval])|(refine sB ?_;intro K hK;simp (disch := omega) only [go_sem,seval];(try ((with_reducible first|refine Gt ?_|refine gopO_f rfl ?_|refine Gv rfl ?_);simp (disch := omega) only [go_sem,seval]));(repeat first|intro (xb : Blk)|intro (xk : Nat)|intro hx|refine pC ?_);refine hK _ ?_;clear K hK)|(refine sE ?_;simp only [go_sem,seval,L109,O109];refine kR _ ?_;clear KR kR)|(simp only [thenE,inB,seval])))
          rfl
        · have hfs : fr = 0 := by rw [hfr,fromN2,if_neg h0]
          rw [hfs]
          (repeat (first|(refine sA ?_;try intro KR kR)|(with_reducible refine sD O109 ?_;intro KR kR;simp only [O109,ordl,seval])|(refine sB ?_;intro K hK;simp (disch := omega) only [go_sem,seval];(try ((with_reducible first|refine Gt ?_|refine gopO_f rfl ?_|refine Gv rfl ?_);simp (disch := omega) only [go_sem,seval]));(repeat first|intro (xb : Blk)|intro (xk : Nat)|intro hx|refine pC ?_);refine hK _ ?_;clear K hK)|(refine sE ?_;simp only [go_sem,seval,L109,O109];refine kR _ ?_;clear KR kR)|(simp only [thenE,inB,seval])))
          ((with_reducible refine Ac ?_);intro K hK;simp (disch := omega) only [condK,go_sem,seval];refine hK _ ?_ ?_;all_goals clear K hK;all_goals intro hq;all_goals (try simp only [qF,reduceCtorEq] at hq);all_goals (try (exfalso;first|exact hq|omega)))
          (repeat (first|(refine sA ?_;try intro KR kR)|(with_reducible refine sD O109 ?_;intro KR kR;simp only [O109,ordl,seval])|(refine sB ?_;intro K hK;simp (disch := omega) only [go_sem,seval];(try ((with_reducible first|refine Gt ?_|refine gopO_f rfl ?_|refine Gv rfl ?_);simp (disch := omega) only [go_sem,seval]));(repeat first|intro (xb : Blk)|intro (xk : Nat)|intro hx|refine pC ?_);refine hK _ ?_;clear K hK)|(refine sE ?_;simp only [go_sem,seval,L109,O109];refine kR _ ?_;clear KR kR)|(simp only [thenE,inB,seval])))
          rfl
      rintro S' rfl
      (repeat (first|(refine sA ?_;try intro KR kR)|(with_reducible refine sD O109 ?_;intro KR kR;simp only [O109,ordl,seval])|(refine sB ?_;intro K hK;simp (disch := omega) only [go_sem,seval];(try ((with_reducible first|refine Gt ?_|refine gopO_f rfl ?_|refine Gv rfl ?_);simp (disch := omega) only [go_sem,seval]));(repeat first|intro (xb : Blk)|intro (xk : Nat)|intro hx|refine pC ?_);refine hK _ ?_;clear K hK)|(refine sE ?_;simp only [go_sem,seval,L109,O109];refine kR _ ?_;clear KR kR)|(simp only [thenE,inB,seval])))
      refine awp_loop [0,1,2,7,10,11,12,14,1011] (fun n S => ∃ (j : Nat) (o2 w2 : Int),j ≤ X.length ∧ n + j = X.length ∧ o2 = o + cnt (X.take j) ∧ w2 = lowC o w (X.take j) ∧ S = [(0,.c (.sl 1 (rRows A))),(1,.c (.im (.int .i64 k))),(2,.c (.im (.int .i64 s))),(7,.c (.im (.int .i64 o2))),(10,.c (.im (.int .i64 w2))),(11,.c (.ref 1011 [] b 1 0 L.length)),(12,.c (.im (.int .i64 (k + t : Nat)))),(14,.c (.im (.int .i64 (fr + j : Nat)))),(1011,.row b 3 1 (kRows .i64 L))]) X.length ⟨0,o,w,by omega,by omega,by rw [List.take_zero,cnt];omega,rfl,?_⟩ ?_
      · rfl
      rintro n3 S' ⟨j,o2,w2,hj,hnj,ho2,hw2,rfl⟩
      have cr := cnt_rng (s := X.take j)
      have tl : (X.take j).length ≤ X.length := by rw [List.length_take];omega
      have tm := tmod_rng ((rAt A (k + t)).getD (fr + j) 0)
      have st0 : stp ((rAt A (k + t)).getD (fr + j) 0) = 1 - 2 * Int.tmod ((rAt A (k + t)).getD (fr + j) 0) 2 := rfl
      (repeat (first|(refine sA ?_;try intro KR kR)|(with_reducible refine sD O109 ?_;intro KR kR;simp only [O109,ordl,seval])|(refine sB ?_;intro K hK;simp (disch := omega) only [go_sem,seval];(try ((with_reducible first|refine Gt ?_|refine gopO_f rfl ?_|refine Gv rfl ?_);simp (disch := omega) only [go_sem,seval]));(repeat first|intro (xb : Blk)|intro (xk : Nat)|intro hx|refine pC ?_);refine hK _ ?_;clear K hK)|(refine sE ?_;simp only [go_sem,seval,L109,O109];refine kR _ ?_;clear KR kR)|(simp only [thenE,inB,seval])))
      ((with_reducible refine Ac ?_);intro K hK;simp (disch := omega) only [condK,go_sem,seval];refine hK _ ?_ ?_;all_goals clear K hK;all_goals intro hq;all_goals (try simp only [qF,reduceCtorEq] at hq);all_goals (try (exfalso;first|exact hq|omega)))
      · have j2 : j < X.length := by omega
        have ct := cnt_take (X := X) (j := j) j2
        have lt := low_take (X := X) (j := j) (o := o) (w := w) j2
        rw [gX j] at ct lt
        rw [← ho2,← hw2] at lt
        clear hq
        by_cases g1 : Int.tmod ((rAt A (k + t)).getD (fr + j) 0) 2 = 1
        · by_cases g2 : o2 < w2
          · rw [if_pos ⟨g1,g2⟩] at lt
            (repeat (first|(refine sA ?_;try intro KR kR)|(with_reducible refine sD O109 ?_;intro KR kR;simp only [O109,ordl,seval])|(refine sB ?_;intro K hK;simp (disch := omega) only [go_sem,seval];(try ((with_reducible first|refine Gt ?_|refine gopO_f rfl ?_|refine Gv rfl ?_);simp (disch := omega) only [go_sem,seval]));(repeat first|intro (xb : Blk)|intro (xk : Nat)|intro hx|refine pC ?_);refine hK _ ?_;clear K hK)|(refine sE ?_;simp only [go_sem,seval,L109,O109];refine kR _ ?_;clear KR kR)|(simp only [thenE,inB,seval])))
            ((with_reducible refine Ac ?_);intro K hK;simp (disch := omega) only [condK,go_sem,seval];refine hK _ ?_ ?_;all_goals clear K hK;all_goals intro hq;all_goals (try simp only [qF,reduceCtorEq] at hq);all_goals (try (exfalso;first|exact hq|omega)))
            (repeat (first|(refine sA ?_;try intro KR kR)|(with_reducible refine sD O109 ?_;intro KR kR;simp only [O109,ordl,seval])|(refine sB ?_;intro K hK;simp (disch := omega) only [go_sem,seval];(try ((with_reducible first|refine Gt ?_|refine gopO_f rfl ?_|refine Gv rfl ?_);simp (disch := omega) only [go_sem,seval]));(repeat first|intro (xb : Blk)|intro (xk : Nat)|intro hx|refine pC ?_);refine hK _ ?_;clear K hK)|(refine sE ?_;simp only [go_sem,seval,L109,O109];refine kR _ ?_;clear KR kR)|(simp only [thenE,inB,seval])))
            refine gh_no ⟨X.length - (j + 1),by omega,j + 1,o2 + 1 - 2 * Int.tmod ((rAt A (k + t)).getD (fr + j) 0) 2,o2,by omega,by omega,by omega,lt.symm,?_⟩
            ((try simp (disch := omega) only [List.cons.injEq,Prod.mk.injEq,AV.c.injEq,AV.agg.injEq,AV.opt.injEq,AV.tup.injEq,AV.row.injEq,AV.box.injEq,AV.mapo.injEq,AC.im.injEq,AC.sl.injEq,AC.adr.injEq,AC.ref.injEq,AC.ptr.injEq,AC.own.injEq,AC.fn.injEq,Value.int.injEq,Value.bool.injEq,Value.string.injEq,heq_eq_eq,go_sem,seval]);(try (repeat' refine And.intro ?_ ?_));all_goals (first|rfl|omega|skip))
          · rw [if_neg (fun h => g2 h.2)] at lt
            (repeat (first|(refine sA ?_;try intro KR kR)|(with_reducible refine sD O109 ?_;intro KR kR;simp only [O109,ordl,seval])|(refine sB ?_;intro K hK;simp (disch := omega) only [go_sem,seval];(try ((with_reducible first|refine Gt ?_|refine gopO_f rfl ?_|refine Gv rfl ?_);simp (disch := omega) only [go_sem,seval]));(repeat first|intro (xb : Blk)|intro (xk : Nat)|intro hx|refine pC ?_);refine hK _ ?_;clear K hK)|(refine sE ?_;simp only [go_sem,seval,L109,O109];refine kR _ ?_;clear KR kR)|(simp only [thenE,inB,seval])))
            ((with_reducible refine Ac ?_);intro K hK;simp (disch := omega) only [condK,go_sem,seval];refine hK _ ?_ ?_;all_goals clear K hK;all_goals intro hq;all_goals (try simp only [qF,reduceCtorEq] at hq);all_goals (try (exfalso;first|exact hq|omega)))
            (repeat (first|(refine sA ?_;try intro KR kR)|(with_reducible refine sD O109 ?_;intro KR kR;simp only [O109,ordl,seval])|(refine sB ?_;intro K hK;simp (disch := omega) only [go_sem,seval];(try ((with_reducible first|refine Gt ?_|refine gopO_f rfl ?_|refine Gv rfl ?_);simp (disch := omega) only [go_sem,seval]));(repeat first|intro (xb : Blk)|intro (xk : Nat)|intro hx|refine pC ?_);refine hK _ ?_;clear K hK)|(refine sE ?_;simp only [go_sem,seval,L109,O109];refine kR _ ?_;clear KR kR)|(simp only [thenE,inB,seval])))
            refine gh_no ⟨X.length - (j + 1),by omega,j + 1,o2 + 1 - 2 * Int.tmod ((rAt A (k + t)).getD (fr + j) 0) 2,w2,by omega,by omega,by omega,lt.symm,?_⟩
            ((try simp (disch := omega) only [List.cons.injEq,Prod.mk.injEq,AV.c.injEq,AV.agg.injEq,AV.opt.injEq,AV.tup.injEq,AV.row.injEq,AV.box.injEq,AV.mapo.injEq,AC.im.injEq,AC.sl.injEq,AC.adr.injEq,AC.ref.injEq,AC.ptr.injEq,AC.own.injEq,AC.fn.injEq,Value.int.injEq,Value.bool.injEq,Value.string.injEq,heq_eq_eq,go_sem,seval]);(try (repeat' refine And.intro ?_ ?_));all_goals (first|rfl|omega|skip))
        · rw [if_neg (fun h => g1 h.1)] at lt
          (repeat (first|(refine sA ?_;try intro KR kR)|(with_reducible refine sD O109 ?_;intro KR kR;simp only [O109,ordl,seval])|(refine sB ?_;intro K hK;simp (disch := omega) only [go_sem,seval];(try ((with_reducible first|refine Gt ?_|refine gopO_f rfl ?_|refine Gv rfl ?_);simp (disch := omega) only [go_sem,seval]));(repeat first|intro (xb : Blk)|intro (xk : Nat)|intro hx|refine pC ?_);refine hK _ ?_;clear K hK)|(refine sE ?_;simp only [go_sem,seval,L109,O109];refine kR _ ?_;clear KR kR)|(simp only [thenE,inB,seval])))
          ((with_reducible refine Ac ?_);intro K hK;simp (disch := omega) only [condK,go_sem,seval];refine hK _ ?_ ?_;all_goals clear K hK;all_goals intro hq;all_goals (try simp only [qF,reduceCtorEq] at hq);all_goals (try (exfalso;first|exact hq|omega)))
          (repeat (first|(refine sA ?_;try intro KR kR)|(with_reducible refine sD O109 ?_;intro KR kR;simp only [O109,ordl,seval])|(refine sB ?_;intro K hK;simp (disch := omega) only [go_sem,seval];(try ((with_reducible first|refine Gt ?_|refine gopO_f rfl ?_|refine Gv rfl ?_);simp (disch := omega) only [go_sem,seval]));(repeat first|intro (xb : Blk)|intro (xk : Nat)|intro hx|refine pC ?_);refine hK _ ?_;clear K hK)|(refine sE ?_;simp only [go_sem,seval,L109,O109];refine kR _ ?_;clear KR kR)|(simp only [thenE,inB,seval])))
          refine gh_no ⟨X.length - (j + 1),by omega,j + 1,o2 + 1 - 2 * Int.tmod ((rAt A (k + t)).getD (fr + j) 0) 2,w2,by omega,by omega,by omega,lt.symm,?_⟩
          ((try simp (disch := omega) only [List.cons.injEq,Prod.mk.injEq,AV.c.injEq,AV.agg.injEq,AV.opt.injEq,AV.tup.injEq,AV.row.injEq,AV.box.injEq,AV.mapo.injEq,AC.im.injEq,AC.sl.injEq,AC.adr.injEq,AC.ref.injEq,AC.ptr.injEq,AC.own.injEq,AC.fn.injEq,Value.int.injEq,Value.bool.injEq,Value.string.injEq,heq_eq_eq,go_sem,seval]);(try (repeat' refine And.intro ?_ ?_));all_goals (first|rfl|omega|skip))
      · have ej : j = X.length := by omega
        subst ej
        rw [List.take_length] at ho2 hw2
        rw [e1] at hw2
        rw [e2] at ho2
        (repeat (first|(refine sA ?_;try intro KR kR)|(with_reducible refine sD O109 ?_;intro KR kR;simp only [O109,ordl,seval])|(refine sB ?_;intro K hK;simp (disch := omega) only [go_sem,seval];(try ((with_reducible first|refine Gt ?_|refine gopO_f rfl ?_|refine Gv rfl ?_);simp (disch := omega) only [go_sem,seval]));(repeat first|intro (xb : Blk)|intro (xk : Nat)|intro hx|refine pC ?_);refine hK _ ?_;clear K hK)|(refine sE ?_;simp only [go_sem,seval,L109,O109];refine kR _ ?_;clear KR kR)|(simp only [thenE,inB,seval])))
        refine gh_no ⟨A.length - k - (t + 1),by omega,t + 1,xb,L ++ [w2],o2,w2,by omega,by omega,by rw [lowsL_succ,hL,hw2],ho2,hw2,?_⟩
        ((try simp (disch := omega) only [List.cons.injEq,Prod.mk.injEq,AV.c.injEq,AV.agg.injEq,AV.opt.injEq,AV.tup.injEq,AV.row.injEq,AV.box.injEq,AV.mapo.injEq,AC.im.injEq,AC.sl.injEq,AC.adr.injEq,AC.ref.injEq,AC.ptr.injEq,AC.own.injEq,AC.fn.injEq,Value.int.injEq,Value.bool.injEq,Value.string.injEq,heq_eq_eq,go_sem,seval]);(try (repeat' refine And.intro ?_ ?_));all_goals (first|rfl|omega|skip))
    · have et : k + t = A.length := by omega
      have e3 : A.length - k = t := by omega
      (repeat (first|(refine sA ?_;try intro KR kR)|(with_reducible refine sD O109 ?_;intro KR kR;simp only [O109,ordl,seval])|(refine sB ?_;intro K hK;simp (disch := omega) only [go_sem,seval];(try ((with_reducible first|refine Gt ?_|refine gopO_f rfl ?_|refine Gv rfl ?_);simp (disch := omega) only [go_sem,seval]));(repeat first|intro (xb : Blk)|intro (xk : Nat)|intro hx|refine pC ?_);refine hK _ ?_;clear K hK)|(refine sE ?_;simp only [go_sem,seval,L109,O109];refine kR _ ?_;clear KR kR)|(simp only [thenE,inB,seval])))
      ((with_reducible refine Ac ?_);intro K hK;simp (disch := omega) only [condK,go_sem,seval];refine hK _ ?_ ?_;all_goals clear K hK;all_goals intro hq;all_goals (try simp only [qF,reduceCtorEq] at hq);all_goals (try (exfalso;first|exact hq|omega)))
      (repeat (first|(refine sA ?_;try intro KR kR)|(with_reducible refine sD O109 ?_;intro KR kR;simp only [O109,ordl,seval])|(refine sB ?_;intro K hK;simp (disch := omega) only [go_sem,seval];(try ((with_reducible first|refine Gt ?_|refine gopO_f rfl ?_|refine Gv rfl ?_);simp (disch := omega) only [go_sem,seval]));(repeat first|intro (xb : Blk)|intro (xk : Nat)|intro hx|refine pC ?_);refine hK _ ?_;clear K hK)|(refine sE ?_;simp only [go_sem,seval,L109,O109];refine kR _ ?_;clear KR kR)|(simp only [thenE,inB,seval])))
      (simp only [retQ,Try.results109];simp (disch := omega) only [resK,resT,resAV,Env.sel,Env.keys,List.map_nil,List.map_cons,List.all_nil,List.all_cons,AV.isS,Bool.not_false,Bool.and_self,Option.map_some,List.length_cons,List.length_nil,Nat.zero_add,Nat.reduceAdd,not_false_eq_true,true_and,and_true,ne_eq,go_sem,seval,ne_eq])
      exact ⟨b,by rw [hL,e3]⟩
end Go.Proofs.Ytllemobnfpljfaa
