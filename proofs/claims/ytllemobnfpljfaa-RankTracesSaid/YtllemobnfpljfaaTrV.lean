import Derived.Test.YtllemobnfpljfaaTrS
import Derived.Test.YtllemobnfpljfaaNull2
set_option linter.unusedSimpArgs false
set_option linter.unusedVariables false
set_option maxRecDepth 100000
set_option maxHeartbeats 8000000
namespace Go.Proofs.Ytllemobnfpljfaa
open Go Go.Hs
def L159 (r : Nat) : Option (List Nat) := kl r [(0,[0,1]),(1,[4])]
def O159 (r : Nat) : List Nat × OT := ordl r []
def L141 (r : Nat) : Option (List Nat) := kl r [(0,[0,1,2,3,4]),(1,[0,1,2,3,4,11]),(2,[0,1,2,3,11,12]),(3,[0,1,2,3,11,12,24]),(4,[0,1,2,3,11,12,24,25]),(5,[10]),(6,[0,1,2,11,12,24,34]),(7,[0,1,2,11,12,13]),(8,[0,1,2,11,12,13,47]),(9,[13]),(10,[10]),(11,[0,1,2,11,12,24,64]),(12,[10]),(13,[0,1,2,11,12,24,81]),(14,[0,1,2,11,12,24,81]),(15,[0,1,2,11,12,24,81]),(16,[0,1,2,11,12,81]),(17,[10]),(18,[10])]
def O141 (r : Nat) : List Nat × OT := ordl r [(9,([14],.val 0 (.val 1 (.val 2 (.val 3 (.val 4 (.val 6 (.val 7 (.val 8 (.val 9 (.load 5 (.load 10 (.grow 11 (.grow 12 (.grow 13 (.eff 14 (.val 15 (.done)))))))))))))))))),(12,([14],.val 0 (.val 1 (.val 2 (.val 3 (.val 5 (.val 7 (.val 8 (.val 9 (.val 10 (.val 12 (.load 4 (.load 11 (.grow 6 (.grow 13 (.eff 14 (.val 15 (.done))))))))))))))))))]
def hqO (R : List (Blk × Hq)) : List (List AC) := R.map fun x => [.im (.int .i64 x.2.1),.im (.int .i64 x.2.2.1),.own x.1 3 1 (kRows .i64 x.2.2.2)]
theorem length_hqO {R : List (Blk × Hq)} : (hqO R).length = R.length := by simp [hqO]
theorem hqO_app {R T : List (Blk × Hq)} : hqO R ++ hqO T = hqO (R ++ T) := by simp [hqO]
theorem hqO_flat : ∀ {R : List (Blk × Hq)},AC.flat.flatLL (hqO R) = true
  | [] => rfl
  | x :: R => by
    have h := hqO_flat (R := R)
    have h2 : AC.flat.flatLL (kRows .i64 x.2.2.2) = true := by
      have : ∀ l : List Int,AC.flat.flatLL (kRows .i64 l) = true := fun l => by
        induction l with
        | nil => rfl
        | cons a l ih => unfold kRows at ih ⊢;simp only [List.map_cons,AC.flat.flatLL,AC.flat.flatL,AC.flat,ih,Bool.and_self]
      exact this _
    unfold hqO at h ⊢
    simp only [List.map_cons,AC.flat.flatLL,AC.flat.flatL,AC.flat,h,h2,Bool.and_self]
theorem takeHq {R : List (Blk × Hq)} : (hqO R).take R.length = hqO R := List.take_of_length_le (by rw [length_hqO];exact Nat.le_refl _)
theorem hqO_perT {R : List (Blk × Hq)} (h : R.length = 0) : (hqO R).all (fun e => e.all AC.per) = true := by
  rw [List.eq_nil_of_length_eq_zero h];rfl
theorem hqO_perF {R : List (Blk × Hq)} (h : 0 < R.length) : (hqO R).all (fun e => e.all AC.per) = false := by
  cases R with
  | nil => simp at h
  | cons x R => simp [hqO,AC.per]
theorem map_hpre {L : List (Int × List Int)} {s u : List Int} : (L.map (hpre u)).map (fun x => ((x.1,0,s ++ x.2) : Hq)) = L.map (fun x => (x.1,0,(s ++ u) ++ x.2)) := by
  rw [List.map_map]
  congr 1
  funext x
  show ((x.1,0,s ++ (u ++ x.2)) : Hq) = _
  rw [List.append_assoc]
theorem path_len {l : List Tm} (hr : rightF l = true) : ∀ n q,q < n → q < l.length → ((pathG l n q).length : Int) ≤ q + 1 - (lowsF l).getD q 0
  | 0,q,h,_ => by omega
  | n + 1,q,hn,hq => by
    have ht := term_of_right hr
    have lq := ht.low q
    rcases node_cases hr hq with ⟨k1,e⟩|⟨k1,c,d,e1,hcd,e2,e3,e4,e5,e6,e7⟩|⟨k1,d,e1,e3,e5,e6⟩
    · rw [pathG]
      split
      · show (1 : Int) ≤ _
        omega
      · rw [if_neg (by omega),if_neg (by omega),if_neg (by omega)]
        show (0 : Int) ≤ _
        omega
    · have i1 := path_len hr n c (by omega) (by omega)
      have i2 := path_len hr n d (by omega) (by omega)
      rw [pathG,if_neg (by omega),e2,e3,Int.toNat_natCast,Int.toNat_natCast]
      split
      · split
        · simp only [List.length_append,List.length_map];omega
        · simp only [List.length_append,List.length_map,List.length_nil]
          have := ht.low d
          omega
      · rw [if_pos (by omega)]
        simp only [List.length_append,List.length_map];omega
    · have i1 := path_len hr n d (by omega) (by omega)
      rw [pathG,if_neg (by omega),if_neg (by omega),if_neg (by omega),if_pos (by omega),e3,Int.toNat_natCast,List.length_map]
      omega
attribute [local go_sem] length_hqO hqO_flat hqO_app hqO_perT hqO_perF takeHq Tm.cs binSet length_tRows tRows_ex tRows_frz getK getA getB getN getTm getSet
theorem put_ok (a b : List Int) (ha : a.length ≤ 100000000) (hb : b.length ≤ 100000000) : ContractR Try.prog 159 [.c (.sl 1 (kRows .i64 a)),.c (.sl 1 (kRows .i64 b))] (fun r => ∃ k,r = .c (.own k 3 1 (kRows .i64 (a ++ b)))) := by
  (refine contract_of_awp (L := L159) Try.func159 rfl (by kernel_rfl) (by first|rfl|decide) (by first|rfl|kernel_rfl) ?_;simp only [Try.ntmps159,initEnv,Env.keys,List.map_nil,List.map_cons,List.append_nil,List.cons_append,List.nil_append])
  (repeat (first|(refine sA ?_;try intro KR kR)|(with_reducible refine sD O159 ?_;intro KR kR;simp only [O159,ordl,seval])|(refine sB ?_;intro K hK;simp (disch := omega) only [go_sem,seval];(try ((with_reducible first|refine Gt ?_|refine Gv rfl ?_);simp (disch := omega) only [go_sem,seval]));(repeat first|intro (xb : Blk)|intro (xk : Nat)|intro hx|refine pC ?_);refine hK _ ?_;clear K hK)|(refine sE ?_;simp only [go_sem,seval,L141,O141,L159,O159];refine kR _ ?_;clear KR kR)|(simp only [thenE,inB,seval])))
  (simp only [retQ,Try.results159];simp (disch := omega) only [resK,resT,resAV,Env.sel,Env.keys,List.map_nil,List.map_cons,List.all_nil,List.all_cons,AV.isS,Bool.not_false,Bool.and_self,Option.map_some,List.length_cons,List.length_nil,Nat.zero_add,Nat.reduceAdd,not_false_eq_true,true_and,and_true,ne_eq,go_sem,seval,ne_eq])
  exact ⟨xb,by rw [List.take_of_length_le (by rw [List.length_append];exact Nat.le_refl _)]⟩
set_option maxRecDepth 100000 in
set_option maxHeartbeats 8000000 in
theorem into_ok (l : List Tm) (hr : rightF l = true) : ∀ (n q : Nat) (z : Int) (s : List Int),q < n → q < l.length → z = q → s.length + 2000 * n ≤ 10000000 →
    ContractR Try.prog 141 [.c (.sl 8 (tRows l)),.c (.sl 1 (kRows .i64 (indexF l))),.c (.sl 1 (boRows (canF l))),.c (.im (.int .i64 z)),.c (.sl 1 (kRows .i64 s))] (fun r => ∃ b R,R.map (·.2) = (pathG l n q).map (fun x => (x.1,0,s ++ x.2)) ∧ r = .c (.own b 69 3 (hqO R)))
  | 0,q,_,_,h,_,_,_ => absurd h (Nat.not_lt_zero q)
  | n + 1,q,z,s,hq0,hql,hz,hs => by
    subst hz
    have ht := term_of_right hr
    have hle := ht.le
    have hp := put_ok s [2 * (q : Int)] (by omega) (by simp)
    rw [show (kRows .i64 [2 * (q : Int)] : List (List AC)) = [[AC.im (Value.int .i64 (2 * (q : Int)))]] from rfl] at hp
    obtain ⟨s2,hs2⟩ : ∃ s2,s2 = s ++ [2 * (q : Int)] := ⟨_,rfl⟩
    rw [← hs2] at hp
    have ls : s2.length = s.length + 1 := by rw [hs2];simp
    have hil : (indexF l).length = l.length := by rw [indexF_length,if_pos hr]
    have hcl : (canF l).length = l.length := by rw [canF_length,if_pos hr]
    (refine contract_of_awp (L := L141) Try.func141 rfl (by kernel_rfl) (by first|rfl|decide) (by first|rfl|kernel_rfl) ?_;simp only [Try.ntmps141,initEnv,Env.keys,List.map_nil,List.map_cons,List.append_nil,List.cons_append,List.nil_append])
    (repeat (first|(refine sA ?_;try intro KR kR)|(with_reducible refine sD O141 ?_;intro KR kR;simp only [O141,ordl,seval])|(refine sB ?_;intro K hK;simp (disch := omega) only [go_sem,seval];(try ((with_reducible first|refine Gt ?_|refine Gv rfl ?_);simp (disch := omega) only [go_sem,seval]));(repeat first|intro (xb : Blk)|intro (xk : Nat)|intro hx|refine pC ?_);refine hK _ ?_;clear K hK)|(refine sE ?_;simp only [go_sem,seval,L141,O141,L159,O159];refine kR _ ?_;clear KR kR)|(simp only [thenE,inB,seval])))
    (refine sB ?_;intro K hK;simp (disch := omega) only [go_sem,seval];(try ((with_reducible refine Gt ?_);simp (disch := omega) only [go_sem,seval]));refine cN ?_;simp (disch := omega) only [go_sem,seval];refine ⟨_,_,ContractH.n (hp),?_⟩;intro r H' hr hk;(try obtain rfl := keys_nil hk);(obtain ⟨b0,rfl⟩ := hr);(try simp (disch := omega) only [AV.flat,AC.flat,AC.flat.flatL,AC.flat.flatLL,go_sem,seval]);(repeat first|intro (xb : Blk)|intro (xk : Nat)|intro hx|refine pC ?_);refine hK _ ?_;clear K hK)
    (repeat (first|(refine sA ?_;try intro KR kR)|(with_reducible refine sD O141 ?_;intro KR kR;simp only [O141,ordl,seval])|(refine sB ?_;intro K hK;simp (disch := omega) only [go_sem,seval];(try ((with_reducible first|refine Gt ?_|refine Gv rfl ?_);simp (disch := omega) only [go_sem,seval]));(repeat first|intro (xb : Blk)|intro (xk : Nat)|intro hx|refine pC ?_);refine hK _ ?_;clear K hK)|(refine sE ?_;simp only [go_sem,seval,L141,O141,L159,O159];refine kR _ ?_;clear KR kR)|(simp only [thenE,inB,seval])))
    have pl := fun c (h1 : c < n) (h2 : c < l.length) => path_len hr n c h1 h2
    have lw := fun c => ht.low c
    rcases node_cases hr hql with ⟨k1,e⟩|⟨k1,c,d,e1,hcd,e2,e3,e4,e5,e6,e7⟩|⟨k1,d,e1,e3,e5,e6⟩
    · by_cases k2 : (tAt l q).k = 2
      · ((with_reducible refine Ac ?_);intro K hK;simp (disch := omega) only [condK,go_sem,seval];refine hK _ ?_ ?_;all_goals clear K hK;all_goals intro hq;all_goals (try simp only [qF,reduceCtorEq] at hq);all_goals (try (exfalso;first|exact hq|omega)))
        (repeat (first|(refine sA ?_;try intro KR kR)|(with_reducible refine sD O141 ?_;intro KR kR;simp only [O141,ordl,seval])|(refine sB ?_;intro K hK;simp (disch := omega) only [go_sem,seval];(try ((with_reducible first|refine Gt ?_|refine Gv rfl ?_);simp (disch := omega) only [go_sem,seval]));(repeat first|intro (xb : Blk)|intro (xk : Nat)|intro hx|refine pC ?_);refine hK _ ?_;clear K hK)|(refine sE ?_;simp only [go_sem,seval,L141,O141,L159,O159];refine kR _ ?_;clear KR kR)|(simp only [thenE,inB,seval])))
        (simp only [retQ,Try.results141];simp (disch := omega) only [resK,resT,resAV,Env.sel,Env.keys,List.map_nil,List.map_cons,List.all_nil,List.all_cons,AV.isS,Bool.not_false,Bool.and_self,Option.map_some,List.length_cons,List.length_nil,Nat.zero_add,Nat.reduceAdd,not_false_eq_true,true_and,and_true,ne_eq,go_sem,seval,ne_eq])
        refine ⟨_,[(b0,((indexF l).getD q 0,0,s2))],?_,rfl⟩
        rw [pathG,if_pos k2,hs2];rfl
      · (repeat' (first|(refine sA ?_;try intro KR kR)|(with_reducible refine sD O141 ?_;intro KR kR;simp only [O141,ordl,seval])|(refine sB ?_;intro K hK;simp (disch := omega) only [go_sem,seval];(try ((with_reducible first|refine Gt ?_|refine Gv rfl ?_);simp (disch := omega) only [go_sem,seval]));(repeat first|intro (xb : Blk)|intro (xk : Nat)|intro hx|refine pC ?_);refine hK _ ?_;clear K hK)|(refine sE ?_;simp only [go_sem,seval,L141,O141,L159,O159];refine kR _ ?_;clear KR kR)|(simp only [thenE,inB,seval])|((with_reducible refine Ac ?_);intro K hK;simp (disch := omega) only [condK,go_sem,seval];refine hK _ ?_ ?_;all_goals clear K hK;all_goals intro hq;all_goals (try simp only [qF,reduceCtorEq] at hq);all_goals (try (exfalso;first|exact hq|omega)))))
        (simp only [retQ,Try.results141];simp (disch := omega) only [resK,resT,resAV,Env.sel,Env.keys,List.map_nil,List.map_cons,List.all_nil,List.all_cons,AV.isS,Bool.not_false,Bool.and_self,Option.map_some,List.length_cons,List.length_nil,Nat.zero_add,Nat.reduceAdd,not_false_eq_true,true_and,and_true,ne_eq,go_sem,seval,ne_eq])
        refine ⟨none,[],?_,rfl⟩
        rw [pathG,if_neg (by omega),if_neg (by omega),if_neg (by omega),if_neg (by omega)];rfl
    · have rc := fun s' h => into_ok l hr n c _ s' (by omega) (by omega) e3 h
      have rd := fun s' h => into_ok l hr n d _ s' (by omega) (by omega) e2 h
      have pc := pl c (by omega) (by omega)
      have pd := pl d (by omega) (by omega)
      have lc := lw c
      have ld := lw d
      by_cases k3 : (tAt l q).k = 3
      · have hof := refOf_ok l (canF l) _ (by omega) ht hcl l.length c _ (by omega) (by omega) e3
        have lst := stepsG_length (can := canF l) ht.low l.length c (by omega) ht.node
        have est : stepsG l (canF l) l.length c = stepsL l c := rfl
        rw [est] at hof lst
        generalize hst : stepsL l c = st at hof lst
        have hp2 := put_ok s2 st (by omega) (by omega)
        obtain ⟨s3,hs3⟩ : ∃ s3,s3 = s2 ++ st := ⟨_,rfl⟩
        rw [← hs3] at hp2
        have ls3 : s3.length = s2.length + st.length := by rw [hs3];simp
        ((with_reducible refine Ac ?_);intro K hK;simp (disch := omega) only [condK,go_sem,seval];refine hK _ ?_ ?_;all_goals clear K hK;all_goals intro hq;all_goals (try simp only [qF,reduceCtorEq] at hq);all_goals (try (exfalso;first|exact hq|omega)))
        (repeat (first|(refine sA ?_;try intro KR kR)|(with_reducible refine sD O141 ?_;intro KR kR;simp only [O141,ordl,seval])|(refine sB ?_;intro K hK;simp (disch := omega) only [go_sem,seval];(try ((with_reducible first|refine Gt ?_|refine Gv rfl ?_);simp (disch := omega) only [go_sem,seval]));(repeat first|intro (xb : Blk)|intro (xk : Nat)|intro hx|refine pC ?_);refine hK _ ?_;clear K hK)|(refine sE ?_;simp only [go_sem,seval,L141,O141,L159,O159];refine kR _ ?_;clear KR kR)|(simp only [thenE,inB,seval])))
        ((with_reducible refine Ac ?_);intro K hK;simp (disch := omega) only [condK,go_sem,seval];refine hK _ ?_ ?_;all_goals clear K hK;all_goals intro hq;all_goals (try simp only [qF,reduceCtorEq] at hq);all_goals (try (exfalso;first|exact hq|omega)))
        (repeat (first|(refine sA ?_;try intro KR kR)|(with_reducible refine sD O141 ?_;intro KR kR;simp only [O141,ordl,seval])|(refine sB ?_;intro K hK;simp (disch := omega) only [go_sem,seval];(try ((with_reducible first|refine Gt ?_|refine Gv rfl ?_);simp (disch := omega) only [go_sem,seval]));(repeat first|intro (xb : Blk)|intro (xk : Nat)|intro hx|refine pC ?_);refine hK _ ?_;clear K hK)|(refine sE ?_;simp only [go_sem,seval,L141,O141,L159,O159];refine kR _ ?_;clear KR kR)|(simp only [thenE,inB,seval])))
        (refine sB ?_;intro K hK;simp (disch := omega) only [go_sem,seval];(try ((with_reducible refine Gt ?_);simp (disch := omega) only [go_sem,seval]));refine cN ?_;simp (disch := omega) only [go_sem,seval];refine ⟨_,_,ContractH.n (rc s2 (by omega)),?_⟩;intro r H' hr hk;(try obtain rfl := keys_nil hk);(obtain ⟨b1,R1,hR1,rfl⟩ := hr);(try simp (disch := omega) only [AV.flat,AC.flat,AC.flat.flatL,AC.flat.flatLL,go_sem,seval]);(repeat first|intro (xb : Blk)|intro (xk : Nat)|intro hx|refine pC ?_);refine hK _ ?_;clear K hK)
        have lR1 : R1.length = (pathG l n c).length := by have := congrArg List.length hR1;simpa using this
        (repeat (first|(refine sA ?_;try intro KR kR)|(with_reducible refine sD O141 ?_;intro KR kR;simp only [O141,ordl,seval])|(refine sB ?_;intro K hK;simp (disch := omega) only [go_sem,seval];(try ((with_reducible first|refine Gt ?_|refine Gv rfl ?_);simp (disch := omega) only [go_sem,seval]));(repeat first|intro (xb : Blk)|intro (xk : Nat)|intro hx|refine pC ?_);refine hK _ ?_;clear K hK)|(refine sE ?_;simp only [go_sem,seval,L141,O141,L159,O159];refine kR _ ?_;clear KR kR)|(simp only [thenE,inB,seval])))
        ((with_reducible refine Ac ?_);intro K hK;simp (disch := omega) only [condK,go_sem,seval];refine hK _ ?_ ?_;all_goals clear K hK)
        · intro hcb
          have hcc : canB l c = true := by rw [e3,Int.toNat_natCast] at hcb;exact hcb
          have es3 : s ++ ((2 * (q : Int)) :: st) = s3 := by rw [hs3,hs2];simp
          (repeat (first|(refine sA ?_;try intro KR kR)|(with_reducible refine sD O141 ?_;intro KR kR;simp only [O141,ordl,seval])|(refine sB ?_;intro K hK;simp (disch := omega) only [go_sem,seval];(try ((with_reducible first|refine Gt ?_|refine Gv rfl ?_);simp (disch := omega) only [go_sem,seval]));(repeat first|intro (xb : Blk)|intro (xk : Nat)|intro hx|refine pC ?_);refine hK _ ?_;clear K hK)|(refine sE ?_;simp only [go_sem,seval,L141,O141,L159,O159];refine kR _ ?_;clear KR kR)|(simp only [thenE,inB,seval])))
          (refine sB ?_;intro K hK;simp (disch := omega) only [go_sem,seval];(try ((with_reducible refine Gt ?_);simp (disch := omega) only [go_sem,seval]));refine cN ?_;simp (disch := omega) only [go_sem,seval];refine ⟨_,_,ContractH.n (hof),?_⟩;intro r H' hr hk;(try obtain rfl := keys_nil hk);(obtain ⟨b4,rfl⟩ := hr);(try simp (disch := omega) only [AV.flat,AC.flat,AC.flat.flatL,AC.flat.flatLL,go_sem,seval]);(repeat first|intro (xb : Blk)|intro (xk : Nat)|intro hx|refine pC ?_);refine hK _ ?_;clear K hK)
          (repeat (first|(refine sA ?_;try intro KR kR)|(with_reducible refine sD O141 ?_;intro KR kR;simp only [O141,ordl,seval])|(refine sB ?_;intro K hK;simp (disch := omega) only [go_sem,seval];(try ((with_reducible first|refine Gt ?_|refine Gv rfl ?_);simp (disch := omega) only [go_sem,seval]));(repeat first|intro (xb : Blk)|intro (xk : Nat)|intro hx|refine pC ?_);refine hK _ ?_;clear K hK)|(refine sE ?_;simp only [go_sem,seval,L141,O141,L159,O159];refine kR _ ?_;clear KR kR)|(simp only [thenE,inB,seval])))
          (refine sB ?_;intro K hK;simp (disch := omega) only [go_sem,seval];(try ((with_reducible refine Gt ?_);simp (disch := omega) only [go_sem,seval]));refine cN ?_;simp (disch := omega) only [go_sem,seval];refine ⟨_,_,ContractH.n (hp2),?_⟩;intro r H' hr hk;(try obtain rfl := keys_nil hk);(obtain ⟨b5,rfl⟩ := hr);(try simp (disch := omega) only [AV.flat,AC.flat,AC.flat.flatL,AC.flat.flatLL,go_sem,seval]);(repeat first|intro (xb : Blk)|intro (xk : Nat)|intro hx|refine pC ?_);refine hK _ ?_;clear K hK)
          (repeat (first|(refine sA ?_;try intro KR kR)|(with_reducible refine sD O141 ?_;intro KR kR;simp only [O141,ordl,seval])|(refine sB ?_;intro K hK;simp (disch := omega) only [go_sem,seval];(try ((with_reducible first|refine Gt ?_|refine Gv rfl ?_);simp (disch := omega) only [go_sem,seval]));(repeat first|intro (xb : Blk)|intro (xk : Nat)|intro hx|refine pC ?_);refine hK _ ?_;clear K hK)|(refine sE ?_;simp only [go_sem,seval,L141,O141,L159,O159];refine kR _ ?_;clear KR kR)|(simp only [thenE,inB,seval])))
          (refine sB ?_;intro K hK;simp (disch := omega) only [go_sem,seval];(try ((with_reducible refine Gt ?_);simp (disch := omega) only [go_sem,seval]));refine cN ?_;simp (disch := omega) only [go_sem,seval];refine ⟨_,_,ContractH.n (rd s3 (by omega)),?_⟩;intro r H' hr hk;(try obtain rfl := keys_nil hk);(obtain ⟨b2,R2,hR2,rfl⟩ := hr);(try simp (disch := omega) only [AV.flat,AC.flat,AC.flat.flatL,AC.flat.flatLL,go_sem,seval]);(repeat first|intro (xb : Blk)|intro (xk : Nat)|intro hx|refine pC ?_);refine hK _ ?_;clear K hK)
          have lR2 : R2.length = (pathG l n d).length := by have := congrArg List.length hR2;simpa using this
          by_cases h0 : R2.length = 0
          · obtain rfl : R2 = [] := List.eq_nil_of_length_eq_zero h0
            simp only [show hqO ([] : List (Blk × Hq)) = [] from rfl,List.length_nil]
            have pd0 : pathG l n d = [] := List.eq_nil_of_length_eq_zero (by rw [← lR2];rfl)
            (repeat (first|(refine sA ?_;try intro KR kR)|(with_reducible refine sD O141 ?_;intro KR kR;simp only [O141,ordl,seval])|(refine sB ?_;intro K hK;simp (disch := omega) only [go_sem,seval];(try ((with_reducible first|refine Gt ?_|refine Gv rfl ?_);simp (disch := omega) only [go_sem,seval]));(repeat first|intro (xb : Blk)|intro (xk : Nat)|intro hx|refine pC ?_);refine hK _ ?_;clear K hK)|(refine sE ?_;simp only [go_sem,seval,L141,O141,L159,O159];refine kR _ ?_;clear KR kR)|(simp only [thenE,inB,seval])))
            (simp only [retQ,Try.results141];simp (disch := omega) only [resK,resT,resAV,Env.sel,Env.keys,List.map_nil,List.map_cons,List.all_nil,List.all_cons,AV.isS,Bool.not_false,Bool.and_self,Option.map_some,List.length_cons,List.length_nil,Nat.zero_add,Nat.reduceAdd,not_false_eq_true,true_and,and_true,ne_eq,go_sem,seval,ne_eq])
            refine ⟨xb,R1,?_,?_⟩
            · rw [hR1,pathG,if_neg (by omega),if_pos k3,e3,e2,Int.toNat_natCast,Int.toNat_natCast,pd0,List.map_nil,ite_self,List.append_nil,map_hpre,hs2]
            · simp [takeHq]
          · (repeat (first|(refine sA ?_;try intro KR kR)|(with_reducible refine sD O141 ?_;intro KR kR;simp only [O141,ordl,seval])|(refine sB ?_;intro K hK;simp (disch := omega) only [go_sem,seval];(try ((with_reducible first|refine Gt ?_|refine Gv rfl ?_);simp (disch := omega) only [go_sem,seval]));(repeat first|intro (xb : Blk)|intro (xk : Nat)|intro hx|refine pC ?_);refine hK _ ?_;clear K hK)|(refine sE ?_;simp only [go_sem,seval,L141,O141,L159,O159];refine kR _ ?_;clear KR kR)|(simp only [thenE,inB,seval])))
            (simp only [retQ,Try.results141];simp (disch := omega) only [resK,resT,resAV,Env.sel,Env.keys,List.map_nil,List.map_cons,List.all_nil,List.all_cons,AV.isS,Bool.not_false,Bool.and_self,Option.map_some,List.length_cons,List.length_nil,Nat.zero_add,Nat.reduceAdd,not_false_eq_true,true_and,and_true,ne_eq,go_sem,seval,ne_eq])
            refine ⟨xb,R1 ++ R2,?_,?_⟩
            · rw [List.map_append,hR1,hR2,pathG,if_neg (by omega),if_pos k3,e3,e2,Int.toNat_natCast,Int.toNat_natCast,if_pos hcc,List.map_append,map_hpre,map_hpre,hst,es3,hs2]
            · rw [List.take_of_length_le (by rw [length_hqO,List.length_append];exact Nat.le_refl _)]
        · intro hcb
          (repeat (first|(refine sA ?_;try intro KR kR)|(with_reducible refine sD O141 ?_;intro KR kR;simp only [O141,ordl,seval])|(refine sB ?_;intro K hK;simp (disch := omega) only [go_sem,seval];(try ((with_reducible first|refine Gt ?_|refine Gv rfl ?_);simp (disch := omega) only [go_sem,seval]));(repeat first|intro (xb : Blk)|intro (xk : Nat)|intro hx|refine pC ?_);refine hK _ ?_;clear K hK)|(refine sE ?_;simp only [go_sem,seval,L141,O141,L159,O159];refine kR _ ?_;clear KR kR)|(simp only [thenE,inB,seval])))
          (simp only [retQ,Try.results141];simp (disch := omega) only [resK,resT,resAV,Env.sel,Env.keys,List.map_nil,List.map_cons,List.all_nil,List.all_cons,AV.isS,Bool.not_false,Bool.and_self,Option.map_some,List.length_cons,List.length_nil,Nat.zero_add,Nat.reduceAdd,not_false_eq_true,true_and,and_true,ne_eq,go_sem,seval,ne_eq])
          refine ⟨b1,R1,?_,rfl⟩
          have hcc : ¬ canB l c = true := by rw [e3,Int.toNat_natCast] at hcb;unfold canB;rw [hcb];decide
          rw [hR1,pathG,if_neg (by omega),if_pos k3,e3,e2,Int.toNat_natCast,Int.toNat_natCast,if_neg hcc,List.append_nil,map_hpre,hs2]
      · ((with_reducible refine Ac ?_);intro K hK;simp (disch := omega) only [condK,go_sem,seval];refine hK _ ?_ ?_;all_goals clear K hK;all_goals intro hq;all_goals (try simp only [qF,reduceCtorEq] at hq);all_goals (try (exfalso;first|exact hq|omega)))
        (repeat (first|(refine sA ?_;try intro KR kR)|(with_reducible refine sD O141 ?_;intro KR kR;simp only [O141,ordl,seval])|(refine sB ?_;intro K hK;simp (disch := omega) only [go_sem,seval];(try ((with_reducible first|refine Gt ?_|refine Gv rfl ?_);simp (disch := omega) only [go_sem,seval]));(repeat first|intro (xb : Blk)|intro (xk : Nat)|intro hx|refine pC ?_);refine hK _ ?_;clear K hK)|(refine sE ?_;simp only [go_sem,seval,L141,O141,L159,O159];refine kR _ ?_;clear KR kR)|(simp only [thenE,inB,seval])))
        ((with_reducible refine Ac ?_);intro K hK;simp (disch := omega) only [condK,go_sem,seval];refine hK _ ?_ ?_;all_goals clear K hK;all_goals intro hq;all_goals (try simp only [qF,reduceCtorEq] at hq);all_goals (try (exfalso;first|exact hq|omega)))
        (repeat (first|(refine sA ?_;try intro KR kR)|(with_reducible refine sD O141 ?_;intro KR kR;simp only [O141,ordl,seval])|(refine sB ?_;intro K hK;simp (disch := omega) only [go_sem,seval];(try ((with_reducible first|refine Gt ?_|refine Gv rfl ?_);simp (disch := omega) only [go_sem,seval]));(repeat first|intro (xb : Blk)|intro (xk : Nat)|intro hx|refine pC ?_);refine hK _ ?_;clear K hK)|(refine sE ?_;simp only [go_sem,seval,L141,O141,L159,O159];refine kR _ ?_;clear KR kR)|(simp only [thenE,inB,seval])))
        ((with_reducible refine Ac ?_);intro K hK;simp (disch := omega) only [condK,go_sem,seval];refine hK _ ?_ ?_;all_goals clear K hK;all_goals intro hq;all_goals (try simp only [qF,reduceCtorEq] at hq);all_goals (try (exfalso;first|exact hq|omega)))
        (repeat (first|(refine sA ?_;try intro KR kR)|(with_reducible refine sD O141 ?_;intro KR kR;simp only [O141,ordl,seval])|(refine sB ?_;intro K hK;simp (disch := omega) only [go_sem,seval];(try ((with_reducible first|refine Gt ?_|refine Gv rfl ?_);simp (disch := omega) only [go_sem,seval]));(repeat first|intro (xb : Blk)|intro (xk : Nat)|intro hx|refine pC ?_);refine hK _ ?_;clear K hK)|(refine sE ?_;simp only [go_sem,seval,L141,O141,L159,O159];refine kR _ ?_;clear KR kR)|(simp only [thenE,inB,seval])))
        (refine sB ?_;intro K hK;simp (disch := omega) only [go_sem,seval];(try ((with_reducible refine Gt ?_);simp (disch := omega) only [go_sem,seval]));refine cN ?_;simp (disch := omega) only [go_sem,seval];refine ⟨_,_,ContractH.n (rc s2 (by omega)),?_⟩;intro r H' hr hk;(try obtain rfl := keys_nil hk);(obtain ⟨b1,R1,hR1,rfl⟩ := hr);(try simp (disch := omega) only [AV.flat,AC.flat,AC.flat.flatL,AC.flat.flatLL,go_sem,seval]);(repeat first|intro (xb : Blk)|intro (xk : Nat)|intro hx|refine pC ?_);refine hK _ ?_;clear K hK)
        have lR1 : R1.length = (pathG l n c).length := by have := congrArg List.length hR1;simpa using this
        (repeat (first|(refine sA ?_;try intro KR kR)|(with_reducible refine sD O141 ?_;intro KR kR;simp only [O141,ordl,seval])|(refine sB ?_;intro K hK;simp (disch := omega) only [go_sem,seval];(try ((with_reducible first|refine Gt ?_|refine Gv rfl ?_);simp (disch := omega) only [go_sem,seval]));(repeat first|intro (xb : Blk)|intro (xk : Nat)|intro hx|refine pC ?_);refine hK _ ?_;clear K hK)|(refine sE ?_;simp only [go_sem,seval,L141,O141,L159,O159];refine kR _ ?_;clear KR kR)|(simp only [thenE,inB,seval])))
        (refine sB ?_;intro K hK;simp (disch := omega) only [go_sem,seval];(try ((with_reducible refine Gt ?_);simp (disch := omega) only [go_sem,seval]));refine cN ?_;simp (disch := omega) only [go_sem,seval];refine ⟨_,_,ContractH.n (rd s2 (by omega)),?_⟩;intro r H' hr hk;(try obtain rfl := keys_nil hk);(obtain ⟨b2,R2,hR2,rfl⟩ := hr);(try simp (disch := omega) only [AV.flat,AC.flat,AC.flat.flatL,AC.flat.flatLL,go_sem,seval]);(repeat first|intro (xb : Blk)|intro (xk : Nat)|intro hx|refine pC ?_);refine hK _ ?_;clear K hK)
        have lR2 : R2.length = (pathG l n d).length := by have := congrArg List.length hR2;simpa using this
        by_cases h0 : R2.length = 0
        · obtain rfl : R2 = [] := List.eq_nil_of_length_eq_zero h0
          simp only [show hqO ([] : List (Blk × Hq)) = [] from rfl,List.length_nil]
          have pd0 : pathG l n d = [] := List.eq_nil_of_length_eq_zero (by rw [← lR2];rfl)
          (repeat (first|(refine sA ?_;try intro KR kR)|(with_reducible refine sD O141 ?_;intro KR kR;simp only [O141,ordl,seval])|(refine sB ?_;intro K hK;simp (disch := omega) only [go_sem,seval];(try ((with_reducible first|refine Gt ?_|refine Gv rfl ?_);simp (disch := omega) only [go_sem,seval]));(repeat first|intro (xb : Blk)|intro (xk : Nat)|intro hx|refine pC ?_);refine hK _ ?_;clear K hK)|(refine sE ?_;simp only [go_sem,seval,L141,O141,L159,O159];refine kR _ ?_;clear KR kR)|(simp only [thenE,inB,seval])))
          (simp only [retQ,Try.results141];simp (disch := omega) only [resK,resT,resAV,Env.sel,Env.keys,List.map_nil,List.map_cons,List.all_nil,List.all_cons,AV.isS,Bool.not_false,Bool.and_self,Option.map_some,List.length_cons,List.length_nil,Nat.zero_add,Nat.reduceAdd,not_false_eq_true,true_and,and_true,ne_eq,go_sem,seval,ne_eq])
          refine ⟨xb,R1,?_,?_⟩
          · rw [hR1,pathG,if_neg (by omega),if_neg (by omega),if_pos (by omega),e3,e2,Int.toNat_natCast,Int.toNat_natCast,pd0,List.map_nil,List.append_nil,map_hpre,hs2]
          · simp [takeHq]
        · (repeat (first|(refine sA ?_;try intro KR kR)|(with_reducible refine sD O141 ?_;intro KR kR;simp only [O141,ordl,seval])|(refine sB ?_;intro K hK;simp (disch := omega) only [go_sem,seval];(try ((with_reducible first|refine Gt ?_|refine Gv rfl ?_);simp (disch := omega) only [go_sem,seval]));(repeat first|intro (xb : Blk)|intro (xk : Nat)|intro hx|refine pC ?_);refine hK _ ?_;clear K hK)|(refine sE ?_;simp only [go_sem,seval,L141,O141,L159,O159];refine kR _ ?_;clear KR kR)|(simp only [thenE,inB,seval])))
          (simp only [retQ,Try.results141];simp (disch := omega) only [resK,resT,resAV,Env.sel,Env.keys,List.map_nil,List.map_cons,List.all_nil,List.all_cons,AV.isS,Bool.not_false,Bool.and_self,Option.map_some,List.length_cons,List.length_nil,Nat.zero_add,Nat.reduceAdd,not_false_eq_true,true_and,and_true,ne_eq,go_sem,seval,ne_eq])
          refine ⟨xb,R1 ++ R2,?_,?_⟩
          · rw [List.map_append,hR1,hR2,pathG,if_neg (by omega),if_neg (by omega),if_pos (by omega),e3,e2,Int.toNat_natCast,Int.toNat_natCast,List.map_append,map_hpre,map_hpre,hs2]
          · rw [List.take_of_length_le (by rw [length_hqO,List.length_append];exact Nat.le_refl _)]
    · have rd := fun s' h => into_ok l hr n d _ s' (by omega) (by omega) e3 h
      (repeat' (first|(refine sA ?_;try intro KR kR)|(with_reducible refine sD O141 ?_;intro KR kR;simp only [O141,ordl,seval])|(refine sB ?_;intro K hK;simp (disch := omega) only [go_sem,seval];(try ((with_reducible first|refine Gt ?_|refine Gv rfl ?_);simp (disch := omega) only [go_sem,seval]));(repeat first|intro (xb : Blk)|intro (xk : Nat)|intro hx|refine pC ?_);refine hK _ ?_;clear K hK)|(refine sE ?_;simp only [go_sem,seval,L141,O141,L159,O159];refine kR _ ?_;clear KR kR)|(simp only [thenE,inB,seval])|((with_reducible refine Ac ?_);intro K hK;simp (disch := omega) only [condK,go_sem,seval];refine hK _ ?_ ?_;all_goals clear K hK;all_goals intro hq;all_goals (try simp only [qF,reduceCtorEq] at hq);all_goals (try (exfalso;first|exact hq|omega)))))
      all_goals
        (refine sB ?_;intro K hK;simp (disch := omega) only [go_sem,seval];(try ((with_reducible refine Gt ?_);simp (disch := omega) only [go_sem,seval]));refine cN ?_;simp (disch := omega) only [go_sem,seval];refine ⟨_,_,ContractH.n (rd s2 (by omega)),?_⟩;intro r H' hr hk;(try obtain rfl := keys_nil hk);(obtain ⟨b1,R1,hR1,rfl⟩ := hr);(try simp (disch := omega) only [AV.flat,AC.flat,AC.flat.flatL,AC.flat.flatLL,go_sem,seval]);(repeat first|intro (xb : Blk)|intro (xk : Nat)|intro hx|refine pC ?_);refine hK _ ?_;clear K hK)
        (repeat (first|(refine sA ?_;try intro KR kR)|(with_reducible refine sD O141 ?_;intro KR kR;simp only [O141,ordl,seval])|(refine sB ?_;intro K hK;simp (disch := omega) only [go_sem,seval];(try ((with_reducible first|refine Gt ?_|refine Gv rfl ?_);simp (disch := omega) only [go_sem,seval]));(repeat first|intro (xb : Blk)|intro (xk : Nat)|intro hx|refine pC ?_);refine hK _ ?_;clear K hK)|(refine sE ?_;simp only [go_sem,seval,L141,O141,L159,O159];refine kR _ ?_;clear KR kR)|(simp only [thenE,inB,seval])))
        (simp only [retQ,Try.results141];simp (disch := omega) only [resK,resT,resAV,Env.sel,Env.keys,List.map_nil,List.map_cons,List.all_nil,List.all_cons,AV.isS,Bool.not_false,Bool.and_self,Option.map_some,List.length_cons,List.length_nil,Nat.zero_add,Nat.reduceAdd,not_false_eq_true,true_and,and_true,ne_eq,go_sem,seval,ne_eq])
        refine ⟨b1,R1,?_,rfl⟩
        rw [hR1,pathG,if_neg (by omega),if_neg (by omega),if_neg (by omega),if_pos (by omega),e3,Int.toNat_natCast,map_hpre,hs2]
end Go.Proofs.Ytllemobnfpljfaa
