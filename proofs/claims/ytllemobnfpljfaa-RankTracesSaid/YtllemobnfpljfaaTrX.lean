import Derived.Test.YtllemobnfpljfaaTrW
set_option linter.unusedSimpArgs false
set_option linter.unusedVariables false
set_option maxRecDepth 100000
set_option maxHeartbeats 8000000
namespace Go.Proofs.Ytllemobnfpljfaa
open Go Go.Hs
def L140 (r : Nat) : Option (List Nat) := kl r [(0,[0,1,5]),(1,[0,1,5,7,8,9,10]),(2,[0,5,7,8,9,10,11]),(3,[0,5,7,8,9,10,11,12]),(4,[0,5,7,8,9,10,11,12,13]),(5,[0,5,7,8,9,10,11,12,13,39]),(6,[0,5,7,8,9,10,11,12,13,14]),(7,[0,5,7,8,9,10,11,12,13,14,15]),(8,[0,5,7,8,9,10,11,12,13,14,15,58]),(9,[0,5,7,8,9,10,11,12,13,14,15]),(10,[0,5,7,8,9,10,11,12,13,14,15,69]),(11,[0,5,7,8,9,10,11,12,13,14,15]),(12,[0,5,7,8,9,10,11,12,13,14,15,76]),(13,[0,5,7,8,9,10,11,12,13,14,15,16]),(14,[0,5,7,8,9,10,11,12,13,14,15,16,17]),(15,[0,5,7,8,9,10,11,12,13,14,15,16,17,86]),(16,[0,5,7,8,9,10,11,12,13,14,15,16,17]),(17,[0,5,7,8,9,10,11,12,13,14,15,16,17,96]),(18,[0,5,7,8,9,10,11,12,13,14,15,16,17]),(19,[0,5,7,8,9,10,11,12,13,14,15,16,17]),(20,[0,5,7,8,9,10,12,13,14,15,126]),(21,[0,5,7,8,9,10,12,13,14,15,131]),(22,[4,5,6]),(23,[0,5,7,8,9,10,12,13,14]),(24,[0,5,7,8,9,10,12,13,14]),(25,[0,5,7,8,9,10,11,12,13]),(26,[4,5,6])]
def O140 (r : Nat) : List Nat × OT := ordl r []
theorem steps_len {l : List Tm} (hr : rightF l = true) {q : Nat} (hq : q < l.length) : (stepsL l q).length ≤ 802 := by
  have ht := term_of_right hr
  have := stepsG_length (can := canF l) ht.low l.length q hq ht.node
  have := ht.low q
  have := ht.le
  show (stepsG l (canF l) l.length q).length ≤ 802
  omega
theorem node_ge {l : List Tm} (hr : rightF l = true) {f : Nat} (hf : f < l.length) : ∀ m,climbOk l f m → f + m ≤ nodeS l f m
  | 0,_ => Nat.le_refl _
  | m + 1,h => by
    have ih := node_ge hr hf m (fun j hj => h j (by omega))
    have c := climb_ok hr hf m (fun j hj => h j (by omega))
    have ht := term_of_right hr
    obtain ⟨g1,g2,_⟩ := up_deep hr c.1 (h m (by omega)).1
    have g1 : nodeS l f (m + 1) < l.length := g1
    have := IsPar.lt ht.low (ht.node _ g1) g2
    have : nodeS l f m < nodeS l f (m + 1) := this
    omega
theorem back_len {l : List Tm} (hr : rightF l = true) {f : Nat} (hf : f < l.length) : ∀ m,climbOk l f m → (backS l f m).length ≤ 1 + 803 * m
  | 0,_ => by show [(2 * f + 1 : Int)].length ≤ _;simp
  | m + 1,h => by
    have ih := back_len hr hf m (fun j hj => h j (by omega))
    have c := climb_ok hr hf (m + 1) h
    have ht := term_of_right hr
    rw [back_succ,segS,List.length_append,List.length_append]
    split
    · rename_i hc
      have hb : (tAt l (nodeS l f (m + 1))).b.toNat < l.length := by
        rcases node_cases hr c.1 with ⟨k,_⟩|⟨k,c',d,e1,_,e2,_⟩|⟨k,_⟩
        · have := hc.1;omega
        · rw [e2,Int.toNat_natCast];omega
        · have := hc.1;omega
      have := steps_len hr hb
      simp only [List.length_cons,List.length_nil];omega
    · simp only [List.length_cons,List.length_nil];omega
def setT (H : List Hq) (i : Nat) (v : Int) : List Hq := H.set i ((qAt H i).1,v,(qAt H i).2.2)
theorem goT_len {H : List Hq} {i : Nat} {v : Int} : (setT H i v).length = H.length := by simp [setT]
theorem hQ_setT {H : List Hq} {i : Nat} {v : Int} (h : i < H.length) : (hQ H).set i (splice ((hQ H).getD i []) 1 [.im (.int .i64 v)]) = hQ (setT H i v) := by
  have e : (hQ H).getD i [] = [.im (.int .i64 (qAt H i).1),.im (.int .i64 (qAt H i).2.1),.sl 1 (kRows .i64 (qAt H i).2.2)] := by
    unfold hQ qAt
    rw [List.getD_eq_getElem?_getD,List.getElem?_map,List.getElem?_eq_getElem h,List.getD_eq_getElem?_getD,List.getElem?_eq_getElem h];rfl
  rw [e]
  unfold hQ setT
  rw [List.map_set];rfl
theorem setT_at {H : List Hq} {i : Nat} {v : Int} (h : i < H.length) : qAt (setT H i v) i = ((qAt H i).1,v,(qAt H i).2.2) := by
  unfold setT
  rw [qAt,List.getD_eq_getElem?_getD,List.getElem?_set_self h];rfl
theorem setT_other {H : List Hq} {i j : Nat} {v : Int} (h : i ≠ j) : qAt (setT H i v) j = qAt H j := by
  unfold setT qAt
  rw [List.getD_eq_getElem?_getD,List.getElem?_set_ne h,← List.getD_eq_getElem?_getD]
theorem hQ_snoc {o : List Hq} {a b : Int} {s : List Int} : hQ o ++ [[.im (.int .i64 a),.im (.int .i64 b),.sl 1 (kRows .i64 s)]] = hQ (o ++ [(a,b,s)]) := by simp [hQ]
theorem takeQ {o : List Hq} : (hQ o).take o.length = hQ o := List.take_of_length_le (by rw [length_hQ];exact Nat.le_refl _)
theorem exQ {o : List Hq} : ex (hQ o) 0 o.length = hQ o := by rw [ex_eq,List.drop_zero,Nat.sub_zero,takeQ]
theorem addN_len {T : Int} {H out : List Hq} : ∀ n,(addN T H out n).length ≤ out.length + n
  | 0 => Nat.le_refl _
  | n + 1 => by
    have := addN_len (T := T) (H := H) (out := out) n
    rw [addN];split
    · omega
    · simp only [List.length_append,List.length_cons,List.length_nil];omega
theorem intoF_len {l : List Tm} (hr : rightF l = true) {g : Nat} {s : List Int} (hg : g < l.length) : (intoF l g s).length ≤ 400 := by
  have := path_len hr l.length g hg hg
  have ht := term_of_right hr
  have := ht.low g
  have := ht.le
  unfold intoF
  rw [List.length_map];omega
theorem goal_lt {l : List Tm} (hr : rightF l = true) {q x : Nat} (hx : x < l.length) (h : 0 ≤ goalF l q x) : (goalF l q x).toNat < l.length := by
  unfold goalF at h ⊢
  rcases node_cases hr hx with ⟨k,_⟩|⟨k,c,d,e1,ecd,e2,e3,_⟩|⟨k,d,e1,e3,_⟩
  · rw [if_neg (by omega),if_neg (fun c => by have := c.1;omega)] at h;omega
  · rw [if_neg (by omega)] at h ⊢
    split
    · rw [e2];omega
    · rename_i hc;rw [if_neg hc] at h;omega
  · by_cases k5 : (tAt l x).k = 5
    · rw [if_pos k5,e3];omega
    · rw [if_neg k5,if_neg (fun c => by have := c.1;omega)] at h;omega
attribute [local go_sem] AV.isS length_hqO hqO_flat takeHq hqO_frz length_hQ hQ_frz getQ0 getQ1 getQR hQ_setT hQ_snoc takeQ exQ setT_at goT_len Tm.cs binSet length_tRows tRows_ex tRows_frz getK getA getB getN getTm getSet
set_option maxRecDepth 100000 in
set_option maxHeartbeats 8000000 in
theorem climb_walk (l : List Tm) (hl : l.length ≤ 1000) (p : Int) (hp : 0 ≤ p ∧ p < (placesF l).length) :
    ContractR Try.prog 140 [.c (.sl 8 (tRows l)),.c (.im (.int .i64 p))] (fun r => ∃ b,r = .tup [.c (.own b 69 3 (hQ (allF l (leafN l p)))),.ag [.im (.int .i64 0),.im (.int .i64 0),.nil],.c (.im (.bool false))] ∨ ∃ b2 st,r = .tup [.c (.own b 69 3 (hQ (allF l (leafN l p)))),.ag [.im (.int .i64 (-1)),.im (.int .i64 0),.own b2 3 1 (kRows .i64 st)],.c (.im (.bool true))]) := by
  have hr := right_places hp
  have ht := term_of_right hr
  have hle := ht.le
  obtain ⟨f1,f2,f3⟩ := leafN_ok hr hp
  have hpf : (placesF l).getD p.toNat 0 = leafN l p := by
    obtain ⟨q,q1,q2,q3,q4⟩ := placesF_get hr (p := p.toNat) (by omega)
    have : leafN l p = q := by unfold leafN;rw [q2];rfl
    rw [q2,this]
  generalize leafN l p = f at *
  have hup := refUp_ok l hl
  have hde := refDeep_ok l hl
  have hix := refIndex_ok l hl
  have hca := refCan_ok l hl
  have hlv := refLeaves_ok l hl
  have lup : (upF l).length = l.length := by rw [upF_length,if_pos hr]
  have lde : (deepF l).length = l.length := by rw [deepF_length,if_pos hr]
  have lix : (indexF l).length = l.length := by rw [indexF_length,if_pos hr]
  have lca : (canF l).length = l.length := by rw [canF_length,if_pos hr]
  obtain ⟨a,ha⟩ : ∃ a : Nat,p = a := ⟨p.toNat,by omega⟩
  subst ha
  rw [Int.toNat_natCast] at hpf
  (refine contract_of_awp (L := L140) Try.func140 rfl (by kernel_rfl) (by first|rfl|decide) (by first|rfl|kernel_rfl) ?_;simp only [Try.ntmps140,initEnv,Env.keys,List.map_nil,List.map_cons,List.append_nil,List.cons_append,List.nil_append])
  (first|(refine sA ?_;try intro KR kR)|(with_reducible refine sD O140 ?_;intro KR kR;simp only [O140,ordl,seval]))
  (first|(refine sA ?_;try intro KR kR)|(with_reducible refine sD O140 ?_;intro KR kR;simp only [O140,ordl,seval]))
  (repeat' (first|(refine sB ?_;intro K hK;simp (disch := omega) only [go_sem,seval];(try ((with_reducible first|refine Gt ?_|refine gopO_f rfl ?_|refine Gv rfl ?_);simp (disch := omega) only [go_sem,seval]));(repeat first|intro (xb : Blk)|intro (xk : Nat)|intro hx|refine pC ?_);refine hK _ ?_;clear K hK)|(refine sE ?_;simp only [go_sem,seval,L140,O140];refine kR _ ?_;clear KR kR)|(simp only [thenE,inB,seval])|((with_reducible (first|refine Rb ?_ ?_|refine Rc ?_ ?_ ?_));all_goals (simp only [↓reduceIte,reduceCtorEq,Nat.reduceEqDiff]))))
  generalize xk = k5
  (repeat (first|(refine sA ?_;try intro KR kR)|(with_reducible refine sD O140 ?_;intro KR kR;simp only [O140,ordl,seval])|(refine sB ?_;intro K hK;simp (disch := omega) only [go_sem,seval];(try ((with_reducible first|refine Gt ?_|refine gopO_f rfl ?_|refine Gv rfl ?_);simp (disch := omega) only [go_sem,seval]));(repeat first|intro (xb : Blk)|intro (xk : Nat)|intro hx|refine pC ?_);refine hK _ ?_;clear K hK)|(refine sE ?_;simp only [go_sem,seval,L140,O140];refine kR _ ?_;clear KR kR)|(simp only [thenE,inB,seval])))
  (refine sB ?_;intro K hK;simp (disch := omega) only [go_sem,seval];(try ((with_reducible refine Gt ?_);simp (disch := omega) only [go_sem,seval]));refine cN ?_;simp (disch := omega) only [go_sem,seval];refine ⟨_,_,ContractH.n (hup),?_⟩;intro r H' hr hk;(try obtain rfl := keys_nil hk);(obtain ⟨b1,rfl⟩ := hr);(try simp (disch := omega) only [AV.flat,AC.flat,AC.flat.flatL,AC.flat.flatLL,go_sem,seval]);(repeat first|intro (xb : Blk)|intro (xk : Nat)|intro hx|refine pC ?_);refine hK _ ?_;clear K hK)
  (repeat (first|(refine sA ?_;try intro KR kR)|(with_reducible refine sD O140 ?_;intro KR kR;simp only [O140,ordl,seval])|(refine sB ?_;intro K hK;simp (disch := omega) only [go_sem,seval];(try ((with_reducible first|refine Gt ?_|refine gopO_f rfl ?_|refine Gv rfl ?_);simp (disch := omega) only [go_sem,seval]));(repeat first|intro (xb : Blk)|intro (xk : Nat)|intro hx|refine pC ?_);refine hK _ ?_;clear K hK)|(refine sE ?_;simp only [go_sem,seval,L140,O140];refine kR _ ?_;clear KR kR)|(simp only [thenE,inB,seval])))
  (refine sB ?_;intro K hK;simp (disch := omega) only [go_sem,seval];(try ((with_reducible refine Gt ?_);simp (disch := omega) only [go_sem,seval]));refine cN ?_;simp (disch := omega) only [go_sem,seval];refine ⟨_,_,ContractH.n (hde),?_⟩;intro r H' hr hk;(try obtain rfl := keys_nil hk);(obtain ⟨b2,rfl⟩ := hr);(try simp (disch := omega) only [AV.flat,AC.flat,AC.flat.flatL,AC.flat.flatLL,go_sem,seval]);(repeat first|intro (xb : Blk)|intro (xk : Nat)|intro hx|refine pC ?_);refine hK _ ?_;clear K hK)
  (repeat (first|(refine sA ?_;try intro KR kR)|(with_reducible refine sD O140 ?_;intro KR kR;simp only [O140,ordl,seval])|(refine sB ?_;intro K hK;simp (disch := omega) only [go_sem,seval];(try ((with_reducible first|refine Gt ?_|refine gopO_f rfl ?_|refine Gv rfl ?_);simp (disch := omega) only [go_sem,seval]));(repeat first|intro (xb : Blk)|intro (xk : Nat)|intro hx|refine pC ?_);refine hK _ ?_;clear K hK)|(refine sE ?_;simp only [go_sem,seval,L140,O140];refine kR _ ?_;clear KR kR)|(simp only [thenE,inB,seval])))
  (refine sB ?_;intro K hK;simp (disch := omega) only [go_sem,seval];(try ((with_reducible refine Gt ?_);simp (disch := omega) only [go_sem,seval]));refine cN ?_;simp (disch := omega) only [go_sem,seval];refine ⟨_,_,ContractH.n (hix),?_⟩;intro r H' hr hk;(try obtain rfl := keys_nil hk);(obtain ⟨b3,rfl⟩ := hr);(try simp (disch := omega) only [AV.flat,AC.flat,AC.flat.flatL,AC.flat.flatLL,go_sem,seval]);(repeat first|intro (xb : Blk)|intro (xk : Nat)|intro hx|refine pC ?_);refine hK _ ?_;clear K hK)
  (repeat (first|(refine sA ?_;try intro KR kR)|(with_reducible refine sD O140 ?_;intro KR kR;simp only [O140,ordl,seval])|(refine sB ?_;intro K hK;simp (disch := omega) only [go_sem,seval];(try ((with_reducible first|refine Gt ?_|refine gopO_f rfl ?_|refine Gv rfl ?_);simp (disch := omega) only [go_sem,seval]));(repeat first|intro (xb : Blk)|intro (xk : Nat)|intro hx|refine pC ?_);refine hK _ ?_;clear K hK)|(refine sE ?_;simp only [go_sem,seval,L140,O140];refine kR _ ?_;clear KR kR)|(simp only [thenE,inB,seval])))
  (refine sB ?_;intro K hK;simp (disch := omega) only [go_sem,seval];(try ((with_reducible refine Gt ?_);simp (disch := omega) only [go_sem,seval]));refine cN ?_;simp (disch := omega) only [go_sem,seval];refine ⟨_,_,ContractH.n (hca),?_⟩;intro r H' hr hk;(try obtain rfl := keys_nil hk);(obtain ⟨b4,rfl⟩ := hr);(try simp (disch := omega) only [AV.flat,AC.flat,AC.flat.flatL,AC.flat.flatLL,go_sem,seval]);(repeat first|intro (xb : Blk)|intro (xk : Nat)|intro hx|refine pC ?_);refine hK _ ?_;clear K hK)
  (repeat' (first|(refine sB ?_;intro K hK;simp (disch := omega) only [go_sem,seval];(try ((with_reducible first|refine Gt ?_|refine gopO_f rfl ?_|refine Gv rfl ?_);simp (disch := omega) only [go_sem,seval]));(repeat first|intro (xb : Blk)|intro (xk : Nat)|intro hx|refine pC ?_);refine hK _ ?_;clear K hK)|(refine sE ?_;simp only [go_sem,seval,L140,O140];refine kR _ ?_;clear KR kR)|(simp only [thenE,inB,seval])|((with_reducible (first|refine Rb ?_ ?_|refine Rc ?_ ?_ ?_));all_goals (simp only [↓reduceIte,reduceCtorEq,Nat.reduceEqDiff]))))
  (first|(refine sA ?_;try intro KR kR)|(with_reducible refine sD O140 ?_;intro KR kR;simp only [O140,ordl,seval]))
  refine awp_ghkT (.pub 7) ?_
  intro K hK
  simp (disch := omega) only [ghK,go_sem,seval]
  (repeat (refine ⟨by first|omega|rfl|decide|simp,?_⟩))
  refine hK _ ?_
  clear K hK
  refine awp_ghkT (.pub 8) ?_
  intro K hK
  simp (disch := omega) only [ghK,go_sem,seval]
  (repeat (refine ⟨by first|omega|rfl|decide|simp,?_⟩))
  refine hK _ ?_
  clear K hK
  refine awp_ghkT (.pub 9) ?_
  intro K hK
  simp (disch := omega) only [ghK,go_sem,seval]
  (repeat (refine ⟨by first|omega|rfl|decide|simp,?_⟩))
  refine hK _ ?_
  clear K hK
  refine awp_ghkT (.pub 10) ?_
  intro K hK
  simp (disch := omega) only [ghK,go_sem,seval]
  (repeat (refine ⟨by first|omega|rfl|decide|simp,?_⟩))
  refine hK _ ?_
  clear K hK
  (repeat (first|(refine sA ?_;try intro KR kR)|(with_reducible refine sD O140 ?_;intro KR kR;simp only [O140,ordl,seval])|(refine sB ?_;intro K hK;simp (disch := omega) only [go_sem,seval];(try ((with_reducible first|refine Gt ?_|refine gopO_f rfl ?_|refine Gv rfl ?_);simp (disch := omega) only [go_sem,seval]));(repeat first|intro (xb : Blk)|intro (xk : Nat)|intro hx|refine pC ?_);refine hK _ ?_;clear K hK)|(refine sE ?_;simp only [go_sem,seval,L140,O140];refine kR _ ?_;clear KR kR)|(simp only [thenE,inB,seval])))
  (refine sB ?_;intro K hK;simp (disch := omega) only [go_sem,seval];(try ((with_reducible refine Gt ?_);simp (disch := omega) only [go_sem,seval]));refine cN ?_;simp (disch := omega) only [go_sem,seval];refine ⟨_,_,ContractH.n (hlv),?_⟩;intro r H' hr hk;(try obtain rfl := keys_nil hk);(obtain ⟨b5,rfl⟩ := hr);(try simp (disch := omega) only [AV.flat,AC.flat,AC.flat.flatL,AC.flat.flatLL,go_sem,seval]);(repeat first|intro (xb : Blk)|intro (xk : Nat)|intro hx|refine pC ?_);refine hK _ ?_;clear K hK)
  (repeat (first|(refine sA ?_;try intro KR kR)|(with_reducible refine sD O140 ?_;intro KR kR;simp only [O140,ordl,seval])|(refine sB ?_;intro K hK;simp (disch := omega) only [go_sem,seval];(try ((with_reducible first|refine Gt ?_|refine gopO_f rfl ?_|refine Gv rfl ?_);simp (disch := omega) only [go_sem,seval]));(repeat first|intro (xb : Blk)|intro (xk : Nat)|intro hx|refine pC ?_);refine hK _ ?_;clear K hK)|(refine sE ?_;simp only [go_sem,seval,L140,O140];refine kR _ ?_;clear KR kR)|(simp only [thenE,inB,seval])))
  rw [hpf]
  generalize (some (xk,1) : Blk) = b6
  refine awp_loop_gh [.ren 1034 1145] [0,5,7,8,9,10,11,12,13,1005,1013,1145] (fun n S => ∃ (m : Nat) (out : List Hq) (ob sb : Blk),climbOk l f m ∧ climbR l f n m out = allF l f ∧ n + m = l.length + 1 ∧ out.length ≤ 400 * m ∧ S = [(0,.c (.sl 8 (tRows l))),(5,.c (.ptr 1005 [] k5 3 0 0)),(7,.c (.sl 1 (kRows .i64 (upF l)))),(8,.c (.sl 1 (kRows .i64 (deepF l)))),(9,.c (.sl 1 (kRows .i64 (indexF l)))),(10,.c (.sl 1 (boRows (canF l)))),(11,.c (.im (.int .i64 (nodeS l f m : Nat)))),(12,.c (.ref 1145 [] sb 1 0 (backS l f m).length)),(13,.c (.ref 1013 [] ob 3 0 (out).length)),(1005,.box k5 69 [.im (.int .i64 0),.im (.int .i64 0),.nil]),(1013,.row ob 69 3 (hQ (out))),(1145,.row sb 3 1 (kRows .i64 (backS l f m)))]) ?_ ?_
  · simp (disch := omega) only [ghs,ghK,go_sem,seval]
    exact ⟨l.length + 1,0,[],none,b6,fun j hj => (by omega),rfl,rfl,(by simp),rfl⟩
  rintro n S' ⟨m,out,ob,sb,ok,hall,hnm,hol,rfl⟩
  have ck := climb_ok hr f1 m ok
  have ng := node_ge hr f1 m ok
  have bl := back_len hr f1 m ok
  obtain ⟨n',rfl⟩ : ∃ n',n = n' + 1 := ⟨n - 1,by omega⟩
  rw [climbR] at hall
  have ql := ck.1
  by_cases hu : (upF l).getD (nodeS l f m) 0 < 0
  · rw [if_pos hu] at hall
    subst hall
    (repeat (first|(refine sA ?_;try intro KR kR)|(with_reducible refine sD O140 ?_;intro KR kR;simp only [O140,ordl,seval])|(refine sB ?_;intro K hK;simp (disch := omega) only [go_sem,seval];(try ((with_reducible first|refine Gt ?_|refine gopO_f rfl ?_|refine Gv rfl ?_);simp (disch := omega) only [go_sem,seval]));(repeat first|intro (xb : Blk)|intro (xk : Nat)|intro hx|refine pC ?_);refine hK _ ?_;clear K hK)|(refine sE ?_;simp only [go_sem,seval,L140,O140];refine kR _ ?_;clear KR kR)|(simp only [thenE,inB,seval])))
    ((with_reducible refine Ac ?_);intro K hK;simp (disch := omega) only [condK,go_sem,seval];refine hK _ ?_ ?_;all_goals clear K hK;all_goals intro hq;all_goals (try simp only [qF,reduceCtorEq] at hq);all_goals (try (exfalso;first|exact hq|omega)))
    (repeat (first|(refine sA ?_;try intro KR kR)|(with_reducible refine sD O140 ?_;intro KR kR;simp only [O140,ordl,seval])|(refine sB ?_;intro K hK;simp (disch := omega) only [go_sem,seval];(try ((with_reducible first|refine Gt ?_|refine gopO_f rfl ?_|refine Gv rfl ?_);simp (disch := omega) only [go_sem,seval]));(repeat first|intro (xb : Blk)|intro (xk : Nat)|intro hx|refine pC ?_);refine hK _ ?_;clear K hK)|(refine sE ?_;simp only [go_sem,seval,L140,O140];refine kR _ ?_;clear KR kR)|(simp only [thenE,inB,seval])))
    (simp only [retQ,Try.results140];simp (disch := omega) only [resK,resT,resAV,Env.sel,Env.keys,List.map_nil,List.map_cons,List.all_nil,List.all_cons,AV.isS,Bool.not_false,Bool.and_self,Option.map_some,List.length_cons,List.length_nil,Nat.zero_add,Nat.reduceAdd,not_false_eq_true,true_and,and_true,ne_eq,go_sem,seval,ne_eq])
    exact ⟨ob,.inr ⟨sb,_,rfl⟩⟩
  · rw [if_neg hu] at hall
    obtain ⟨u1,u2,u3⟩ := up_deep hr ql (by omega)
    have hx : (upF l).getD (nodeS l f m) 0 = (nodeS l f (m + 1) : Nat) := by show _ = ((upN l (nodeS l f m) : Nat) : Int);unfold upN;omega
    have hbs := back_succ (l := l) (f := f) (m := m)
    have xl : nodeS l f (m + 1) < l.length := u1
    have hO : outF l f m out = if 0 ≤ goalF l (nodeS l f m) (nodeS l f (m + 1)) then addN ((deepF l).getD (nodeS l f (m + 1)) 0) (intoF l (goalF l (nodeS l f m) (nodeS l f (m + 1))).toNat (backS l f m)) out (intoF l (goalF l (nodeS l f m) (nodeS l f (m + 1))).toNat (backS l f m)).length else out := rfl
    have okn : ¬ (isCat l (nodeS l f m) (nodeS l f (m + 1)) ∧ ¬ canB l (tAt l (nodeS l f (m + 1))).b.toNat = true) → climbOk l f (m + 1) := fun hc j hj => by
      by_cases e : j = m
      · subst e
        refine ⟨by omega,fun c => ?_⟩
        by_cases k : canB l (tAt l (nodeS l f (j + 1))).b.toNat = true
        · exact k
        · exact absurd ⟨c,k⟩ hc
      · exact ok j (by omega)
    generalize nodeS l f m = q at *
    generalize hxn : nodeS l f (m + 1) = x at *
    generalize hs : backS l f m = s at *
    generalize outF l f m out = O at *
    (repeat (first|(refine sA ?_;try intro KR kR)|(with_reducible refine sD O140 ?_;intro KR kR;simp only [O140,ordl,seval])|(refine sB ?_;intro K hK;simp (disch := omega) only [go_sem,seval];(try ((with_reducible first|refine Gt ?_|refine gopO_f rfl ?_|refine Gv rfl ?_);simp (disch := omega) only [go_sem,seval]));(repeat first|intro (xb : Blk)|intro (xk : Nat)|intro hx|refine pC ?_);refine hK _ ?_;clear K hK)|(refine sE ?_;simp only [go_sem,seval,L140,O140];refine kR _ ?_;clear KR kR)|(simp only [thenE,inB,seval])))
    ((with_reducible refine Ac ?_);intro K hK;simp (disch := omega) only [condK,go_sem,seval];refine hK _ ?_ ?_;all_goals clear K hK;all_goals intro hq;all_goals (try simp only [qF,reduceCtorEq] at hq);all_goals (try (exfalso;first|exact hq|omega)))
    (first|(refine sA ?_;try intro KR kR)|(with_reducible refine sD O140 ?_;intro KR kR;simp only [O140,ordl,seval]))
    (simp only [thenE,inB,seval])
    (first|(refine sA ?_;try intro KR kR)|(with_reducible refine sD O140 ?_;intro KR kR;simp only [O140,ordl,seval]))
    (first|(refine sA ?_;try intro KR kR)|(with_reducible refine sD O140 ?_;intro KR kR;simp only [O140,ordl,seval]))
    (first|(refine sA ?_;try intro KR kR)|(with_reducible refine sD O140 ?_;intro KR kR;simp only [O140,ordl,seval]))
    (repeat' (first|(refine sB ?_;intro K hK;simp (disch := omega) only [go_sem,seval];(try ((with_reducible first|refine Gt ?_|refine gopO_f rfl ?_|refine Gv rfl ?_);simp (disch := omega) only [go_sem,seval]));(repeat first|intro (xb : Blk)|intro (xk : Nat)|intro hx|refine pC ?_);refine hK _ ?_;clear K hK)|(refine sE ?_;simp only [go_sem,seval,L140,O140];refine kR _ ?_;clear KR kR)|(simp only [thenE,inB,seval])|((with_reducible (first|refine Rb ?_ ?_|refine Rc ?_ ?_ ?_));all_goals (simp only [↓reduceIte,reduceCtorEq,Nat.reduceEqDiff]))))
    rw [hx]
    (first|(refine sA ?_;try intro KR kR)|(with_reducible refine sD O140 ?_;intro KR kR;simp only [O140,ordl,seval]))
    (first|(refine sA ?_;try intro KR kR)|(with_reducible refine sD O140 ?_;intro KR kR;simp only [O140,ordl,seval]))
    (repeat' (first|(refine sB ?_;intro K hK;simp (disch := omega) only [go_sem,seval];(try ((with_reducible first|refine Gt ?_|refine gopO_f rfl ?_|refine Gv rfl ?_);simp (disch := omega) only [go_sem,seval]));(repeat first|intro (xb : Blk)|intro (xk : Nat)|intro hx|refine pC ?_);refine hK _ ?_;clear K hK)|(refine sE ?_;simp only [go_sem,seval,L140,O140];refine kR _ ?_;clear KR kR)|(simp only [thenE,inB,seval])|((with_reducible (first|refine Rb ?_ ?_|refine Rc ?_ ?_ ?_));all_goals (simp only [↓reduceIte,reduceCtorEq,Nat.reduceEqDiff]))))
    refine awp_mid [0,5,7,8,9,10,11,12,13,14,15,1005,1013,1145] (fun S' => S' = [(0,.c (.sl 8 (tRows l))),(5,.c (.ptr 1005 [] k5 3 0 0)),(7,.c (.sl 1 (kRows .i64 (upF l)))),(8,.c (.sl 1 (kRows .i64 (deepF l)))),(9,.c (.sl 1 (kRows .i64 (indexF l)))),(10,.c (.sl 1 (boRows (canF l)))),(11,.c (.im (.int .i64 (q : Nat)))),(12,.c (.ref 1145 [] sb 1 0 (s).length)),(13,.c (.ref 1013 [] ob 3 0 (out).length)),(14,.c (.im (.int .i64 (x : Nat)))),(15,.c (.im (.int .i64 (if isCat l q x then (tAt l x).b else -1)))),(1005,.box k5 69 [.im (.int .i64 0),.im (.int .i64 0),.nil]),(1013,.row ob 69 3 (hQ (out))),(1145,.row sb 3 1 (kRows .i64 (s)))]) ?_ ?_
    · by_cases hc : isCat l q x
      · rw [if_pos hc]
        have h1 := hc.1
        have h2 := hc.2
        (repeat (first|(refine sA ?_;try intro KR kR)|(with_reducible refine sD O140 ?_;intro KR kR;simp only [O140,ordl,seval])|(refine sB ?_;intro K hK;simp (disch := omega) only [go_sem,seval];(try ((with_reducible first|refine Gt ?_|refine gopO_f rfl ?_|refine Gv rfl ?_);simp (disch := omega) only [go_sem,seval]));(repeat first|intro (xb : Blk)|intro (xk : Nat)|intro hx|refine pC ?_);refine hK _ ?_;clear K hK)|(refine sE ?_;simp only [go_sem,seval,L140,O140];refine kR _ ?_;clear KR kR)|(simp only [thenE,inB,seval])))
        ((with_reducible refine Ac ?_);intro K hK;simp (disch := omega) only [condK,go_sem,seval];refine hK _ ?_ ?_;all_goals clear K hK;all_goals intro hq;all_goals (try simp only [qF,reduceCtorEq] at hq);all_goals (try (exfalso;first|exact hq|omega)))
        (repeat (first|(refine sA ?_;try intro KR kR)|(with_reducible refine sD O140 ?_;intro KR kR;simp only [O140,ordl,seval])|(refine sB ?_;intro K hK;simp (disch := omega) only [go_sem,seval];(try ((with_reducible first|refine Gt ?_|refine gopO_f rfl ?_|refine Gv rfl ?_);simp (disch := omega) only [go_sem,seval]));(repeat first|intro (xb : Blk)|intro (xk : Nat)|intro hx|refine pC ?_);refine hK _ ?_;clear K hK)|(refine sE ?_;simp only [go_sem,seval,L140,O140];refine kR _ ?_;clear KR kR)|(simp only [thenE,inB,seval])))
        rfl
      · rw [if_neg hc]
        by_cases h1 : (tAt l x).k = 3
        · have h2 : (tAt l x).a ≠ q := fun e => hc ⟨h1,e⟩
          (repeat (first|(refine sA ?_;try intro KR kR)|(with_reducible refine sD O140 ?_;intro KR kR;simp only [O140,ordl,seval])|(refine sB ?_;intro K hK;simp (disch := omega) only [go_sem,seval];(try ((with_reducible first|refine Gt ?_|refine gopO_f rfl ?_|refine Gv rfl ?_);simp (disch := omega) only [go_sem,seval]));(repeat first|intro (xb : Blk)|intro (xk : Nat)|intro hx|refine pC ?_);refine hK _ ?_;clear K hK)|(refine sE ?_;simp only [go_sem,seval,L140,O140];refine kR _ ?_;clear KR kR)|(simp only [thenE,inB,seval])))
          ((with_reducible refine Ac ?_);intro K hK;simp (disch := omega) only [condK,go_sem,seval];refine hK _ ?_ ?_;all_goals clear K hK;all_goals intro hq;all_goals (try simp only [qF,reduceCtorEq] at hq);all_goals (try (exfalso;first|exact hq|omega)))
          (repeat (first|(refine sA ?_;try intro KR kR)|(with_reducible refine sD O140 ?_;intro KR kR;simp only [O140,ordl,seval])|(refine sB ?_;intro K hK;simp (disch := omega) only [go_sem,seval];(try ((with_reducible first|refine Gt ?_|refine gopO_f rfl ?_|refine Gv rfl ?_);simp (disch := omega) only [go_sem,seval]));(repeat first|intro (xb : Blk)|intro (xk : Nat)|intro hx|refine pC ?_);refine hK _ ?_;clear K hK)|(refine sE ?_;simp only [go_sem,seval,L140,O140];refine kR _ ?_;clear KR kR)|(simp only [thenE,inB,seval])))
          rfl
        · (repeat (first|(refine sA ?_;try intro KR kR)|(with_reducible refine sD O140 ?_;intro KR kR;simp only [O140,ordl,seval])|(refine sB ?_;intro K hK;simp (disch := omega) only [go_sem,seval];(try ((with_reducible first|refine Gt ?_|refine gopO_f rfl ?_|refine Gv rfl ?_);simp (disch := omega) only [go_sem,seval]));(repeat first|intro (xb : Blk)|intro (xk : Nat)|intro hx|refine pC ?_);refine hK _ ?_;clear K hK)|(refine sE ?_;simp only [go_sem,seval,L140,O140];refine kR _ ?_;clear KR kR)|(simp only [thenE,inB,seval])))
          ((with_reducible refine Ac ?_);intro K hK;simp (disch := omega) only [condK,go_sem,seval];refine hK _ ?_ ?_;all_goals clear K hK;all_goals intro hq;all_goals (try simp only [qF,reduceCtorEq] at hq);all_goals (try (exfalso;first|exact hq|omega)))
          (repeat (first|(refine sA ?_;try intro KR kR)|(with_reducible refine sD O140 ?_;intro KR kR;simp only [O140,ordl,seval])|(refine sB ?_;intro K hK;simp (disch := omega) only [go_sem,seval];(try ((with_reducible first|refine Gt ?_|refine gopO_f rfl ?_|refine Gv rfl ?_);simp (disch := omega) only [go_sem,seval]));(repeat first|intro (xb : Blk)|intro (xk : Nat)|intro hx|refine pC ?_);refine hK _ ?_;clear K hK)|(refine sE ?_;simp only [go_sem,seval,L140,O140];refine kR _ ?_;clear KR kR)|(simp only [thenE,inB,seval])))
          rfl
    rintro S' rfl
    refine awp_mid [0,5,7,8,9,10,11,12,13,14,15,1005,1013,1145] (fun S' => S' = [(0,.c (.sl 8 (tRows l))),(5,.c (.ptr 1005 [] k5 3 0 0)),(7,.c (.sl 1 (kRows .i64 (upF l)))),(8,.c (.sl 1 (kRows .i64 (deepF l)))),(9,.c (.sl 1 (kRows .i64 (indexF l)))),(10,.c (.sl 1 (boRows (canF l)))),(11,.c (.im (.int .i64 (q : Nat)))),(12,.c (.ref 1145 [] sb 1 0 (s).length)),(13,.c (.ref 1013 [] ob 3 0 (out).length)),(14,.c (.im (.int .i64 (x : Nat)))),(15,.c (.im (.int .i64 (goalF l q x)))),(1005,.box k5 69 [.im (.int .i64 0),.im (.int .i64 0),.nil]),(1013,.row ob 69 3 (hQ (out))),(1145,.row sb 3 1 (kRows .i64 (s)))]) ?_ ?_
    · unfold goalF
      by_cases h5 : (tAt l x).k = 5
      · rw [if_pos h5]
        generalize (if isCat l q x then (tAt l x).b else -1) = g0
        (repeat (first|(refine sA ?_;try intro KR kR)|(with_reducible refine sD O140 ?_;intro KR kR;simp only [O140,ordl,seval])|(refine sB ?_;intro K hK;simp (disch := omega) only [go_sem,seval];(try ((with_reducible first|refine Gt ?_|refine gopO_f rfl ?_|refine Gv rfl ?_);simp (disch := omega) only [go_sem,seval]));(repeat first|intro (xb : Blk)|intro (xk : Nat)|intro hx|refine pC ?_);refine hK _ ?_;clear K hK)|(refine sE ?_;simp only [go_sem,seval,L140,O140];refine kR _ ?_;clear KR kR)|(simp only [thenE,inB,seval])))
        ((with_reducible refine Ac ?_);intro K hK;simp (disch := omega) only [condK,go_sem,seval];refine hK _ ?_ ?_;all_goals clear K hK;all_goals intro hq;all_goals (try simp only [qF,reduceCtorEq] at hq);all_goals (try (exfalso;first|exact hq|omega)))
        (repeat (first|(refine sA ?_;try intro KR kR)|(with_reducible refine sD O140 ?_;intro KR kR;simp only [O140,ordl,seval])|(refine sB ?_;intro K hK;simp (disch := omega) only [go_sem,seval];(try ((with_reducible first|refine Gt ?_|refine gopO_f rfl ?_|refine Gv rfl ?_);simp (disch := omega) only [go_sem,seval]));(repeat first|intro (xb : Blk)|intro (xk : Nat)|intro hx|refine pC ?_);refine hK _ ?_;clear K hK)|(refine sE ?_;simp only [go_sem,seval,L140,O140];refine kR _ ?_;clear KR kR)|(simp only [thenE,inB,seval])))
        rfl
      · rw [if_neg h5]
        generalize (if isCat l q x then (tAt l x).b else -1) = g0
        (repeat (first|(refine sA ?_;try intro KR kR)|(with_reducible refine sD O140 ?_;intro KR kR;simp only [O140,ordl,seval])|(refine sB ?_;intro K hK;simp (disch := omega) only [go_sem,seval];(try ((with_reducible first|refine Gt ?_|refine gopO_f rfl ?_|refine Gv rfl ?_);simp (disch := omega) only [go_sem,seval]));(repeat first|intro (xb : Blk)|intro (xk : Nat)|intro hx|refine pC ?_);refine hK _ ?_;clear K hK)|(refine sE ?_;simp only [go_sem,seval,L140,O140];refine kR _ ?_;clear KR kR)|(simp only [thenE,inB,seval])))
        ((with_reducible refine Ac ?_);intro K hK;simp (disch := omega) only [condK,go_sem,seval];refine hK _ ?_ ?_;all_goals clear K hK;all_goals intro hq;all_goals (try simp only [qF,reduceCtorEq] at hq);all_goals (try (exfalso;first|exact hq|omega)))
        (repeat (first|(refine sA ?_;try intro KR kR)|(with_reducible refine sD O140 ?_;intro KR kR;simp only [O140,ordl,seval])|(refine sB ?_;intro K hK;simp (disch := omega) only [go_sem,seval];(try ((with_reducible first|refine Gt ?_|refine gopO_f rfl ?_|refine Gv rfl ?_);simp (disch := omega) only [go_sem,seval]));(repeat first|intro (xb : Blk)|intro (xk : Nat)|intro hx|refine pC ?_);refine hK _ ?_;clear K hK)|(refine sE ?_;simp only [go_sem,seval,L140,O140];refine kR _ ?_;clear KR kR)|(simp only [thenE,inB,seval])))
        rfl
    rintro S' rfl
    have glt := goal_lt (q := q) hr xl
    generalize hg : goalF l q x = g at *
    refine awp_mid [0,5,7,8,9,10,11,12,13,14,15,1005,1013,1145] (fun S' => ∃ ob,O.length ≤ 400 * (m + 1) ∧ S' = [(0,.c (.sl 8 (tRows l))),(5,.c (.ptr 1005 [] k5 3 0 0)),(7,.c (.sl 1 (kRows .i64 (upF l)))),(8,.c (.sl 1 (kRows .i64 (deepF l)))),(9,.c (.sl 1 (kRows .i64 (indexF l)))),(10,.c (.sl 1 (boRows (canF l)))),(11,.c (.im (.int .i64 (q : Nat)))),(12,.c (.ref 1145 [] sb 1 0 (s).length)),(13,.c (.ref 1013 [] ob 3 0 (O).length)),(14,.c (.im (.int .i64 (x : Nat)))),(15,.c (.im (.int .i64 g))),(1005,.box k5 69 [.im (.int .i64 0),.im (.int .i64 0),.nil]),(1013,.row ob 69 3 (hQ (O))),(1145,.row sb 3 1 (kRows .i64 (s)))]) ?_ ?_
    · by_cases hg0 : 0 ≤ g
      · rw [if_pos hg0] at hO
        have gl := glt hg0
        have hin := into_ok l hr l.length g.toNat g s gl gl (by omega) (by omega)
        have il := intoF_len (s := s) hr gl
        have hRf : ∀ R : List (Blk × Hq),R.map (·.2) = (pathG l l.length g.toNat).map (fun x => (x.1,0,s ++ x.2)) → R.map (·.2) = intoF l g.toNat s := fun R h => h
        (repeat (first|(refine sA ?_;try intro KR kR)|(with_reducible refine sD O140 ?_;intro KR kR;simp only [O140,ordl,seval])|(refine sB ?_;intro K hK;simp (disch := omega) only [go_sem,seval];(try ((with_reducible first|refine Gt ?_|refine gopO_f rfl ?_|refine Gv rfl ?_);simp (disch := omega) only [go_sem,seval]));(repeat first|intro (xb : Blk)|intro (xk : Nat)|intro hx|refine pC ?_);refine hK _ ?_;clear K hK)|(refine sE ?_;simp only [go_sem,seval,L140,O140];refine kR _ ?_;clear KR kR)|(simp only [thenE,inB,seval])))
        ((with_reducible refine Ac ?_);intro K hK;simp (disch := omega) only [condK,go_sem,seval];refine hK _ ?_ ?_;all_goals clear K hK;all_goals intro hq;all_goals (try simp only [qF,reduceCtorEq] at hq);all_goals (try (exfalso;first|exact hq|omega)))
        (repeat (first|(refine sA ?_;try intro KR kR)|(with_reducible refine sD O140 ?_;intro KR kR;simp only [O140,ordl,seval])|(refine sB ?_;intro K hK;simp (disch := omega) only [go_sem,seval];(try ((with_reducible first|refine Gt ?_|refine gopO_f rfl ?_|refine Gv rfl ?_);simp (disch := omega) only [go_sem,seval]));(repeat first|intro (xb : Blk)|intro (xk : Nat)|intro hx|refine pC ?_);refine hK _ ?_;clear K hK)|(refine sE ?_;simp only [go_sem,seval,L140,O140];refine kR _ ?_;clear KR kR)|(simp only [thenE,inB,seval])))
        (refine sB ?_;intro K hK;simp (disch := omega) only [go_sem,seval];(try ((with_reducible refine Gt ?_);simp (disch := omega) only [go_sem,seval]));refine cN ?_;simp (disch := omega) only [go_sem,seval];refine ⟨_,_,ContractH.n (hin),?_⟩;intro r H' hr hk;(try obtain rfl := keys_nil hk);(obtain ⟨hb,R,hR,rfl⟩ := hr);(try simp (disch := omega) only [AV.flat,AC.flat,AC.flat.flatL,AC.flat.flatLL,go_sem,seval]);(repeat first|intro (xb : Blk)|intro (xk : Nat)|intro hx|refine pC ?_);refine hK _ ?_;clear K hK)
        have hR2 := hRf R hR
        have lR : R.length = (intoF l g.toNat s).length := by rw [← hR2,List.length_map]
        (repeat' (first|(refine sB ?_;intro K hK;simp (disch := omega) only [go_sem,seval];(try ((with_reducible first|refine Gt ?_|refine gopO_f rfl ?_|refine Gv rfl ?_);simp (disch := omega) only [go_sem,seval]));(repeat first|intro (xb : Blk)|intro (xk : Nat)|intro hx|refine pC ?_);refine hK _ ?_;clear K hK)|(refine sE ?_;simp only [go_sem,seval,L140,O140];refine kR _ ?_;clear KR kR)|(simp only [thenE,inB,seval])|((with_reducible (first|refine Rb ?_ ?_|refine Rc ?_ ?_ ?_));all_goals (simp only [↓reduceIte,reduceCtorEq,Nat.reduceEqDiff]))))
        (first|(refine sA ?_;try intro KR kR)|(with_reducible refine sD O140 ?_;intro KR kR;simp only [O140,ordl,seval]))
        refine awp_ghkT (.pubIn 1082) ?_
        intro K hK
        simp (disch := omega) only [ghK,go_sem,seval]
        (repeat (refine ⟨by first|omega|rfl|decide|simp,?_⟩))
        refine hK _ ?_
        clear K hK
        (try simp only [hqO_frz'])
        rw [hR2,lR]
        generalize intoF l g.toNat s = H at *
        (repeat (first|(refine sA ?_;try intro KR kR)|(with_reducible refine sD O140 ?_;intro KR kR;simp only [O140,ordl,seval])|(refine sB ?_;intro K hK;simp (disch := omega) only [go_sem,seval];(try ((with_reducible first|refine Gt ?_|refine gopO_f rfl ?_|refine Gv rfl ?_);simp (disch := omega) only [go_sem,seval]));(repeat first|intro (xb : Blk)|intro (xk : Nat)|intro hx|refine pC ?_);refine hK _ ?_;clear K hK)|(refine sE ?_;simp only [go_sem,seval,L140,O140];refine kR _ ?_;clear KR kR)|(simp only [thenE,inB,seval])))
        refine awp_loop [0,5,7,8,9,10,11,12,13,14,15,16,17,1005,1013,1082,1145] (fun n S => ∃ (i : Nat) (H' o2 : List Hq) (ob2 : Blk),i ≤ H.length ∧ n + i = H.length ∧ H'.length = H.length ∧ (∀ j,i ≤ j → qAt H' j = qAt H j) ∧ o2 = addN ((deepF l).getD x 0) H out i ∧ S = [(0,.c (.sl 8 (tRows l))),(5,.c (.ptr 1005 [] k5 3 0 0)),(7,.c (.sl 1 (kRows .i64 (upF l)))),(8,.c (.sl 1 (kRows .i64 (deepF l)))),(9,.c (.sl 1 (kRows .i64 (indexF l)))),(10,.c (.sl 1 (boRows (canF l)))),(11,.c (.im (.int .i64 (q : Nat)))),(12,.c (.ref 1145 [] sb 1 0 (s).length)),(13,.c (.ref 1013 [] ob2 3 0 (o2).length)),(14,.c (.im (.int .i64 (x : Nat)))),(15,.c (.im (.int .i64 g))),(16,.c (.ref 1082 [] hb 3 0 H.length)),(17,.c (.im (.int .i64 i))),(1005,.box k5 69 [.im (.int .i64 0),.im (.int .i64 0),.nil]),(1013,.row ob2 69 3 (hQ (o2))),(1082,.row hb 69 3 (hQ H')),(1145,.row sb 3 1 (kRows .i64 (s)))]) H.length ⟨0,H,out,ob,by omega,by omega,rfl,fun j hj => rfl,rfl,?_⟩ ?_
        · rfl
        rintro n2 S' ⟨i,H',o2,ob2,hi,hni,hH,hsame,ho2,rfl⟩
        have al := addN_len (T := (deepF l).getD x 0) (H := H) (out := out) i
        rw [← ho2] at al
        have asc : addN ((deepF l).getD x 0) H out (i + 1) = if knownF o2 (qAt H i).1 = true then o2 else o2 ++ [((qAt H i).1,(deepF l).getD x 0,(qAt H i).2.2)] := by rw [addN,← ho2]
        (repeat (first|(refine sA ?_;try intro KR kR)|(with_reducible refine sD O140 ?_;intro KR kR;simp only [O140,ordl,seval])|(refine sB ?_;intro K hK;simp (disch := omega) only [go_sem,seval];(try ((with_reducible first|refine Gt ?_|refine gopO_f rfl ?_|refine Gv rfl ?_);simp (disch := omega) only [go_sem,seval]));(repeat first|intro (xb : Blk)|intro (xk : Nat)|intro hx|refine pC ?_);refine hK _ ?_;clear K hK)|(refine sE ?_;simp only [go_sem,seval,L140,O140];refine kR _ ?_;clear KR kR)|(simp only [thenE,inB,seval])))
        ((with_reducible refine Ac ?_);intro K hK;simp (disch := omega) only [condK,go_sem,seval];refine hK _ ?_ ?_;all_goals clear K hK;all_goals intro hq;all_goals (try simp only [qF,reduceCtorEq] at hq);all_goals (try (exfalso;first|exact hq|omega)))
        · have hi2 : i < H.length := by omega
          have kn := known_ok o2 (qAt H' i).1 (by omega)
          have sm := hsame i (Nat.le_refl _)
          clear hq
          rw [sm] at kn
          (repeat (first|(refine sA ?_;try intro KR kR)|(with_reducible refine sD O140 ?_;intro KR kR;simp only [O140,ordl,seval])|(refine sB ?_;intro K hK;simp (disch := omega) only [go_sem,seval];(try ((with_reducible first|refine Gt ?_|refine gopO_f rfl ?_|refine Gv rfl ?_);simp (disch := omega) only [go_sem,seval]));(repeat first|intro (xb : Blk)|intro (xk : Nat)|intro hx|refine pC ?_);refine hK _ ?_;clear K hK)|(refine sE ?_;simp only [go_sem,seval,L140,O140];refine kR _ ?_;clear KR kR)|(simp only [thenE,inB,seval])))
          rw [sm]
          (refine sB ?_;intro K hK;simp (disch := omega) only [go_sem,seval];(try ((with_reducible refine Gt ?_);simp (disch := omega) only [go_sem,seval]));refine cN ?_;simp (disch := omega) only [go_sem,seval];refine ⟨_,_,ContractH.n (kn),?_⟩;intro r H' hr hk;(try obtain rfl := keys_nil hk);(first|subst hr|(obtain ⟨_,rfl⟩ := hr)|(obtain ⟨_,_,rfl⟩ := hr)|(obtain ⟨_,_,_,rfl⟩ := hr));(try simp (disch := omega) only [AV.flat,AC.flat,AC.flat.flatL,AC.flat.flatLL,go_sem,seval]);(repeat first|intro (xb : Blk)|intro (xk : Nat)|intro hx|refine pC ?_);refine hK _ ?_;clear K hK)
          cases hk : knownF o2 (qAt H i).1 with
          | true =>
            rw [if_pos hk] at asc
            (repeat (first|(refine sA ?_;try intro KR kR)|(with_reducible refine sD O140 ?_;intro KR kR;simp only [O140,ordl,seval])|(refine sB ?_;intro K hK;simp (disch := omega) only [go_sem,seval];(try ((with_reducible first|refine Gt ?_|refine gopO_f rfl ?_|refine Gv rfl ?_);simp (disch := omega) only [go_sem,seval]));(repeat first|intro (xb : Blk)|intro (xk : Nat)|intro hx|refine pC ?_);refine hK _ ?_;clear K hK)|(refine sE ?_;simp only [go_sem,seval,L140,O140];refine kR _ ?_;clear KR kR)|(simp only [thenE,inB,seval])))
            ((with_reducible refine Ac ?_);intro K hK;simp (disch := omega) only [condK,go_sem,seval];refine hK _ ?_ ?_;all_goals clear K hK;all_goals intro hq;all_goals (try simp only [qF,reduceCtorEq] at hq);all_goals (try (exfalso;first|exact hq|omega)))
            (repeat (first|(refine sA ?_;try intro KR kR)|(with_reducible refine sD O140 ?_;intro KR kR;simp only [O140,ordl,seval])|(refine sB ?_;intro K hK;simp (disch := omega) only [go_sem,seval];(try ((with_reducible first|refine Gt ?_|refine gopO_f rfl ?_|refine Gv rfl ?_);simp (disch := omega) only [go_sem,seval]));(repeat first|intro (xb : Blk)|intro (xk : Nat)|intro hx|refine pC ?_);refine hK _ ?_;clear K hK)|(refine sE ?_;simp only [go_sem,seval,L140,O140];refine kR _ ?_;clear KR kR)|(simp only [thenE,inB,seval])))
            refine gh_no ⟨H.length - (i + 1),by omega,i + 1,H',o2,ob2,by omega,by omega,hH,fun j hj => hsame j (by omega),asc.symm,?_⟩
            ((try simp (disch := omega) only [List.cons.injEq,Prod.mk.injEq,AV.c.injEq,AV.agg.injEq,AV.opt.injEq,AV.tup.injEq,AV.row.injEq,AV.box.injEq,AV.mapo.injEq,AC.im.injEq,AC.sl.injEq,AC.adr.injEq,AC.ref.injEq,AC.ptr.injEq,AC.own.injEq,AC.fn.injEq,Value.int.injEq,Value.bool.injEq,Value.string.injEq,heq_eq_eq,go_sem,seval]);(try (repeat' refine And.intro ?_ ?_));all_goals (first|rfl|omega|skip))
          | false =>
            rw [if_neg (by rw [hk];decide)] at asc
            have gl2 : (setT H' i ((deepF l).getD x 0)).length = H.length := goT_len.trans hH
            (repeat (first|(refine sA ?_;try intro KR kR)|(with_reducible refine sD O140 ?_;intro KR kR;simp only [O140,ordl,seval])|(refine sB ?_;intro K hK;simp (disch := omega) only [go_sem,seval];(try ((with_reducible first|refine Gt ?_|refine gopO_f rfl ?_|refine Gv rfl ?_);simp (disch := omega) only [go_sem,seval]));(repeat first|intro (xb : Blk)|intro (xk : Nat)|intro hx|refine pC ?_);refine hK _ ?_;clear K hK)|(refine sE ?_;simp only [go_sem,seval,L140,O140];refine kR _ ?_;clear KR kR)|(simp only [thenE,inB,seval])))
            ((with_reducible refine Ac ?_);intro K hK;simp (disch := omega) only [condK,go_sem,seval];refine hK _ ?_ ?_;all_goals clear K hK;all_goals intro hq;all_goals (try simp only [qF,reduceCtorEq] at hq);all_goals (try (exfalso;first|exact hq|omega)))
            (repeat (first|(refine sA ?_;try intro KR kR)|(with_reducible refine sD O140 ?_;intro KR kR;simp only [O140,ordl,seval])|(refine sB ?_;intro K hK;simp (disch := omega) only [go_sem,seval];(try ((with_reducible first|refine Gt ?_|refine gopO_f rfl ?_|refine Gv rfl ?_);simp (disch := omega) only [go_sem,seval]));(repeat first|intro (xb : Blk)|intro (xk : Nat)|intro hx|refine pC ?_);refine hK _ ?_;clear K hK)|(refine sE ?_;simp only [go_sem,seval,L140,O140];refine kR _ ?_;clear KR kR)|(simp only [thenE,inB,seval])))
            refine gh_no ⟨H.length - (i + 1),by omega,i + 1,setT H' i ((deepF l).getD x 0),o2 ++ [((qAt H i).1,(deepF l).getD x 0,(qAt H i).2.2)],xb,by omega,by omega,gl2,fun j hj => ?_,asc.symm,?_⟩
            · rw [setT_other (by omega)];exact hsame j (by omega)
            · rw [← sm]
              ((try simp (disch := omega) only [List.cons.injEq,Prod.mk.injEq,AV.c.injEq,AV.agg.injEq,AV.opt.injEq,AV.tup.injEq,AV.row.injEq,AV.box.injEq,AV.mapo.injEq,AC.im.injEq,AC.sl.injEq,AC.adr.injEq,AC.ref.injEq,AC.ptr.injEq,AC.own.injEq,AC.fn.injEq,Value.int.injEq,Value.bool.injEq,Value.string.injEq,heq_eq_eq,go_sem,seval]);(try (repeat' refine And.intro ?_ ?_));all_goals (first|rfl|omega|skip))
        · have e : i = H.length := by omega
          subst e
          (repeat (first|(refine sA ?_;try intro KR kR)|(with_reducible refine sD O140 ?_;intro KR kR;simp only [O140,ordl,seval])|(refine sB ?_;intro K hK;simp (disch := omega) only [go_sem,seval];(try ((with_reducible first|refine Gt ?_|refine gopO_f rfl ?_|refine Gv rfl ?_);simp (disch := omega) only [go_sem,seval]));(repeat first|intro (xb : Blk)|intro (xk : Nat)|intro hx|refine pC ?_);refine hK _ ?_;clear K hK)|(refine sE ?_;simp only [go_sem,seval,L140,O140];refine kR _ ?_;clear KR kR)|(simp only [thenE,inB,seval])))
          have hOo : O = o2 := hO.trans ho2.symm
          rw [hOo]
          exact ⟨ob2,by omega,rfl⟩
      · rw [if_neg hg0] at hO
        subst hO
        (repeat (first|(refine sA ?_;try intro KR kR)|(with_reducible refine sD O140 ?_;intro KR kR;simp only [O140,ordl,seval])|(refine sB ?_;intro K hK;simp (disch := omega) only [go_sem,seval];(try ((with_reducible first|refine Gt ?_|refine gopO_f rfl ?_|refine Gv rfl ?_);simp (disch := omega) only [go_sem,seval]));(repeat first|intro (xb : Blk)|intro (xk : Nat)|intro hx|refine pC ?_);refine hK _ ?_;clear K hK)|(refine sE ?_;simp only [go_sem,seval,L140,O140];refine kR _ ?_;clear KR kR)|(simp only [thenE,inB,seval])))
        ((with_reducible refine Ac ?_);intro K hK;simp (disch := omega) only [condK,go_sem,seval];refine hK _ ?_ ?_;all_goals clear K hK;all_goals intro hq;all_goals (try simp only [qF,reduceCtorEq] at hq);all_goals (try (exfalso;first|exact hq|omega)))
        (repeat (first|(refine sA ?_;try intro KR kR)|(with_reducible refine sD O140 ?_;intro KR kR;simp only [O140,ordl,seval])|(refine sB ?_;intro K hK;simp (disch := omega) only [go_sem,seval];(try ((with_reducible first|refine Gt ?_|refine gopO_f rfl ?_|refine Gv rfl ?_);simp (disch := omega) only [go_sem,seval]));(repeat first|intro (xb : Blk)|intro (xk : Nat)|intro hx|refine pC ?_);refine hK _ ?_;clear K hK)|(refine sE ?_;simp only [go_sem,seval,L140,O140];refine kR _ ?_;clear KR kR)|(simp only [thenE,inB,seval])))
        exact ⟨ob,by omega,rfl⟩
    rintro S' ⟨ob,hol2,rfl⟩
    have hp2 := fun (s2 : List Int) (h : s2.length ≤ 1000000) => put_ok s2 [2 * (x : Int) + 1] (by omega) (by simp)
    rw [show (kRows .i64 [2 * (x : Int) + 1] : List (List AC)) = [[AC.im (Value.int .i64 (2 * (x : Int) + 1))]] from rfl] at hp2
    by_cases hc : isCat l q x
    · have h1 := hc.1
      have h2 := hc.2
      have hgb : g = (tAt l x).b := by
        rw [← hg];unfold goalF
        rw [if_neg (by omega),if_pos hc]
      obtain ⟨d,hd,hdl⟩ : ∃ d : Nat,(tAt l x).b = d ∧ d < l.length := by
        rcases node_cases hr xl with ⟨k,_⟩|⟨k,c',d,e1,_,e2,_⟩|⟨k,_⟩
        · omega
        · exact ⟨d,e2,by omega⟩
        · omega
      have sgs : segS l q x = stepsL l d ++ [2 * (x : Int) + 1] := by rw [segS,if_pos hc,hd,Int.toNat_natCast]
      have hof := refOf_ok l (canF l) _ (by omega) ht lca l.length d _ hdl hdl rfl
      have slen := steps_len hr hdl
      have est : stepsG l (canF l) l.length d = stepsL l d := rfl
      rw [est] at hof
      rw [hgb,hd]
      by_cases hcan : canB l d = true
      · have hcan2 : (canF l).getD d false = true := hcan
        rw [if_neg (fun c => c.2 (by rw [hd,Int.toNat_natCast];exact hcan))] at hall
        have ok2 := okn (fun c => c.2 (by rw [hd,Int.toNat_natCast];exact hcan))
        generalize stepsL l d = st at *
        have hp1 := put_ok s st (by omega) (by omega)
        obtain ⟨s3,hs3⟩ : ∃ s3,s3 = s ++ st := ⟨_,rfl⟩
        rw [← hs3] at hp1
        have ls3 : s3.length = s.length + st.length := by rw [hs3];simp
        have hp3 := hp2 s3 (by omega)
        have e4 : backS l f (m + 1) = s3 ++ [2 * (x : Int) + 1] := by rw [hbs,sgs,hs3];simp
        rw [← e4] at hp3
        have le4 : (backS l f (m + 1)).length = s3.length + 1 := by rw [e4];simp
        (repeat (first|(refine sA ?_;try intro KR kR)|(with_reducible refine sD O140 ?_;intro KR kR;simp only [O140,ordl,seval])|(refine sB ?_;intro K hK;simp (disch := omega) only [go_sem,seval];(try ((with_reducible first|refine Gt ?_|refine gopO_f rfl ?_|refine Gv rfl ?_);simp (disch := omega) only [go_sem,seval]));(repeat first|intro (xb : Blk)|intro (xk : Nat)|intro hx|refine pC ?_);refine hK _ ?_;clear K hK)|(refine sE ?_;simp only [go_sem,seval,L140,O140];refine kR _ ?_;clear KR kR)|(simp only [thenE,inB,seval])))
        ((with_reducible refine Ac ?_);intro K hK;simp (disch := omega) only [condK,go_sem,seval];refine hK _ ?_ ?_;all_goals clear K hK;all_goals intro hq;all_goals (try simp only [qF,reduceCtorEq] at hq);all_goals (try (exfalso;first|exact hq|omega)))
        (repeat (first|(refine sA ?_;try intro KR kR)|(with_reducible refine sD O140 ?_;intro KR kR;simp only [O140,ordl,seval])|(refine sB ?_;intro K hK;simp (disch := omega) only [go_sem,seval];(try ((with_reducible first|refine Gt ?_|refine gopO_f rfl ?_|refine Gv rfl ?_);simp (disch := omega) only [go_sem,seval]));(repeat first|intro (xb : Blk)|intro (xk : Nat)|intro hx|refine pC ?_);refine hK _ ?_;clear K hK)|(refine sE ?_;simp only [go_sem,seval,L140,O140];refine kR _ ?_;clear KR kR)|(simp only [thenE,inB,seval])))
        rw [hcan2]
        ((with_reducible refine Ac ?_);intro K hK;simp (disch := omega) only [condK,go_sem,seval];refine hK _ ?_ ?_;all_goals clear K hK;all_goals intro hq;all_goals (try simp only [qF,reduceCtorEq] at hq);all_goals (try (exfalso;first|exact hq|omega)))
        (repeat (first|(refine sA ?_;try intro KR kR)|(with_reducible refine sD O140 ?_;intro KR kR;simp only [O140,ordl,seval])|(refine sB ?_;intro K hK;simp (disch := omega) only [go_sem,seval];(try ((with_reducible first|refine Gt ?_|refine gopO_f rfl ?_|refine Gv rfl ?_);simp (disch := omega) only [go_sem,seval]));(repeat first|intro (xb : Blk)|intro (xk : Nat)|intro hx|refine pC ?_);refine hK _ ?_;clear K hK)|(refine sE ?_;simp only [go_sem,seval,L140,O140];refine kR _ ?_;clear KR kR)|(simp only [thenE,inB,seval])))
        (refine sB ?_;intro K hK;simp (disch := omega) only [go_sem,seval];(try ((with_reducible refine Gt ?_);simp (disch := omega) only [go_sem,seval]));refine cN ?_;simp (disch := omega) only [go_sem,seval];refine ⟨_,_,ContractH.n (hof),?_⟩;intro r H' hr hk;(try obtain rfl := keys_nil hk);(obtain ⟨c1,rfl⟩ := hr);(try simp (disch := omega) only [AV.flat,AC.flat,AC.flat.flatL,AC.flat.flatLL,go_sem,seval]);(repeat first|intro (xb : Blk)|intro (xk : Nat)|intro hx|refine pC ?_);refine hK _ ?_;clear K hK)
        (repeat (first|(refine sA ?_;try intro KR kR)|(with_reducible refine sD O140 ?_;intro KR kR;simp only [O140,ordl,seval])|(refine sB ?_;intro K hK;simp (disch := omega) only [go_sem,seval];(try ((with_reducible first|refine Gt ?_|refine gopO_f rfl ?_|refine Gv rfl ?_);simp (disch := omega) only [go_sem,seval]));(repeat first|intro (xb : Blk)|intro (xk : Nat)|intro hx|refine pC ?_);refine hK _ ?_;clear K hK)|(refine sE ?_;simp only [go_sem,seval,L140,O140];refine kR _ ?_;clear KR kR)|(simp only [thenE,inB,seval])))
        (refine sB ?_;intro K hK;simp (disch := omega) only [go_sem,seval];(try ((with_reducible refine Gt ?_);simp (disch := omega) only [go_sem,seval]));refine cN ?_;simp (disch := omega) only [go_sem,seval];refine ⟨_,_,ContractH.n (hp1),?_⟩;intro r H' hr hk;(try obtain rfl := keys_nil hk);(obtain ⟨c2,rfl⟩ := hr);(try simp (disch := omega) only [AV.flat,AC.flat,AC.flat.flatL,AC.flat.flatLL,go_sem,seval]);(repeat first|intro (xb : Blk)|intro (xk : Nat)|intro hx|refine pC ?_);refine hK _ ?_;clear K hK)
        (repeat (first|(refine sA ?_;try intro KR kR)|(with_reducible refine sD O140 ?_;intro KR kR;simp only [O140,ordl,seval])|(refine sB ?_;intro K hK;simp (disch := omega) only [go_sem,seval];(try ((with_reducible first|refine Gt ?_|refine gopO_f rfl ?_|refine Gv rfl ?_);simp (disch := omega) only [go_sem,seval]));(repeat first|intro (xb : Blk)|intro (xk : Nat)|intro hx|refine pC ?_);refine hK _ ?_;clear K hK)|(refine sE ?_;simp only [go_sem,seval,L140,O140];refine kR _ ?_;clear KR kR)|(simp only [thenE,inB,seval])))
        (refine sB ?_;intro K hK;simp (disch := omega) only [go_sem,seval];(try ((with_reducible refine Gt ?_);simp (disch := omega) only [go_sem,seval]));refine cN ?_;simp (disch := omega) only [go_sem,seval];refine ⟨_,_,ContractH.n (hp3),?_⟩;intro r H' hr hk;(try obtain rfl := keys_nil hk);(obtain ⟨c3,rfl⟩ := hr);(try simp (disch := omega) only [AV.flat,AC.flat,AC.flat.flatL,AC.flat.flatLL,go_sem,seval]);(repeat first|intro (xb : Blk)|intro (xk : Nat)|intro hx|refine pC ?_);refine hK _ ?_;clear K hK)
        (repeat (first|(refine sA ?_;try intro KR kR)|(with_reducible refine sD O140 ?_;intro KR kR;simp only [O140,ordl,seval])|(refine sB ?_;intro K hK;simp (disch := omega) only [go_sem,seval];(try ((with_reducible first|refine Gt ?_|refine gopO_f rfl ?_|refine Gv rfl ?_);simp (disch := omega) only [go_sem,seval]));(repeat first|intro (xb : Blk)|intro (xk : Nat)|intro hx|refine pC ?_);refine hK _ ?_;clear K hK)|(refine sE ?_;simp only [go_sem,seval,L140,O140];refine kR _ ?_;clear KR kR)|(simp only [thenE,inB,seval])))
        refine gh_no ⟨n',by omega,m + 1,O,ob,c3,ok2,hall,by omega,hol2,?_⟩
        rw [hxn]
        rfl
      · have hcan2 : (canF l).getD d false = false := by
          unfold canB at hcan;simpa using hcan
        rw [if_pos ⟨hc,by rw [hd,Int.toNat_natCast];exact hcan⟩] at hall
        (repeat (first|(refine sA ?_;try intro KR kR)|(with_reducible refine sD O140 ?_;intro KR kR;simp only [O140,ordl,seval])|(refine sB ?_;intro K hK;simp (disch := omega) only [go_sem,seval];(try ((with_reducible first|refine Gt ?_|refine gopO_f rfl ?_|refine Gv rfl ?_);simp (disch := omega) only [go_sem,seval]));(repeat first|intro (xb : Blk)|intro (xk : Nat)|intro hx|refine pC ?_);refine hK _ ?_;clear K hK)|(refine sE ?_;simp only [go_sem,seval,L140,O140];refine kR _ ?_;clear KR kR)|(simp only [thenE,inB,seval])))
        ((with_reducible refine Ac ?_);intro K hK;simp (disch := omega) only [condK,go_sem,seval];refine hK _ ?_ ?_;all_goals clear K hK;all_goals intro hq;all_goals (try simp only [qF,reduceCtorEq] at hq);all_goals (try (exfalso;first|exact hq|omega)))
        (repeat (first|(refine sA ?_;try intro KR kR)|(with_reducible refine sD O140 ?_;intro KR kR;simp only [O140,ordl,seval])|(refine sB ?_;intro K hK;simp (disch := omega) only [go_sem,seval];(try ((with_reducible first|refine Gt ?_|refine gopO_f rfl ?_|refine Gv rfl ?_);simp (disch := omega) only [go_sem,seval]));(repeat first|intro (xb : Blk)|intro (xk : Nat)|intro hx|refine pC ?_);refine hK _ ?_;clear K hK)|(refine sE ?_;simp only [go_sem,seval,L140,O140];refine kR _ ?_;clear KR kR)|(simp only [thenE,inB,seval])))
        rw [hcan2]
        ((with_reducible refine Ac ?_);intro K hK;simp (disch := omega) only [condK,go_sem,seval];refine hK _ ?_ ?_;all_goals clear K hK;all_goals intro hq;all_goals (try simp only [qF,reduceCtorEq] at hq);all_goals (try (exfalso;first|exact hq|omega)))
        (repeat (first|(refine sA ?_;try intro KR kR)|(with_reducible refine sD O140 ?_;intro KR kR;simp only [O140,ordl,seval])|(refine sB ?_;intro K hK;simp (disch := omega) only [go_sem,seval];(try ((with_reducible first|refine Gt ?_|refine gopO_f rfl ?_|refine Gv rfl ?_);simp (disch := omega) only [go_sem,seval]));(repeat first|intro (xb : Blk)|intro (xk : Nat)|intro hx|refine pC ?_);refine hK _ ?_;clear K hK)|(refine sE ?_;simp only [go_sem,seval,L140,O140];refine kR _ ?_;clear KR kR)|(simp only [thenE,inB,seval])))
        (simp only [retQ,Try.results140];simp (disch := omega) only [resK,resT,resAV,Env.sel,Env.keys,List.map_nil,List.map_cons,List.all_nil,List.all_cons,AV.isS,Bool.not_false,Bool.and_self,Option.map_some,List.length_cons,List.length_nil,Nat.zero_add,Nat.reduceAdd,not_false_eq_true,true_and,and_true,ne_eq,go_sem,seval,ne_eq])
        rw [← hall]
        exact ⟨ob,.inl rfl⟩
    · have sgs : segS l q x = [2 * (x : Int) + 1] := by rw [segS,if_neg hc];rfl
      rw [if_neg (fun c => hc c.1)] at hall
      have ok2 := okn (fun c => hc c.1)
      have hp3 := hp2 s (by omega)
      have e4 : backS l f (m + 1) = s ++ [2 * (x : Int) + 1] := by rw [hbs,sgs]
      rw [← e4] at hp3
      have le4 : (backS l f (m + 1)).length = s.length + 1 := by rw [e4];simp
      by_cases h1 : (tAt l x).k = 3
      · have h2 : (tAt l x).a ≠ q := fun e => hc ⟨h1,e⟩
        (repeat (first|(refine sA ?_;try intro KR kR)|(with_reducible refine sD O140 ?_;intro KR kR;simp only [O140,ordl,seval])|(refine sB ?_;intro K hK;simp (disch := omega) only [go_sem,seval];(try ((with_reducible first|refine Gt ?_|refine gopO_f rfl ?_|refine Gv rfl ?_);simp (disch := omega) only [go_sem,seval]));(repeat first|intro (xb : Blk)|intro (xk : Nat)|intro hx|refine pC ?_);refine hK _ ?_;clear K hK)|(refine sE ?_;simp only [go_sem,seval,L140,O140];refine kR _ ?_;clear KR kR)|(simp only [thenE,inB,seval])))
        ((with_reducible refine Ac ?_);intro K hK;simp (disch := omega) only [condK,go_sem,seval];refine hK _ ?_ ?_;all_goals clear K hK;all_goals intro hq;all_goals (try simp only [qF,reduceCtorEq] at hq);all_goals (try (exfalso;first|exact hq|omega)))
        (repeat (first|(refine sA ?_;try intro KR kR)|(with_reducible refine sD O140 ?_;intro KR kR;simp only [O140,ordl,seval])|(refine sB ?_;intro K hK;simp (disch := omega) only [go_sem,seval];(try ((with_reducible first|refine Gt ?_|refine gopO_f rfl ?_|refine Gv rfl ?_);simp (disch := omega) only [go_sem,seval]));(repeat first|intro (xb : Blk)|intro (xk : Nat)|intro hx|refine pC ?_);refine hK _ ?_;clear K hK)|(refine sE ?_;simp only [go_sem,seval,L140,O140];refine kR _ ?_;clear KR kR)|(simp only [thenE,inB,seval])))
        (refine sB ?_;intro K hK;simp (disch := omega) only [go_sem,seval];(try ((with_reducible refine Gt ?_);simp (disch := omega) only [go_sem,seval]));refine cN ?_;simp (disch := omega) only [go_sem,seval];refine ⟨_,_,ContractH.n (hp3),?_⟩;intro r H' hr hk;(try obtain rfl := keys_nil hk);(obtain ⟨c3,rfl⟩ := hr);(try simp (disch := omega) only [AV.flat,AC.flat,AC.flat.flatL,AC.flat.flatLL,go_sem,seval]);(repeat first|intro (xb : Blk)|intro (xk : Nat)|intro hx|refine pC ?_);refine hK _ ?_;clear K hK)
        (repeat (first|(refine sA ?_;try intro KR kR)|(with_reducible refine sD O140 ?_;intro KR kR;simp only [O140,ordl,seval])|(refine sB ?_;intro K hK;simp (disch := omega) only [go_sem,seval];(try ((with_reducible first|refine Gt ?_|refine gopO_f rfl ?_|refine Gv rfl ?_);simp (disch := omega) only [go_sem,seval]));(repeat first|intro (xb : Blk)|intro (xk : Nat)|intro hx|refine pC ?_);refine hK _ ?_;clear K hK)|(refine sE ?_;simp only [go_sem,seval,L140,O140];refine kR _ ?_;clear KR kR)|(simp only [thenE,inB,seval])))
        refine gh_no ⟨n',by omega,m + 1,O,ob,c3,ok2,hall,by omega,hol2,?_⟩
        rw [hxn]
        rfl
      · (repeat (first|(refine sA ?_;try intro KR kR)|(with_reducible refine sD O140 ?_;intro KR kR;simp only [O140,ordl,seval])|(refine sB ?_;intro K hK;simp (disch := omega) only [go_sem,seval];(try ((with_reducible first|refine Gt ?_|refine gopO_f rfl ?_|refine Gv rfl ?_);simp (disch := omega) only [go_sem,seval]));(repeat first|intro (xb : Blk)|intro (xk : Nat)|intro hx|refine pC ?_);refine hK _ ?_;clear K hK)|(refine sE ?_;simp only [go_sem,seval,L140,O140];refine kR _ ?_;clear KR kR)|(simp only [thenE,inB,seval])))
        ((with_reducible refine Ac ?_);intro K hK;simp (disch := omega) only [condK,go_sem,seval];refine hK _ ?_ ?_;all_goals clear K hK;all_goals intro hq;all_goals (try simp only [qF,reduceCtorEq] at hq);all_goals (try (exfalso;first|exact hq|omega)))
        (repeat (first|(refine sA ?_;try intro KR kR)|(with_reducible refine sD O140 ?_;intro KR kR;simp only [O140,ordl,seval])|(refine sB ?_;intro K hK;simp (disch := omega) only [go_sem,seval];(try ((with_reducible first|refine Gt ?_|refine gopO_f rfl ?_|refine Gv rfl ?_);simp (disch := omega) only [go_sem,seval]));(repeat first|intro (xb : Blk)|intro (xk : Nat)|intro hx|refine pC ?_);refine hK _ ?_;clear K hK)|(refine sE ?_;simp only [go_sem,seval,L140,O140];refine kR _ ?_;clear KR kR)|(simp only [thenE,inB,seval])))
        (refine sB ?_;intro K hK;simp (disch := omega) only [go_sem,seval];(try ((with_reducible refine Gt ?_);simp (disch := omega) only [go_sem,seval]));refine cN ?_;simp (disch := omega) only [go_sem,seval];refine ⟨_,_,ContractH.n (hp3),?_⟩;intro r H' hr hk;(try obtain rfl := keys_nil hk);(obtain ⟨c3,rfl⟩ := hr);(try simp (disch := omega) only [AV.flat,AC.flat,AC.flat.flatL,AC.flat.flatLL,go_sem,seval]);(repeat first|intro (xb : Blk)|intro (xk : Nat)|intro hx|refine pC ?_);refine hK _ ?_;clear K hK)
        (repeat (first|(refine sA ?_;try intro KR kR)|(with_reducible refine sD O140 ?_;intro KR kR;simp only [O140,ordl,seval])|(refine sB ?_;intro K hK;simp (disch := omega) only [go_sem,seval];(try ((with_reducible first|refine Gt ?_|refine gopO_f rfl ?_|refine Gv rfl ?_);simp (disch := omega) only [go_sem,seval]));(repeat first|intro (xb : Blk)|intro (xk : Nat)|intro hx|refine pC ?_);refine hK _ ?_;clear K hK)|(refine sE ?_;simp only [go_sem,seval,L140,O140];refine kR _ ?_;clear KR kR)|(simp only [thenE,inB,seval])))
        refine gh_no ⟨n',by omega,m + 1,O,ob,c3,ok2,hall,by omega,hol2,?_⟩
        rw [hxn]
        rfl
end Go.Proofs.Ytllemobnfpljfaa
