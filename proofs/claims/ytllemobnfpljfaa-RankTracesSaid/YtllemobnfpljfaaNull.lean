import Derived.Test.YtllemobnfpljfaaTrN
import Derived.Test.YtllemobnfpljfaaTrP
import Derived.Test.YtllemobnfpljfaaTrS
set_option linter.unusedSimpArgs false
set_option linter.unusedVariables false
set_option maxRecDepth 100000
set_option maxHeartbeats 8000000
namespace Go.Proofs.Ytllemobnfpljfaa
open Go Go.Hs
def toHp (h : Hq) : Hp := (h.1,h.2.1,some h.2.2)
def R2 (x y : Int) : List (List Int) := [[0,x],[y,0]]
def R1 : List (List Int) := [[0]]
theorem R1_ok : rkB R1 R1 R1.length = true := by decide +kernel
theorem R1_has : hasR R1 0 := by decide
section
variable {l : List Tm} {x y : Hq} {ba bb d : Int}
theorem R2_ok (ha : 0 ≤ ba) (hb : 0 ≤ bb) (hd : d = 1 ∨ d = -1) : RkOk (R2 ba bb) (R2 d (-d)) 2 := by
 refine ⟨⟨rfl,fun i hi => ?_⟩,⟨rfl,fun i hi => ?_⟩,fun i hi => ?_⟩
 ·have hi : i < 2 := hi
  match i,hi with
  | 0,_ => rfl
  | 1,_ => rfl
 ·have hi : i < 2 := hi
  match i,hi with
  | 0,_ => rfl
  | 1,_ => rfl
 ·have hi : i < 2 := hi
  match i,hi with
  | 0,_ =>
   refine ⟨rfl,rfl,fun k hk => ?_⟩
   have hk : k < 2 := hk
   match k,hk with
   | 0,_ => exact ⟨Int.le_refl 0,.inl rfl⟩
   | 1,_ => exact ⟨ha,.inr ⟨hd,rfl⟩⟩
  | 1,_ =>
   refine ⟨rfl,rfl,fun k hk => ?_⟩
   have hk : k < 2 := hk
   match k,hk with
   | 0,_ =>
    refine ⟨hb,.inr ⟨?_,?_⟩⟩
    ·show -d = 1 ∨ -d = -1
     omega
    ·show d = - -d
     omega
   | 1,_ => exact ⟨Int.le_refl 0,.inl rfl⟩
theorem R2_rk (ha : 0 ≤ ba) (hb : 0 ≤ bb) (hd : d = 1 ∨ d = -1) : rkB (R2 ba bb) (R2 d (-d)) 2 = true := rkB_t (R2_ok ha hb hd)
theorem R2_has0 {a b : Int} : hasR (R2 a b) 0 := by
 show (0 : Int) ≤ 0 ∧ (0 : Int) < 2
 decide
theorem R2_has1 {a b : Int} : hasR (R2 a b) 1 := by
 show (0 : Int) ≤ 1 ∧ (1 : Int) < 2
 decide
theorem R2_small {a b : Int} : (R2 a b).length ≤ 1000 ∧ ∀ r ∈ R2 a b,r.length ≤ 1000 := by
 refine ⟨by show 2 ≤ 1000;decide,fun r hr => ?_⟩
 simp only [R2,List.mem_cons,List.not_mem_nil,or_false] at hr
 rcases hr with rfl|rfl <;> (show 2 ≤ 1000;decide)
theorem R1_small : R1.length ≤ 1000 ∧ ∀ r ∈ R1,r.length ≤ 1000 := by decide
theorem tab1 {f : Nat → Nat → Int} : tabF 1 f = [[f 0 0]] := rfl
theorem tab2 {f : Nat → Nat → Int} : tabF 2 f = [[f 0 0,f 0 1],[f 1 0,f 1 1]] := rfl
theorem next1_ok : okNext R1 R1 [0] [toHp x] := by
 refine ⟨R1_ok,rfl,fun i hi => ?_⟩
 have hi : i < 1 := hi
 obtain rfl : i = 0 := by omega
 exact R1_has
theorem next1_B : nextB l R1 R1 [0] [toHp x] = R1 := by
 show tabF 1 _ = R1
 rw [tab1,nx_diag.1];rfl
theorem next1_D : nextD l R1 R1 [0] [toHp x] = R1 := by
 show tabF 1 _ = R1
 rw [tab1,nx_diag.2];rfl
theorem nextU_ok : okNext R1 R1 [0,0] [toHp x,toHp y] := by
 refine ⟨R1_ok,rfl,fun i hi => ?_⟩
 have hi : i < 2 := hi
 match i,hi with
 | 0,_ => exact R1_has
 | 1,_ => exact R1_has
theorem nextU_B : nextB l R1 R1 [0,0] [toHp x,toHp y] = R2 (forkF l (x.1,x.2.1) (y.1,y.2.1)).1 (forkF l (x.1,x.2.1) (y.1,y.2.1)).2.1 := by
 obtain ⟨e1,e2,e3,e4⟩ := nx_eq (l := l) (b := R1) (d := R1) (fr := [0,0]) (h := [toHp x,toHp y]) (i := 0) (j := 1) (by decide) rfl
 show tabF 2 _ = _
 rw [tab2,nx_diag.1,nx_diag.1,e1,e2];rfl
theorem nextU_D : nextD l R1 R1 [0,0] [toHp x,toHp y] = R2 (forkF l (x.1,x.2.1) (y.1,y.2.1)).2.2 (-(forkF l (x.1,x.2.1) (y.1,y.2.1)).2.2) := by
 obtain ⟨e1,e2,e3,e4⟩ := nx_eq (l := l) (b := R1) (d := R1) (fr := [0,0]) (h := [toHp x,toHp y]) (i := 0) (j := 1) (by decide) rfl
 show tabF 2 _ = _
 rw [tab2,nx_diag.2,nx_diag.2,e3,e4];rfl
theorem nextT_ok (ha : 0 ≤ ba) (hb : 0 ≤ bb) (hd : d = 1 ∨ d = -1) : okNext (R2 ba bb) (R2 d (-d)) [0,1] [toHp x,toHp y] := by
 refine ⟨R2_rk ha hb hd,rfl,fun i hi => ?_⟩
 have hi : i < 2 := hi
 match i,hi with
 | 0,_ => exact R2_has0
 | 1,_ => exact R2_has1
theorem agTwo : agF (R2 ba bb) (R2 d (-d)) [0,1] [toHp x,toHp y] 0 1 = agD (numF ba x.2.1) (numF bb y.2.1) d := rfl
theorem agTwo' : agF (R2 ba bb) (R2 d (-d)) [0,1] [toHp x,toHp y] 1 0 = - agD (numF ba x.2.1) (numF bb y.2.1) d := by
 rw [ag_swap (b := R2 ba bb) (d := R2 d (-d)) (fr := [0,1]) (h := [toHp x,toHp y]) (i := 0) (k := 1) rfl,agTwo]
theorem nextT_B : nextB l (R2 ba bb) (R2 d (-d)) [0,1] [toHp x,toHp y] = R2 (numF ba x.2.1) (numF bb y.2.1) := by
 obtain ⟨e1,e2,e3,e4⟩ := nx_ne (l := l) (b := R2 ba bb) (d := R2 d (-d)) (fr := [0,1]) (h := [toHp x,toHp y]) (i := 0) (j := 1) (by decide) (by decide) rfl
 show tabF 2 _ = _
 rw [tab2,nx_diag.1,nx_diag.1,e1,e2];rfl
theorem nextT_D : nextD l (R2 ba bb) (R2 d (-d)) [0,1] [toHp x,toHp y] = R2 (agD (numF ba x.2.1) (numF bb y.2.1) d) (-agD (numF ba x.2.1) (numF bb y.2.1) d) := by
 obtain ⟨e1,e2,e3,e4⟩ := nx_ne (l := l) (b := R2 ba bb) (d := R2 d (-d)) (fr := [0,1]) (h := [toHp x,toHp y]) (i := 0) (j := 1) (by decide) (by decide) rfl
 show tabF 2 _ = _
 rw [tab2,nx_diag.2,nx_diag.2,e3,e4,agTwo];rfl
theorem pick2 (ha : 0 ≤ ba) (hb : 0 ≤ bb) (hd : d = 1 ∨ d = -1) {e : Int} (he : e = - agD (numF ba x.2.1) (numF bb y.2.1) d) (hp : e = 1 ∨ e = -1) : pickF (R2 ba bb) (R2 d (-d)) [0,1] [toHp x,toHp y] = Int.tdiv (e + 1) 2 := by
 have h2 : pickF (R2 ba bb) (R2 d (-d)) [0,1] [toHp x,toHp y] = pickN (R2 ba bb) (R2 d (-d)) [0,1] [toHp x,toHp y] 2 := if_pos (R2_rk ha hb hd)
 have h1 : pickN (R2 ba bb) (R2 d (-d)) [0,1] [toHp x,toHp y] 1 = 0 := if_pos ⟨R2_has0,.inl (by show (-1 : Int) < 0;decide)⟩
 rw [h2,pickN,h1]
 have h3 : agF (R2 ba bb) (R2 d (-d)) [0,1] [toHp x,toHp y] 1 (0 : Int).toNat = e := by rw [he];exact agTwo'
 rw [h3]
 rcases hp with rfl|rfl
 ·rw [if_pos ⟨R2_has1,.inr (by decide)⟩];rfl
 ·rw [if_neg (by rintro ⟨_,h|h⟩ <;> omega)];rfl
theorem best2 (ha : 0 ≤ ba) (hb : 0 ≤ bb) (hd : d = 1 ∨ d = -1) {e : Int} (he : e = - d) : bestF (R2 ba bb) (R2 d (-d)) [0,1] = Int.tdiv (e + 1) 2 := by
 have h2 : bestF (R2 ba bb) (R2 d (-d)) [0,1] = bestN (R2 ba bb) (R2 d (-d)) [0,1] 2 := if_pos (R2_rk ha hb hd)
 have h1 : bestN (R2 ba bb) (R2 d (-d)) [0,1] 1 = 0 := if_pos ⟨R2_has0,.inl (by show (-1 : Int) < 0;decide)⟩
 rw [h2,bestN,h1]
 have h3 : rGet (R2 d (-d)) (([0,1] : List Int).getD 1 0).toNat (0 : Int).toNat = -d := rfl
 rw [h3,← he]
 rcases hd with rfl|rfl
 ·subst he
  rw [if_neg (by rintro ⟨_,h|h⟩ <;> omega)];rfl
 ·subst he
  rw [if_pos ⟨R2_has1,.inr (by decide)⟩];rfl
theorem fork_pos2 (hr : rightF l = true) {p q : Int × Int} (hx : 0 ≤ p.2) (hy : 0 ≤ q.2) : 0 ≤ (forkF l p q).1 ∧ 0 ≤ (forkF l p q).2.1 := by
 have hd : ∀ q,0 ≤ (deepF l).getD q 0 := fun q => (deep_rng hr q).1
 refine ⟨fork_pos hd hx hy,?_⟩
 have := fork_pos hd hy hx
 rw [fork_swap (x := p)] at this
 exact this
theorem getD_take0 {a : List Int} {n i : Nat} (h : i < n) : (a.take n).getD i 0 = a.getD i 0 := by
 simp [List.getD_eq_getElem?_getD,List.getElem?_take,h]
theorem hopI_take {a : List Int} {n i : Nat} (h : i < n) : hopI l (a.take n) i = hopI l a i := by
 unfold hopI prevI
 rw [getD_take0 h]
 by_cases e : i = 0
 ·rw [if_pos e,if_pos e]
 ·rw [if_neg e,if_neg e,getD_take0 (by omega)]
theorem frI_take {a : List Int} {n i : Nat} (h : i < n) : frI l (a.take n) i = frI l a i := by
 unfold frI;rw [hopI_take h]
theorem take_same {a b : List Int} {n : Nat} (ha : n ≤ a.length) (hb : n ≤ b.length) (h : ∀ i,i < n → a.getD i 0 = b.getD i 0) : a.take n = b.take n := by
 refine ints_ext (by simp;omega) fun i hi => ?_
 have hi : i < n := by simp at hi;omega
 rw [getD_take0 hi,getD_take0 hi,h i hi]
theorem Parts_take {a b : List Int} {n k s : Nat} (hk : k < n) (p : Parts (frI l a) (frI l b) k s) : Parts (frI l (a.take n)) (frI l (b.take n)) k s := by
 obtain ⟨p1,p2,p3,p4,p5⟩ := p
 refine ⟨fun i hi => ?_,?_,?_,?_,?_⟩
 ·rw [frI_take (by omega),frI_take (by omega),p1 i hi]
 ·rw [frI_take hk,frI_take hk,p2]
 ·rw [frI_take hk];exact p3
 ·rw [frI_take hk];exact p4
 ·rw [frI_take hk,frI_take hk];exact p5
end
end Go.Proofs.Ytllemobnfpljfaa
set_option linter.unusedSimpArgs false
namespace Go.Proofs.Ytllemobnfpljfaa
open Go Go.Hs
def L143 (r : Nat) : Option (List Nat) := kl r [(0,[0]),(1,[0,7]),(2,[2]),(3,[0,3]),(4,[0,3,4]),(5,[0,3,4,14]),(6,[0,3,4]),(7,[0,3,4,21]),(8,[0,3,4,21,22]),(9,[0,3,4,21,22]),(10,[0,3,4,21,22]),(11,[0,3,4]),(12,[0,3,4,21,29]),(13,[0,3,4]),(14,[0,3,4,21,52]),(15,[0,3,4]),(16,[0,3,4,21,75]),(17,[0,3,4,75]),(18,[0,3,4]),(19,[2])]
def O143 (r : Nat) : List Nat × OT := ordl r []
attribute [local go_sem] Tm.cs binSet length_tRows tRows_ex tRows_frz getK getA getB getN getTm getSet
theorem refCan_ok (l : List Tm) (hl : l.length ≤ 1000) : ContractR Try.prog 143 [.c (.sl 8 (tRows l))] (fun r => ∃ b,r = .c (.own b 4 1 (boRows (canF l)))) := by
 (refine contract_of_awp (L := L143) Try.func143 rfl (by kernel_rfl) (by first|rfl|decide) (by first|rfl|kernel_rfl) ?_;simp only [Try.ntmps143,initEnv,Env.keys,List.map_nil,List.map_cons,List.append_nil,List.cons_append,List.nil_append])
 (repeat (first|(refine sA ?_;try intro KR kR)|(with_reducible refine sD O143 ?_;intro KR kR;simp only [O143,ordl,seval])|(refine sB ?_;intro K hK;simp (disch := omega) only [go_sem,seval];(try ((with_reducible first|refine Gt ?_|refine Gv rfl ?_);simp (disch := omega) only [go_sem,seval]));(repeat first|intro (xb : Blk)|intro (xk : Nat)|intro hx|refine pC ?_);refine hK _ ?_;clear K hK)|(refine sE ?_;simp only [go_sem,seval,L143,O143];refine kR _ ?_;clear KR kR)|(simp only [thenE,inB,seval])))
 (refine sB ?_;intro K hK;simp (disch := omega) only [go_sem,seval];(try ((with_reducible refine Gt ?_);simp (disch := omega) only [go_sem,seval]));refine cN ?_;simp (disch := omega) only [go_sem,seval];refine ⟨_,_,ContractH.n (refRight_ok l hl),?_⟩;intro r H' hr hk;(try obtain rfl := keys_nil hk);(first|subst hr|(obtain ⟨_,rfl⟩ := hr)|(obtain ⟨_,_,rfl⟩ := hr)|(obtain ⟨_,_,_,rfl⟩ := hr));(try simp (disch := omega) only [AV.flat,AC.flat,AC.flat.flatL,AC.flat.flatLL,go_sem,seval]);(repeat first|intro (xb : Blk)|intro (xk : Nat)|intro hx|refine pC ?_);refine hK _ ?_;clear K hK)
 (repeat (first|(refine sA ?_;try intro KR kR)|(with_reducible refine sD O143 ?_;intro KR kR;simp only [O143,ordl,seval])|(refine sB ?_;intro K hK;simp (disch := omega) only [go_sem,seval];(try ((with_reducible first|refine Gt ?_|refine Gv rfl ?_);simp (disch := omega) only [go_sem,seval]));(repeat first|intro (xb : Blk)|intro (xk : Nat)|intro hx|refine pC ?_);refine hK _ ?_;clear K hK)|(refine sE ?_;simp only [go_sem,seval,L143,O143];refine kR _ ?_;clear KR kR)|(simp only [thenE,inB,seval])))
 ((with_reducible refine Ac ?_);intro K hK;simp (disch := omega) only [condK,go_sem,seval];refine hK _ ?_ ?_;all_goals clear K hK;all_goals intro hq;all_goals (try simp only [qF,reduceCtorEq] at hq);all_goals (try (exfalso;first|exact hq|omega)))
 ·(repeat (first|(refine sA ?_;try intro KR kR)|(with_reducible refine sD O143 ?_;intro KR kR;simp only [O143,ordl,seval])|(refine sB ?_;intro K hK;simp (disch := omega) only [go_sem,seval];(try ((with_reducible first|refine Gt ?_|refine Gv rfl ?_);simp (disch := omega) only [go_sem,seval]));(repeat first|intro (xb : Blk)|intro (xk : Nat)|intro hx|refine pC ?_);refine hK _ ?_;clear K hK)|(refine sE ?_;simp only [go_sem,seval,L143,O143];refine kR _ ?_;clear KR kR)|(simp only [thenE,inB,seval])))
  (simp only [retQ,Try.results143];simp (disch := omega) only [resK,resT,resAV,Env.sel,Env.keys,List.map_nil,List.map_cons,List.all_nil,List.all_cons,AV.isS,Bool.not_false,Bool.and_self,Option.map_some,List.length_cons,List.length_nil,Nat.zero_add,Nat.reduceAdd,not_false_eq_true,true_and,and_true,ne_eq,go_sem,seval,ne_eq])
  exact ⟨none,by rw [canF,hq];rfl⟩
 ·have hr := hq
  have ht := term_of_right hr
  (repeat (first|(refine sA ?_;try intro KR kR)|(with_reducible refine sD O143 ?_;intro KR kR;simp only [O143,ordl,seval])|(refine sB ?_;intro K hK;simp (disch := omega) only [go_sem,seval];(try ((with_reducible first|refine Gt ?_|refine Gv rfl ?_);simp (disch := omega) only [go_sem,seval]));(repeat first|intro (xb : Blk)|intro (xk : Nat)|intro hx|refine pC ?_);refine hK _ ?_;clear K hK)|(refine sE ?_;simp only [go_sem,seval,L143,O143];refine kR _ ?_;clear KR kR)|(simp only [thenE,inB,seval])))
  generalize xk = kb
  refine awp_loop [0,3,4,1010] (fun k S => ∃ (i : Nat) (out : List Bool),i ≤ l.length ∧ out = canN l i ++ pad l.length i ∧ k = l.length - i ∧
   S = [(0,.c (.sl 8 (tRows l))),(3,.c (.ref 1010 [] (some (kb,l.length)) 1 0 l.length)),(4,.c (.im (.int .i64 i))),(1010,.row (some (kb,l.length)) 4 1 (boRows out))]) _ ⟨0,List.replicate l.length false,by omega,by simp [canN,pad],rfl,rfl⟩ ?_
  rintro k S' ⟨i,out,h1,h3,hk,rfl⟩
  have hcl := canN_length (l := l) i
  have h2 := pad_length hcl h1
  rw [← h3] at h2
  by_cases hi : i < l.length
  ·have fin : ∀ x,canOf (tAt l i) (canN l i) = x → out.set i x = canN l (i + 1) ++ pad l.length (i + 1) := fun x hx => by rw [h3,pad_set hcl hi,canN,hx]
   have fin0 : canOf (tAt l i) (canN l i) = false → out = canN l (i + 1) ++ pad l.length (i + 1) := fun hx => by rw [h3,pad_no hi,canN,hx]
   have gg : ∀ j,j < i → (canN l i).getD j false = out.getD j false := fun j hj => by rw [h3,pad_get hcl hj]
   rcases ht.node i hi with ⟨g1,g2,g3,g4⟩|⟨g1,c,d,g2,g3,g4,g5,g6⟩|⟨g1,d,g2,g3,g4,g5⟩
   ·(repeat' (first|(refine sA ?_;try intro KR kR)|(with_reducible refine sD O143 ?_;intro KR kR;simp only [O143,ordl,seval])|(refine sB ?_;intro K hK;simp (disch := omega) only [go_sem,seval];(try ((with_reducible first|refine Gt ?_|refine Gv rfl ?_);simp (disch := omega) only [go_sem,seval]));(repeat first|intro (xb : Blk)|intro (xk : Nat)|intro hx|refine pC ?_);refine hK _ ?_;clear K hK)|(refine sE ?_;simp only [go_sem,seval,L143,O143];refine kR _ ?_;clear KR kR)|(simp only [thenE,inB,seval])|((with_reducible refine Ac ?_);intro K hK;simp (disch := omega) only [condK,go_sem,seval];refine hK _ ?_ ?_;all_goals clear K hK;all_goals intro hq;all_goals (try simp only [qF,reduceCtorEq] at hq);all_goals (try (exfalso;first|exact hq|omega)))))
    all_goals refine gh_no ⟨l.length - (i + 1),by omega,i + 1,_,by omega,?_,rfl,rfl⟩
    all_goals first|refine fin _ ?_|refine fin0 ?_
    all_goals (clear h3 fin fin0 gg;try clear g2)
    all_goals (simp [canOf,-List.getD_eq_getElem?_getD, *];done)
   ·have ld := ht.low d
    have gc := gg c (by omega)
    have gd := gg d (by omega)
    (repeat' (first|(refine sA ?_;try intro KR kR)|(with_reducible refine sD O143 ?_;intro KR kR;simp only [O143,ordl,seval])|(refine sB ?_;intro K hK;simp (disch := omega) only [go_sem,seval];(try ((with_reducible first|refine Gt ?_|refine Gv rfl ?_);simp (disch := omega) only [go_sem,seval]));(repeat first|intro (xb : Blk)|intro (xk : Nat)|intro hx|refine pC ?_);refine hK _ ?_;clear K hK)|(refine sE ?_;simp only [go_sem,seval,L143,O143];refine kR _ ?_;clear KR kR)|(simp only [thenE,inB,seval])|((with_reducible refine Ac ?_);intro K hK;simp (disch := omega) only [condK,go_sem,seval];refine hK _ ?_ ?_;all_goals clear K hK;all_goals intro hq;all_goals (try simp only [qF,reduceCtorEq] at hq);all_goals (try (exfalso;first|exact hq|omega)))))
    all_goals refine gh_no ⟨l.length - (i + 1),by omega,i + 1,_,by omega,?_,rfl,rfl⟩
    all_goals first|refine fin _ ?_|refine fin0 ?_
    all_goals (clear h3 fin fin0 gg;try clear g2)
    all_goals (simp [canOf,-List.getD_eq_getElem?_getD, *];done)
   ·have gd := gg d (by omega)
    (repeat' (first|(refine sA ?_;try intro KR kR)|(with_reducible refine sD O143 ?_;intro KR kR;simp only [O143,ordl,seval])|(refine sB ?_;intro K hK;simp (disch := omega) only [go_sem,seval];(try ((with_reducible first|refine Gt ?_|refine Gv rfl ?_);simp (disch := omega) only [go_sem,seval]));(repeat first|intro (xb : Blk)|intro (xk : Nat)|intro hx|refine pC ?_);refine hK _ ?_;clear K hK)|(refine sE ?_;simp only [go_sem,seval,L143,O143];refine kR _ ?_;clear KR kR)|(simp only [thenE,inB,seval])|((with_reducible refine Ac ?_);intro K hK;simp (disch := omega) only [condK,go_sem,seval];refine hK _ ?_ ?_;all_goals clear K hK;all_goals intro hq;all_goals (try simp only [qF,reduceCtorEq] at hq);all_goals (try (exfalso;first|exact hq|omega)))))
    all_goals refine gh_no ⟨l.length - (i + 1),by omega,i + 1,_,by omega,?_,rfl,rfl⟩
    all_goals first|refine fin _ ?_|refine fin0 ?_
    all_goals (clear h3 fin fin0 gg;try clear g2)
    all_goals (simp [canOf,-List.getD_eq_getElem?_getD, *];done)
  ·have ei : i = l.length := by omega
   subst ei
   (repeat' (first|(refine sA ?_;try intro KR kR)|(with_reducible refine sD O143 ?_;intro KR kR;simp only [O143,ordl,seval])|(refine sB ?_;intro K hK;simp (disch := omega) only [go_sem,seval];(try ((with_reducible first|refine Gt ?_|refine Gv rfl ?_);simp (disch := omega) only [go_sem,seval]));(repeat first|intro (xb : Blk)|intro (xk : Nat)|intro hx|refine pC ?_);refine hK _ ?_;clear K hK)|(refine sE ?_;simp only [go_sem,seval,L143,O143];refine kR _ ?_;clear KR kR)|(simp only [thenE,inB,seval])|((with_reducible refine Ac ?_);intro K hK;simp (disch := omega) only [condK,go_sem,seval];refine hK _ ?_ ?_;all_goals clear K hK;all_goals intro hq;all_goals (try simp only [qF,reduceCtorEq] at hq);all_goals (try (exfalso;first|exact hq|omega)))))
   (simp only [retQ,Try.results143];simp (disch := omega) only [resK,resT,resAV,Env.sel,Env.keys,List.map_nil,List.map_cons,List.all_nil,List.all_cons,AV.isS,Bool.not_false,Bool.and_self,Option.map_some,List.length_cons,List.length_nil,Nat.zero_add,Nat.reduceAdd,not_false_eq_true,true_and,and_true,ne_eq,go_sem,seval,ne_eq])
   refine ⟨by omega,some (kb,l.length),?_⟩
   rw [List.take_of_length_le (by omega),h3,canF,if_pos hr,pad_end]
end Go.Proofs.Ytllemobnfpljfaa
