/-
  moore.finer.
-/
import Derived.Test.YtglgmmoomlnghaaMoR
set_option linter.unusedSimpArgs false
set_option linter.unusedVariables false
namespace Go.Proofs.Ytglgmmoomlnghaa
open Go Go.Hs
def L35 (r : Nat) : Option (List Nat) := kl r [(0,[2,3,4]),(1,[2,3,4,5]),(2,[2,3,4,5,6]),(3,[3,4,5,6,14,15,16]),(4,[3,4,5,6,14,15,16,17]),(5,[3,4,5,6,7,8,14,15,16]),(6,[3,4,5,6,7,9,14,15,16]),(7,[3,4,5,6,7,9,10,11,14,15,16]),(8,[3,4,5,6,7,9,10,14,15,16,32]),(9,[3,4,5,6,7,9,10,14,15,16]),(10,[3,4,5,6,7,10,14,15,16]),(11,[3,4,5,6,14,15,16]),(12,[3,4,5,6,14,15,16]),(13,[4])]
def O35 (r : Nat) : List Nat × OT := ordl r []

def sigK (d : Df) (cls : List Int) (i : Nat) : ByteArray := sigS (stAt d.sts i) (padL cls) i

theorem tkI {l : List Int} (h : l.length ≤ 400) : (iRow l).take 400 = iRow l := List.take_of_length_le (by rw [length_iRow];exact h)
theorem perI {l : List Int} : (iRow l).all AC.per = true := by
  unfold iRow
  rw [List.all_map,List.all_eq_true]
  intro x _;rfl
theorem spI {a b : List Int} (h : a.length = b.length) : splice (iRow a) 0 (iRow b) = iRow b := by
  unfold splice
  rw [List.take_zero,List.drop_eq_nil_of_le (by rw [length_iRow,length_iRow];omega),List.nil_append,List.append_nil]
theorem spI1 {l : List Int} {j : Nat} {v : Int} (h : j < l.length) : splice (iRow l) j [.im (.int .i64 v)] = iRow (l.set j v) := by
  unfold splice iRow
  rw [List.map_set,List.set_eq_take_append_cons_drop,if_pos (by rw [List.length_map];exact h),List.append_assoc];rfl
theorem eiC : eInfo Try.prog 75 = some (400,3200,iRow (padL [])) := by
  rw [padL_nil,iRow,List.map_replicate];exact ei75
attribute [local go_sem high] eiC
theorem ent_rng {n regs : Int} {may : Bool} (hr : regs ≤ 1216) (h : entP n regs may) : -2 ≤ n ∧ n ≤ 1216 := by
  rcases h with h|h|h <;> omega
theorem mem_getD {l : List Int} {x : Int} (h : x ∈ l) : ∃ t,t < l.length ∧ l.getD t 0 = x := by
  obtain ⟨t,ht,e⟩ := List.mem_iff_getElem.1 h
  exact ⟨t,ht,by rw [List.getD_eq_getElem?_getD,List.getElem?_eq_getElem ht];exact e⟩
theorem sig_bd {d : Df} (B : Bd d) (hm : mB d = true) {i : Nat} (hi : i < d.sts.length) :
    (0 ≤ (stAt d.sts i).regs ∧ (stAt d.sts i).regs ≤ 1216) ∧ (stAt d.sts i).acc.length ≤ 1000 ∧ (stAt d.sts i).eds.length ≤ 1000 ∧ (∀ c,c < (stAt d.sts i).eds.length → (edAt (stAt d.sts i).eds c).src.length ≤ 2000 ∧ (edAt (stAt d.sts i).eds c).to < 400) ∧ (∀ x ∈ (stAt d.sts i).acc,-2 ≤ x ∧ x ≤ 1216) ∧ ∀ c,c < (stAt d.sts i).eds.length → ∀ x ∈ (edAt (stAt d.sts i).eds c).src,-2 ≤ x ∧ x ≤ 1216 := by
  have m400 : d.sts.length ≤ 400 := (mr_ok hm).1.2.2.2.2.1
  have st := mr_st hm hi
  refine ⟨⟨st.1.1,st.1.2.1⟩,B.acc i hi,B.eds i hi,fun c hc => ⟨B.src i hi c hc,?_⟩,fun x hx => ?_,fun c hc x hx => ?_⟩
  · rcases mr_edge hm hi hc with ⟨g,_⟩|⟨_,_,g,_⟩ <;> omega
  · obtain ⟨t,ht,rfl⟩ := mem_getD hx
    exact ent_rng st.1.2.1 (of_decide_eq_true ((of_decide_eq_true st.2.1 : AccOk _ _).2 t ht) : entP _ _ _)
  · obtain ⟨t,ht,rfl⟩ := mem_getD hx
    rcases mr_edge hm hi hc with ⟨_,g⟩|⟨_,_,_,_,g⟩
    · omega
    · exact ent_rng st.1.2.1 (of_decide_eq_true (g t ht) : entP _ _ _)
attribute [local go_sem] AV.isS Ed.cs Sta.cs Df.cs length_edRows length_stRows gEd0' gEd0 gEd1 gEdR gSt0' gSt0 gSt1 gSt2 gStR xltT xltF xleT xleF xeqT xeqF xbeT xbeF xbnT xbnF length_iRow getI getIo absI reI padL_len tkI perI spI spI1 List.length_set Option.isSome_some Option.isSome_none

set_option maxRecDepth 100000 in
set_option maxHeartbeats 8000000 in
theorem finer_ok (d : Df) (B : Bd d) (hm : mB d = true) (cls : List Int) (hc : cls.length = d.sts.length) (hcl : ∀ j,j < 400 → 0 ≤ (padL cls).getD j 0 ∧ (padL cls).getD j 0 ≤ 400) :
    Contract Try.prog 35 [.agg d.cs,.agg (iRow (padL cls))] (.agg (iRow (padL (canV (sigK d cls) d.sts.length).1))) := by
  have m1 := (mr_ok hm).1
  have m400 : d.sts.length ≤ 400 := m1.2.2.2.2.1
  have pl := padL_len (l := cls) (by omega)
  unfold Df.cs
  (refine contract_of_awp (L := L35) Try.func35 rfl (by kernel_rfl) (by first|rfl|decide) (by first|rfl|kernel_rfl) ?_;simp only [Try.ntmps35,initEnv,Env.keys,List.map_nil,List.map_cons,List.append_nil,List.cons_append,List.nil_append])
  (repeat (first|(with_reducible (first|refine Aq ?_|(refine Ar ?_;intro KR kR)|refine Ab ?_|refine As ?_|refine Ae ?_|refine Atq ?_|refine Al ?_|refine Ag ?_|(refine Ad O35 (by kernel_rfl) (by kernel_rfl) ?_;intro KR kR;simp only [O35,ordl,↓reduceIte,reduceCtorEq,Nat.reduceEqDiff])))|((with_reducible first|refine Oz ?_|refine Rv ?_|refine Rl ?_|refine Rg ?_|refine Re ?_|refine Nz ?_);intro K hK;simp (disch := omega) only [go_sem,seval];(try ((with_reducible first|refine Gt ?_|refine gopO_f rfl ?_|refine Gv rfl ?_);simp (disch := omega) only [go_sem,seval]));((repeat (first|(intro (xb : Blk))|(intro (xk : Nat))|(intro hx)|(refine ⟨by (first|omega|(intro hg;simp [-List.getD_eq_getElem?_getD] at hg;omega)|assumption|decide),?_⟩)));refine hK _ ?_;clear K hK))|((with_reducible first|refine Onq ?_|refine Rn ?_);simp only [go_sem,seval,L35,O35];refine kR _ ?_;clear KR kR)|(simp only [thenE,inB,↓reduceIte,reduceCtorEq,Nat.reduceEqDiff])))
  generalize xk = k6
  rename_i k2 k3 k4 km
  refine awp_loop [3,4,5,6,14,15,16,1003,1004,1006,1012] (fun m S => ∃ (i : Nat),i ≤ d.sts.length ∧ m + i = d.sts.length ∧ S = [(3,.c (.ptr 1003 [] k3 400 0 0)),(4,.c (.ptr 1004 [] k4 400 0 0)),(5,.c (.mref 1012 km)),(6,.c (.ptr 1006 [] k6 400 0 0)),(14,.c (.sl 3 (stRows d.sts))),(15,.c (.im (.int .i64 d.sts.length))),(16,.c (.im (.int .i64 i))),(1003,.box k3 75 (iRow (padL cls))),(1004,.box k4 75 (iRow (padL []))),(1006,.box k6 75 (iRow (padL (canV (sigK d cls) i).1))),(1012,.mapo km (mapK (sigK d cls) i))]) d.sts.length ⟨0,by omega,by omega,?_⟩ ?_
  · rfl
  rintro m S' ⟨i,hi,hmi,rfl⟩
  (repeat (first|(with_reducible (first|refine Aq ?_|(refine Ar ?_;intro KR kR)|refine Ab ?_|refine As ?_|refine Ae ?_|refine Atq ?_|refine Al ?_|refine Ag ?_|(refine Ad O35 (by kernel_rfl) (by kernel_rfl) ?_;intro KR kR;simp only [O35,ordl,↓reduceIte,reduceCtorEq,Nat.reduceEqDiff])))|((with_reducible first|refine Oz ?_|refine Rv ?_|refine Rl ?_|refine Rg ?_|refine Re ?_|refine Nz ?_);intro K hK;simp (disch := omega) only [go_sem,seval];(try ((with_reducible first|refine Gt ?_|refine gopO_f rfl ?_|refine Gv rfl ?_);simp (disch := omega) only [go_sem,seval]));((repeat (first|(intro (xb : Blk))|(intro (xk : Nat))|(intro hx)|(refine ⟨by (first|omega|(intro hg;simp [-List.getD_eq_getElem?_getD] at hg;omega)|assumption|decide),?_⟩)));refine hK _ ?_;clear K hK))|((with_reducible first|refine Onq ?_|refine Rn ?_);simp only [go_sem,seval,L35,O35];refine kR _ ?_;clear KR kR)|(simp only [thenE,inB,↓reduceIte,reduceCtorEq,Nat.reduceEqDiff])))
  ((with_reducible refine Ac ?_);intro K hK;simp (disch := omega) only [condK,go_sem,seval];refine hK _ ?_ ?_;all_goals clear K hK;all_goals intro hq;all_goals (try simp only [qF,reduceCtorEq] at hq);all_goals (try (exfalso;first|exact hq|omega)))
  · have hi2 : i < d.sts.length := by omega
    have cl := can_len (key := sigK d cls) i
    have sg := sig_bd B hm hi2
    have hml := mapK_le (key := sigK d cls) (n := i)
    clear hq
    (repeat (first|(with_reducible (first|refine Aq ?_|(refine Ar ?_;intro KR kR)|refine Ab ?_|refine As ?_|refine Ae ?_|refine Atq ?_|refine Al ?_|refine Ag ?_|(refine Ad O35 (by kernel_rfl) (by kernel_rfl) ?_;intro KR kR;simp only [O35,ordl,↓reduceIte,reduceCtorEq,Nat.reduceEqDiff])))|((with_reducible first|refine Oz ?_|refine Rv ?_|refine Rl ?_|refine Rg ?_|refine Re ?_|refine Nz ?_);intro K hK;simp (disch := omega) only [go_sem,seval];(try ((with_reducible first|refine Gt ?_|refine gopO_f rfl ?_|refine Gv rfl ?_);simp (disch := omega) only [go_sem,seval]));((repeat (first|(intro (xb : Blk))|(intro (xk : Nat))|(intro hx)|(refine ⟨by (first|omega|(intro hg;simp [-List.getD_eq_getElem?_getD] at hg;omega)|assumption|decide),?_⟩)));refine hK _ ?_;clear K hK))|((with_reducible first|refine Onq ?_|refine Rn ?_);simp only [go_sem,seval,L35,O35];refine kR _ ?_;clear KR kR)|(simp only [thenE,inB,↓reduceIte,reduceCtorEq,Nat.reduceEqDiff])))
    ((with_reducible (first|refine Oz ?_|refine Rg ?_|refine Re ?_|refine Nz ?_));intro K hK;simp (disch := omega) only [go_sem,seval];(try ((with_reducible refine Gt ?_);simp (disch := omega) only [go_sem,seval]));refine ⟨[],by simp,by simp [Env.sel,Env.get,Env.keys,AV.isS],?_⟩;simp (disch := omega) only [go_sem,seval];refine ⟨_,_,ContractH.n (sign_ok (stAt d.sts i) (padL cls) i pl (by omega) hcl sg.1 sg.2.1 sg.2.2.1 sg.2.2.2.1 sg.2.2.2.2.1 sg.2.2.2.2.2),?_⟩;intro r H' hr hk;(try obtain rfl := keys_nil hk);(first|subst hr|(obtain ⟨_,rfl⟩ := hr)|(obtain ⟨_,_,rfl⟩ := hr)|(obtain ⟨_,_,_,rfl⟩ := hr));(try simp (disch := omega) only [AV.flat,AC.flat,AC.flat.flatL,AC.flat.flatLL,go_sem,seval]);((repeat (first|(intro (xb : Blk))|(intro (xk : Nat))|(intro hx)|(refine ⟨by (first|omega|(intro hg;simp [-List.getD_eq_getElem?_getD] at hg;omega)|assumption|decide),?_⟩)));refine hK _ ?_;clear K hK))
    have es : sigS (stAt d.sts i) (padL cls) i = sigK d cls i := rfl
    rw [es]
    have plc := padL_len (l := (canV (sigK d cls) i).1) (by omega)
    have ps := fun v => padL_set (l := (canV (sigK d cls) i).1) (v := v) (by omega)
    rw [cl] at ps
    cases e : mFind (mapK (sigK d cls) i) (sigK d cls i) with
    | some x =>
      obtain ⟨q1,q2⟩ := mapK_hit e
      (repeat (first|(with_reducible (first|refine Aq ?_|(refine Ar ?_;intro KR kR)|refine Ab ?_|refine As ?_|refine Ae ?_|refine Atq ?_|refine Al ?_|refine Ag ?_|(refine Ad O35 (by kernel_rfl) (by kernel_rfl) ?_;intro KR kR;simp only [O35,ordl,↓reduceIte,reduceCtorEq,Nat.reduceEqDiff])))|((with_reducible first|refine Oz ?_|refine Rv ?_|refine Rl ?_|refine Rg ?_|refine Re ?_|refine Nz ?_);intro K hK;simp (disch := omega) only [go_sem,seval];(try ((with_reducible first|refine Gt ?_|refine gopO_f rfl ?_|refine Gv rfl ?_);simp (disch := omega) only [go_sem,seval]));((repeat (first|(intro (xb : Blk))|(intro (xk : Nat))|(intro hx)|(refine ⟨by (first|omega|(intro hg;simp [-List.getD_eq_getElem?_getD] at hg;omega)|assumption|decide),?_⟩)));refine hK _ ?_;clear K hK))|((with_reducible first|refine Onq ?_|refine Rn ?_);simp only [go_sem,seval,L35,O35];refine kR _ ?_;clear KR kR)|(simp only [thenE,inB,↓reduceIte,reduceCtorEq,Nat.reduceEqDiff])))
      simp only [e,Option.isSome_some,Option.isSome_none,Option.getD_some,Option.getD_none,Bool.not_true,Bool.not_false]
      ((with_reducible refine Ac ?_);intro K hK;simp (disch := omega) only [condK,go_sem,seval];refine hK _ ?_ ?_;all_goals clear K hK;all_goals intro hq;all_goals (try simp only [qF,reduceCtorEq] at hq);all_goals (try (exfalso;first|exact hq|omega)))
      (repeat (first|(with_reducible (first|refine Aq ?_|(refine Ar ?_;intro KR kR)|refine Ab ?_|refine As ?_|refine Ae ?_|refine Atq ?_|refine Al ?_|refine Ag ?_|(refine Ad O35 (by kernel_rfl) (by kernel_rfl) ?_;intro KR kR;simp only [O35,ordl,↓reduceIte,reduceCtorEq,Nat.reduceEqDiff])))|((with_reducible first|refine Oz ?_|refine Rv ?_|refine Rl ?_|refine Rg ?_|refine Re ?_|refine Nz ?_);intro K hK;simp (disch := omega) only [go_sem,seval];(try ((with_reducible first|refine Gt ?_|refine gopO_f rfl ?_|refine Gv rfl ?_);simp (disch := omega) only [go_sem,seval]));((repeat (first|(intro (xb : Blk))|(intro (xk : Nat))|(intro hx)|(refine ⟨by (first|omega|(intro hg;simp [-List.getD_eq_getElem?_getD] at hg;omega)|assumption|decide),?_⟩)));refine hK _ ?_;clear K hK))|((with_reducible first|refine Onq ?_|refine Rn ?_);simp only [go_sem,seval,L35,O35];refine kR _ ?_;clear KR kR)|(simp only [thenE,inB,↓reduceIte,reduceCtorEq,Nat.reduceEqDiff])))
      refine gh_no ⟨d.sts.length - (i + 1),by omega,i + 1,by omega,by omega,?_⟩
      rw [q1,q2,← ps]
      ((try simp (disch := omega) only [List.cons.injEq,Prod.mk.injEq,AV.c.injEq,AV.agg.injEq,AV.opt.injEq,AV.tup.injEq,AV.row.injEq,AV.box.injEq,AV.mapo.injEq,AC.im.injEq,AC.sl.injEq,AC.adr.injEq,AC.ref.injEq,AC.ptr.injEq,AC.own.injEq,AC.fn.injEq,Value.int.injEq,Value.bool.injEq,Value.string.injEq,heq_eq_eq,go_sem,seval]);(try (repeat' refine And.intro ?_ ?_));all_goals (first|rfl|omega|skip))
    | none =>
      obtain ⟨q1,q2⟩ := mapK_miss e
      (repeat (first|(with_reducible (first|refine Aq ?_|(refine Ar ?_;intro KR kR)|refine Ab ?_|refine As ?_|refine Ae ?_|refine Atq ?_|refine Al ?_|refine Ag ?_|(refine Ad O35 (by kernel_rfl) (by kernel_rfl) ?_;intro KR kR;simp only [O35,ordl,↓reduceIte,reduceCtorEq,Nat.reduceEqDiff])))|((with_reducible first|refine Oz ?_|refine Rv ?_|refine Rl ?_|refine Rg ?_|refine Re ?_|refine Nz ?_);intro K hK;simp (disch := omega) only [go_sem,seval];(try ((with_reducible first|refine Gt ?_|refine gopO_f rfl ?_|refine Gv rfl ?_);simp (disch := omega) only [go_sem,seval]));((repeat (first|(intro (xb : Blk))|(intro (xk : Nat))|(intro hx)|(refine ⟨by (first|omega|(intro hg;simp [-List.getD_eq_getElem?_getD] at hg;omega)|assumption|decide),?_⟩)));refine hK _ ?_;clear K hK))|((with_reducible first|refine Onq ?_|refine Rn ?_);simp only [go_sem,seval,L35,O35];refine kR _ ?_;clear KR kR)|(simp only [thenE,inB,↓reduceIte,reduceCtorEq,Nat.reduceEqDiff])))
      simp only [e,Option.isSome_some,Option.isSome_none,Option.getD_some,Option.getD_none,Bool.not_true,Bool.not_false]
      ((with_reducible refine Ac ?_);intro K hK;simp (disch := omega) only [condK,go_sem,seval];refine hK _ ?_ ?_;all_goals clear K hK;all_goals intro hq;all_goals (try simp only [qF,reduceCtorEq] at hq);all_goals (try (exfalso;first|exact hq|omega)))
      (repeat (first|(with_reducible (first|refine Aq ?_|(refine Ar ?_;intro KR kR)|refine Ab ?_|refine As ?_|refine Ae ?_|refine Atq ?_|refine Al ?_|refine Ag ?_|(refine Ad O35 (by kernel_rfl) (by kernel_rfl) ?_;intro KR kR;simp only [O35,ordl,↓reduceIte,reduceCtorEq,Nat.reduceEqDiff])))|((with_reducible first|refine Oz ?_|refine Rv ?_|refine Rl ?_|refine Rg ?_|refine Re ?_|refine Nz ?_);intro K hK;simp (disch := omega) only [go_sem,seval];(try ((with_reducible first|refine Gt ?_|refine gopO_f rfl ?_|refine Gv rfl ?_);simp (disch := omega) only [go_sem,seval]));((repeat (first|(intro (xb : Blk))|(intro (xk : Nat))|(intro hx)|(refine ⟨by (first|omega|(intro hg;simp [-List.getD_eq_getElem?_getD] at hg;omega)|assumption|decide),?_⟩)));refine hK _ ?_;clear K hK))|((with_reducible first|refine Onq ?_|refine Rn ?_);simp only [go_sem,seval,L35,O35];refine kR _ ?_;clear KR kR)|(simp only [thenE,inB,↓reduceIte,reduceCtorEq,Nat.reduceEqDiff])))
      refine gh_no ⟨d.sts.length - (i + 1),by omega,i + 1,by omega,by omega,?_⟩
      rw [q1,q2,← ps]
      ((try simp (disch := omega) only [List.cons.injEq,Prod.mk.injEq,AV.c.injEq,AV.agg.injEq,AV.opt.injEq,AV.tup.injEq,AV.row.injEq,AV.box.injEq,AV.mapo.injEq,AC.im.injEq,AC.sl.injEq,AC.adr.injEq,AC.ref.injEq,AC.ptr.injEq,AC.own.injEq,AC.fn.injEq,Value.int.injEq,Value.bool.injEq,Value.string.injEq,heq_eq_eq,go_sem,seval]);(try (repeat' refine And.intro ?_ ?_));all_goals (first|rfl|omega|skip))
  · have e : i = d.sts.length := by omega
    subst e
    have cl := can_len (key := sigK d cls) d.sts.length
    have plc := padL_len (l := (canV (sigK d cls) d.sts.length).1) (by omega)
    have pl0 : (padL []).length = 400 := rfl
    (repeat (first|(with_reducible (first|refine Aq ?_|(refine Ar ?_;intro KR kR)|refine Ab ?_|refine As ?_|refine Ae ?_|refine Atq ?_|refine Al ?_|refine Ag ?_|(refine Ad O35 (by kernel_rfl) (by kernel_rfl) ?_;intro KR kR;simp only [O35,ordl,↓reduceIte,reduceCtorEq,Nat.reduceEqDiff])))|((with_reducible first|refine Oz ?_|refine Rv ?_|refine Rl ?_|refine Rg ?_|refine Re ?_|refine Nz ?_);intro K hK;simp (disch := omega) only [go_sem,seval];(try ((with_reducible first|refine Gt ?_|refine gopO_f rfl ?_|refine Gv rfl ?_);simp (disch := omega) only [go_sem,seval]));((repeat (first|(intro (xb : Blk))|(intro (xk : Nat))|(intro hx)|(refine ⟨by (first|omega|(intro hg;simp [-List.getD_eq_getElem?_getD] at hg;omega)|assumption|decide),?_⟩)));refine hK _ ?_;clear K hK))|((with_reducible first|refine Onq ?_|refine Rn ?_);simp only [go_sem,seval,L35,O35];refine kR _ ?_;clear KR kR)|(simp only [thenE,inB,↓reduceIte,reduceCtorEq,Nat.reduceEqDiff])))
    (simp only [retQ,Try.results35];simp (disch := omega) only [resK,resT,resAV,Env.sel,Env.keys,List.map_nil,List.map_cons,List.all_nil,List.all_cons,AV.isS,Bool.not_false,Bool.and_self,Option.map_some,List.length_cons,List.length_nil,Nat.zero_add,Nat.reduceAdd,not_false_eq_true,true_and,and_true,ne_eq,go_sem,seval,ne_eq])

end Go.Proofs.Ytglgmmoomlnghaa
