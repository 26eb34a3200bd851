/-
  moore.put, moore.sign.
-/
import Derived.Test.YtglgmmoomlnghaaMoQ
import Derived.Test.YtglgmmoomlnghaaSb
set_option linter.unusedSimpArgs false
set_option linter.unusedVariables false
namespace Go.Proofs.Ytglgmmoomlnghaa
open Go Go.Hs
def L82 (r : Nat) : Option (List Nat) := kl r [(0,[0,1]),(1,[0,1,7]),(2,[0,1]),(3,[0,1]),(4,[])]
def O82 (r : Nat) : List Nat × OT := ordl r []

attribute [local go_sem] AV.isS Ed.cs Sta.cs Df.cs length_edRows length_stRows gEd0' gEd0 gEd1 gEdR gSt0' gSt0 gSt1 gSt2 gStR xltT xltF xleT xleF xeqT xeqF xbeT xbeF xbnT xbnF wrap8_in Int.tdiv_eq_ediv_of_nonneg Int.tmod_eq_emod_of_nonneg

set_option maxRecDepth 100000 in
set_option maxHeartbeats 8000000 in
theorem put_ok (k : Nat) (c : AC) (b : Blk) (l : List Int) (n : Int) (hc : c = .im (.pointer none) ∨ c = .ptr 5000 [] k 2 0 0) (hl : l.length ≤ 100000000) (hn : -2 ≤ n ∧ n ≤ 1000000) :
    ContractH Try.prog 82 [.c (.ptr 5000 [] k 2 0 0),.c (.im (.int .i64 n))] [(5000,.box k 137 [c,.own b 5 1 (kRows .u8 l)])] (fun r H => r = .tup [] ∧ ∃ b2 : Nat × Nat,H = [(5000,.box k 137 [.ptr 5000 [] k 2 0 0,.own (some b2) 5 1 (kRows .u8 (l ++ putF n))])]) := by
  obtain ⟨m,hm⟩ : ∃ m : Nat,n + 2 = m := ⟨(n + 2).toNat,by omega⟩
  have e : putF n = vint m := by unfold putF;rw [hm];rfl
  rw [e]
  (refine contract_of_awp (L := L82) Try.func82 rfl (by kernel_rfl) (by first|rfl|decide) (by first|rfl|kernel_rfl) ?_;simp only [Try.ntmps82,initEnv,Env.keys,List.map_nil,List.map_cons,List.append_nil,List.cons_append,List.nil_append])
  (repeat (first|(with_reducible (first|refine Aq ?_|(refine Ar ?_;intro KR kR)|refine Ab ?_|refine As ?_|refine Ae ?_|refine Atq ?_|refine Al ?_|refine Ag ?_|(refine Ad O82 (by kernel_rfl) (by kernel_rfl) ?_;intro KR kR;simp only [O82,ordl,↓reduceIte,reduceCtorEq,Nat.reduceEqDiff])))|((with_reducible first|refine Oz ?_|refine Rv ?_|refine Rl ?_|refine Rg ?_|refine Re ?_|refine Nz ?_);intro K hK;simp (disch := omega) only [go_sem,seval];(try ((with_reducible first|refine Gt ?_|refine gopO_f rfl ?_|refine Gv rfl ?_);simp (disch := omega) only [go_sem,seval]));((repeat (first|(intro (xb : Blk))|(intro (xk : Nat))|(intro hx)|(refine ⟨by (first|omega|(intro hg;simp [-List.getD_eq_getElem?_getD] at hg;omega)|assumption|decide),?_⟩)));refine hK _ ?_;clear K hK))|((with_reducible first|refine Onq ?_|refine Rn ?_);simp only [go_sem,seval,L82,O82];refine kR _ ?_;clear KR kR)|(simp only [thenE,inB,↓reduceIte,reduceCtorEq,Nat.reduceEqDiff])))
  rw [hm]
  refine awp_loop [0,1,5000] (fun mm S => ∃ (q : Nat) (c2 : AC) (b2 : Blk) (l2 : List Int),q ≤ m ∧ mm = q ∧ (c2 = .im (.pointer none) ∨ c2 = .ptr 5000 [] k 2 0 0) ∧ l2 ++ vint q = l ++ vint m ∧ l2.length + q ≤ l.length + m ∧ S = [(0,.c (.ptr 5000 [] k 2 0 0)),(1,.c (.im (.int .i64 q))),(5000,.box k 137 [c2,.own b2 5 1 (kRows .u8 l2)])]) m ⟨m,c,b,l,Nat.le_refl _,rfl,hc,rfl,Nat.le_refl _,rfl⟩ ?_
  rintro mm S' ⟨q,c2,b2,l2,hq1,hmm,hc2,hl2,hlen,rfl⟩
  (repeat (first|(with_reducible (first|refine Aq ?_|(refine Ar ?_;intro KR kR)|refine Ab ?_|refine As ?_|refine Ae ?_|refine Atq ?_|refine Al ?_|refine Ag ?_|(refine Ad O82 (by kernel_rfl) (by kernel_rfl) ?_;intro KR kR;simp only [O82,ordl,↓reduceIte,reduceCtorEq,Nat.reduceEqDiff])))|((with_reducible first|refine Oz ?_|refine Rv ?_|refine Rl ?_|refine Rg ?_|refine Re ?_|refine Nz ?_);intro K hK;simp (disch := omega) only [go_sem,seval];(try ((with_reducible first|refine Gt ?_|refine gopO_f rfl ?_|refine Gv rfl ?_);simp (disch := omega) only [go_sem,seval]));((repeat (first|(intro (xb : Blk))|(intro (xk : Nat))|(intro hx)|(refine ⟨by (first|omega|(intro hg;simp [-List.getD_eq_getElem?_getD] at hg;omega)|assumption|decide),?_⟩)));refine hK _ ?_;clear K hK))|((with_reducible first|refine Onq ?_|refine Rn ?_);simp only [go_sem,seval,L82,O82];refine kR _ ?_;clear KR kR)|(simp only [thenE,inB,↓reduceIte,reduceCtorEq,Nat.reduceEqDiff])))
  ((with_reducible refine Ac ?_);intro K hK;simp (disch := omega) only [condK,go_sem,seval];refine hK _ ?_ ?_;all_goals clear K hK;all_goals intro hq;all_goals (try simp only [qF,reduceCtorEq] at hq);all_goals (try (exfalso;first|exact hq|omega)))
  · have hq2 : ¬ q < 128 := by omega
    rw [vint_hi hq2] at hl2
    clear hq
    have e1 : Int.tmod (q : Int) 128 = ((q % 128 : Nat) : Int) := by rw [Int.tmod_eq_emod_of_nonneg (by omega)];omega
    have e2 : Int.tdiv (q : Int) 128 = ((q / 128 : Nat) : Int) := by rw [Int.tdiv_eq_ediv_of_nonneg (by omega)];omega
    have e3 : (q : Int) % 128 + 128 = ((q % 128 + 128 : Nat) : Int) := by omega
    (repeat (first|(with_reducible (first|refine Aq ?_|(refine Ar ?_;intro KR kR)|refine Ab ?_|refine As ?_|refine Ae ?_|refine Atq ?_|refine Al ?_|refine Ag ?_|(refine Ad O82 (by kernel_rfl) (by kernel_rfl) ?_;intro KR kR;simp only [O82,ordl,↓reduceIte,reduceCtorEq,Nat.reduceEqDiff])))|((with_reducible first|refine Oz ?_|refine Rv ?_|refine Rl ?_|refine Rg ?_|refine Re ?_|refine Nz ?_);intro K hK;simp (disch := omega) only [go_sem,seval];(try ((with_reducible first|refine Gt ?_|refine gopO_f rfl ?_|refine Gv rfl ?_);simp (disch := omega) only [go_sem,seval]));((repeat (first|(intro (xb : Blk))|(intro (xk : Nat))|(intro hx)|(refine ⟨by (first|omega|(intro hg;simp [-List.getD_eq_getElem?_getD] at hg;omega)|assumption|decide),?_⟩)));refine hK _ ?_;clear K hK))|((with_reducible first|refine Onq ?_|refine Rn ?_);simp only [go_sem,seval,L82,O82];refine kR _ ?_;clear KR kR)|(simp only [thenE,inB,↓reduceIte,reduceCtorEq,Nat.reduceEqDiff])))
    rw [e3]
    ((with_reducible (first|refine Oz ?_|refine Rg ?_|refine Re ?_|refine Nz ?_));intro K hK;simp (disch := omega) only [go_sem,seval];(try ((with_reducible refine Gt ?_);simp (disch := omega) only [go_sem,seval]));refine ⟨[5000],by simp,by simp [Env.sel,Env.get,Env.keys,AV.isS],?_⟩;simp (disch := omega) only [go_sem,seval];refine ⟨_,_,ContractH.n (WriteByte_ok k c2 b2 l2 _ hc2 (by omega)),?_⟩;intro r H' hr hk;(try obtain rfl := keys_nil hk);(obtain ⟨rfl,b3,rfl⟩ := hr);(try simp (disch := omega) only [AV.flat,AC.flat,AC.flat.flatL,AC.flat.flatLL,go_sem,seval]);((repeat (first|(intro (xb : Blk))|(intro (xk : Nat))|(intro hx)|(refine ⟨by (first|omega|(intro hg;simp [-List.getD_eq_getElem?_getD] at hg;omega)|assumption|decide),?_⟩)));refine hK _ ?_;clear K hK))
    (repeat (first|(with_reducible (first|refine Aq ?_|(refine Ar ?_;intro KR kR)|refine Ab ?_|refine As ?_|refine Ae ?_|refine Atq ?_|refine Al ?_|refine Ag ?_|(refine Ad O82 (by kernel_rfl) (by kernel_rfl) ?_;intro KR kR;simp only [O82,ordl,↓reduceIte,reduceCtorEq,Nat.reduceEqDiff])))|((with_reducible first|refine Oz ?_|refine Rv ?_|refine Rl ?_|refine Rg ?_|refine Re ?_|refine Nz ?_);intro K hK;simp (disch := omega) only [go_sem,seval];(try ((with_reducible first|refine Gt ?_|refine gopO_f rfl ?_|refine Gv rfl ?_);simp (disch := omega) only [go_sem,seval]));((repeat (first|(intro (xb : Blk))|(intro (xk : Nat))|(intro hx)|(refine ⟨by (first|omega|(intro hg;simp [-List.getD_eq_getElem?_getD] at hg;omega)|assumption|decide),?_⟩)));refine hK _ ?_;clear K hK))|((with_reducible first|refine Onq ?_|refine Rn ?_);simp only [go_sem,seval,L82,O82];refine kR _ ?_;clear KR kR)|(simp only [thenE,inB,↓reduceIte,reduceCtorEq,Nat.reduceEqDiff])))
    refine gh_no ⟨q / 128,by omega,q / 128,.ptr 5000 [] k 2 0 0,some b3,l2 ++ [((q % 128 + 128 : Nat) : Int)],by omega,rfl,.inr rfl,by rw [List.append_assoc];exact hl2,by rw [List.length_append];simp only [List.length_singleton];omega,?_⟩
    ((try simp (disch := omega) only [List.cons.injEq,Prod.mk.injEq,AV.c.injEq,AV.agg.injEq,AV.opt.injEq,AV.tup.injEq,AV.row.injEq,AV.box.injEq,AV.mapo.injEq,AC.im.injEq,AC.sl.injEq,AC.adr.injEq,AC.ref.injEq,AC.ptr.injEq,AC.own.injEq,AC.fn.injEq,Value.int.injEq,Value.bool.injEq,Value.string.injEq,heq_eq_eq,go_sem,seval]);(try (repeat' refine And.intro ?_ ?_));all_goals (first|rfl|omega|skip))
  · have hq2 : q < 128 := by omega
    rw [vint_lo hq2] at hl2
    clear hq
    (repeat (first|(with_reducible (first|refine Aq ?_|(refine Ar ?_;intro KR kR)|refine Ab ?_|refine As ?_|refine Ae ?_|refine Atq ?_|refine Al ?_|refine Ag ?_|(refine Ad O82 (by kernel_rfl) (by kernel_rfl) ?_;intro KR kR;simp only [O82,ordl,↓reduceIte,reduceCtorEq,Nat.reduceEqDiff])))|((with_reducible first|refine Oz ?_|refine Rv ?_|refine Rl ?_|refine Rg ?_|refine Re ?_|refine Nz ?_);intro K hK;simp (disch := omega) only [go_sem,seval];(try ((with_reducible first|refine Gt ?_|refine gopO_f rfl ?_|refine Gv rfl ?_);simp (disch := omega) only [go_sem,seval]));((repeat (first|(intro (xb : Blk))|(intro (xk : Nat))|(intro hx)|(refine ⟨by (first|omega|(intro hg;simp [-List.getD_eq_getElem?_getD] at hg;omega)|assumption|decide),?_⟩)));refine hK _ ?_;clear K hK))|((with_reducible first|refine Onq ?_|refine Rn ?_);simp only [go_sem,seval,L82,O82];refine kR _ ?_;clear KR kR)|(simp only [thenE,inB,↓reduceIte,reduceCtorEq,Nat.reduceEqDiff])))
    ((with_reducible (first|refine Oz ?_|refine Rg ?_|refine Re ?_|refine Nz ?_));intro K hK;simp (disch := omega) only [go_sem,seval];(try ((with_reducible refine Gt ?_);simp (disch := omega) only [go_sem,seval]));refine ⟨[5000],by simp,by simp [Env.sel,Env.get,Env.keys,AV.isS],?_⟩;simp (disch := omega) only [go_sem,seval];refine ⟨_,_,ContractH.n (WriteByte_ok k c2 b2 l2 _ hc2 (by omega)),?_⟩;intro r H' hr hk;(try obtain rfl := keys_nil hk);(obtain ⟨rfl,b3,rfl⟩ := hr);(try simp (disch := omega) only [AV.flat,AC.flat,AC.flat.flatL,AC.flat.flatLL,go_sem,seval]);((repeat (first|(intro (xb : Blk))|(intro (xk : Nat))|(intro hx)|(refine ⟨by (first|omega|(intro hg;simp [-List.getD_eq_getElem?_getD] at hg;omega)|assumption|decide),?_⟩)));refine hK _ ?_;clear K hK))
    (repeat (first|(with_reducible (first|refine Aq ?_|(refine Ar ?_;intro KR kR)|refine Ab ?_|refine As ?_|refine Ae ?_|refine Atq ?_|refine Al ?_|refine Ag ?_|(refine Ad O82 (by kernel_rfl) (by kernel_rfl) ?_;intro KR kR;simp only [O82,ordl,↓reduceIte,reduceCtorEq,Nat.reduceEqDiff])))|((with_reducible first|refine Oz ?_|refine Rv ?_|refine Rl ?_|refine Rg ?_|refine Re ?_|refine Nz ?_);intro K hK;simp (disch := omega) only [go_sem,seval];(try ((with_reducible first|refine Gt ?_|refine gopO_f rfl ?_|refine Gv rfl ?_);simp (disch := omega) only [go_sem,seval]));((repeat (first|(intro (xb : Blk))|(intro (xk : Nat))|(intro hx)|(refine ⟨by (first|omega|(intro hg;simp [-List.getD_eq_getElem?_getD] at hg;omega)|assumption|decide),?_⟩)));refine hK _ ?_;clear K hK))|((with_reducible first|refine Onq ?_|refine Rn ?_);simp only [go_sem,seval,L82,O82];refine kR _ ?_;clear KR kR)|(simp only [thenE,inB,↓reduceIte,reduceCtorEq,Nat.reduceEqDiff])))
    (simp only [retQ,Try.results82];simp (disch := omega) only [resK,resT,resAV,Env.sel,Env.keys,List.map_nil,List.map_cons,List.all_nil,List.all_cons,AV.isS,Bool.not_false,Bool.and_self,Option.map_some,List.length_cons,List.length_nil,Nat.zero_add,Nat.reduceAdd,not_false_eq_true,true_and,and_true,ne_eq,go_sem,seval,ne_eq])
    rw [hl2]
    exact ⟨b3,rfl⟩

abbrev PreOk (pre : List Int) : Prop := ∀ x ∈ pre,-2 ≤ x ∧ x ≤ 1000000
theorem vint_len3 {m : Nat} (h : m < 2097152) : (vint m).length ≤ 3 := by
  by_cases h1 : m < 128
  · rw [vint_lo h1];simp
  rw [vint_hi h1]
  by_cases h2 : m / 128 < 128
  · rw [vint_lo h2];simp
  rw [vint_hi h2,vint_lo (show m / 128 / 128 < 128 by omega)];simp
theorem putL_len : ∀ {pre : List Int},PreOk pre → (putL pre).length ≤ 3 * pre.length
  | [],_ => by simp [putL]
  | n :: l,h => by
    have h1 := putL_len (pre := l) (fun x hx => h x (by simp [hx]))
    have h2 := h n (by simp)
    have h3 := vint_len3 (m := (n + 2).toNat) (by omega)
    rw [putL_cons,List.length_append]
    show (vint _).length + _ ≤ _
    simp only [List.length_cons];omega
theorem putL_snoc {pre : List Int} {n : Int} : putL pre ++ putF n = putL (pre ++ [n]) := by rw [putL_app];simp [putL]
theorem PreOk.snoc {pre : List Int} {n : Int} (h : PreOk pre) (hn : -2 ≤ n ∧ n ≤ 1000000) : PreOk (pre ++ [n]) := fun x hx => by
  rcases List.mem_append.1 hx with h1|h1
  · exact h x h1
  · simp at h1;subst h1;exact hn
theorem put_pre (k : Nat) (c : AC) (b : Blk) (pre : List Int) (n : Int) (hc : c = .im (.pointer none) ∨ c = .ptr 5000 [] k 2 0 0) (hp : PreOk pre) (hl : pre.length ≤ 10000000) (hn : -2 ≤ n ∧ n ≤ 1000000) :
    ContractH Try.prog 82 [.c (.ptr 5000 [] k 2 0 0),.c (.im (.int .i64 n))] [(5000,.box k 137 [c,.own b 5 1 (kRows .u8 (putL pre))])] (fun r H => r = .tup [] ∧ ∃ b2 : Nat × Nat,H = [(5000,.box k 137 [.ptr 5000 [] k 2 0 0,.own (some b2) 5 1 (kRows .u8 (putL (pre ++ [n])))])]) := by
  have h := putL_len hp
  have := put_ok k c b (putL pre) n hc (by omega) hn
  rw [putL_snoc] at this
  exact this

end Go.Proofs.Ytglgmmoomlnghaa
