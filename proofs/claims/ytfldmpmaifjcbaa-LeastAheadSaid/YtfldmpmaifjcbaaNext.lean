/-
  bset.Has, bset.Next; the document's.
-/
import Derived.Test.YtfldmpmaifjcbaaLsP
set_option linter.unusedSimpArgs false
namespace Go.Proofs.Ytfldmpmaifjcbaa
open Go Go.Hs
def L79 (r : Nat) : Option (List Nat) := kl r [(0,[1,2]),(1,[4])]
def O79 (r : Nat) : List Nat × OT := ordl r []
def L50 (r : Nat) : Option (List Nat) := kl r [(0,[1,2]),(1,[2,5]),(2,[2,5,9]),(3,[2,5]),(4,[2,5,15]),(5,[4]),(6,[4])]
def O50 (r : Nat) : List Nat × OT := ordl r []
def L81 (r : Nat) : Option (List Nat) := kl r [(0,[1,2]),(1,[4])]
def O81 (r : Nat) : List Nat × OT := ordl r []
def L52 (r : Nat) : Option (List Nat) := kl r [(0,[1,2]),(1,[1,2,5]),(2,[1,2,5,7]),(3,[1,2,5]),(4,[1,2,5,17]),(5,[4]),(6,[4])]
def O52 (r : Nat) : List Nat × OT := ordl r []

attribute [local go_sem] Option.isSome_some Option.isSome_none St.cs length_sRows getSt sRows_frz sRows_per sRows_ex sRows_take getW wrap8_in Int.tdiv_eq_ediv_of_nonneg Int.tmod_eq_emod_of_nonneg shl1 shr1

theorem Has_ok (s : St) (b : Int) (hs : s.wf) (hb : 0 ≤ b ∧ b ≤ 255) : Contract Try.prog 79 [.agg s.cs,.c (.im (.int .u8 b))] (.c (.im (.bool (hasB s b.toNat)))) := by
  (refine contract_of_awp (L := L79) Try.func79 rfl (by kernel_rfl) (by first|rfl|decide) (by first|rfl|kernel_rfl) ?_;simp only [Try.ntmps79,initEnv,Env.keys,List.map_nil,List.map_cons,List.append_nil,List.cons_append,List.nil_append])
  (repeat (first|(with_reducible (first|refine Aq ?_|(refine Ar ?_;intro KR kR)|refine Ab ?_|refine As ?_|refine Ae ?_|refine At ?_|refine Al ?_|refine Ag ?_|(refine Ad O79 (by kernel_rfl) (by kernel_rfl) ?_;intro KR kR;simp only [O79,ordl,↓reduceIte,reduceCtorEq,Nat.reduceEqDiff])))|((with_reducible first|refine Oz ?_|refine Rv ?_|refine Rl ?_|refine Rg ?_|refine Re ?_|refine Nz ?_);intro K hK;simp (disch := omega) only [go_sem,↓reduceIte,reduceCtorEq,Int.reduceToNat,Nat.reduceEqDiff,Nat.reduceLT,Nat.reduceLeDiff,Nat.reduceMul,Nat.reduceAdd];(try ((with_reducible first|refine Gt ?_|refine Gv rfl ?_);simp (disch := omega) only [go_sem,↓reduceIte,reduceCtorEq,Int.reduceToNat,Nat.reduceEqDiff,Nat.reduceLT,Nat.reduceLeDiff,Nat.reduceMul,Nat.reduceAdd]));((repeat (first|(intro (xb : Blk))|(intro (xk : Nat))|(intro hx)|(refine ⟨by (first|omega|(intro hg;simp only [qF,reduceCtorEq] at hg;omega)|assumption|decide),?_⟩)));refine hK _ ?_;clear K hK))|((with_reducible first|refine Onq ?_|refine Rn ?_);simp only [go_sem,↓reduceIte,reduceCtorEq,Int.reduceToNat,Nat.reduceEqDiff,Nat.reduceLT,Nat.reduceLeDiff,Nat.reduceMul,Nat.reduceAdd,L50,O50,L52,O52,L79,O79,L81,O81];refine kR _ ?_;clear KR kR)|(simp only [thenE,inB,↓reduceIte,reduceCtorEq,Nat.reduceEqDiff])))
  (simp only [retQ,Try.results79];simp (disch := omega) only [resK,resT,resAV,Env.sel,Env.keys,List.map_nil,List.map_cons,List.all_nil,List.all_cons,AV.isS,Bool.not_false,Bool.and_self,Option.map_some,List.length_cons,List.length_nil,Nat.zero_add,Nat.reduceAdd,not_false_eq_true,true_and,and_true,ne_eq,go_sem,↓reduceIte,reduceCtorEq,Int.reduceToNat,Nat.reduceEqDiff,Nat.reduceLT,Nat.reduceLeDiff,Nat.reduceMul,Nat.reduceAdd,ne_eq])
  have hh := has_and (k := (b % 64).toNat) (St.w_wf hs (b / 64).toNat).1 (St.w_wf hs (b / 64).toNat).2 (by omega)
  have e1 : (b % 64).toNat = b.toNat % 64 := by omega
  have e2 : (b / 64).toNat = b.toNat / 64 := by omega
  refine congrArg (fun z : Bool => AV.c (AC.im (Value.bool z))) ?_
  rw [hasB,← e1,← e2]
  exact hh

theorem refHas_ok (s : St) (b : Int) (hs : s.wf) (hb : 0 ≤ b ∧ b ≤ 255) : Contract Try.prog 81 [.agg s.cs,.c (.im (.int .i64 b))] (.c (.im (.bool (hasB s b.toNat)))) := by
  (refine contract_of_awp (L := L81) Try.func81 rfl (by kernel_rfl) (by first|rfl|decide) (by first|rfl|kernel_rfl) ?_;simp only [Try.ntmps81,initEnv,Env.keys,List.map_nil,List.map_cons,List.append_nil,List.cons_append,List.nil_append])
  have d1 : decide ((0 : Int) ≤ b) = true := decide_eq_true hb.1
  have d2 : decide (b < 256) = true := decide_eq_true (by omega)
  (repeat (first|(with_reducible (first|refine Aq ?_|(refine Ar ?_;intro KR kR)|refine Ab ?_|refine As ?_|refine Ae ?_|refine At ?_|refine Al ?_|refine Ag ?_|(refine Ad O81 (by kernel_rfl) (by kernel_rfl) ?_;intro KR kR;simp only [O81,ordl,↓reduceIte,reduceCtorEq,Nat.reduceEqDiff])))|((with_reducible first|refine Oz ?_|refine Rv ?_|refine Rl ?_|refine Rg ?_|refine Re ?_|refine Nz ?_);intro K hK;simp (disch := omega) only [go_sem,↓reduceIte,reduceCtorEq,Int.reduceToNat,Nat.reduceEqDiff,Nat.reduceLT,Nat.reduceLeDiff,Nat.reduceMul,Nat.reduceAdd];(try ((with_reducible first|refine Gt ?_|refine Gv rfl ?_);simp (disch := omega) only [go_sem,↓reduceIte,reduceCtorEq,Int.reduceToNat,Nat.reduceEqDiff,Nat.reduceLT,Nat.reduceLeDiff,Nat.reduceMul,Nat.reduceAdd]));((repeat (first|(intro (xb : Blk))|(intro (xk : Nat))|(intro hx)|(refine ⟨by (first|omega|(intro hg;simp only [qF,reduceCtorEq] at hg;omega)|assumption|decide),?_⟩)));refine hK _ ?_;clear K hK))|((with_reducible first|refine Onq ?_|refine Rn ?_);simp only [go_sem,↓reduceIte,reduceCtorEq,Int.reduceToNat,Nat.reduceEqDiff,Nat.reduceLT,Nat.reduceLeDiff,Nat.reduceMul,Nat.reduceAdd,L50,O50,L52,O52,L79,O79,L81,O81];refine kR _ ?_;clear KR kR)|(simp only [thenE,inB,↓reduceIte,reduceCtorEq,Nat.reduceEqDiff])))
  (simp only [retQ,Try.results81];simp (disch := omega) only [resK,resT,resAV,Env.sel,Env.keys,List.map_nil,List.map_cons,List.all_nil,List.all_cons,AV.isS,Bool.not_false,Bool.and_self,Option.map_some,List.length_cons,List.length_nil,Nat.zero_add,Nat.reduceAdd,not_false_eq_true,true_and,and_true,ne_eq,go_sem,↓reduceIte,reduceCtorEq,Int.reduceToNat,Nat.reduceEqDiff,Nat.reduceLT,Nat.reduceLeDiff,Nat.reduceMul,Nat.reduceAdd,ne_eq])
  have hh := has_shr (k := (b % 64).toNat) (St.w_wf hs (b / 64).toNat).1 (St.w_wf hs (b / 64).toNat).2
  have e1 : (b % 64).toNat = b.toNat % 64 := by omega
  have e2 : (b / 64).toNat = b.toNat / 64 := by omega
  refine congrArg (fun z : Bool => AV.c (AC.im (Value.bool z))) ?_
  rw [d1,d2,hasB,← e1,← e2]
  exact hh

end Go.Proofs.Ytfldmpmaifjcbaa
