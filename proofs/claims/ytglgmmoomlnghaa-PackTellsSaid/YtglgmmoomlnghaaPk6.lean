/-
  pack.Take and the document's Take; the document's Put.
-/
import Derived.Test.YtglgmmoomlnghaaPk5
set_option linter.unusedSimpArgs false
set_option linter.unusedVariables false
namespace Go.Proofs.Ytglgmmoomlnghaa
open Go Go.Hs
def L48 (r : Nat) : Option (List Nat) := kl r [(0,[0]),(1,[0,5]),(2,[5,8,9,10]),(3,[5,8,9,10,11]),(4,[5,6,7,8,9,10]),(5,[5,6,7,8,9,10,15]),(6,[5,6,7,8,9,10,15]),(7,[2,3,4]),(8,[5,6,7,8,9,10,28]),(9,[2,3,4]),(10,[5,8,9,10]),(11,[5,8,9,10]),(12,[2,3,4])]
def O48 (r : Nat) : List Nat × OT := ordl r []
def L77 (r : Nat) : Option (List Nat) := kl r [(0,[0]),(1,[0,5,6]),(2,[0,5,6,7]),(3,[0,5,6,7,12]),(4,[0,5,6,7]),(5,[0,5,6,7,8]),(6,[0,5,6,7,8,21]),(7,[5,6,7,8,27]),(8,[2,3,4]),(9,[2,3,4]),(10,[0,5,6,7,8,36]),(11,[2,3,4]),(12,[0,5,6,7]),(13,[0,5,6,7]),(14,[2,3,4])]
def O77 (r : Nat) : List Nat × OT := ordl r []

theorem wrapw {n : Int} (h1 : 0 ≤ n) (h2 : n ≤ 255) : IntKind.i64.wrap n = n := by
  rw [IntKind.wrap_i64];omega
theorem shl0 {a : Int} : a * 2 ^ min 0 64 = a := by simp
theorem shl7 {a : Int} : a * 2 ^ min 7 64 = a * 128 := by
  have : min 7 64 = 7 := by decide
  rw [this];rfl
theorem shl14 {a : Int} : a * 2 ^ min 14 64 = a * 16384 := by
  have : min 14 64 = 14 := by decide
  rw [this];rfl
def take3 (x : Int × Int × Int) : AV := .tup [.c (.im (.int .i64 x.1)),.c (.im (.int .i64 x.2.1)),.c (.im (.int .i64 x.2.2))]
attribute [local go_sem] AV.isS xltT xltF xleT xleF xeqT xeqF xbeT xbeF xbnT xbnF wrap8_in wrapw shl0 shl7 shl14

set_option maxRecDepth 100000 in
set_option maxHeartbeats 8000000 in
theorem takeB_ok (b : List Int) (hb : Bytes b) (hl : b.length ≤ 100000000000) : Contract Try.prog 48 [.c (.sl 1 (kRows .u8 b))] (take3 (takeG 0 0 b)) := by
  (refine contract_of_awp (L := L48) Try.func48 rfl (by kernel_rfl) (by first|rfl|decide) (by first|rfl|kernel_rfl) ?_;simp only [Try.ntmps48,initEnv,Env.keys,List.map_nil,List.map_cons,List.append_nil,List.cons_append,List.nil_append])
  (repeat (first|(with_reducible (first|refine Aq ?_|(refine Ar ?_;intro KR kR)|refine Ab ?_|refine As ?_|refine Ae ?_|refine At ?_|refine Al ?_|refine Ag ?_|(refine Ad O48 (by kernel_rfl) (by kernel_rfl) ?_;intro KR kR;simp only [O48,ordl,↓reduceIte,reduceCtorEq,Nat.reduceEqDiff])))|((with_reducible first|refine Oz ?_|refine Rv ?_|refine Rl ?_|refine Rg ?_|refine Re ?_|refine Nz ?_);intro K hK;simp (disch := omega) only [go_sem,seval];(try ((with_reducible first|refine Gt ?_|refine gopO_f rfl ?_|refine Gv rfl ?_);simp (disch := omega) only [go_sem,seval]));((repeat (first|(intro (xb : Blk))|(intro (xk : Nat))|(intro hx)|(refine ⟨by (first|omega|(intro hg;simp [-List.getD_eq_getElem?_getD] at hg;omega)|assumption|decide),?_⟩)));refine hK _ ?_;clear K hK))|((with_reducible first|refine Onq ?_|refine Rn ?_);simp only [go_sem,seval,L48,O48,L77,O77];refine kR _ ?_;clear KR kR)|(simp only [thenE,inB,↓reduceIte,reduceCtorEq,Nat.reduceEqDiff])))
  refine awp_loop [5,8,9,10] (fun k S => ∃ (i : Nat) (n : Int),i ≤ b.length ∧ i ≤ 2 ∧ takeG 0 0 b = takeG i n (b.drop i) ∧ 0 ≤ n ∧ n < wt i ∧ k + i = b.length ∧
    S = [(5,.c (.im (.int .i64 n))),(8,.c (.sl 1 (kRows .u8 b))),(9,.c (.im (.int .i64 b.length))),(10,.c (.im (.int .i64 i)))]) b.length ⟨0,0,by omega,by omega,rfl,by omega,by decide,by omega,rfl⟩ ?_
  rintro k S' ⟨i,n,h1,h2,h3,h4,h5,hk,rfl⟩
  have hx := hb.at i
  have w0 : wt 0 = 1 := rfl
  have w1 : wt 1 = 128 := rfl
  have w2 : wt 2 = 16384 := rfl
  rcases (show i = 0 ∨ i = 1 ∨ i = 2 by omega) with rfl|rfl|rfl
  all_goals (repeat' (first|(with_reducible (first|refine Aq ?_|(refine Ar ?_;intro KR kR)|refine Ab ?_|refine As ?_|refine Ae ?_|refine At ?_|refine Al ?_|refine Ag ?_|(refine Ad O48 (by kernel_rfl) (by kernel_rfl) ?_;intro KR kR;simp only [O48,ordl,↓reduceIte,reduceCtorEq,Nat.reduceEqDiff])))|((with_reducible first|refine Oz ?_|refine Rv ?_|refine Rl ?_|refine Rg ?_|refine Re ?_|refine Nz ?_);intro K hK;simp (disch := omega) only [go_sem,seval];(try ((with_reducible first|refine Gt ?_|refine gopO_f rfl ?_|refine Gv rfl ?_);simp (disch := omega) only [go_sem,seval]));((repeat (first|(intro (xb : Blk))|(intro (xk : Nat))|(intro hx)|(refine ⟨by (first|omega|(intro hg;simp [-List.getD_eq_getElem?_getD] at hg;omega)|assumption|decide),?_⟩)));refine hK _ ?_;clear K hK))|((with_reducible first|refine Onq ?_|refine Rn ?_);simp only [go_sem,seval,L48,O48,L77,O77];refine kR _ ?_;clear KR kR)|(simp only [thenE,inB,↓reduceIte,reduceCtorEq,Nat.reduceEqDiff])|((with_reducible refine Ac ?_);intro K hK;simp (disch := omega) only [condK,go_sem,seval];refine hK _ ?_ ?_;all_goals clear K hK;all_goals intro hq;all_goals (try simp only [qF,reduceCtorEq] at hq);all_goals (try (exfalso;first|exact hq|omega)))))
  all_goals try ((simp only [retQ,Try.results48];simp (disch := omega) only [resK,resT,resAV,Env.sel,Env.keys,List.map_nil,List.map_cons,List.all_nil,List.all_cons,AV.isS,Bool.not_false,Bool.and_self,Option.map_some,List.length_cons,List.length_nil,Nat.zero_add,Nat.reduceAdd,not_false_eq_true,true_and,and_true,ne_eq,go_sem,seval,ne_eq])
                 rw [h3]
                 first
                   | (rw [List.drop_of_length_le (by omega)];rfl)
                   | (rw [takeG_at (by omega),if_pos (by omega)];rfl)
                   | (rw [takeG_at (by omega),if_neg (by omega),if_pos (by omega)];simp only [take3,w0,w1,w2,Int.mul_one,Int.one_mul] <;> rfl))
  · refine gh_no ⟨b.length - 1,by omega,1,n + (b.getD 0 0 - 128),by omega,by omega,?_,?_,?_,?_,?_⟩
    · rw [h3,takeG_at (by omega),if_neg (by omega),if_neg (by omega),w0,Int.mul_one]
    · omega
    · omega
    · omega
    · ((try simp (disch := omega) only [List.cons.injEq,Prod.mk.injEq,AV.c.injEq,AV.agg.injEq,AV.opt.injEq,AV.tup.injEq,AV.row.injEq,AV.box.injEq,AV.mapo.injEq,AC.im.injEq,AC.sl.injEq,AC.adr.injEq,AC.ref.injEq,AC.ptr.injEq,AC.own.injEq,AC.fn.injEq,Value.int.injEq,Value.bool.injEq,Value.string.injEq,heq_eq_eq,go_sem,seval]);(try (repeat' refine And.intro ?_ ?_));all_goals (first|rfl|omega|skip))
  · refine gh_no ⟨b.length - 2,by omega,2,n + (b.getD 1 0 - 128) * 128,by omega,by omega,?_,?_,?_,?_,?_⟩
    · rw [h3,takeG_at (by omega),if_neg (by omega),if_neg (by omega),w1]
    · omega
    · omega
    · omega
    · ((try simp (disch := omega) only [List.cons.injEq,Prod.mk.injEq,AV.c.injEq,AV.agg.injEq,AV.opt.injEq,AV.tup.injEq,AV.row.injEq,AV.box.injEq,AV.mapo.injEq,AC.im.injEq,AC.sl.injEq,AC.adr.injEq,AC.ref.injEq,AC.ptr.injEq,AC.own.injEq,AC.fn.injEq,Value.int.injEq,Value.bool.injEq,Value.string.injEq,heq_eq_eq,go_sem,seval]);(try (repeat' refine And.intro ?_ ?_));all_goals (first|rfl|omega|skip))
set_option maxRecDepth 100000 in
set_option maxHeartbeats 8000000 in
theorem refTake_ok (b : List Int) (hb : Bytes b) (hl : b.length ≤ 100000000000) : Contract Try.prog 77 [.c (.sl 1 (kRows .u8 b))] (take3 (takeG 0 0 b)) := by
  (refine contract_of_awp (L := L77) Try.func77 rfl (by kernel_rfl) (by first|rfl|decide) (by first|rfl|kernel_rfl) ?_;simp only [Try.ntmps77,initEnv,Env.keys,List.map_nil,List.map_cons,List.append_nil,List.cons_append,List.nil_append])
  (repeat (first|(with_reducible (first|refine Aq ?_|(refine Ar ?_;intro KR kR)|refine Ab ?_|refine As ?_|refine Ae ?_|refine At ?_|refine Al ?_|refine Ag ?_|(refine Ad O77 (by kernel_rfl) (by kernel_rfl) ?_;intro KR kR;simp only [O77,ordl,↓reduceIte,reduceCtorEq,Nat.reduceEqDiff])))|((with_reducible first|refine Oz ?_|refine Rv ?_|refine Rl ?_|refine Rg ?_|refine Re ?_|refine Nz ?_);intro K hK;simp (disch := omega) only [go_sem,seval];(try ((with_reducible first|refine Gt ?_|refine gopO_f rfl ?_|refine Gv rfl ?_);simp (disch := omega) only [go_sem,seval]));((repeat (first|(intro (xb : Blk))|(intro (xk : Nat))|(intro hx)|(refine ⟨by (first|omega|(intro hg;simp [-List.getD_eq_getElem?_getD] at hg;omega)|assumption|decide),?_⟩)));refine hK _ ?_;clear K hK))|((with_reducible first|refine Onq ?_|refine Rn ?_);simp only [go_sem,seval,L48,O48,L77,O77];refine kR _ ?_;clear KR kR)|(simp only [thenE,inB,↓reduceIte,reduceCtorEq,Nat.reduceEqDiff])))
  refine awp_loop [0,5,6,7] (fun k S => ∃ (i : Nat) (n w : Int),i ≤ b.length ∧ i ≤ 2 ∧ takeG 0 0 b = takeG i n (b.drop i) ∧ 0 ≤ n ∧ n < wt i ∧ w = wt i ∧ k + i = b.length ∧
    S = [(0,.c (.sl 1 (kRows .u8 b))),(5,.c (.im (.int .i64 n))),(6,.c (.im (.int .i64 w))),(7,.c (.im (.int .i64 i)))]) b.length ⟨0,0,1,by omega,by omega,rfl,by omega,by decide,by decide,by omega,rfl⟩ ?_
  rintro k S' ⟨i,n,w,h1,h2,h3,h4,h5,hw,hk,rfl⟩
  have hx := hb.at i
  have w0 : wt 0 = 1 := rfl
  have w1 : wt 1 = 128 := rfl
  have w2 : wt 2 = 16384 := rfl
  rcases (show i = 0 ∨ i = 1 ∨ i = 2 by omega) with rfl|rfl|rfl
  · obtain rfl : w = 1 := hw
    (repeat' (first|(with_reducible (first|refine Aq ?_|(refine Ar ?_;intro KR kR)|refine Ab ?_|refine As ?_|refine Ae ?_|refine At ?_|refine Al ?_|refine Ag ?_|(refine Ad O77 (by kernel_rfl) (by kernel_rfl) ?_;intro KR kR;simp only [O77,ordl,↓reduceIte,reduceCtorEq,Nat.reduceEqDiff])))|((with_reducible first|refine Oz ?_|refine Rv ?_|refine Rl ?_|refine Rg ?_|refine Re ?_|refine Nz ?_);intro K hK;simp (disch := omega) only [go_sem,seval];(try ((with_reducible first|refine Gt ?_|refine gopO_f rfl ?_|refine Gv rfl ?_);simp (disch := omega) only [go_sem,seval]));((repeat (first|(intro (xb : Blk))|(intro (xk : Nat))|(intro hx)|(refine ⟨by (first|omega|(intro hg;simp [-List.getD_eq_getElem?_getD] at hg;omega)|assumption|decide),?_⟩)));refine hK _ ?_;clear K hK))|((with_reducible first|refine Onq ?_|refine Rn ?_);simp only [go_sem,seval,L48,O48,L77,O77];refine kR _ ?_;clear KR kR)|(simp only [thenE,inB,↓reduceIte,reduceCtorEq,Nat.reduceEqDiff])|((with_reducible refine Ac ?_);intro K hK;simp (disch := omega) only [condK,go_sem,seval];refine hK _ ?_ ?_;all_goals clear K hK;all_goals intro hq;all_goals (try simp only [qF,reduceCtorEq] at hq);all_goals (try (exfalso;first|exact hq|omega)))))
    all_goals try ((simp only [retQ,Try.results77];simp (disch := omega) only [resK,resT,resAV,Env.sel,Env.keys,List.map_nil,List.map_cons,List.all_nil,List.all_cons,AV.isS,Bool.not_false,Bool.and_self,Option.map_some,List.length_cons,List.length_nil,Nat.zero_add,Nat.reduceAdd,not_false_eq_true,true_and,and_true,ne_eq,go_sem,seval,ne_eq])
                   rw [h3]
                   first
                     | (rw [List.drop_of_length_le (by omega)];rfl)
                     | (rw [takeG_at (by omega),if_pos (by omega)];rfl)
                     | (rw [takeG_at (by omega),if_neg (by omega),if_pos (by omega)];simp only [take3,w0,w1,w2,Int.mul_one,Int.one_mul] <;> rfl)
                     | (rw [takeG_at (by omega),if_neg (by omega),if_pos (by omega)];simp only [take3,w0,w1,w2,Int.mul_one,Int.one_mul];rw [Int.mul_comm] <;> rfl))
    refine gh_no ⟨b.length - 1,by omega,1,n + (b.getD 0 0 - 128),128,by omega,by omega,?_,?_,?_,?_,?_,?_⟩
    · rw [h3,takeG_at (by omega),if_neg (by omega),if_neg (by omega),w0,Int.mul_one]
    · omega
    · omega
    · rfl
    · omega
    · ((try simp (disch := omega) only [List.cons.injEq,Prod.mk.injEq,AV.c.injEq,AV.agg.injEq,AV.opt.injEq,AV.tup.injEq,AV.row.injEq,AV.box.injEq,AV.mapo.injEq,AC.im.injEq,AC.sl.injEq,AC.adr.injEq,AC.ref.injEq,AC.ptr.injEq,AC.own.injEq,AC.fn.injEq,Value.int.injEq,Value.bool.injEq,Value.string.injEq,heq_eq_eq,go_sem,seval]);(try (repeat' refine And.intro ?_ ?_));all_goals (first|rfl|omega|skip))
  · obtain rfl : w = 128 := hw
    (repeat' (first|(with_reducible (first|refine Aq ?_|(refine Ar ?_;intro KR kR)|refine Ab ?_|refine As ?_|refine Ae ?_|refine At ?_|refine Al ?_|refine Ag ?_|(refine Ad O77 (by kernel_rfl) (by kernel_rfl) ?_;intro KR kR;simp only [O77,ordl,↓reduceIte,reduceCtorEq,Nat.reduceEqDiff])))|((with_reducible first|refine Oz ?_|refine Rv ?_|refine Rl ?_|refine Rg ?_|refine Re ?_|refine Nz ?_);intro K hK;simp (disch := omega) only [go_sem,seval];(try ((with_reducible first|refine Gt ?_|refine gopO_f rfl ?_|refine Gv rfl ?_);simp (disch := omega) only [go_sem,seval]));((repeat (first|(intro (xb : Blk))|(intro (xk : Nat))|(intro hx)|(refine ⟨by (first|omega|(intro hg;simp [-List.getD_eq_getElem?_getD] at hg;omega)|assumption|decide),?_⟩)));refine hK _ ?_;clear K hK))|((with_reducible first|refine Onq ?_|refine Rn ?_);simp only [go_sem,seval,L48,O48,L77,O77];refine kR _ ?_;clear KR kR)|(simp only [thenE,inB,↓reduceIte,reduceCtorEq,Nat.reduceEqDiff])|((with_reducible refine Ac ?_);intro K hK;simp (disch := omega) only [condK,go_sem,seval];refine hK _ ?_ ?_;all_goals clear K hK;all_goals intro hq;all_goals (try simp only [qF,reduceCtorEq] at hq);all_goals (try (exfalso;first|exact hq|omega)))))
    all_goals try ((simp only [retQ,Try.results77];simp (disch := omega) only [resK,resT,resAV,Env.sel,Env.keys,List.map_nil,List.map_cons,List.all_nil,List.all_cons,AV.isS,Bool.not_false,Bool.and_self,Option.map_some,List.length_cons,List.length_nil,Nat.zero_add,Nat.reduceAdd,not_false_eq_true,true_and,and_true,ne_eq,go_sem,seval,ne_eq])
                   rw [h3]
                   first
                     | (rw [List.drop_of_length_le (by omega)];rfl)
                     | (rw [takeG_at (by omega),if_pos (by omega)];rfl)
                     | (rw [takeG_at (by omega),if_neg (by omega),if_pos (by omega)];simp only [take3,w0,w1,w2,Int.mul_one,Int.one_mul] <;> rfl)
                     | (rw [takeG_at (by omega),if_neg (by omega),if_pos (by omega)];simp only [take3,w0,w1,w2,Int.mul_one,Int.one_mul];rw [Int.mul_comm] <;> rfl))
    refine gh_no ⟨b.length - 2,by omega,2,n + (b.getD 1 0 - 128) * 128,16384,by omega,by omega,?_,?_,?_,?_,?_,?_⟩
    · rw [h3,takeG_at (by omega),if_neg (by omega),if_neg (by omega),w1]
    · omega
    · omega
    · rfl
    · omega
    · ((try simp (disch := omega) only [List.cons.injEq,Prod.mk.injEq,AV.c.injEq,AV.agg.injEq,AV.opt.injEq,AV.tup.injEq,AV.row.injEq,AV.box.injEq,AV.mapo.injEq,AC.im.injEq,AC.sl.injEq,AC.adr.injEq,AC.ref.injEq,AC.ptr.injEq,AC.own.injEq,AC.fn.injEq,Value.int.injEq,Value.bool.injEq,Value.string.injEq,heq_eq_eq,go_sem,seval]);(try (repeat' refine And.intro ?_ ?_));all_goals (first|rfl|omega|skip))
  · obtain rfl : w = 16384 := hw
    (repeat' (first|(with_reducible (first|refine Aq ?_|(refine Ar ?_;intro KR kR)|refine Ab ?_|refine As ?_|refine Ae ?_|refine At ?_|refine Al ?_|refine Ag ?_|(refine Ad O77 (by kernel_rfl) (by kernel_rfl) ?_;intro KR kR;simp only [O77,ordl,↓reduceIte,reduceCtorEq,Nat.reduceEqDiff])))|((with_reducible first|refine Oz ?_|refine Rv ?_|refine Rl ?_|refine Rg ?_|refine Re ?_|refine Nz ?_);intro K hK;simp (disch := omega) only [go_sem,seval];(try ((with_reducible first|refine Gt ?_|refine gopO_f rfl ?_|refine Gv rfl ?_);simp (disch := omega) only [go_sem,seval]));((repeat (first|(intro (xb : Blk))|(intro (xk : Nat))|(intro hx)|(refine ⟨by (first|omega|(intro hg;simp [-List.getD_eq_getElem?_getD] at hg;omega)|assumption|decide),?_⟩)));refine hK _ ?_;clear K hK))|((with_reducible first|refine Onq ?_|refine Rn ?_);simp only [go_sem,seval,L48,O48,L77,O77];refine kR _ ?_;clear KR kR)|(simp only [thenE,inB,↓reduceIte,reduceCtorEq,Nat.reduceEqDiff])|((with_reducible refine Ac ?_);intro K hK;simp (disch := omega) only [condK,go_sem,seval];refine hK _ ?_ ?_;all_goals clear K hK;all_goals intro hq;all_goals (try simp only [qF,reduceCtorEq] at hq);all_goals (try (exfalso;first|exact hq|omega)))))
    all_goals try ((simp only [retQ,Try.results77];simp (disch := omega) only [resK,resT,resAV,Env.sel,Env.keys,List.map_nil,List.map_cons,List.all_nil,List.all_cons,AV.isS,Bool.not_false,Bool.and_self,Option.map_some,List.length_cons,List.length_nil,Nat.zero_add,Nat.reduceAdd,not_false_eq_true,true_and,and_true,ne_eq,go_sem,seval,ne_eq])
                   rw [h3]
                   first
                     | (rw [List.drop_of_length_le (by omega)];rfl)
                     | (rw [takeG_at (by omega),if_pos (by omega)];rfl)
                     | (rw [takeG_at (by omega),if_neg (by omega),if_pos (by omega)];simp only [take3,w0,w1,w2,Int.mul_one,Int.one_mul] <;> rfl)
                     | (rw [takeG_at (by omega),if_neg (by omega),if_pos (by omega)];simp only [take3,w0,w1,w2,Int.mul_one,Int.one_mul];rw [Int.mul_comm] <;> rfl))

end Go.Proofs.Ytglgmmoomlnghaa
