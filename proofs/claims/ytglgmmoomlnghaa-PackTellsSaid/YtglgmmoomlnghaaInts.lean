/-
  The document's Ints: are two rows of numbers the same?
-/
import Derived.Test.YtglgmmoomlnghaaHty
set_option linter.unusedSimpArgs false
namespace Go.Proofs.Ytglgmmoomlnghaa
open Go Go.Hs
def L14 (r : Nat) : Option (List Nat) := kl r [(0,[0,1]),(1,[0,1,10]),(2,[4]),(3,[0,1,5]),(4,[0,1,5,14]),(5,[0,1,5]),(6,[0,1,5,25]),(7,[4]),(8,[4])]
def O14 (r : Nat) : List Nat × OT := ordl r [(6,([],.val 0 (.val 1 (.val 2 (.val 4 (.val 5 (.val 6 (.load 3 (.load 7 (.val 8 (.done)))))))))))]

theorem Ints_ok (a b : List Int) (ha : a.length ≤ 4611686018427387904) (hb : b.length ≤ 4611686018427387904) : Contract Try.prog 14 [.c (.sl 1 (kRows .i64 a)),.c (.sl 1 (kRows .i64 b))] (.c (.im (.bool (decide (a = b))))) := by
  (refine contract_of_awp (L := L14) Try.func14 rfl (by kernel_rfl) (by first|rfl|decide) (by first|rfl|kernel_rfl) ?_;simp only [Try.ntmps14,initEnv,Env.keys,List.map_nil,List.map_cons,List.append_nil,List.cons_append,List.nil_append])
  (repeat' (first|(with_reducible (first|refine Aq ?_|(refine Ar ?_;intro KR kR)|refine Ab ?_|refine As ?_|refine Ae ?_|refine At ?_|refine Al ?_|refine Ag ?_|(refine Ad O14 (by kernel_rfl) (by kernel_rfl) ?_;intro KR kR;simp only [O14,ordl,↓reduceIte,reduceCtorEq,Nat.reduceEqDiff])))|((with_reducible first|refine Oz ?_|refine Rv ?_|refine Rl ?_|refine Rg ?_|refine Re ?_|refine Nz ?_);intro K hK;simp (disch := omega) only [go_sem,seval,ne_eq];(try ((with_reducible first|refine Gt ?_|refine Gv rfl ?_);simp (disch := omega) only [go_sem,seval,ne_eq]));((repeat (first|(intro (xb : Blk))|(intro (xk : Nat))|(intro hx)|(refine ⟨by (first|omega|(intro hg;simp [-List.getD_eq_getElem?_getD] at hg;omega)|assumption|decide),?_⟩)));refine hK _ ?_;clear K hK))|((with_reducible first|refine Onq ?_|refine Rn ?_);simp only [go_sem,seval,L14,O14];refine kR _ ?_;clear KR kR)|(simp only [thenE,inB,↓reduceIte,reduceCtorEq,Nat.reduceEqDiff])|((with_reducible refine Ac ?_);intro K hK;simp (disch := omega) only [condK,go_sem,seval,ne_eq];refine hK _ ?_ ?_;all_goals clear K hK;all_goals intro hq;all_goals (try simp only [qF,reduceCtorEq] at hq);all_goals (try (exfalso;first|exact hq|omega)))))
  · (simp only [retQ,Try.results14];simp (disch := omega) only [resK,resT,resAV,Env.sel,Env.keys,List.map_nil,List.map_cons,List.all_nil,List.all_cons,AV.isS,Bool.not_false,Bool.and_self,Option.map_some,List.length_cons,List.length_nil,Nat.zero_add,Nat.reduceAdd,not_false_eq_true,true_and,and_true,ne_eq,go_sem,seval,ne_eq])
    have hne : a.length ≠ b.length := by omega
    rw [decide_eq_false (fun h => hne (by rw [h]))]
  · have hl : a.length = b.length := by omega
    refine awp_loop [0,1,5] (fun k S => ∃ i : Nat,i ≤ a.length ∧ (∀ j,j < i → a.getD j 0 = b.getD j 0) ∧ k = a.length - i ∧
      S = [(0,.c (.sl 1 (kRows .i64 a))),(1,.c (.sl 1 (kRows .i64 b))),(5,.c (.im (.int .i64 i)))]) _ ⟨0,by omega,by omega,rfl,rfl⟩ ?_
    rintro k S' ⟨i,h1,h2,hk,rfl⟩
    (repeat' (first|(with_reducible (first|refine Aq ?_|(refine Ar ?_;intro KR kR)|refine Ab ?_|refine As ?_|refine Ae ?_|refine At ?_|refine Al ?_|refine Ag ?_|(refine Ad O14 (by kernel_rfl) (by kernel_rfl) ?_;intro KR kR;simp only [O14,ordl,↓reduceIte,reduceCtorEq,Nat.reduceEqDiff])))|((with_reducible first|refine Oz ?_|refine Rv ?_|refine Rl ?_|refine Rg ?_|refine Re ?_|refine Nz ?_);intro K hK;simp (disch := omega) only [go_sem,seval,ne_eq];(try ((with_reducible first|refine Gt ?_|refine Gv rfl ?_);simp (disch := omega) only [go_sem,seval,ne_eq]));((repeat (first|(intro (xb : Blk))|(intro (xk : Nat))|(intro hx)|(refine ⟨by (first|omega|(intro hg;simp [-List.getD_eq_getElem?_getD] at hg;omega)|assumption|decide),?_⟩)));refine hK _ ?_;clear K hK))|((with_reducible first|refine Onq ?_|refine Rn ?_);simp only [go_sem,seval,L14,O14];refine kR _ ?_;clear KR kR)|(simp only [thenE,inB,↓reduceIte,reduceCtorEq,Nat.reduceEqDiff])|((with_reducible refine Ac ?_);intro K hK;simp (disch := omega) only [condK,go_sem,seval,ne_eq];refine hK _ ?_ ?_;all_goals clear K hK;all_goals intro hq;all_goals (try simp only [qF,reduceCtorEq] at hq);all_goals (try (exfalso;first|exact hq|omega)))))
    · (simp only [retQ,Try.results14];simp (disch := omega) only [resK,resT,resAV,Env.sel,Env.keys,List.map_nil,List.map_cons,List.all_nil,List.all_cons,AV.isS,Bool.not_false,Bool.and_self,Option.map_some,List.length_cons,List.length_nil,Nat.zero_add,Nat.reduceAdd,not_false_eq_true,true_and,and_true,ne_eq,go_sem,seval,ne_eq])
      rw [decide_eq_false]
      rintro rfl
      exact hq rfl
    · refine gh_no ⟨a.length - (i + 1),by omega,i + 1,by omega,?_,rfl,?_⟩
      · intro j hj
        by_cases e : j = i
        · subst e;exact hq
        · exact h2 j (by omega)
      · ((try simp (disch := omega) only [List.cons.injEq,Prod.mk.injEq,AV.c.injEq,AV.agg.injEq,AV.opt.injEq,AV.tup.injEq,AV.row.injEq,AV.box.injEq,AV.mapo.injEq,AC.im.injEq,AC.sl.injEq,AC.adr.injEq,AC.ref.injEq,AC.ptr.injEq,AC.own.injEq,AC.fn.injEq,Value.int.injEq,Value.bool.injEq,Value.string.injEq,heq_eq_eq,go_sem,seval,ne_eq]);(try (repeat' refine And.intro ?_ ?_));all_goals (first|rfl|omega|skip))
    · (simp only [retQ,Try.results14];simp (disch := omega) only [resK,resT,resAV,Env.sel,Env.keys,List.map_nil,List.map_cons,List.all_nil,List.all_cons,AV.isS,Bool.not_false,Bool.and_self,Option.map_some,List.length_cons,List.length_nil,Nat.zero_add,Nat.reduceAdd,not_false_eq_true,true_and,and_true,ne_eq,go_sem,seval,ne_eq])
      have : a = b := List.ext_getElem hl fun j h3 h4 => by
        have := h2 j (by omega)
        simpa [List.getD_eq_getElem?_getD,h3,h4] using this
      rw [decide_eq_true this]

end Go.Proofs.Ytglgmmoomlnghaa
