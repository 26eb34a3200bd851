/-
  The document's parse trees are the program's.
-/
import Derived.Test.YtfldmpmaifjcbaaTree8b
set_option linter.unusedSimpArgs false
set_option linter.unusedVariables false
namespace Go.Proofs.Ytfldmpmaifjcbaa
open Go Go.Hs
def L34 (r : Nat) : Option (List Nat) := kl r [(0,[0,1,2]),(1,[6])]
def O34 (r : Nat) : List Nat × OT := ordl r []

theorem ref_right {l : List Tm} {w : List Int} {t : List En} (hr : rightF l = true) : (entV w t (nodeF l w t l.length) ⟨1,(l.length : Int) - 1,0,w.length⟩ 0 == (t.length : Int)) = tRight l w t := by
  have e1 := end_ent (w := w) (t := t) (nf := nodeF l w t l.length) (e := ⟨0,0,0,w.length⟩) (nd := (l.length : Int) - 1) (fr := 0) (i := 0) (Int.le_refl _)
  simp only [Int.zero_add] at e1
  rw [e1]
  have h2 : (nxF w t 0 1 ((l.length : Int) - 1) 0).2.1 = true → (nxF w t 0 1 ((l.length : Int) - 1) 0).1.t ≤ w.length := by
    intro h1
    by_cases h3 : 0 < t.length
    · rw [nxF,if_pos h3] at h1 ⊢
      exact (nxOk_iff.1 h1).2.2.2.2
    · rw [nxF,if_neg h3] at h1
      cases h1
  have ek : kidF (nodeF l w t l.length) w t ⟨0,0,0,w.length⟩ ((l.length : Int) - 1) 0 0 = if (nxF w t 0 1 ((l.length : Int) - 1) 0).2.1 = true ∧ (nxF w t 0 1 ((l.length : Int) - 1) 0).1.t ≤ w.length then
      (if (nodeF l w t l.length (nxF w t 0 1 ((l.length : Int) - 1) 0).1 (nxF w t 0 1 ((l.length : Int) - 1) 0).2.2).1 = true then ((nxF w t 0 1 ((l.length : Int) - 1) 0).1.t,true,(nodeF l w t l.length (nxF w t 0 1 ((l.length : Int) - 1) 0).1 (nxF w t 0 1 ((l.length : Int) - 1) 0).2.2).2) else (0,false,(nodeF l w t l.length (nxF w t 0 1 ((l.length : Int) - 1) 0).1 (nxF w t 0 1 ((l.length : Int) - 1) 0).2.2).2))
      else (0,false,(nxF w t 0 1 ((l.length : Int) - 1) 0).2.2) := rfl
  generalize hK : kidF (nodeF l w t l.length) w t ⟨0,0,0,w.length⟩ ((l.length : Int) - 1) 0 0 = K at ek ⊢
  unfold tRight
  rw [hr,Bool.true_and]
  clear e1 hK
  generalize nxF w t 0 1 ((l.length : Int) - 1) 0 = nx at h2 ek ⊢
  generalize nodeF l w t l.length nx.1 nx.2.2 = nn at ek ⊢
  by_cases h1 : nx.2.1 = true
  · rw [if_pos ⟨h1,h2 h1⟩] at ek
    by_cases h3 : nn.1 = true
    · rw [if_pos h3] at ek
      rw [ek,h1,h3]
      by_cases h4 : nx.1.t = w.length
      · rw [if_pos (by simp [h4]),beT h4];simp
      · rw [if_neg (by simp [h4]),beF h4]
        exact beF (by omega)
    · rw [if_neg h3] at ek
      rw [ek,if_neg (by simp),Bool.eq_false_iff.2 h3]
      simp only [Bool.and_false,Bool.false_and]
      exact beF (by omega)
  · rw [if_neg (fun h => h1 h.1)] at ek
    rw [ek,if_neg (by simp),Bool.eq_false_iff.2 h1]
    simp only [Bool.and_false,Bool.false_and]
    exact beF (by omega)

attribute [local go_sem] AV.isS wrap_in En.cs Tm.cs binSet binEntN length_enRows length_kRows length_tRows tRows_ex tRows_frz getE0 getE1 getE2 getE3 getER getERo getE1o getK getA getB getN getTm getSet dltT dltF toN1 dleT dleF eqT eqF beT beF

set_option maxRecDepth 100000 in
theorem refTRight_ok (l : List Tm) (w : List Int) (t : List En) (hl : l.length ≤ 1000) (hw : ∀ x ∈ l,(stOf x).wf) (hb : ∀ x ∈ w,0 ≤ x ∧ x ≤ 255) (ht : t.length ≤ 100000) (hwl : w.length ≤ 100000) :
    Contract Try.prog 34 [.c (.sl 8 (tRows l)),.c (.sl 1 (kRows .u8 w)),.c (.sl 4 (enRows t))] (.c (.im (.bool (tRight l w t)))) := by
  cases hr : rightF l with
  | true =>
    have l0 : 0 < l.length := (term_of_right hr).pos
    rw [← ref_right hr]
    (refine contract_of_awp (L := L34) Try.func34 rfl (by kernel_rfl) (by first|rfl|decide) (by first|rfl|kernel_rfl) ?_;simp only [Try.ntmps34,initEnv,Env.keys,List.map_nil,List.map_cons,List.append_nil,List.cons_append,List.nil_append])
    (repeat' (first|(with_reducible (first|refine Aq ?_|(refine Ar ?_;intro KR kR)|refine Ab ?_|refine As ?_|refine Ae ?_|refine At ?_|refine Al ?_|refine Ag ?_|(refine Ad O34 (by kernel_rfl) (by kernel_rfl) ?_;intro KR kR;simp only [O34,ordl,↓reduceIte,reduceCtorEq,Nat.reduceEqDiff])))|((with_reducible first|refine Oz ?_|refine Rv ?_|refine Rl ?_|refine Rg ?_|refine Re ?_|refine Nz ?_);intro K hK;simp (disch := omega) only [go_sem,seval];(try ((with_reducible first|refine Gt ?_|refine gopO_f rfl ?_|refine Gv rfl ?_);simp (disch := omega) only [go_sem,seval]));((repeat (first|(intro (xb : Blk))|(intro (xk : Nat))|(intro hx)|(refine ⟨by (first|omega|(intro hg;simp [-List.getD_eq_getElem?_getD] at hg;omega)|assumption|decide),?_⟩)));refine hK _ ?_;clear K hK))|((with_reducible first|refine Onq ?_|refine Rn ?_);simp only [go_sem,seval,L34,O34];refine kR _ ?_;clear KR kR)|(simp only [thenE,inB,↓reduceIte,reduceCtorEq,Nat.reduceEqDiff])|((with_reducible refine Ac ?_);intro K hK;simp (disch := omega) only [condK,go_sem,seval];refine hK _ ?_ ?_;all_goals clear K hK;all_goals intro hq;all_goals (try simp only [qF,reduceCtorEq] at hq);all_goals (try (exfalso;first|exact hq|omega)))))
    ((with_reducible (first|refine Oz ?_|refine Rg ?_|refine Re ?_|refine Nz ?_));intro K hK;simp (disch := omega) only [go_sem,seval];(try ((with_reducible refine Gt ?_);simp (disch := omega) only [go_sem,seval]));refine ⟨[],by simp,by simp [Env.sel,Env.get,Env.keys,AV.isS],?_⟩;simp (disch := omega) only [go_sem,seval];refine ⟨_,_,ContractH.n (refRight_ok l hl),?_⟩;intro r H' hr hk;(try obtain rfl := keys_nil hk);(first|subst hr|(obtain ⟨_,rfl⟩ := hr)|(obtain ⟨_,_,rfl⟩ := hr)|(obtain ⟨_,_,_,rfl⟩ := hr));(try simp (disch := omega) only [AV.flat,AC.flat,AC.flat.flatL,AC.flat.flatLL,go_sem,seval]);((repeat (first|(intro (xb : Blk))|(intro (xk : Nat))|(intro hx)|(refine ⟨by (first|omega|(intro hg;simp [-List.getD_eq_getElem?_getD] at hg;omega)|assumption|decide),?_⟩)));refine hK _ ?_;clear K hK))
    rw [hr]
    (repeat' (first|(with_reducible (first|refine Aq ?_|(refine Ar ?_;intro KR kR)|refine Ab ?_|refine As ?_|refine Ae ?_|refine At ?_|refine Al ?_|refine Ag ?_|(refine Ad O34 (by kernel_rfl) (by kernel_rfl) ?_;intro KR kR;simp only [O34,ordl,↓reduceIte,reduceCtorEq,Nat.reduceEqDiff])))|((with_reducible first|refine Oz ?_|refine Rv ?_|refine Rl ?_|refine Rg ?_|refine Re ?_|refine Nz ?_);intro K hK;simp (disch := omega) only [go_sem,seval];(try ((with_reducible first|refine Gt ?_|refine gopO_f rfl ?_|refine Gv rfl ?_);simp (disch := omega) only [go_sem,seval]));((repeat (first|(intro (xb : Blk))|(intro (xk : Nat))|(intro hx)|(refine ⟨by (first|omega|(intro hg;simp [-List.getD_eq_getElem?_getD] at hg;omega)|assumption|decide),?_⟩)));refine hK _ ?_;clear K hK))|((with_reducible first|refine Onq ?_|refine Rn ?_);simp only [go_sem,seval,L34,O34];refine kR _ ?_;clear KR kR)|(simp only [thenE,inB,↓reduceIte,reduceCtorEq,Nat.reduceEqDiff])|((with_reducible refine Ac ?_);intro K hK;simp (disch := omega) only [condK,go_sem,seval];refine hK _ ?_ ?_;all_goals clear K hK;all_goals intro hq;all_goals (try simp only [qF,reduceCtorEq] at hq);all_goals (try (exfalso;first|exact hq|omega)))))
    ((with_reducible (first|refine Oz ?_|refine Rg ?_|refine Re ?_|refine Nz ?_));intro K hK;simp (disch := omega) only [go_sem,seval];(try ((with_reducible refine Gt ?_);simp (disch := omega) only [go_sem,seval]));refine ⟨[],by simp,by simp [Env.sel,Env.get,Env.keys,AV.isS],?_⟩;simp (disch := omega) only [go_sem,seval];refine ⟨_,_,ContractH.n (ent_ok l w t hl hr hw hb ht hwl l.length ⟨1,(l.length : Int) - 1,0,w.length⟩ 0 (by first|omega|(dsimp only;omega)) (by first|omega|(dsimp only;omega)) (by first|omega|(dsimp only;omega)) (by first|omega|(dsimp only;omega)) (by omega)),?_⟩;intro r H' hr hk;(try obtain rfl := keys_nil hk);(first|subst hr|(obtain ⟨_,rfl⟩ := hr)|(obtain ⟨_,_,rfl⟩ := hr)|(obtain ⟨_,_,_,rfl⟩ := hr));(try simp (disch := omega) only [AV.flat,AC.flat,AC.flat.flatL,AC.flat.flatLL,go_sem,seval]);((repeat (first|(intro (xb : Blk))|(intro (xk : Nat))|(intro hx)|(refine ⟨by (first|omega|(intro hg;simp [-List.getD_eq_getElem?_getD] at hg;omega)|assumption|decide),?_⟩)));refine hK _ ?_;clear K hK))
    (repeat' (first|(with_reducible (first|refine Aq ?_|(refine Ar ?_;intro KR kR)|refine Ab ?_|refine As ?_|refine Ae ?_|refine At ?_|refine Al ?_|refine Ag ?_|(refine Ad O34 (by kernel_rfl) (by kernel_rfl) ?_;intro KR kR;simp only [O34,ordl,↓reduceIte,reduceCtorEq,Nat.reduceEqDiff])))|((with_reducible first|refine Oz ?_|refine Rv ?_|refine Rl ?_|refine Rg ?_|refine Re ?_|refine Nz ?_);intro K hK;simp (disch := omega) only [go_sem,seval];(try ((with_reducible first|refine Gt ?_|refine gopO_f rfl ?_|refine Gv rfl ?_);simp (disch := omega) only [go_sem,seval]));((repeat (first|(intro (xb : Blk))|(intro (xk : Nat))|(intro hx)|(refine ⟨by (first|omega|(intro hg;simp [-List.getD_eq_getElem?_getD] at hg;omega)|assumption|decide),?_⟩)));refine hK _ ?_;clear K hK))|((with_reducible first|refine Onq ?_|refine Rn ?_);simp only [go_sem,seval,L34,O34];refine kR _ ?_;clear KR kR)|(simp only [thenE,inB,↓reduceIte,reduceCtorEq,Nat.reduceEqDiff])|((with_reducible refine Ac ?_);intro K hK;simp (disch := omega) only [condK,go_sem,seval];refine hK _ ?_ ?_;all_goals clear K hK;all_goals intro hq;all_goals (try simp only [qF,reduceCtorEq] at hq);all_goals (try (exfalso;first|exact hq|omega)))))
    (simp only [retQ,Try.results34];simp (disch := omega) only [resK,resT,resAV,Env.sel,Env.keys,List.map_nil,List.map_cons,List.all_nil,List.all_cons,AV.isS,Bool.not_false,Bool.and_self,Option.map_some,List.length_cons,List.length_nil,Nat.zero_add,Nat.reduceAdd,not_false_eq_true,true_and,and_true,ne_eq,go_sem,seval,ne_eq])
  | false =>
    have e1 : tRight l w t = false := by rw [tRight,hr];rfl
    rw [e1]
    (refine contract_of_awp (L := L34) Try.func34 rfl (by kernel_rfl) (by first|rfl|decide) (by first|rfl|kernel_rfl) ?_;simp only [Try.ntmps34,initEnv,Env.keys,List.map_nil,List.map_cons,List.append_nil,List.cons_append,List.nil_append])
    (repeat' (first|(with_reducible (first|refine Aq ?_|(refine Ar ?_;intro KR kR)|refine Ab ?_|refine As ?_|refine Ae ?_|refine At ?_|refine Al ?_|refine Ag ?_|(refine Ad O34 (by kernel_rfl) (by kernel_rfl) ?_;intro KR kR;simp only [O34,ordl,↓reduceIte,reduceCtorEq,Nat.reduceEqDiff])))|((with_reducible first|refine Oz ?_|refine Rv ?_|refine Rl ?_|refine Rg ?_|refine Re ?_|refine Nz ?_);intro K hK;simp (disch := omega) only [go_sem,seval];(try ((with_reducible first|refine Gt ?_|refine gopO_f rfl ?_|refine Gv rfl ?_);simp (disch := omega) only [go_sem,seval]));((repeat (first|(intro (xb : Blk))|(intro (xk : Nat))|(intro hx)|(refine ⟨by (first|omega|(intro hg;simp [-List.getD_eq_getElem?_getD] at hg;omega)|assumption|decide),?_⟩)));refine hK _ ?_;clear K hK))|((with_reducible first|refine Onq ?_|refine Rn ?_);simp only [go_sem,seval,L34,O34];refine kR _ ?_;clear KR kR)|(simp only [thenE,inB,↓reduceIte,reduceCtorEq,Nat.reduceEqDiff])|((with_reducible refine Ac ?_);intro K hK;simp (disch := omega) only [condK,go_sem,seval];refine hK _ ?_ ?_;all_goals clear K hK;all_goals intro hq;all_goals (try simp only [qF,reduceCtorEq] at hq);all_goals (try (exfalso;first|exact hq|omega)))))
    ((with_reducible (first|refine Oz ?_|refine Rg ?_|refine Re ?_|refine Nz ?_));intro K hK;simp (disch := omega) only [go_sem,seval];(try ((with_reducible refine Gt ?_);simp (disch := omega) only [go_sem,seval]));refine ⟨[],by simp,by simp [Env.sel,Env.get,Env.keys,AV.isS],?_⟩;simp (disch := omega) only [go_sem,seval];refine ⟨_,_,ContractH.n (refRight_ok l hl),?_⟩;intro r H' hr hk;(try obtain rfl := keys_nil hk);(first|subst hr|(obtain ⟨_,rfl⟩ := hr)|(obtain ⟨_,_,rfl⟩ := hr)|(obtain ⟨_,_,_,rfl⟩ := hr));(try simp (disch := omega) only [AV.flat,AC.flat,AC.flat.flatL,AC.flat.flatLL,go_sem,seval]);((repeat (first|(intro (xb : Blk))|(intro (xk : Nat))|(intro hx)|(refine ⟨by (first|omega|(intro hg;simp [-List.getD_eq_getElem?_getD] at hg;omega)|assumption|decide),?_⟩)));refine hK _ ?_;clear K hK))
    rw [hr]
    (repeat' (first|(with_reducible (first|refine Aq ?_|(refine Ar ?_;intro KR kR)|refine Ab ?_|refine As ?_|refine Ae ?_|refine At ?_|refine Al ?_|refine Ag ?_|(refine Ad O34 (by kernel_rfl) (by kernel_rfl) ?_;intro KR kR;simp only [O34,ordl,↓reduceIte,reduceCtorEq,Nat.reduceEqDiff])))|((with_reducible first|refine Oz ?_|refine Rv ?_|refine Rl ?_|refine Rg ?_|refine Re ?_|refine Nz ?_);intro K hK;simp (disch := omega) only [go_sem,seval];(try ((with_reducible first|refine Gt ?_|refine gopO_f rfl ?_|refine Gv rfl ?_);simp (disch := omega) only [go_sem,seval]));((repeat (first|(intro (xb : Blk))|(intro (xk : Nat))|(intro hx)|(refine ⟨by (first|omega|(intro hg;simp [-List.getD_eq_getElem?_getD] at hg;omega)|assumption|decide),?_⟩)));refine hK _ ?_;clear K hK))|((with_reducible first|refine Onq ?_|refine Rn ?_);simp only [go_sem,seval,L34,O34];refine kR _ ?_;clear KR kR)|(simp only [thenE,inB,↓reduceIte,reduceCtorEq,Nat.reduceEqDiff])|((with_reducible refine Ac ?_);intro K hK;simp (disch := omega) only [condK,go_sem,seval];refine hK _ ?_ ?_;all_goals clear K hK;all_goals intro hq;all_goals (try simp only [qF,reduceCtorEq] at hq);all_goals (try (exfalso;first|exact hq|omega)))))
    (simp only [retQ,Try.results34];simp (disch := omega) only [resK,resT,resAV,Env.sel,Env.keys,List.map_nil,List.map_cons,List.all_nil,List.all_cons,AV.isS,Bool.not_false,Bool.and_self,Option.map_some,List.length_cons,List.length_nil,Nat.zero_add,Nat.reduceAdd,not_false_eq_true,true_and,and_true,ne_eq,go_sem,seval,ne_eq])

end Go.Proofs.Ytfldmpmaifjcbaa
