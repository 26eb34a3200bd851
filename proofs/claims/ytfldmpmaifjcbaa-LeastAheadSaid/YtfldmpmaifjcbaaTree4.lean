/-
  tree.Right; (*tree.grower).step.
-/
import Derived.Test.YtfldmpmaifjcbaaTree3
set_option linter.unusedSimpArgs false
set_option linter.unusedVariables false
namespace Go.Proofs.Ytfldmpmaifjcbaa
open Go Go.Hs
def L33 (r : Nat) : Option (List Nat) := kl r [(0,[0,1,2]),(1,[0,1,2,12]),(2,[6]),(3,[0,1,2,7]),(4,[1,2,7,8,9]),(5,[6])]
def O33 (r : Nat) : List Nat × OT := ordl r []
def L61 (r : Nat) : Option (List Nat) := kl r [(0,[0,1,2]),(1,[0,1,2,25]),(2,[6]),(3,[0,1,2,28]),(4,[0,1,2]),(5,[]),(6,[6]),(7,[0,1,2,66]),(8,[6]),(9,[0,1,2,7]),(10,[1,2,7]),(11,[1,7]),(12,[6])]
def O61 (r : Nat) : List Nat × OT := ordl r [(4,([11,14],.val 0 (.val 1 (.val 2 (.val 3 (.val 5 (.val 6 (.val 7 (.load 4 (.load 8 (.val 9 (.grow 10 (.eff 11 (.val 12 (.val 13 (.eff 14 (.done))))))))))))))))),(5,([15,18],.val 0 (.val 1 (.val 2 (.val 3 (.val 5 (.val 6 (.val 7 (.val 10 (.val 11 (.val 12 (.load 4 (.load 8 (.val 9 (.val 13 (.grow 14 (.eff 15 (.val 16 (.val 17 (.eff 18 (.done))))))))))))))))))))),(9,([],.val 0 (.val 1 (.val 2 (.val 4 (.val 5 (.val 6 (.val 8 (.val 9 (.val 10 (.load 3 (.load 7 (.load 11 (.val 12 (.val 13 (.val 14 (.load 15 (.val 16 (.val 17 (.done)))))))))))))))))))),(10,([14],.val 0 (.val 1 (.val 2 (.val 3 (.val 5 (.val 6 (.val 7 (.load 4 (.load 8 (.val 9 (.val 10 (.val 11 (.val 12 (.val 13 (.eff 14 (.done)))))))))))))))))]

def opI (op : List Nat) : List Int := op.reverse.map fun n : Nat => (n : Int)
theorem length_opI {op : List Nat} : (opI op).length = op.length := by simp [opI]
theorem opI_nil : opI [] = [] := rfl
theorem opI_cons {j : Nat} {op : List Nat} : opI (j :: op) = opI op ++ [(j : Int)] := by simp [opI]
theorem getOpN {j k : Nat} {op : List Nat} (h : k = op.length) : (opI (j :: op)).getD k 0 = j := by
  subst h
  rw [opI_cons,List.getD_eq_getElem?_getD,List.getElem?_append_right (by rw [length_opI];omega),length_opI,Nat.sub_self]
  rfl
theorem opI_snoc {j : Nat} {op : List Nat} : kRows .i64 (opI op) ++ [[.im (.int .i64 (j : Int))]] = kRows .i64 (opI (j :: op)) := by rw [kRows_snoc,opI_cons]
theorem opI_snoc2 {j : Nat} {op : List Nat} : opI op ++ [(j : Int)] = opI (j :: op) := opI_cons.symm
theorem opI_take2 {j k : Nat} {op : List Nat} (h : k = op.length) : (opI (j :: op)).take k = opI op := by
  subst h
  rw [opI_cons,List.take_left' length_opI]
theorem opI_take {j k : Nat} {op : List Nat} (h : k = op.length) : (kRows .i64 (opI (j :: op))).take k = kRows .i64 (opI op) := by
  subst h
  rw [kRows_take,opI_cons,List.take_left' length_opI]
theorem opI_takeF {k : Nat} {op : List Nat} (h : op.length ≤ k) : (opI op).take k = opI op := List.take_of_length_le (by rw [length_opI];exact h)
theorem takeFull {α : Type} {l : List α} {k : Nat} (h : l.length ≤ k) : l.take k = l := List.take_of_length_le h
theorem enTake {l : List En} {k : Nat} (h : l.length ≤ k) : (enRows l).take k = enRows l := List.take_of_length_le (by rw [length_enRows];exact h)
theorem enSnoc {l : List En} {a b c d : Int} : enRows l ++ [[.im (.int .i64 a),.im (.int .i64 b),.im (.int .i64 c),.im (.int .i64 d)]] = enRows (l ++ [⟨a,b,c,d⟩]) := by simp [enRows,En.cs]
theorem enSet3 {l : List En} {i : Nat} {x : Int} : (enRows l).set i (splice ((enRows l).getD i []) 3 [.im (.int .i64 x)]) = enRows (l.set i ⟨(enAt l i).d,(enAt l i).n,(enAt l i).f,x⟩) := by
  by_cases h : i < l.length
  · have e : (enRows l).getD i [] = (enAt l i).cs := by simp [enRows,enAt,h]
    rw [e]
    simp [splice,enRows,List.map_set,En.cs]
  · rw [List.set_eq_of_length_le (by rw [length_enRows];omega),List.set_eq_of_length_le (by omega)]

theorem getE1set {z : AC} {l : List En} {i : Nat} {e : En} (h : i < l.length) : getC z (enRows (l.set i e)) i 1 = .im (.int .i64 e.n) := by
  rw [getE1 (by rw [List.length_set];exact h)]
  unfold enAt
  simp [List.getD_eq_getElem?_getD,h]
def tRight (l : List Tm) (w : List Int) (t : List En) : Bool := rightF l && ((nxF w t 0 1 ((l.length : Int) - 1) 0).2.1 && ((nxF w t 0 1 ((l.length : Int) - 1) 0).1.t == (w.length : Int)) && (nodeF l w t l.length (nxF w t 0 1 ((l.length : Int) - 1) 0).1 (nxF w t 0 1 ((l.length : Int) - 1) 0).2.2).1 && (((nodeF l w t l.length (nxF w t 0 1 ((l.length : Int) - 1) 0).1 (nxF w t 0 1 ((l.length : Int) - 1) 0).2.2).2 : Int) == (t.length : Int)))

attribute [local go_sem] AV.isS ck length_tRows wrap_in En.cs length_enRows getE0 getE1 getE2 getE3 getER dltT dltF eqT eqF beT beF length_opI getOpN enSnoc enSet3 Int.tdiv_eq_ediv_of_nonneg Int.tmod_eq_emod_of_nonneg opI_snoc opI_take opI_nil opI_snoc2 opI_take2 takeFull getE1set enTake opI_takeF

set_option maxRecDepth 100000 in
theorem tRight_ok (l : List Tm) (w : List Int) (t : List En) (hl : l.length ≤ 1000) (hw : ∀ x ∈ l,(stOf x).wf) (hb : ∀ x ∈ w,0 ≤ x ∧ x ≤ 255) (ht : t.length ≤ 100000) (hwl : w.length ≤ 100000) :
    Contract Try.prog 33 [.c (.sl 8 (tRows l)),.c (.sl 1 (kRows .u8 w)),.c (.sl 4 (enRows t))] (.c (.im (.bool (tRight l w t)))) := by
  (refine contract_of_awp (L := L33) Try.func33 rfl (by kernel_rfl) (by first|rfl|decide) (by first|rfl|kernel_rfl) ?_;simp only [Try.ntmps33,initEnv,Env.keys,List.map_nil,List.map_cons,List.append_nil,List.cons_append,List.nil_append])
  (repeat (first|(with_reducible (first|refine Aq ?_|(refine Ar ?_;intro KR kR)|refine Ab ?_|refine As ?_|refine Ae ?_|refine At ?_|refine Al ?_|refine Ag ?_|(refine Ad O33 (by kernel_rfl) (by kernel_rfl) ?_;intro KR kR;simp only [O33,ordl,↓reduceIte,reduceCtorEq,Nat.reduceEqDiff])))|((with_reducible first|refine Oz ?_|refine Rv ?_|refine Rl ?_|refine Rg ?_|refine Re ?_|refine Nz ?_);intro K hK;simp (disch := omega) only [go_sem,seval];(try ((with_reducible first|refine Gt ?_|refine Gb ?_|refine Gn ?_|refine Gs ?_|refine Gv rfl ?_);simp (disch := omega) only [go_sem,seval]));((repeat (first|(intro (xb : Blk))|(intro (xk : Nat))|(intro hx)|(refine ⟨by (first|omega|(intro hg;simp [-List.getD_eq_getElem?_getD] at hg;omega)|assumption|decide),?_⟩)));refine hK _ ?_;clear K hK))|((with_reducible first|refine Onq ?_|refine Rn ?_);simp only [go_sem,seval,L33,O33,L61,O61];refine kR _ ?_;clear KR kR)|(simp only [thenE,inB,↓reduceIte,reduceCtorEq,Nat.reduceEqDiff])))
  ((with_reducible (first|refine Oz ?_|refine Rg ?_|refine Re ?_|refine Nz ?_));intro K hK;simp (disch := omega) only [go_sem,seval];(try ((with_reducible refine Gt ?_);simp (disch := omega) only [go_sem,seval]));refine ⟨[],by simp,by simp [Env.sel,Env.get,Env.keys,AV.isS],?_⟩;simp (disch := omega) only [go_sem,seval];refine ⟨_,_,ContractH.n (Right_ok l),?_⟩;intro r H' hr hk;(try obtain rfl := keys_nil hk);(first|subst hr|(obtain ⟨_,rfl⟩ := hr)|(obtain ⟨_,_,rfl⟩ := hr)|(obtain ⟨_,_,_,rfl⟩ := hr));(try simp (disch := omega) only [AV.flat,AC.flat,AC.flat.flatL,AC.flat.flatLL,go_sem,seval]);((repeat (first|(intro (xb : Blk))|(intro (xk : Nat))|(intro hx)|(refine ⟨by (first|omega|(intro hg;simp [-List.getD_eq_getElem?_getD] at hg;omega)|assumption|decide),?_⟩)));refine hK _ ?_;clear K hK))
  (repeat (first|(with_reducible (first|refine Aq ?_|(refine Ar ?_;intro KR kR)|refine Ab ?_|refine As ?_|refine Ae ?_|refine At ?_|refine Al ?_|refine Ag ?_|(refine Ad O33 (by kernel_rfl) (by kernel_rfl) ?_;intro KR kR;simp only [O33,ordl,↓reduceIte,reduceCtorEq,Nat.reduceEqDiff])))|((with_reducible first|refine Oz ?_|refine Rv ?_|refine Rl ?_|refine Rg ?_|refine Re ?_|refine Nz ?_);intro K hK;simp (disch := omega) only [go_sem,seval];(try ((with_reducible first|refine Gt ?_|refine Gb ?_|refine Gn ?_|refine Gs ?_|refine Gv rfl ?_);simp (disch := omega) only [go_sem,seval]));((repeat (first|(intro (xb : Blk))|(intro (xk : Nat))|(intro hx)|(refine ⟨by (first|omega|(intro hg;simp [-List.getD_eq_getElem?_getD] at hg;omega)|assumption|decide),?_⟩)));refine hK _ ?_;clear K hK))|((with_reducible first|refine Onq ?_|refine Rn ?_);simp only [go_sem,seval,L33,O33,L61,O61];refine kR _ ?_;clear KR kR)|(simp only [thenE,inB,↓reduceIte,reduceCtorEq,Nat.reduceEqDiff])))
  ((with_reducible refine Ac ?_);intro K hK;simp (disch := omega) only [condK,go_sem,seval];refine hK _ ?_ ?_;all_goals clear K hK;all_goals intro hq;all_goals (try simp only [qF,reduceCtorEq] at hq);all_goals (try (exfalso;first|exact hq|omega)))
  · (repeat (first|(with_reducible (first|refine Aq ?_|(refine Ar ?_;intro KR kR)|refine Ab ?_|refine As ?_|refine Ae ?_|refine At ?_|refine Al ?_|refine Ag ?_|(refine Ad O33 (by kernel_rfl) (by kernel_rfl) ?_;intro KR kR;simp only [O33,ordl,↓reduceIte,reduceCtorEq,Nat.reduceEqDiff])))|((with_reducible first|refine Oz ?_|refine Rv ?_|refine Rl ?_|refine Rg ?_|refine Re ?_|refine Nz ?_);intro K hK;simp (disch := omega) only [go_sem,seval];(try ((with_reducible first|refine Gt ?_|refine Gb ?_|refine Gn ?_|refine Gs ?_|refine Gv rfl ?_);simp (disch := omega) only [go_sem,seval]));((repeat (first|(intro (xb : Blk))|(intro (xk : Nat))|(intro hx)|(refine ⟨by (first|omega|(intro hg;simp [-List.getD_eq_getElem?_getD] at hg;omega)|assumption|decide),?_⟩)));refine hK _ ?_;clear K hK))|((with_reducible first|refine Onq ?_|refine Rn ?_);simp only [go_sem,seval,L33,O33,L61,O61];refine kR _ ?_;clear KR kR)|(simp only [thenE,inB,↓reduceIte,reduceCtorEq,Nat.reduceEqDiff])))
    (simp only [retQ,Try.results33];simp (disch := omega) only [resK,resT,resAV,Env.sel,Env.keys,List.map_nil,List.map_cons,List.all_nil,List.all_cons,AV.isS,Bool.not_false,Bool.and_self,Option.map_some,List.length_cons,List.length_nil,Nat.zero_add,Nat.reduceAdd,not_false_eq_true,true_and,and_true,ne_eq,go_sem,seval,ne_eq])
    rw [tRight,hq];rfl
  · have N := node_ok l w t hl hq hw hb ht hwl l.length
    have kd := term_of_right hq
    have l0 : 0 < l.length := kd.pos
    have xx := nx_ok (l := l) (w := w) (t := t) (i := 0) (dp := 1) (nd := (l.length : Int) - 1) (fr := 0)
    have xl := nx_le (w := w) (t := t) (i := 0) (dp := 1) (nd := (l.length : Int) - 1) (fr := 0) (by omega)
    have nl := N.le (nxF w t 0 1 ((l.length : Int) - 1) 0).1 (nxF w t 0 1 ((l.length : Int) - 1) 0).2.2 xl
    have eR : tRight l w t = ((nxF w t 0 1 ((l.length : Int) - 1) 0).2.1 && ((nxF w t 0 1 ((l.length : Int) - 1) 0).1.t == (w.length : Int)) && (nodeF l w t l.length (nxF w t 0 1 ((l.length : Int) - 1) 0).1 (nxF w t 0 1 ((l.length : Int) - 1) 0).2.2).1 && (((nodeF l w t l.length (nxF w t 0 1 ((l.length : Int) - 1) 0).1 (nxF w t 0 1 ((l.length : Int) - 1) 0).2.2).2 : Int) == (t.length : Int))) := by rw [tRight,hq];rfl
    (with_reducible (first|refine Aq ?_|(refine Ar ?_;intro KR kR)|refine Ab ?_|refine As ?_|refine Ae ?_|refine At ?_|refine Al ?_|refine Ag ?_|(refine Ad O33 (by kernel_rfl) (by kernel_rfl) ?_;intro KR kR;simp only [O33,ordl,↓reduceIte,reduceCtorEq,Nat.reduceEqDiff])))
    (repeat' (first|((with_reducible first|refine Oz ?_|refine Rv ?_|refine Rl ?_|refine Rg ?_|refine Re ?_|refine Nz ?_);intro K hK;simp (disch := omega) only [go_sem,seval];(try ((with_reducible first|refine Gt ?_|refine Gb ?_|refine Gn ?_|refine Gs ?_|refine Gv rfl ?_);simp (disch := omega) only [go_sem,seval]));((repeat (first|(intro (xb : Blk))|(intro (xk : Nat))|(intro hx)|(refine ⟨by (first|omega|(intro hg;simp [-List.getD_eq_getElem?_getD] at hg;omega)|assumption|decide),?_⟩)));refine hK _ ?_;clear K hK))|((with_reducible first|refine Onq ?_|refine Rn ?_);simp only [go_sem,seval,L33,O33,L61,O61];refine kR _ ?_;clear KR kR)|(simp only [thenE,inB,↓reduceIte,reduceCtorEq,Nat.reduceEqDiff])|((with_reducible (first|refine Rb ?_ ?_|refine Rc ?_ ?_ ?_));all_goals (simp only [↓reduceIte,reduceCtorEq,Nat.reduceEqDiff]))))
    (with_reducible (first|refine Aq ?_|(refine Ar ?_;intro KR kR)|refine Ab ?_|refine As ?_|refine Ae ?_|refine At ?_|refine Al ?_|refine Ag ?_|(refine Ad O33 (by kernel_rfl) (by kernel_rfl) ?_;intro KR kR;simp only [O33,ordl,↓reduceIte,reduceCtorEq,Nat.reduceEqDiff])))
    (with_reducible (first|refine Aq ?_|(refine Ar ?_;intro KR kR)|refine Ab ?_|refine As ?_|refine Ae ?_|refine At ?_|refine Al ?_|refine Ag ?_|(refine Ad O33 (by kernel_rfl) (by kernel_rfl) ?_;intro KR kR;simp only [O33,ordl,↓reduceIte,reduceCtorEq,Nat.reduceEqDiff])))
    (repeat' (first|((with_reducible first|refine Oz ?_|refine Rv ?_|refine Rl ?_|refine Rg ?_|refine Re ?_|refine Nz ?_);intro K hK;simp (disch := omega) only [go_sem,seval];(try ((with_reducible first|refine Gt ?_|refine Gb ?_|refine Gn ?_|refine Gs ?_|refine Gv rfl ?_);simp (disch := omega) only [go_sem,seval]));((repeat (first|(intro (xb : Blk))|(intro (xk : Nat))|(intro hx)|(refine ⟨by (first|omega|(intro hg;simp [-List.getD_eq_getElem?_getD] at hg;omega)|assumption|decide),?_⟩)));refine hK _ ?_;clear K hK))|((with_reducible first|refine Onq ?_|refine Rn ?_);simp only [go_sem,seval,L33,O33,L61,O61];refine kR _ ?_;clear KR kR)|(simp only [thenE,inB,↓reduceIte,reduceCtorEq,Nat.reduceEqDiff])|((with_reducible (first|refine Rb ?_ ?_|refine Rc ?_ ?_ ?_));all_goals (simp only [↓reduceIte,reduceCtorEq,Nat.reduceEqDiff]))))
    (with_reducible (first|refine Aq ?_|(refine Ar ?_;intro KR kR)|refine Ab ?_|refine As ?_|refine Ae ?_|refine At ?_|refine Al ?_|refine Ag ?_|(refine Ad O33 (by kernel_rfl) (by kernel_rfl) ?_;intro KR kR;simp only [O33,ordl,↓reduceIte,reduceCtorEq,Nat.reduceEqDiff])))
    (refine awp_gh (.ren 1017 5000) ?_;simp (disch := omega) only [ghK,go_sem,seval];(repeat (refine ⟨by (first|omega|(intro hg;simp [-List.getD_eq_getElem?_getD] at hg;omega)|assumption|decide),?_⟩)))
    generalize xk = k0
    (repeat (first|(with_reducible (first|refine Aq ?_|(refine Ar ?_;intro KR kR)|refine Ab ?_|refine As ?_|refine Ae ?_|refine At ?_|refine Al ?_|refine Ag ?_|(refine Ad O33 (by kernel_rfl) (by kernel_rfl) ?_;intro KR kR;simp only [O33,ordl,↓reduceIte,reduceCtorEq,Nat.reduceEqDiff])))|((with_reducible first|refine Oz ?_|refine Rv ?_|refine Rl ?_|refine Rg ?_|refine Re ?_|refine Nz ?_);intro K hK;simp (disch := omega) only [go_sem,seval];(try ((with_reducible first|refine Gt ?_|refine Gb ?_|refine Gn ?_|refine Gs ?_|refine Gv rfl ?_);simp (disch := omega) only [go_sem,seval]));((repeat (first|(intro (xb : Blk))|(intro (xk : Nat))|(intro hx)|(refine ⟨by (first|omega|(intro hg;simp [-List.getD_eq_getElem?_getD] at hg;omega)|assumption|decide),?_⟩)));refine hK _ ?_;clear K hK))|((with_reducible first|refine Onq ?_|refine Rn ?_);simp only [go_sem,seval,L33,O33,L61,O61];refine kR _ ?_;clear KR kR)|(simp only [thenE,inB,↓reduceIte,reduceCtorEq,Nat.reduceEqDiff])))
    ((with_reducible (first|refine Oz ?_|refine Rg ?_|refine Re ?_|refine Nz ?_));intro K hK;simp (disch := omega) only [go_sem,seval];(try ((with_reducible refine Gt ?_);simp (disch := omega) only [go_sem,seval]));refine ⟨[5000],by simp,by simp [Env.sel,Env.get,Env.keys,AV.isS],?_⟩;simp (disch := omega) only [go_sem,seval];refine ⟨_,_,ContractH.n (next_ok l w t 0 k0 1 ((l.length : Int) - 1) 0 (by omega) ht),?_⟩;intro r H' hr hk;(try obtain rfl := keys_nil hk);(obtain ⟨rfl,rfl⟩ := hr);(try simp (disch := omega) only [AV.flat,AC.flat,AC.flat.flatL,AC.flat.flatLL,go_sem,seval]);((repeat (first|(intro (xb : Blk))|(intro (xk : Nat))|(intro hx)|(refine ⟨by (first|omega|(intro hg;simp [-List.getD_eq_getElem?_getD] at hg;omega)|assumption|decide),?_⟩)));refine hK _ ?_;clear K hK))
    cases h1 : (nxF w t 0 1 ((l.length : Int) - 1) 0).2.1 with
    | false =>
      (repeat (first|(with_reducible (first|refine Aq ?_|(refine Ar ?_;intro KR kR)|refine Ab ?_|refine As ?_|refine Ae ?_|refine At ?_|refine Al ?_|refine Ag ?_|(refine Ad O33 (by kernel_rfl) (by kernel_rfl) ?_;intro KR kR;simp only [O33,ordl,↓reduceIte,reduceCtorEq,Nat.reduceEqDiff])))|((with_reducible first|refine Oz ?_|refine Rv ?_|refine Rl ?_|refine Rg ?_|refine Re ?_|refine Nz ?_);intro K hK;simp (disch := omega) only [go_sem,seval];(try ((with_reducible first|refine Gt ?_|refine Gb ?_|refine Gn ?_|refine Gs ?_|refine Gv rfl ?_);simp (disch := omega) only [go_sem,seval]));((repeat (first|(intro (xb : Blk))|(intro (xk : Nat))|(intro hx)|(refine ⟨by (first|omega|(intro hg;simp [-List.getD_eq_getElem?_getD] at hg;omega)|assumption|decide),?_⟩)));refine hK _ ?_;clear K hK))|((with_reducible first|refine Onq ?_|refine Rn ?_);simp only [go_sem,seval,L33,O33,L61,O61];refine kR _ ?_;clear KR kR)|(simp only [thenE,inB,↓reduceIte,reduceCtorEq,Nat.reduceEqDiff])))
      (simp only [retQ,Try.results33];simp (disch := omega) only [resK,resT,resAV,Env.sel,Env.keys,List.map_nil,List.map_cons,List.all_nil,List.all_cons,AV.isS,Bool.not_false,Bool.and_self,Option.map_some,List.length_cons,List.length_nil,Nat.zero_add,Nat.reduceAdd,not_false_eq_true,true_and,and_true,ne_eq,go_sem,seval,ne_eq])
      rw [eR,h1];rfl
    | true =>
      by_cases h2 : (nxF w t 0 1 ((l.length : Int) - 1) 0).1.t = (w.length : Int)
      · obtain ⟨x1,x2,x3⟩ := xx h1 (by omega) (by omega) (by omega) (by omega)
        (repeat (first|(with_reducible (first|refine Aq ?_|(refine Ar ?_;intro KR kR)|refine Ab ?_|refine As ?_|refine Ae ?_|refine At ?_|refine Al ?_|refine Ag ?_|(refine Ad O33 (by kernel_rfl) (by kernel_rfl) ?_;intro KR kR;simp only [O33,ordl,↓reduceIte,reduceCtorEq,Nat.reduceEqDiff])))|((with_reducible first|refine Oz ?_|refine Rv ?_|refine Rl ?_|refine Rg ?_|refine Re ?_|refine Nz ?_);intro K hK;simp (disch := omega) only [go_sem,seval];(try ((with_reducible first|refine Gt ?_|refine Gb ?_|refine Gn ?_|refine Gs ?_|refine Gv rfl ?_);simp (disch := omega) only [go_sem,seval]));((repeat (first|(intro (xb : Blk))|(intro (xk : Nat))|(intro hx)|(refine ⟨by (first|omega|(intro hg;simp [-List.getD_eq_getElem?_getD] at hg;omega)|assumption|decide),?_⟩)));refine hK _ ?_;clear K hK))|((with_reducible first|refine Onq ?_|refine Rn ?_);simp only [go_sem,seval,L33,O33,L61,O61];refine kR _ ?_;clear KR kR)|(simp only [thenE,inB,↓reduceIte,reduceCtorEq,Nat.reduceEqDiff])))
        ((with_reducible (first|refine Oz ?_|refine Rg ?_|refine Re ?_|refine Nz ?_));intro K hK;simp (disch := omega) only [go_sem,seval];(try ((with_reducible refine Gt ?_);simp (disch := omega) only [go_sem,seval]));refine ⟨[5000],by simp,by simp [Env.sel,Env.get,Env.keys,AV.isS],?_⟩;simp (disch := omega) only [go_sem,seval];refine ⟨_,_,ContractH.n (N.c (nxF w t 0 1 ((l.length : Int) - 1) 0).1 (nxF w t 0 1 ((l.length : Int) - 1) 0).2.2 k0 x1 (by omega) xl),?_⟩;intro r H' hr hk;(try obtain rfl := keys_nil hk);(obtain ⟨rfl,rfl⟩ := hr);(try simp (disch := omega) only [AV.flat,AC.flat,AC.flat.flatL,AC.flat.flatLL,go_sem,seval]);((repeat (first|(intro (xb : Blk))|(intro (xk : Nat))|(intro hx)|(refine ⟨by (first|omega|(intro hg;simp [-List.getD_eq_getElem?_getD] at hg;omega)|assumption|decide),?_⟩)));refine hK _ ?_;clear K hK))
        cases h3 : (nodeF l w t l.length (nxF w t 0 1 ((l.length : Int) - 1) 0).1 (nxF w t 0 1 ((l.length : Int) - 1) 0).2.2).1 with
        | false =>
          (repeat (first|(with_reducible (first|refine Aq ?_|(refine Ar ?_;intro KR kR)|refine Ab ?_|refine As ?_|refine Ae ?_|refine At ?_|refine Al ?_|refine Ag ?_|(refine Ad O33 (by kernel_rfl) (by kernel_rfl) ?_;intro KR kR;simp only [O33,ordl,↓reduceIte,reduceCtorEq,Nat.reduceEqDiff])))|((with_reducible first|refine Oz ?_|refine Rv ?_|refine Rl ?_|refine Rg ?_|refine Re ?_|refine Nz ?_);intro K hK;simp (disch := omega) only [go_sem,seval];(try ((with_reducible first|refine Gt ?_|refine Gb ?_|refine Gn ?_|refine Gs ?_|refine Gv rfl ?_);simp (disch := omega) only [go_sem,seval]));((repeat (first|(intro (xb : Blk))|(intro (xk : Nat))|(intro hx)|(refine ⟨by (first|omega|(intro hg;simp [-List.getD_eq_getElem?_getD] at hg;omega)|assumption|decide),?_⟩)));refine hK _ ?_;clear K hK))|((with_reducible first|refine Onq ?_|refine Rn ?_);simp only [go_sem,seval,L33,O33,L61,O61];refine kR _ ?_;clear KR kR)|(simp only [thenE,inB,↓reduceIte,reduceCtorEq,Nat.reduceEqDiff])))
          (simp only [retQ,Try.results33];simp (disch := omega) only [resK,resT,resAV,Env.sel,Env.keys,List.map_nil,List.map_cons,List.all_nil,List.all_cons,AV.isS,Bool.not_false,Bool.and_self,Option.map_some,List.length_cons,List.length_nil,Nat.zero_add,Nat.reduceAdd,not_false_eq_true,true_and,and_true,ne_eq,go_sem,seval,ne_eq])
          rw [eR,h1,h3];simp
        | true =>
          (repeat (first|(with_reducible (first|refine Aq ?_|(refine Ar ?_;intro KR kR)|refine Ab ?_|refine As ?_|refine Ae ?_|refine At ?_|refine Al ?_|refine Ag ?_|(refine Ad O33 (by kernel_rfl) (by kernel_rfl) ?_;intro KR kR;simp only [O33,ordl,↓reduceIte,reduceCtorEq,Nat.reduceEqDiff])))|((with_reducible first|refine Oz ?_|refine Rv ?_|refine Rl ?_|refine Rg ?_|refine Re ?_|refine Nz ?_);intro K hK;simp (disch := omega) only [go_sem,seval];(try ((with_reducible first|refine Gt ?_|refine Gb ?_|refine Gn ?_|refine Gs ?_|refine Gv rfl ?_);simp (disch := omega) only [go_sem,seval]));((repeat (first|(intro (xb : Blk))|(intro (xk : Nat))|(intro hx)|(refine ⟨by (first|omega|(intro hg;simp [-List.getD_eq_getElem?_getD] at hg;omega)|assumption|decide),?_⟩)));refine hK _ ?_;clear K hK))|((with_reducible first|refine Onq ?_|refine Rn ?_);simp only [go_sem,seval,L33,O33,L61,O61];refine kR _ ?_;clear KR kR)|(simp only [thenE,inB,↓reduceIte,reduceCtorEq,Nat.reduceEqDiff])))
          (simp only [retQ,Try.results33];simp (disch := omega) only [resK,resT,resAV,Env.sel,Env.keys,List.map_nil,List.map_cons,List.all_nil,List.all_cons,AV.isS,Bool.not_false,Bool.and_self,Option.map_some,List.length_cons,List.length_nil,Nat.zero_add,Nat.reduceAdd,not_false_eq_true,true_and,and_true,ne_eq,go_sem,seval,ne_eq])
          rw [eR,h1,h3,beT h2];simp
      · (repeat (first|(with_reducible (first|refine Aq ?_|(refine Ar ?_;intro KR kR)|refine Ab ?_|refine As ?_|refine Ae ?_|refine At ?_|refine Al ?_|refine Ag ?_|(refine Ad O33 (by kernel_rfl) (by kernel_rfl) ?_;intro KR kR;simp only [O33,ordl,↓reduceIte,reduceCtorEq,Nat.reduceEqDiff])))|((with_reducible first|refine Oz ?_|refine Rv ?_|refine Rl ?_|refine Rg ?_|refine Re ?_|refine Nz ?_);intro K hK;simp (disch := omega) only [go_sem,seval];(try ((with_reducible first|refine Gt ?_|refine Gb ?_|refine Gn ?_|refine Gs ?_|refine Gv rfl ?_);simp (disch := omega) only [go_sem,seval]));((repeat (first|(intro (xb : Blk))|(intro (xk : Nat))|(intro hx)|(refine ⟨by (first|omega|(intro hg;simp [-List.getD_eq_getElem?_getD] at hg;omega)|assumption|decide),?_⟩)));refine hK _ ?_;clear K hK))|((with_reducible first|refine Onq ?_|refine Rn ?_);simp only [go_sem,seval,L33,O33,L61,O61];refine kR _ ?_;clear KR kR)|(simp only [thenE,inB,↓reduceIte,reduceCtorEq,Nat.reduceEqDiff])))
        (simp only [retQ,Try.results33];simp (disch := omega) only [resK,resT,resAV,Env.sel,Env.keys,List.map_nil,List.map_cons,List.all_nil,List.all_cons,AV.isS,Bool.not_false,Bool.and_self,Option.map_some,List.length_cons,List.length_nil,Nat.zero_add,Nat.reduceAdd,not_false_eq_true,true_and,and_true,ne_eq,go_sem,seval,ne_eq])
        rw [eR,h1,beF h2];simp

def stepF (s fr : Int) (out : List En) (op : List Nat) : Bool × List En × List Nat :=
  if s < 0 ∨ (op = [] ∧ out ≠ []) then (false,out,op)
  else if s % 2 = 0 then (true,out ++ [⟨((op.length + 1 : Nat) : Int),s / 2,fr,0⟩],out.length :: op)
  else match op with
    | [] => (false,out,[])
    | j :: op => ((enAt out j).n == s / 2,out.set j ⟨(enAt out j).d,(enAt out j).n,(enAt out j).f,fr⟩,op)

theorem step_le {s fr : Int} {out : List En} {op : List Nat} (h : ∀ j ∈ op,j < out.length) : ∀ j ∈ (stepF s fr out op).2.2,j < (stepF s fr out op).2.1.length := by
  unfold stepF
  split
  · exact h
  · split
    · intro j hj
      simp only [List.length_append,List.length_cons,List.length_nil] at hj ⊢
      cases hj with
      | head => omega
      | tail _ hj => have := h j hj;omega
    · cases op with
      | nil => intro j hj;cases hj
      | cons x op => intro j hj;simp only [List.length_set];exact h j (List.mem_cons_of_mem _ hj)

end Go.Proofs.Ytfldmpmaifjcbaa
