/-
  The nodes of a term, as data; term.fields, term.low, term.again: what they hand back.
-/
import Derived.Test.YtfldmpmaifjcbaaEq
set_option linter.unusedSimpArgs false
namespace Go.Proofs.Ytfldmpmaifjcbaa
open Go Go.Hs
def L95 (r : Nat) : Option (List Nat) := kl r [(0,[1]),(1,[1,11]),(2,[2]),(3,[1,14]),(4,[2]),(5,[2])]
def O95 (r : Nat) : List Nat × OT := ordl r []
def L94 (r : Nat) : Option (List Nat) := kl r [(0,[0,1,2]),(1,[1,2,7]),(2,[1,2,7,13]),(3,[1,2,7,13,14]),(4,[1,2,7,13,14]),(5,[2,24]),(6,[6]),(7,[1,2,7,13,26]),(8,[1,2,7,13,26]),(9,[1,7,54]),(10,[6]),(11,[1,2,7,13,60]),(12,[1,2,7,13,60]),(13,[1,2,7,13,60]),(14,[1,2,7,60]),(15,[1,7,79]),(16,[6]),(17,[6])]
def O94 (r : Nat) : List Nat × OT := ordl r [(9,([],.val 0 (.load 1 (.val 2 (.val 3 (.val 4 (.val 6 (.val 7 (.load 5 (.val 8 (.val 9 (.val 10 (.val 11 (.load 12 (.val 13 (.val 14 (.val 15 (.val 16 (.val 18 (.val 19 (.load 17 (.load 20 (.val 21 (.load 22 (.val 23 (.val 24 (.val 25 (.done))))))))))))))))))))))))))))]

structure Tm where
  k : Int
  a : Int
  b : Int
  n : Int
  s0 : Int
  s1 : Int
  s2 : Int
  s3 : Int
instance : Inhabited Tm := ⟨⟨0,0,0,0,0,0,0,0⟩⟩

def Tm.cs (t : Tm) : List AC := [.im (.int .i64 t.k),.im (.int .i64 t.a),.im (.int .i64 t.b),.im (.int .i64 t.n),.im (.int .u64 t.s0),.im (.int .u64 t.s1),.im (.int .u64 t.s2),.im (.int .u64 t.s3)]
def tRows (l : List Tm) : List (List AC) := l.map Tm.cs
def tAt (l : List Tm) (i : Nat) : Tm := l.getD i default
theorem length_tRows (l : List Tm) : (tRows l).length = l.length := by simp [tRows]
theorem tRows_get (l : List Tm) (i : Nat) : (tRows l)[i]? = (l[i]?).map Tm.cs := by simp [tRows]
theorem tAt_out {l : List Tm} {i : Nat} (h : l[i]? = none) : tAt l i = default := by simp [tAt,h]
theorem tAt_in {l : List Tm} {i : Nat} {t : Tm} (h : l[i]? = some t) : tAt l i = t := by simp [tAt,h]
theorem getK {l : List Tm} {i : Nat} : getC (.im (.int .i64 0)) (tRows l) i 0 = .im (.int .i64 (tAt l i).k) := by
  unfold getC;rw [tRows_get]
  cases h : l[i]? with
  | none => rw [tAt_out h];rfl
  | some t => rw [tAt_in h];rfl
theorem getA {l : List Tm} {i : Nat} : getC (.im (.int .i64 0)) (tRows l) i 1 = .im (.int .i64 (tAt l i).a) := by
  unfold getC;rw [tRows_get]
  cases h : l[i]? with
  | none => rw [tAt_out h];rfl
  | some t => rw [tAt_in h];rfl
theorem getB {l : List Tm} {i : Nat} : getC (.im (.int .i64 0)) (tRows l) i 2 = .im (.int .i64 (tAt l i).b) := by
  unfold getC;rw [tRows_get]
  cases h : l[i]? with
  | none => rw [tAt_out h];rfl
  | some t => rw [tAt_in h];rfl
theorem getN {l : List Tm} {i : Nat} : getC (.im (.int .i64 0)) (tRows l) i 3 = .im (.int .i64 (tAt l i).n) := by
  unfold getC;rw [tRows_get]
  cases h : l[i]? with
  | none => rw [tAt_out h];rfl
  | some t => rw [tAt_in h];rfl
theorem getTm {l : List Tm} {i : Nat} : getR [.im (.int .i64 0),.im (.int .i64 0),.im (.int .i64 0),.im (.int .i64 0),.im (.int .u64 0),.im (.int .u64 0),.im (.int .u64 0),.im (.int .u64 0)] (tRows l) i 0 8 = (tAt l i).cs := by
  unfold getR;rw [tRows_get]
  cases h : l[i]? with
  | none => rw [tAt_out h];rfl
  | some t => rw [tAt_in h];rfl
theorem getSet {l : List Tm} {i : Nat} : getR [.im (.int .u64 0),.im (.int .u64 0),.im (.int .u64 0),.im (.int .u64 0)] (tRows l) i 4 4 = [.im (.int .u64 (tAt l i).s0),.im (.int .u64 (tAt l i).s1),.im (.int .u64 (tAt l i).s2),.im (.int .u64 (tAt l i).s3)] := by
  unfold getR;rw [tRows_get]
  cases h : l[i]? with
  | none => rw [tAt_out h];rfl
  | some t => rw [tAt_in h];rfl

def Tm.noSet (t : Tm) : Bool := t.s0 == 0 && (t.s1 == 0 && (t.s2 == 0 && t.s3 == 0))

def fieldsF (t : Tm) : Bool :=
  if (t.k != 2 && !t.noSet) = true then false else if (t.k == 7) = true then decide (1 ≤ t.n) && decide (t.n ≤ 9) else t.n == 0

theorem fields_ok (t : Tm) : Contract Try.prog 95 [.agg t.cs] (.c (.im (.bool (fieldsF t)))) := by
  (refine contract_of_awp (L := L95) Try.func95 rfl (by kernel_rfl) (by first|rfl|decide) (by first|rfl|kernel_rfl) ?_;simp only [Try.ntmps95,initEnv,Env.keys,List.map_nil,List.map_cons,List.append_nil,List.cons_append,List.nil_append])
  (repeat (first|(with_reducible (first|refine Aq ?_|(refine Ar ?_;intro KR kR)|refine Ab ?_|refine As ?_|refine Ae ?_|refine At ?_|refine Al ?_|refine Ag ?_|(refine Ad O95 (by kernel_rfl) (by kernel_rfl) ?_;intro KR kR;simp only [O95,ordl,↓reduceIte,reduceCtorEq,Nat.reduceEqDiff])))|((with_reducible first|refine Oz ?_|refine Rv ?_|refine Rl ?_|refine Rg ?_|refine Re ?_|refine Nz ?_);intro K hK;simp (disch := omega) only [go_sem,seval,Tm.cs,binSet,length_tRows,getK,getA,getB,getN,getTm,getSet];(try ((with_reducible first|refine Gt ?_|refine Gv rfl ?_);simp (disch := omega) only [go_sem,seval,Tm.cs,binSet,length_tRows,getK,getA,getB,getN,getTm,getSet]));((repeat (first|(intro (xb : Blk))|(intro (xk : Nat))|(intro hx)|(refine ⟨by (first|omega|(intro hg;simp [-List.getD_eq_getElem?_getD] at hg;omega)|assumption|decide),?_⟩)));refine hK _ ?_;clear K hK))|((with_reducible first|refine Onq ?_|refine Rn ?_);simp only [go_sem,seval,L94,O94,L95,O95];refine kR _ ?_;clear KR kR)|(simp only [thenE,inB,↓reduceIte,reduceCtorEq,Nat.reduceEqDiff])))
  ((with_reducible refine Ac ?_);intro K hK;simp (disch := omega) only [condK,go_sem,seval,Tm.cs,binSet,length_tRows,getK,getA,getB,getN,getTm,getSet];refine hK _ ?_ ?_;all_goals clear K hK)
  · intro h
    (repeat (first|(with_reducible (first|refine Aq ?_|(refine Ar ?_;intro KR kR)|refine Ab ?_|refine As ?_|refine Ae ?_|refine At ?_|refine Al ?_|refine Ag ?_|(refine Ad O95 (by kernel_rfl) (by kernel_rfl) ?_;intro KR kR;simp only [O95,ordl,↓reduceIte,reduceCtorEq,Nat.reduceEqDiff])))|((with_reducible first|refine Oz ?_|refine Rv ?_|refine Rl ?_|refine Rg ?_|refine Re ?_|refine Nz ?_);intro K hK;simp (disch := omega) only [go_sem,seval,Tm.cs,binSet,length_tRows,getK,getA,getB,getN,getTm,getSet];(try ((with_reducible first|refine Gt ?_|refine Gv rfl ?_);simp (disch := omega) only [go_sem,seval,Tm.cs,binSet,length_tRows,getK,getA,getB,getN,getTm,getSet]));((repeat (first|(intro (xb : Blk))|(intro (xk : Nat))|(intro hx)|(refine ⟨by (first|omega|(intro hg;simp [-List.getD_eq_getElem?_getD] at hg;omega)|assumption|decide),?_⟩)));refine hK _ ?_;clear K hK))|((with_reducible first|refine Onq ?_|refine Rn ?_);simp only [go_sem,seval,L94,O94,L95,O95];refine kR _ ?_;clear KR kR)|(simp only [thenE,inB,↓reduceIte,reduceCtorEq,Nat.reduceEqDiff])))
    (simp only [retQ,Try.results95];simp (disch := omega) only [resK,resT,resAV,Env.sel,Env.keys,List.map_nil,List.map_cons,List.all_nil,List.all_cons,AV.isS,Bool.not_false,Bool.and_self,Option.map_some,List.length_cons,List.length_nil,Nat.zero_add,Nat.reduceAdd,not_false_eq_true,true_and,and_true,ne_eq,go_sem,seval,Tm.cs,binSet,length_tRows,getK,getA,getB,getN,getTm,getSet])
    simp only [fieldsF,Tm.noSet,h,if_true]
  · intro h
    (repeat (first|(with_reducible (first|refine Aq ?_|(refine Ar ?_;intro KR kR)|refine Ab ?_|refine As ?_|refine Ae ?_|refine At ?_|refine Al ?_|refine Ag ?_|(refine Ad O95 (by kernel_rfl) (by kernel_rfl) ?_;intro KR kR;simp only [O95,ordl,↓reduceIte,reduceCtorEq,Nat.reduceEqDiff])))|((with_reducible first|refine Oz ?_|refine Rv ?_|refine Rl ?_|refine Rg ?_|refine Re ?_|refine Nz ?_);intro K hK;simp (disch := omega) only [go_sem,seval,Tm.cs,binSet,length_tRows,getK,getA,getB,getN,getTm,getSet];(try ((with_reducible first|refine Gt ?_|refine Gv rfl ?_);simp (disch := omega) only [go_sem,seval,Tm.cs,binSet,length_tRows,getK,getA,getB,getN,getTm,getSet]));((repeat (first|(intro (xb : Blk))|(intro (xk : Nat))|(intro hx)|(refine ⟨by (first|omega|(intro hg;simp [-List.getD_eq_getElem?_getD] at hg;omega)|assumption|decide),?_⟩)));refine hK _ ?_;clear K hK))|((with_reducible first|refine Onq ?_|refine Rn ?_);simp only [go_sem,seval,L94,O94,L95,O95];refine kR _ ?_;clear KR kR)|(simp only [thenE,inB,↓reduceIte,reduceCtorEq,Nat.reduceEqDiff])))
    ((with_reducible refine Ac ?_);intro K hK;simp (disch := omega) only [condK,go_sem,seval,Tm.cs,binSet,length_tRows,getK,getA,getB,getN,getTm,getSet];refine hK _ ?_ ?_;all_goals clear K hK)
    · intro h2
      (repeat (first|(with_reducible (first|refine Aq ?_|(refine Ar ?_;intro KR kR)|refine Ab ?_|refine As ?_|refine Ae ?_|refine At ?_|refine Al ?_|refine Ag ?_|(refine Ad O95 (by kernel_rfl) (by kernel_rfl) ?_;intro KR kR;simp only [O95,ordl,↓reduceIte,reduceCtorEq,Nat.reduceEqDiff])))|((with_reducible first|refine Oz ?_|refine Rv ?_|refine Rl ?_|refine Rg ?_|refine Re ?_|refine Nz ?_);intro K hK;simp (disch := omega) only [go_sem,seval,Tm.cs,binSet,length_tRows,getK,getA,getB,getN,getTm,getSet];(try ((with_reducible first|refine Gt ?_|refine Gv rfl ?_);simp (disch := omega) only [go_sem,seval,Tm.cs,binSet,length_tRows,getK,getA,getB,getN,getTm,getSet]));((repeat (first|(intro (xb : Blk))|(intro (xk : Nat))|(intro hx)|(refine ⟨by (first|omega|(intro hg;simp [-List.getD_eq_getElem?_getD] at hg;omega)|assumption|decide),?_⟩)));refine hK _ ?_;clear K hK))|((with_reducible first|refine Onq ?_|refine Rn ?_);simp only [go_sem,seval,L94,O94,L95,O95];refine kR _ ?_;clear KR kR)|(simp only [thenE,inB,↓reduceIte,reduceCtorEq,Nat.reduceEqDiff])))
      (simp only [retQ,Try.results95];simp (disch := omega) only [resK,resT,resAV,Env.sel,Env.keys,List.map_nil,List.map_cons,List.all_nil,List.all_cons,AV.isS,Bool.not_false,Bool.and_self,Option.map_some,List.length_cons,List.length_nil,Nat.zero_add,Nat.reduceAdd,not_false_eq_true,true_and,and_true,ne_eq,go_sem,seval,Tm.cs,binSet,length_tRows,getK,getA,getB,getN,getTm,getSet])
      simp only [fieldsF,Tm.noSet,h,h2,if_true,Bool.false_eq_true,if_false]
    · intro h2
      (repeat (first|(with_reducible (first|refine Aq ?_|(refine Ar ?_;intro KR kR)|refine Ab ?_|refine As ?_|refine Ae ?_|refine At ?_|refine Al ?_|refine Ag ?_|(refine Ad O95 (by kernel_rfl) (by kernel_rfl) ?_;intro KR kR;simp only [O95,ordl,↓reduceIte,reduceCtorEq,Nat.reduceEqDiff])))|((with_reducible first|refine Oz ?_|refine Rv ?_|refine Rl ?_|refine Rg ?_|refine Re ?_|refine Nz ?_);intro K hK;simp (disch := omega) only [go_sem,seval,Tm.cs,binSet,length_tRows,getK,getA,getB,getN,getTm,getSet];(try ((with_reducible first|refine Gt ?_|refine Gv rfl ?_);simp (disch := omega) only [go_sem,seval,Tm.cs,binSet,length_tRows,getK,getA,getB,getN,getTm,getSet]));((repeat (first|(intro (xb : Blk))|(intro (xk : Nat))|(intro hx)|(refine ⟨by (first|omega|(intro hg;simp [-List.getD_eq_getElem?_getD] at hg;omega)|assumption|decide),?_⟩)));refine hK _ ?_;clear K hK))|((with_reducible first|refine Onq ?_|refine Rn ?_);simp only [go_sem,seval,L94,O94,L95,O95];refine kR _ ?_;clear KR kR)|(simp only [thenE,inB,↓reduceIte,reduceCtorEq,Nat.reduceEqDiff])))
      (simp only [retQ,Try.results95];simp (disch := omega) only [resK,resT,resAV,Env.sel,Env.keys,List.map_nil,List.map_cons,List.all_nil,List.all_cons,AV.isS,Bool.not_false,Bool.and_self,Option.map_some,List.length_cons,List.length_nil,Nat.zero_add,Nat.reduceAdd,not_false_eq_true,true_and,and_true,ne_eq,go_sem,seval,Tm.cs,binSet,length_tRows,getK,getA,getB,getN,getTm,getSet])
      simp only [fieldsF,Tm.noSet,h,h2,if_true,Bool.false_eq_true,if_false]

/-- The first node of what node i is, by those of the ones ahead. -/
def lowF (t : Tm) (o : List Int) (i : Nat) : Int :=
  if t.k = 1 ∨ t.k = 2 then (if t.a = -1 ∧ t.b = -1 then i else -1)
  else if t.k = 3 ∨ t.k = 4 then (if 0 ≤ t.b ∧ t.b = i - 1 ∧ 0 ≤ t.a ∧ t.a = o.getD t.b.toNat 0 - 1 then o.getD t.a.toNat 0 else -1)
  else if t.k = 5 ∨ t.k = 6 ∨ t.k = 7 ∨ t.k = 8 then (if t.b = -1 ∧ 0 ≤ t.a ∧ t.a = i - 1 then o.getD t.a.toNat 0 else -1)
  else -1

theorem low_ok (l : List Tm) (o : List Int) (i : Nat) (hi : i < l.length) (hl : l.length ≤ 1000000) (hol : o.length = i) (ho : ∀ j : Nat,0 ≤ o.getD j 0 ∧ o.getD j 0 ≤ j) :
    Contract Try.prog 94 [.c (.sl 8 (tRows l)),.c (.sl 1 (kRows .i64 o)),.c (.im (.int .i64 i))] (.c (.im (.int .i64 (lowF (tAt l i) o i)))) := by
  have hob := ho (tAt l i).b.toNat
  have hob2 : o.getD (tAt l i).b.toNat 0 ≤ i := by
    by_cases h : (tAt l i).b.toNat < o.length
    · omega
    · simp [List.getD_eq_getElem?_getD,List.getElem?_eq_none (by omega : o.length ≤ (tAt l i).b.toNat)]
  (refine contract_of_awp (L := L94) Try.func94 rfl (by kernel_rfl) (by first|rfl|decide) (by first|rfl|kernel_rfl) ?_;simp only [Try.ntmps94,initEnv,Env.keys,List.map_nil,List.map_cons,List.append_nil,List.cons_append,List.nil_append])
  (repeat' (first|(with_reducible (first|refine Aq ?_|(refine Ar ?_;intro KR kR)|refine Ab ?_|refine As ?_|refine Ae ?_|refine At ?_|refine Al ?_|refine Ag ?_|(refine Ad O94 (by kernel_rfl) (by kernel_rfl) ?_;intro KR kR;simp only [O94,ordl,↓reduceIte,reduceCtorEq,Nat.reduceEqDiff])))|((with_reducible first|refine Oz ?_|refine Rv ?_|refine Rl ?_|refine Rg ?_|refine Re ?_|refine Nz ?_);intro K hK;simp (disch := omega) only [go_sem,seval,Tm.cs,binSet,length_tRows,getK,getA,getB,getN,getTm,getSet];(try ((with_reducible first|refine Gt ?_|refine Gv rfl ?_);simp (disch := omega) only [go_sem,seval,Tm.cs,binSet,length_tRows,getK,getA,getB,getN,getTm,getSet]));((repeat (first|(intro (xb : Blk))|(intro (xk : Nat))|(intro hx)|(refine ⟨by (first|omega|(intro hg;simp [-List.getD_eq_getElem?_getD] at hg;omega)|assumption|decide),?_⟩)));refine hK _ ?_;clear K hK))|((with_reducible first|refine Onq ?_|refine Rn ?_);simp only [go_sem,seval,L94,O94,L95,O95];refine kR _ ?_;clear KR kR)|(simp only [thenE,inB,↓reduceIte,reduceCtorEq,Nat.reduceEqDiff])|((with_reducible refine Ac ?_);intro K hK;simp (disch := omega) only [condK,go_sem,seval,Tm.cs,binSet,length_tRows,getK,getA,getB,getN,getTm,getSet];refine hK _ ?_ ?_;all_goals clear K hK;all_goals intro hq;all_goals (try simp only [qF,reduceCtorEq] at hq);all_goals (try (exfalso;first|exact hq|omega)))))
  all_goals (try (simp only [retQ,Try.results94];simp (disch := omega) only [resK,resT,resAV,Env.sel,Env.keys,List.map_nil,List.map_cons,List.all_nil,List.all_cons,AV.isS,Bool.not_false,Bool.and_self,Option.map_some,List.length_cons,List.length_nil,Nat.zero_add,Nat.reduceAdd,not_false_eq_true,true_and,and_true,ne_eq,go_sem,seval,Tm.cs,binSet,length_tRows,getK,getA,getB,getN,getTm,getSet]))
  all_goals (apply congrArg (fun z : Int => AV.c (AC.im (Value.int IntKind.i64 z))))
  all_goals (unfold lowF;(repeat' split))
  all_goals first|rfl|omega

end Go.Proofs.Ytfldmpmaifjcbaa
