/-
  pack.wayNumbers, standNumbers.
-/
import Derived.Test.YtglgmmoomlnghaaPk5
set_option linter.unusedSimpArgs false
set_option linter.unusedVariables false
namespace Go.Proofs.Ytglgmmoomlnghaa
open Go Go.Hs
def L73 (r : Nat) : Option (List Nat) := kl r [(0,[1]),(1,[1,3]),(2,[3,14,15,16]),(3,[3,14,15,16,17]),(4,[3,5,14,15,16]),(5,[3,14,15,16]),(6,[3,14,15,16]),(7,[2])]
def O73 (r : Nat) : List Nat × OT := ordl r []
def L50 (r : Nat) : Option (List Nat) := kl r [(0,[1]),(1,[1,3]),(2,[1,3,13,14,15]),(3,[1,3,13,14,15,16]),(4,[1,3,5,13,14,15]),(5,[1,3,13,14,15]),(6,[1,3,13,14,15]),(7,[1,3]),(8,[3,32,33,34]),(9,[3,32,33,34,35]),(10,[3,7,32,33,34]),(11,[3,32,33,34]),(12,[3,32,33,34]),(13,[2])]
def O50 (r : Nat) : List Nat × OT := ordl r []

theorem kRows2 {k : IntKind} {l : List Int} {a b : Int} : kRows k l ++ [[.im (.int k a)],[.im (.int k b)]] = kRows k (l ++ [a,b]) := by simp [kRows]
theorem kRowsA {k : IntKind} {l m : List Int} : kRows k l ++ kRows k m = kRows k (l ++ m) := by simp [kRows]
theorem flat_snoc {α : Type} {f : α → List Int} {l : List α} {z : α} {i : Nat} (h : i < l.length) : (l.take (i + 1)).flatMap f = (l.take i).flatMap f ++ f (l.getD i z) := by
  rw [List.take_add_one,List.getElem?_eq_getElem h,Option.toList_some,List.flatMap_append,List.getD_eq_getElem?_getD,List.getElem?_eq_getElem h]
  simp
theorem map_snoc {f : Int → Int} {l : List Int} {i : Nat} (h : i < l.length) : (l.take (i + 1)).map f = (l.take i).map f ++ [f (l.getD i 0)] := by
  rw [List.take_add_one,List.getElem?_eq_getElem h,Option.toList_some,List.map_append,List.getD_eq_getElem?_getD,List.getElem?_eq_getElem h]
  simp
theorem moveL_len {l : List (Int × Int)} : (l.flatMap moveL).length = 2 * l.length := by
  induction l with
  | nil => rfl
  | cons m l ih => rw [List.flatMap_cons,List.length_append,ih];simp [moveL];omega
def wayT (x : Wy) (i : Nat) : List Int := (x.to + 1) :: (x.mv.length : Int) :: (x.mv.take i).flatMap moveL
theorem wayT_len {x : Wy} {i : Nat} (h : i ≤ x.mv.length) : (wayT x i).length = 2 * i + 2 := by
  unfold wayT
  simp only [List.length_cons,moveL_len,List.length_take,Nat.min_eq_left h]
theorem wayT_go {x : Wy} {i : Nat} (h : i < x.mv.length) : wayT x i ++ [(mvAt x.mv i).1,(mvAt x.mv i).2 + 1] = wayT x (i + 1) := by
  unfold wayT
  rw [flat_snoc (z := (0,0)) h]
  simp [moveL,mvAt]
theorem wayT_end {x : Wy} : wayT x x.mv.length = wayL x := by
  unfold wayT wayL
  rw [List.take_length]
theorem wayL_len {x : Wy} : (wayL x).length = 2 * x.mv.length + 2 := by rw [← wayT_end,wayT_len (Nat.le_refl _)]
attribute [local go_sem] AV.isS Wy.cs Sd.cs length_mvRows length_wyRows length_sdRows gMv0 gMv1 gMvR gWy0 gWy1 gWyR gSd0 gSd1 gSdR xltT xltF xleT xleF xeqT xeqF xbeT xbeF xbnT xbnF kRows2 kRowsA

set_option maxRecDepth 100000 in
set_option maxHeartbeats 8000000 in
theorem wayNumbers_ok (x : Wy) (h : wyIn x) : ContractR Try.prog 73 [.agg x.cs] (fun r => ∃ b,r = .c (.own b 3 1 (kRows .i64 (wayL x)))) := by
  obtain ⟨ha,hb,hc⟩ := h
  unfold inR at ha
  unfold Wy.cs
  (refine contract_of_awp (L := L73) Try.func73 rfl (by kernel_rfl) (by first|rfl|decide) (by first|rfl|kernel_rfl) ?_;simp only [Try.ntmps73,initEnv,Env.keys,List.map_nil,List.map_cons,List.append_nil,List.cons_append,List.nil_append])
  (repeat (first|(with_reducible (first|refine Aq ?_|(refine Ar ?_;intro KR kR)|refine Ab ?_|refine As ?_|refine Ae ?_|refine At ?_|refine Al ?_|refine Ag ?_|(refine Ad O73 (by kernel_rfl) (by kernel_rfl) ?_;intro KR kR;simp only [O73,ordl,↓reduceIte,reduceCtorEq,Nat.reduceEqDiff])))|((with_reducible first|refine Oz ?_|refine Rv ?_|refine Rl ?_|refine Rg ?_|refine Re ?_|refine Nz ?_);intro K hK;simp (disch := omega) only [go_sem,seval];(try ((with_reducible first|refine Gt ?_|refine gopO_f rfl ?_|refine Gv rfl ?_);simp (disch := omega) only [go_sem,seval]));((repeat (first|(intro (xb : Blk))|(intro (xk : Nat))|(intro hx)|(refine ⟨by (first|omega|(intro hg;simp [-List.getD_eq_getElem?_getD] at hg;omega)|assumption|decide),?_⟩)));refine hK _ ?_;clear K hK))|((with_reducible first|refine Onq ?_|refine Rn ?_);simp only [go_sem,seval,L50,O50,L73,O73];refine kR _ ?_;clear KR kR)|(simp only [thenE,inB,↓reduceIte,reduceCtorEq,Nat.reduceEqDiff])))
  refine awp_loop [3,14,15,16,1012] (fun k S => ∃ (i : Nat) (nb : Blk),i ≤ x.mv.length ∧ k + i = x.mv.length ∧ S = [(3,.c (.ref 1012 [] nb 1 0 (wayT x i).length)),(14,.c (.sl 2 (mvRows x.mv))),(15,.c (.im (.int .i64 x.mv.length))),(16,.c (.im (.int .i64 i))),(1012,.row nb 3 1 (kRows .i64 (wayT x i)))]) x.mv.length ⟨0,_,by omega,by omega,rfl⟩ ?_
  rintro k S' ⟨i,nb,h1,hk,rfl⟩
  have hl := wayT_len h1
  (repeat (first|(with_reducible (first|refine Aq ?_|(refine Ar ?_;intro KR kR)|refine Ab ?_|refine As ?_|refine Ae ?_|refine At ?_|refine Al ?_|refine Ag ?_|(refine Ad O73 (by kernel_rfl) (by kernel_rfl) ?_;intro KR kR;simp only [O73,ordl,↓reduceIte,reduceCtorEq,Nat.reduceEqDiff])))|((with_reducible first|refine Oz ?_|refine Rv ?_|refine Rl ?_|refine Rg ?_|refine Re ?_|refine Nz ?_);intro K hK;simp (disch := omega) only [go_sem,seval];(try ((with_reducible first|refine Gt ?_|refine gopO_f rfl ?_|refine Gv rfl ?_);simp (disch := omega) only [go_sem,seval]));((repeat (first|(intro (xb : Blk))|(intro (xk : Nat))|(intro hx)|(refine ⟨by (first|omega|(intro hg;simp [-List.getD_eq_getElem?_getD] at hg;omega)|assumption|decide),?_⟩)));refine hK _ ?_;clear K hK))|((with_reducible first|refine Onq ?_|refine Rn ?_);simp only [go_sem,seval,L50,O50,L73,O73];refine kR _ ?_;clear KR kR)|(simp only [thenE,inB,↓reduceIte,reduceCtorEq,Nat.reduceEqDiff])))
  ((with_reducible refine Ac ?_);intro K hK;simp (disch := omega) only [condK,go_sem,seval];refine hK _ ?_ ?_;all_goals clear K hK;all_goals intro hq;all_goals (try simp only [qF,reduceCtorEq] at hq);all_goals (try (exfalso;first|exact hq|omega)))
  · have hi : i < x.mv.length := by omega
    have hm := hc _ (at_mem (z := (0,0)) hi)
    rw [show x.mv.getD i (0,0) = mvAt x.mv i from rfl] at hm
    unfold mvIn inR at hm
    clear hq
    (repeat (first|(with_reducible (first|refine Aq ?_|(refine Ar ?_;intro KR kR)|refine Ab ?_|refine As ?_|refine Ae ?_|refine At ?_|refine Al ?_|refine Ag ?_|(refine Ad O73 (by kernel_rfl) (by kernel_rfl) ?_;intro KR kR;simp only [O73,ordl,↓reduceIte,reduceCtorEq,Nat.reduceEqDiff])))|((with_reducible first|refine Oz ?_|refine Rv ?_|refine Rl ?_|refine Rg ?_|refine Re ?_|refine Nz ?_);intro K hK;simp (disch := omega) only [go_sem,seval];(try ((with_reducible first|refine Gt ?_|refine gopO_f rfl ?_|refine Gv rfl ?_);simp (disch := omega) only [go_sem,seval]));((repeat (first|(intro (xb : Blk))|(intro (xk : Nat))|(intro hx)|(refine ⟨by (first|omega|(intro hg;simp [-List.getD_eq_getElem?_getD] at hg;omega)|assumption|decide),?_⟩)));refine hK _ ?_;clear K hK))|((with_reducible first|refine Onq ?_|refine Rn ?_);simp only [go_sem,seval,L50,O50,L73,O73];refine kR _ ?_;clear KR kR)|(simp only [thenE,inB,↓reduceIte,reduceCtorEq,Nat.reduceEqDiff])))
    refine gh_no ⟨x.mv.length - (i + 1),by omega,i + 1,xb,by omega,by omega,?_⟩
    rw [← wayT_go hi]
    ((try simp (disch := omega) only [List.cons.injEq,Prod.mk.injEq,AV.c.injEq,AV.agg.injEq,AV.opt.injEq,AV.tup.injEq,AV.row.injEq,AV.box.injEq,AV.mapo.injEq,AC.im.injEq,AC.sl.injEq,AC.adr.injEq,AC.ref.injEq,AC.ptr.injEq,AC.own.injEq,AC.fn.injEq,Value.int.injEq,Value.bool.injEq,Value.string.injEq,heq_eq_eq,go_sem,seval]);(try (repeat' refine And.intro ?_ ?_));all_goals (first|rfl|omega|skip))
  · have ei : i = x.mv.length := by omega
    subst ei
    (repeat (first|(with_reducible (first|refine Aq ?_|(refine Ar ?_;intro KR kR)|refine Ab ?_|refine As ?_|refine Ae ?_|refine At ?_|refine Al ?_|refine Ag ?_|(refine Ad O73 (by kernel_rfl) (by kernel_rfl) ?_;intro KR kR;simp only [O73,ordl,↓reduceIte,reduceCtorEq,Nat.reduceEqDiff])))|((with_reducible first|refine Oz ?_|refine Rv ?_|refine Rl ?_|refine Rg ?_|refine Re ?_|refine Nz ?_);intro K hK;simp (disch := omega) only [go_sem,seval];(try ((with_reducible first|refine Gt ?_|refine gopO_f rfl ?_|refine Gv rfl ?_);simp (disch := omega) only [go_sem,seval]));((repeat (first|(intro (xb : Blk))|(intro (xk : Nat))|(intro hx)|(refine ⟨by (first|omega|(intro hg;simp [-List.getD_eq_getElem?_getD] at hg;omega)|assumption|decide),?_⟩)));refine hK _ ?_;clear K hK))|((with_reducible first|refine Onq ?_|refine Rn ?_);simp only [go_sem,seval,L50,O50,L73,O73];refine kR _ ?_;clear KR kR)|(simp only [thenE,inB,↓reduceIte,reduceCtorEq,Nat.reduceEqDiff])))
    (simp only [retQ,Try.results73];simp (disch := omega) only [resK,resT,resAV,Env.sel,Env.keys,List.map_nil,List.map_cons,List.all_nil,List.all_cons,AV.isS,Bool.not_false,Bool.and_self,Option.map_some,List.length_cons,List.length_nil,Nat.zero_add,Nat.reduceAdd,not_false_eq_true,true_and,and_true,ne_eq,go_sem,seval,ne_eq])
    rw [wayT_end]
    exact ⟨_,rfl⟩
def stA (s : Sd) (i : Nat) : List Int := (s.acc.length : Int) :: (s.acc.take i).map (· + 2)
def stT (s : Sd) (i : Nat) : List Int := (s.acc.length : Int) :: (s.acc.map (· + 2) ++ (s.wy.length : Int) :: (s.wy.take i).flatMap wayL)
theorem stA_len {s : Sd} {i : Nat} (h : i ≤ s.acc.length) : (stA s i).length = i + 1 := by
  unfold stA
  simp [Nat.min_eq_left h]
theorem stA_go {s : Sd} {i : Nat} (h : i < s.acc.length) : stA s i ++ [s.acc.getD i 0 + 2] = stA s (i + 1) := by
  unfold stA
  rw [map_snoc h];rfl
theorem stA_end {s : Sd} : stA s s.acc.length ++ [(s.wy.length : Int)] = stT s 0 := by
  unfold stA stT
  rw [List.take_length];simp
theorem stT_go {s : Sd} {i : Nat} (h : i < s.wy.length) : stT s i ++ wayL (wyAt s.wy i) = stT s (i + 1) := by
  unfold stT
  rw [flat_snoc (z := Wy.z) h]
  simp [wyAt]
theorem stT_end {s : Sd} : stT s s.wy.length = standL s := by
  unfold stT standL
  rw [List.take_length]
theorem wayLs_len {l : List Wy} (h : ∀ x ∈ l,x.mv.length ≤ 2434) : (l.flatMap wayL).length ≤ 4870 * l.length := by
  induction l with
  | nil => simp
  | cons x l ih =>
    have h1 := ih fun y hy => h y (by simp [hy])
    have h2 := h x (by simp)
    rw [List.flatMap_cons,List.length_append,wayL_len,List.length_cons];omega
theorem stT_len {s : Sd} {i : Nat} (h : sdIn s) (hi : i ≤ s.wy.length) : (stT s i).length ≤ 21 + 4870 * i := by
  have h1 := h.1
  have h2 := wayLs_len (l := s.wy.take i) fun x hx => ((h.2.2.2 x (List.mem_of_mem_take hx))).2.1
  rw [List.length_take,Nat.min_eq_left hi] at h2
  unfold stT
  simp only [List.length_cons,List.length_append,List.length_map];omega
theorem standL_len {s : Sd} (h : sdIn s) : (standL s).length ≤ 1300000 := by
  have h1 := stT_len h (Nat.le_refl _)
  have h2 := h.2.2.1
  rw [stT_end] at h1;omega
set_option maxRecDepth 100000 in
set_option maxHeartbeats 8000000 in
theorem standNumbers_ok (s : Sd) (h : sdIn s) : ContractR Try.prog 50 [.agg s.cs] (fun r => ∃ b,r = .c (.own b 3 1 (kRows .i64 (standL s)))) := by
  have h0 := h
  obtain ⟨ha,hb,hc,hd⟩ := h
  have hw := fun x hx => wayNumbers_ok x (hd x hx)
  unfold Sd.cs
  unfold Wy.cs at hw
  (refine contract_of_awp (L := L50) Try.func50 rfl (by kernel_rfl) (by first|rfl|decide) (by first|rfl|kernel_rfl) ?_;simp only [Try.ntmps50,initEnv,Env.keys,List.map_nil,List.map_cons,List.append_nil,List.cons_append,List.nil_append])
  (with_reducible (first|refine Aq ?_|(refine Ar ?_;intro KR kR)|refine Ab ?_|refine As ?_|refine Ae ?_|refine At ?_|refine Al ?_|refine Ag ?_|(refine Ad O50 (by kernel_rfl) (by kernel_rfl) ?_;intro KR kR;simp only [O50,ordl,↓reduceIte,reduceCtorEq,Nat.reduceEqDiff])))
  (with_reducible (first|refine Aq ?_|(refine Ar ?_;intro KR kR)|refine Ab ?_|refine As ?_|refine Ae ?_|refine At ?_|refine Al ?_|refine Ag ?_|(refine Ad O50 (by kernel_rfl) (by kernel_rfl) ?_;intro KR kR;simp only [O50,ordl,↓reduceIte,reduceCtorEq,Nat.reduceEqDiff])))
  (repeat' (first|((with_reducible first|refine Oz ?_|refine Rv ?_|refine Rl ?_|refine Rg ?_|refine Re ?_|refine Nz ?_);intro K hK;simp (disch := omega) only [go_sem,seval];(try ((with_reducible first|refine Gt ?_|refine gopO_f rfl ?_|refine Gv rfl ?_);simp (disch := omega) only [go_sem,seval]));((repeat (first|(intro (xb : Blk))|(intro (xk : Nat))|(intro hx)|(refine ⟨by (first|omega|(intro hg;simp [-List.getD_eq_getElem?_getD] at hg;omega)|assumption|decide),?_⟩)));refine hK _ ?_;clear K hK))|((with_reducible first|refine Onq ?_|refine Rn ?_);simp only [go_sem,seval,L50,O50,L73,O73];refine kR _ ?_;clear KR kR)|(simp only [thenE,inB,↓reduceIte,reduceCtorEq,Nat.reduceEqDiff])|((with_reducible (first|refine Rb ?_ ?_|refine Rc ?_ ?_ ?_));all_goals (simp only [↓reduceIte,reduceCtorEq,Nat.reduceEqDiff]))))
  generalize xk = kx
  (repeat (first|(with_reducible (first|refine Aq ?_|(refine Ar ?_;intro KR kR)|refine Ab ?_|refine As ?_|refine Ae ?_|refine At ?_|refine Al ?_|refine Ag ?_|(refine Ad O50 (by kernel_rfl) (by kernel_rfl) ?_;intro KR kR;simp only [O50,ordl,↓reduceIte,reduceCtorEq,Nat.reduceEqDiff])))|((with_reducible first|refine Oz ?_|refine Rv ?_|refine Rl ?_|refine Rg ?_|refine Re ?_|refine Nz ?_);intro K hK;simp (disch := omega) only [go_sem,seval];(try ((with_reducible first|refine Gt ?_|refine gopO_f rfl ?_|refine Gv rfl ?_);simp (disch := omega) only [go_sem,seval]));((repeat (first|(intro (xb : Blk))|(intro (xk : Nat))|(intro hx)|(refine ⟨by (first|omega|(intro hg;simp [-List.getD_eq_getElem?_getD] at hg;omega)|assumption|decide),?_⟩)));refine hK _ ?_;clear K hK))|((with_reducible first|refine Onq ?_|refine Rn ?_);simp only [go_sem,seval,L50,O50,L73,O73];refine kR _ ?_;clear KR kR)|(simp only [thenE,inB,↓reduceIte,reduceCtorEq,Nat.reduceEqDiff])))
  refine awp_loop [1,3,13,14,15,1001,1011] (fun k S => ∃ (i : Nat) (nb : Blk),i ≤ s.acc.length ∧ k + i = s.acc.length ∧ S = [(1,.c (.ptr 1001 [] kx 2 0 0)),(3,.c (.ref 1011 [] nb 1 0 (stA s i).length)),(13,.c (.sl 1 (kRows .i64 s.acc))),(14,.c (.im (.int .i64 s.acc.length))),(15,.c (.im (.int .i64 i))),(1001,.box kx 91 [.sl 1 (kRows .i64 s.acc),.sl 2 (wyRows s.wy)]),(1011,.row nb 3 1 (kRows .i64 (stA s i)))]) s.acc.length ⟨0,_,by omega,by omega,rfl⟩ ?_
  rintro k S' ⟨i,nb,h1,hk,rfl⟩
  have hl := stA_len h1
  (repeat (first|(with_reducible (first|refine Aq ?_|(refine Ar ?_;intro KR kR)|refine Ab ?_|refine As ?_|refine Ae ?_|refine At ?_|refine Al ?_|refine Ag ?_|(refine Ad O50 (by kernel_rfl) (by kernel_rfl) ?_;intro KR kR;simp only [O50,ordl,↓reduceIte,reduceCtorEq,Nat.reduceEqDiff])))|((with_reducible first|refine Oz ?_|refine Rv ?_|refine Rl ?_|refine Rg ?_|refine Re ?_|refine Nz ?_);intro K hK;simp (disch := omega) only [go_sem,seval];(try ((with_reducible first|refine Gt ?_|refine gopO_f rfl ?_|refine Gv rfl ?_);simp (disch := omega) only [go_sem,seval]));((repeat (first|(intro (xb : Blk))|(intro (xk : Nat))|(intro hx)|(refine ⟨by (first|omega|(intro hg;simp [-List.getD_eq_getElem?_getD] at hg;omega)|assumption|decide),?_⟩)));refine hK _ ?_;clear K hK))|((with_reducible first|refine Onq ?_|refine Rn ?_);simp only [go_sem,seval,L50,O50,L73,O73];refine kR _ ?_;clear KR kR)|(simp only [thenE,inB,↓reduceIte,reduceCtorEq,Nat.reduceEqDiff])))
  ((with_reducible refine Ac ?_);intro K hK;simp (disch := omega) only [condK,go_sem,seval];refine hK _ ?_ ?_;all_goals clear K hK;all_goals intro hq;all_goals (try simp only [qF,reduceCtorEq] at hq);all_goals (try (exfalso;first|exact hq|omega)))
  · have hi : i < s.acc.length := by omega
    have hm := hb _ (at_mem (z := 0) hi)
    unfold inR at hm
    clear hq
    (repeat (first|(with_reducible (first|refine Aq ?_|(refine Ar ?_;intro KR kR)|refine Ab ?_|refine As ?_|refine Ae ?_|refine At ?_|refine Al ?_|refine Ag ?_|(refine Ad O50 (by kernel_rfl) (by kernel_rfl) ?_;intro KR kR;simp only [O50,ordl,↓reduceIte,reduceCtorEq,Nat.reduceEqDiff])))|((with_reducible first|refine Oz ?_|refine Rv ?_|refine Rl ?_|refine Rg ?_|refine Re ?_|refine Nz ?_);intro K hK;simp (disch := omega) only [go_sem,seval];(try ((with_reducible first|refine Gt ?_|refine gopO_f rfl ?_|refine Gv rfl ?_);simp (disch := omega) only [go_sem,seval]));((repeat (first|(intro (xb : Blk))|(intro (xk : Nat))|(intro hx)|(refine ⟨by (first|omega|(intro hg;simp [-List.getD_eq_getElem?_getD] at hg;omega)|assumption|decide),?_⟩)));refine hK _ ?_;clear K hK))|((with_reducible first|refine Onq ?_|refine Rn ?_);simp only [go_sem,seval,L50,O50,L73,O73];refine kR _ ?_;clear KR kR)|(simp only [thenE,inB,↓reduceIte,reduceCtorEq,Nat.reduceEqDiff])))
    refine gh_no ⟨s.acc.length - (i + 1),by omega,i + 1,xb,by omega,by omega,?_⟩
    rw [← stA_go hi]
    ((try simp (disch := omega) only [List.cons.injEq,Prod.mk.injEq,AV.c.injEq,AV.agg.injEq,AV.opt.injEq,AV.tup.injEq,AV.row.injEq,AV.box.injEq,AV.mapo.injEq,AC.im.injEq,AC.sl.injEq,AC.adr.injEq,AC.ref.injEq,AC.ptr.injEq,AC.own.injEq,AC.fn.injEq,Value.int.injEq,Value.bool.injEq,Value.string.injEq,heq_eq_eq,go_sem,seval]);(try (repeat' refine And.intro ?_ ?_));all_goals (first|rfl|omega|skip))
  · have ei : i = s.acc.length := by omega
    subst ei
    (repeat (first|(with_reducible (first|refine Aq ?_|(refine Ar ?_;intro KR kR)|refine Ab ?_|refine As ?_|refine Ae ?_|refine At ?_|refine Al ?_|refine Ag ?_|(refine Ad O50 (by kernel_rfl) (by kernel_rfl) ?_;intro KR kR;simp only [O50,ordl,↓reduceIte,reduceCtorEq,Nat.reduceEqDiff])))|((with_reducible first|refine Oz ?_|refine Rv ?_|refine Rl ?_|refine Rg ?_|refine Re ?_|refine Nz ?_);intro K hK;simp (disch := omega) only [go_sem,seval];(try ((with_reducible first|refine Gt ?_|refine gopO_f rfl ?_|refine Gv rfl ?_);simp (disch := omega) only [go_sem,seval]));((repeat (first|(intro (xb : Blk))|(intro (xk : Nat))|(intro hx)|(refine ⟨by (first|omega|(intro hg;simp [-List.getD_eq_getElem?_getD] at hg;omega)|assumption|decide),?_⟩)));refine hK _ ?_;clear K hK))|((with_reducible first|refine Onq ?_|refine Rn ?_);simp only [go_sem,seval,L50,O50,L73,O73];refine kR _ ?_;clear KR kR)|(simp only [thenE,inB,↓reduceIte,reduceCtorEq,Nat.reduceEqDiff])))
    have e : (stA s s.acc.length).length + 1 = (stT s 0).length := by rw [← stA_end];simp
    rw [stA_end,e]
    refine awp_loop [3,32,33,34,1011] (fun k S => ∃ (i : Nat) (nb : Blk),i ≤ s.wy.length ∧ k + i = s.wy.length ∧ S = [(3,.c (.ref 1011 [] nb 1 0 (stT s i).length)),(32,.c (.sl 2 (wyRows s.wy))),(33,.c (.im (.int .i64 s.wy.length))),(34,.c (.im (.int .i64 i))),(1011,.row nb 3 1 (kRows .i64 (stT s i)))]) s.wy.length ⟨0,xb,by omega,by omega,rfl⟩ ?_
    rintro k2 S' ⟨i,nb2,g1,gk,rfl⟩
    have gl := stT_len h0 g1
    (repeat (first|(with_reducible (first|refine Aq ?_|(refine Ar ?_;intro KR kR)|refine Ab ?_|refine As ?_|refine Ae ?_|refine At ?_|refine Al ?_|refine Ag ?_|(refine Ad O50 (by kernel_rfl) (by kernel_rfl) ?_;intro KR kR;simp only [O50,ordl,↓reduceIte,reduceCtorEq,Nat.reduceEqDiff])))|((with_reducible first|refine Oz ?_|refine Rv ?_|refine Rl ?_|refine Rg ?_|refine Re ?_|refine Nz ?_);intro K hK;simp (disch := omega) only [go_sem,seval];(try ((with_reducible first|refine Gt ?_|refine gopO_f rfl ?_|refine Gv rfl ?_);simp (disch := omega) only [go_sem,seval]));((repeat (first|(intro (xb : Blk))|(intro (xk : Nat))|(intro hx)|(refine ⟨by (first|omega|(intro hg;simp [-List.getD_eq_getElem?_getD] at hg;omega)|assumption|decide),?_⟩)));refine hK _ ?_;clear K hK))|((with_reducible first|refine Onq ?_|refine Rn ?_);simp only [go_sem,seval,L50,O50,L73,O73];refine kR _ ?_;clear KR kR)|(simp only [thenE,inB,↓reduceIte,reduceCtorEq,Nat.reduceEqDiff])))
    ((with_reducible refine Ac ?_);intro K hK;simp (disch := omega) only [condK,go_sem,seval];refine hK _ ?_ ?_;all_goals clear K hK;all_goals intro hq;all_goals (try simp only [qF,reduceCtorEq] at hq);all_goals (try (exfalso;first|exact hq|omega)))
    · have hi : i < s.wy.length := by omega
      have hx := at_mem (z := Wy.z) hi
      have hwi := hw _ hx
      have gl2 : (wayL (wyAt s.wy i)).length ≤ 4870 := by
        have := (hd _ hx).2.1
        rw [wayL_len]
        rw [show s.wy.getD i Wy.z = wyAt s.wy i from rfl] at this
        omega
      rw [show s.wy.getD i Wy.z = wyAt s.wy i from rfl] at hwi
      clear hq
      (repeat (first|(with_reducible (first|refine Aq ?_|(refine Ar ?_;intro KR kR)|refine Ab ?_|refine As ?_|refine Ae ?_|refine At ?_|refine Al ?_|refine Ag ?_|(refine Ad O50 (by kernel_rfl) (by kernel_rfl) ?_;intro KR kR;simp only [O50,ordl,↓reduceIte,reduceCtorEq,Nat.reduceEqDiff])))|((with_reducible first|refine Oz ?_|refine Rv ?_|refine Rl ?_|refine Rg ?_|refine Re ?_|refine Nz ?_);intro K hK;simp (disch := omega) only [go_sem,seval];(try ((with_reducible first|refine Gt ?_|refine gopO_f rfl ?_|refine Gv rfl ?_);simp (disch := omega) only [go_sem,seval]));((repeat (first|(intro (xb : Blk))|(intro (xk : Nat))|(intro hx)|(refine ⟨by (first|omega|(intro hg;simp [-List.getD_eq_getElem?_getD] at hg;omega)|assumption|decide),?_⟩)));refine hK _ ?_;clear K hK))|((with_reducible first|refine Onq ?_|refine Rn ?_);simp only [go_sem,seval,L50,O50,L73,O73];refine kR _ ?_;clear KR kR)|(simp only [thenE,inB,↓reduceIte,reduceCtorEq,Nat.reduceEqDiff])))
      ((with_reducible (first|refine Oz ?_|refine Rg ?_|refine Re ?_|refine Nz ?_));intro K hK;simp (disch := omega) only [go_sem,seval];(try ((with_reducible refine Gt ?_);simp (disch := omega) only [go_sem,seval]));refine ⟨[],by simp,by simp [Env.sel,Env.get,Env.keys,AV.isS],?_⟩;simp (disch := omega) only [go_sem,seval];refine ⟨_,_,ContractH.n (hwi),?_⟩;intro r H' hr hk;(try obtain rfl := keys_nil hk);(obtain ⟨wb,rfl⟩ := hr);(try simp (disch := omega) only [AV.flat,AC.flat,AC.flat.flatL,AC.flat.flatLL,go_sem,seval]);((repeat (first|(intro (xb : Blk))|(intro (xk : Nat))|(intro hx)|(refine ⟨by (first|omega|(intro hg;simp [-List.getD_eq_getElem?_getD] at hg;omega)|assumption|decide),?_⟩)));refine hK _ ?_;clear K hK))
      (repeat (first|(with_reducible (first|refine Aq ?_|(refine Ar ?_;intro KR kR)|refine Ab ?_|refine As ?_|refine Ae ?_|refine At ?_|refine Al ?_|refine Ag ?_|(refine Ad O50 (by kernel_rfl) (by kernel_rfl) ?_;intro KR kR;simp only [O50,ordl,↓reduceIte,reduceCtorEq,Nat.reduceEqDiff])))|((with_reducible first|refine Oz ?_|refine Rv ?_|refine Rl ?_|refine Rg ?_|refine Re ?_|refine Nz ?_);intro K hK;simp (disch := omega) only [go_sem,seval];(try ((with_reducible first|refine Gt ?_|refine gopO_f rfl ?_|refine Gv rfl ?_);simp (disch := omega) only [go_sem,seval]));((repeat (first|(intro (xb : Blk))|(intro (xk : Nat))|(intro hx)|(refine ⟨by (first|omega|(intro hg;simp [-List.getD_eq_getElem?_getD] at hg;omega)|assumption|decide),?_⟩)));refine hK _ ?_;clear K hK))|((with_reducible first|refine Onq ?_|refine Rn ?_);simp only [go_sem,seval,L50,O50,L73,O73];refine kR _ ?_;clear KR kR)|(simp only [thenE,inB,↓reduceIte,reduceCtorEq,Nat.reduceEqDiff])))
      refine gh_no ⟨s.wy.length - (i + 1),by omega,i + 1,xb,by omega,by omega,?_⟩
      rw [← stT_go hi]
      ((try simp (disch := omega) only [List.cons.injEq,Prod.mk.injEq,AV.c.injEq,AV.agg.injEq,AV.opt.injEq,AV.tup.injEq,AV.row.injEq,AV.box.injEq,AV.mapo.injEq,AC.im.injEq,AC.sl.injEq,AC.adr.injEq,AC.ref.injEq,AC.ptr.injEq,AC.own.injEq,AC.fn.injEq,Value.int.injEq,Value.bool.injEq,Value.string.injEq,heq_eq_eq,go_sem,seval]);(try (repeat' refine And.intro ?_ ?_));all_goals (first|rfl|omega|skip))
    · have ei : i = s.wy.length := by omega
      subst ei
      (repeat (first|(with_reducible (first|refine Aq ?_|(refine Ar ?_;intro KR kR)|refine Ab ?_|refine As ?_|refine Ae ?_|refine At ?_|refine Al ?_|refine Ag ?_|(refine Ad O50 (by kernel_rfl) (by kernel_rfl) ?_;intro KR kR;simp only [O50,ordl,↓reduceIte,reduceCtorEq,Nat.reduceEqDiff])))|((with_reducible first|refine Oz ?_|refine Rv ?_|refine Rl ?_|refine Rg ?_|refine Re ?_|refine Nz ?_);intro K hK;simp (disch := omega) only [go_sem,seval];(try ((with_reducible first|refine Gt ?_|refine gopO_f rfl ?_|refine Gv rfl ?_);simp (disch := omega) only [go_sem,seval]));((repeat (first|(intro (xb : Blk))|(intro (xk : Nat))|(intro hx)|(refine ⟨by (first|omega|(intro hg;simp [-List.getD_eq_getElem?_getD] at hg;omega)|assumption|decide),?_⟩)));refine hK _ ?_;clear K hK))|((with_reducible first|refine Onq ?_|refine Rn ?_);simp only [go_sem,seval,L50,O50,L73,O73];refine kR _ ?_;clear KR kR)|(simp only [thenE,inB,↓reduceIte,reduceCtorEq,Nat.reduceEqDiff])))
      (simp only [retQ,Try.results50];simp (disch := omega) only [resK,resT,resAV,Env.sel,Env.keys,List.map_nil,List.map_cons,List.all_nil,List.all_cons,AV.isS,Bool.not_false,Bool.and_self,Option.map_some,List.length_cons,List.length_nil,Nat.zero_add,Nat.reduceAdd,not_false_eq_true,true_and,and_true,ne_eq,go_sem,seval,ne_eq])
      rw [stT_end]
      exact ⟨_,rfl⟩

end Go.Proofs.Ytglgmmoomlnghaa
