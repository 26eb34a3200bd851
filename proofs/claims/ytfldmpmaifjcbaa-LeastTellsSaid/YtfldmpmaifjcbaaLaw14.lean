/-
  Parts of a proof, side by side.
-/
import Derived.Test.YtfldmpmaifjcbaaKidsP
import Derived.Test.YtfldmpmaifjcbaaHty
/-
  tree.Frames.
-/
set_option linter.unusedSimpArgs false
set_option linter.unusedVariables false
namespace Go.Proofs.Ytfldmpmaifjcbaa
open Go Go.Hs
attribute [local go_sem] AV.isS wrap_in En.cs enLen enLenR enLast enPop enPush getL0 getL1 getL2 getL3 getLR getE0 getE1 getE2 getE3 getER dltT dltF eqT eqF beT beF length_roR getRoN getRoS getRoD setRo setRo1 kRows_snoc getRoDead tk1 splice1 List.length_reverse List.length_cons

end Go.Proofs.Ytfldmpmaifjcbaa

/-
  PLAIN: rows that are nil or owned, read from now on as rows.
-/
set_option linter.unusedSimpArgs false
set_option linter.unusedVariables false
namespace Go.Proofs.Ytfldmpmaifjcbaa
open Go Go.Hs

def roFC : RO → AC
  | none => .nil
  | some x => .sl 1 (kRows .i64 x.2)
def roF (R : List RO) : List (List AC) := R.map fun o => [roFC o]
theorem frz_kR {k : IntKind} {l : List Int} : frzLL (kRows k l) = kRows k l := by
  rw [frzLL_eq]
  simp only [kRows,List.map_map]
  rfl
theorem frz_roR {R : List RO} : frzLL (roR R) = roF R := by
  rw [frzLL_eq]
  simp only [roR,roF,List.map_map]
  refine List.map_congr_left fun o _ => ?_
  show frzL [roC o] = [roFC o]
  rw [frzL_eq]
  cases o with
  | none => rfl
  | some x => simp only [roC,roFC,List.map_cons,List.map_nil,AC.frz,frz_kR]
theorem frz_roR' {R : List RO} : AC.frz.frzLL (roR R) = roF R := frz_roR
end Go.Proofs.Ytfldmpmaifjcbaa

/-
  tree.Frames.
-/
set_option linter.unusedSimpArgs false
set_option linter.unusedVariables false
namespace Go.Proofs.Ytfldmpmaifjcbaa
open Go Go.Hs
theorem enTakeR {st : List En} {k : Nat} (h : st.length ≤ k) : (enRows st.reverse).take k = enRows st.reverse := List.take_of_length_le (by rw [enLenR];exact h)
def framesF (l : List Tm) (w : List Int) (t : List En) : List (List Int) := if tRight l w t = true then framesL t [] (List.replicate (w.length + 1) []) else []

attribute [local go_sem] AV.isS wrap_in En.cs length_enRows getE0 getE1 getE2 getE3 getER dltT dltF eqT eqF beT beF length_kRows length_roR getRoN getRoS getRoD setRo setRo1 kRows_snoc getRoDead tk1 splice1 rep_roR List.length_reverse enPush enLenR take_roR enTakeR frz_roR frz_roR' AV.frzIn

end Go.Proofs.Ytfldmpmaifjcbaa

/-
  gimletlaw14: sure; TreeAhead.
-/
set_option linter.unusedSimpArgs false
set_option linter.unusedVariables false
namespace Go.Proofs.Ytfldmpmaifjcbaa
open Go Go.Hs
def L24 (r : Nat) : Option (List Nat) := kl r [(0,[]),(1,[1]),(2,[1,2]),(3,[1,2,3,4]),(4,[0])]
def O24 (r : Nat) : List Nat × OT := ordl r []
def L55 (r : Nat) : Option (List Nat) := kl r [(0,[]),(1,[0])]
def O55 (r : Nat) : List Nat × OT := ordl r []
def L31 (r : Nat) : Option (List Nat) := kl r [(0,[0,1]),(1,[4])]
def O31 (r : Nat) : List Nat × OT := ordl r []
def L6 (r : Nat) : Option (List Nat) := kl r [(0,[0,1]),(1,[0,1,12]),(2,[4]),(3,[4])]
def O6 (r : Nat) : List Nat × OT := ordl r []

theorem Gn {P : Program} {n : Nat} {S : Env} {pu : Bool} {d : Nat} {c : Call} {pos : String} {after : Array Edge} {gd : Option (Nat × Bool)} {K : Env → Prop} (h : d < n ∧ K (S.set d (.opt false (.c (.im (.int .i64 0)))))) : gopO P n pu S { dst := some d,op := .call c,type := 3,pos := pos,after := after,guard := gd } false K :=
  .inr ⟨fun h => absurd h (by decide),fun _ => ⟨h.1,_,rfl,h.2⟩⟩
def l14 : List Tm := [⟨2,-1,-1,0,0,8589934592,0,0⟩,⟨8,0,-1,0,0,0,0,0⟩,⟨5,1,-1,0,0,0,0,0⟩]
def t14 : List En := [⟨1,2,0,2⟩,⟨2,1,0,1⟩,⟨3,0,0,1⟩,⟨2,1,1,2⟩,⟨3,0,1,2⟩]
def f14 : List (List Int) := [[4,2,0],[1,3,2,0],[1,3,5]]
def sameF (a b : List En) : Bool := decide ((a.length : Int) = b.length) && decide (aheadF a b = 0)
theorem s14_fr : framesF l14 [97,97] t14 = f14 := by decide +kernel
theorem s14_of : ofF f14 = (true,t14) := by kernel_rfl
theorem s14_of1 : (ofF f14).1 = true := by rw [s14_of]
theorem s14_of2 : (ofF f14).2 = t14 := by rw [s14_of]
theorem s14_r1 : tRight l14 [97,97] t14 = true := by decide +kernel
theorem s14_r2 : tRight l14 [97,98] t14 = false := by decide +kernel
theorem s14_a : aheadF t14 (t14.take 3) = -1 := by decide +kernel
theorem s14_same : sameF t14 t14 = true := by decide +kernel
theorem s14_row : rAt f14 1 = [1,3,2,0] := by decide +kernel
theorem s14_len : ((f14.length : Nat) : Int) = 3 := rfl
theorem s14_get {z : AC} : getC z (rRows f14) 1 0 = .sl 1 (kRows .i64 [1,3,2,0]) := rfl
theorem enRows_frz {l : List En} : frzLL (enRows l) = enRows l := by
  rw [frzLL_eq]
  simp only [enRows,List.map_map]
  refine List.map_congr_left fun e _ => ?_
  rfl

attribute [local go_sem] AV.isS length_tRows tRows_ex tRows_frz wrap_in En.cs length_enRows getE0 getE1 getE2 getE3 getER dltT dltF eqT eqF beT beF length_kRows length_rRows getRowT s14_fr s14_of1 s14_of2 s14_r1 s14_r2 s14_a s14_same s14_row s14_len s14_get enRows_frz

theorem Same_ok (a b : List En) (ha : a.length ≤ 1000) (hb : b.length ≤ 1000) : Contract Try.prog 31 [.c (.sl 4 (enRows a)),.c (.sl 4 (enRows b))] (.c (.im (.bool (sameF a b)))) := by
  by_cases c : (a.length : Int) = b.length
  · (refine contract_of_awp (L := L31) Try.func31 rfl (by kernel_rfl) (by first|rfl|decide) (by first|rfl|kernel_rfl) ?_;simp only [Try.ntmps31,initEnv,Env.keys,List.map_nil,List.map_cons,List.append_nil,List.cons_append,List.nil_append])
    (repeat' (first|(with_reducible (first|refine Aq ?_|(refine Ar ?_;intro KR kR)|refine Ab ?_|refine As ?_|refine Ae ?_|refine At ?_|refine Al ?_|refine Ag ?_|(refine Ad O31 (by kernel_rfl) (by kernel_rfl) ?_;intro KR kR;simp only [O31,ordl,↓reduceIte,reduceCtorEq,Nat.reduceEqDiff])))|((with_reducible first|refine Oz ?_|refine Rv ?_|refine Rl ?_|refine Rg ?_|refine Re ?_|refine Nz ?_);intro K hK;simp (disch := omega) only [go_sem,seval];(try ((with_reducible first|refine Gt ?_|refine Gb ?_|refine Gn ?_|refine Gs ?_|refine Gv rfl ?_);simp (disch := omega) only [go_sem,seval]));((repeat (first|(intro (xb : Blk))|(intro (xk : Nat))|(intro hx)|(refine ⟨by (first|omega|(intro hg;simp [-List.getD_eq_getElem?_getD] at hg;omega)|assumption|decide),?_⟩)));refine hK _ ?_;clear K hK))|((with_reducible first|refine Onq ?_|refine Rn ?_);simp only [go_sem,seval,L6,O6,L24,O24,L31,O31,L55,O55];refine kR _ ?_;clear KR kR)|(simp only [thenE,inB,↓reduceIte,reduceCtorEq,Nat.reduceEqDiff])|((with_reducible refine Ac ?_);intro K hK;simp (disch := omega) only [condK,go_sem,seval];refine hK _ ?_ ?_;all_goals clear K hK;all_goals intro hq;all_goals (try simp only [qF,reduceCtorEq] at hq);all_goals (try (exfalso;first|exact hq|omega)))))
    ((with_reducible (first|refine Oz ?_|refine Rg ?_|refine Re ?_|refine Nz ?_));intro K hK;simp (disch := omega) only [go_sem,seval];(try ((with_reducible refine Gt ?_);simp (disch := omega) only [go_sem,seval]));refine ⟨[],by simp,by simp [Env.sel,Env.get,Env.keys,AV.isS],?_⟩;simp (disch := omega) only [go_sem,seval];refine ⟨_,_,ContractH.n (refAhead_ok a b ha hb),?_⟩;intro r H' hr hk;(try obtain rfl := keys_nil hk);(first|subst hr|(obtain ⟨_,rfl⟩ := hr)|(obtain ⟨_,_,rfl⟩ := hr)|(obtain ⟨_,_,_,rfl⟩ := hr));(try simp (disch := omega) only [AV.flat,AC.flat,AC.flat.flatL,AC.flat.flatLL,go_sem,seval]);((repeat (first|(intro (xb : Blk))|(intro (xk : Nat))|(intro hx)|(refine ⟨by (first|omega|(intro hg;simp [-List.getD_eq_getElem?_getD] at hg;omega)|assumption|decide),?_⟩)));refine hK _ ?_;clear K hK))
    (repeat' (first|(with_reducible (first|refine Aq ?_|(refine Ar ?_;intro KR kR)|refine Ab ?_|refine As ?_|refine Ae ?_|refine At ?_|refine Al ?_|refine Ag ?_|(refine Ad O31 (by kernel_rfl) (by kernel_rfl) ?_;intro KR kR;simp only [O31,ordl,↓reduceIte,reduceCtorEq,Nat.reduceEqDiff])))|((with_reducible first|refine Oz ?_|refine Rv ?_|refine Rl ?_|refine Rg ?_|refine Re ?_|refine Nz ?_);intro K hK;simp (disch := omega) only [go_sem,seval];(try ((with_reducible first|refine Gt ?_|refine Gb ?_|refine Gn ?_|refine Gs ?_|refine Gv rfl ?_);simp (disch := omega) only [go_sem,seval]));((repeat (first|(intro (xb : Blk))|(intro (xk : Nat))|(intro hx)|(refine ⟨by (first|omega|(intro hg;simp [-List.getD_eq_getElem?_getD] at hg;omega)|assumption|decide),?_⟩)));refine hK _ ?_;clear K hK))|((with_reducible first|refine Onq ?_|refine Rn ?_);simp only [go_sem,seval,L6,O6,L24,O24,L31,O31,L55,O55];refine kR _ ?_;clear KR kR)|(simp only [thenE,inB,↓reduceIte,reduceCtorEq,Nat.reduceEqDiff])|((with_reducible refine Ac ?_);intro K hK;simp (disch := omega) only [condK,go_sem,seval];refine hK _ ?_ ?_;all_goals clear K hK;all_goals intro hq;all_goals (try simp only [qF,reduceCtorEq] at hq);all_goals (try (exfalso;first|exact hq|omega)))))
    (simp only [retQ,Try.results31];simp (disch := omega) only [resK,resT,resAV,Env.sel,Env.keys,List.map_nil,List.map_cons,List.all_nil,List.all_cons,AV.isS,Bool.not_false,Bool.and_self,Option.map_some,List.length_cons,List.length_nil,Nat.zero_add,Nat.reduceAdd,not_false_eq_true,true_and,and_true,ne_eq,go_sem,seval,ne_eq])
    rw [sameF,decide_eq_true c];rfl
  · (refine contract_of_awp (L := L31) Try.func31 rfl (by kernel_rfl) (by first|rfl|decide) (by first|rfl|kernel_rfl) ?_;simp only [Try.ntmps31,initEnv,Env.keys,List.map_nil,List.map_cons,List.append_nil,List.cons_append,List.nil_append])
    (repeat' (first|(with_reducible (first|refine Aq ?_|(refine Ar ?_;intro KR kR)|refine Ab ?_|refine As ?_|refine Ae ?_|refine At ?_|refine Al ?_|refine Ag ?_|(refine Ad O31 (by kernel_rfl) (by kernel_rfl) ?_;intro KR kR;simp only [O31,ordl,↓reduceIte,reduceCtorEq,Nat.reduceEqDiff])))|((with_reducible first|refine Oz ?_|refine Rv ?_|refine Rl ?_|refine Rg ?_|refine Re ?_|refine Nz ?_);intro K hK;simp (disch := omega) only [go_sem,seval];(try ((with_reducible first|refine Gt ?_|refine Gb ?_|refine Gn ?_|refine Gs ?_|refine Gv rfl ?_);simp (disch := omega) only [go_sem,seval]));((repeat (first|(intro (xb : Blk))|(intro (xk : Nat))|(intro hx)|(refine ⟨by (first|omega|(intro hg;simp [-List.getD_eq_getElem?_getD] at hg;omega)|assumption|decide),?_⟩)));refine hK _ ?_;clear K hK))|((with_reducible first|refine Onq ?_|refine Rn ?_);simp only [go_sem,seval,L6,O6,L24,O24,L31,O31,L55,O55];refine kR _ ?_;clear KR kR)|(simp only [thenE,inB,↓reduceIte,reduceCtorEq,Nat.reduceEqDiff])|((with_reducible refine Ac ?_);intro K hK;simp (disch := omega) only [condK,go_sem,seval];refine hK _ ?_ ?_;all_goals clear K hK;all_goals intro hq;all_goals (try simp only [qF,reduceCtorEq] at hq);all_goals (try (exfalso;first|exact hq|omega)))))
    (simp only [retQ,Try.results31];simp (disch := omega) only [resK,resT,resAV,Env.sel,Env.keys,List.map_nil,List.map_cons,List.all_nil,List.all_cons,AV.isS,Bool.not_false,Bool.and_self,Option.map_some,List.length_cons,List.length_nil,Nat.zero_add,Nat.reduceAdd,not_false_eq_true,true_and,and_true,ne_eq,go_sem,seval,ne_eq])
    rw [sameF,decide_eq_false c];rfl

end Go.Proofs.Ytfldmpmaifjcbaa
