/-
  Parts of a proof, side by side.
-/
import Derived.Test.YtfldmpmaifjcbaaTermP
import Derived.Test.YtfldmpmaifjcbaaTerm6
import Derived.Test.YtfldmpmaifjcbaaKidsP
import Derived.Test.YtfldmpmaifjcbaaEq
/-
  PLAIN: two terms, one behind the other, and a node of which they are the parts.
-/
set_option linter.unusedSimpArgs false
namespace Go.Proofs.Ytfldmpmaifjcbaa
open Go Go.Hs

section
variable {k : Int} {a b : List Tm}

/-! How deep the nodes lie in it. -/
/-! Its greatest group. -/
def lastG (ys : List Tm) : Nat → Int
  | 0 => 0
  | n + 1 => if ys.any (hasG n) then n else lastG ys n
theorem lastG_eq {ys : List Tm} : ∀ n,(groupsN ys n).getD ((groupsN ys n).length - 1) 0 = lastG ys n
  | 0 => rfl
  | n + 1 => by
    rw [groupsN_succ]
    simp only [lastG]
    split
    · exact getD_snoc_eq (by simp)
    · exact lastG_eq n
theorem lastG_le {ys : List Tm} : ∀ n,0 ≤ lastG ys n ∧ lastG ys n ≤ n
  | 0 => by simp [lastG]
  | n + 1 => by
    have := lastG_le (ys := ys) n
    simp only [lastG];split <;> omega
theorem topF_eq {l : List Tm} (h : rightF l = true) : topF l = lastG l 10 := by
  have ht := term_of_right h
  have hpos := ht.pos
  unfold topF
  have e : groupsF l ((l.length : Int) - 1) = groupsN l 10 := by
    have hl := ht.len
    rw [groupsF,if_pos (by omega),nodesF]
    rw [show ((l.length : Int) - 1).toNat = l.length - 1 by omega,ht.root,show ((l.length : Int) - 1 + 1).toNat = l.length by omega]
    rw [Int.toNat_zero,ex_all]
  rw [e,lastG_eq]
end

end Go.Proofs.Ytfldmpmaifjcbaa

/-
  PLAIN: what groups span in a list of entries; each entry lies in the one next above it.
-/
set_option linter.unusedSimpArgs false
set_option linter.unusedVariables false
namespace Go.Proofs.Ytfldmpmaifjcbaa
open Go Go.Hs

abbrev Sp := Int × Int
def Sp.cs (p : Sp) : List AC := [.im (.int .i64 p.1),.im (.int .i64 p.2)]
def spRows (l : List Sp) : List (List AC) := l.map Sp.cs
def spAt (l : List Sp) (i : Nat) : Sp := l.getD i (0,0)
theorem length_spRows {l : List Sp} : (spRows l).length = l.length := by simp [spRows]
theorem getS0 {z : AC} {l : List Sp} {i : Nat} (h : i < l.length) : getC z (spRows l) i 0 = .im (.int .i64 (spAt l i).1) := by
  unfold getC spAt
  simp [spRows,Sp.cs,List.getD_eq_getElem?_getD,h]
theorem getS1 {z : AC} {l : List Sp} {i : Nat} (h : i < l.length) : getC z (spRows l) i 1 = .im (.int .i64 (spAt l i).2) := by
  unfold getC spAt
  simp [spRows,Sp.cs,List.getD_eq_getElem?_getD,h]
theorem getSR {z : List AC} {l : List Sp} {i : Nat} (h : i < l.length) : getR z (spRows l) i 0 2 = [.im (.int .i64 (spAt l i).1),.im (.int .i64 (spAt l i).2)] := by
  unfold getR spAt
  simp [spRows,Sp.cs,List.getD_eq_getElem?_getD,h]
theorem getSD {l : List Sp} {i : Nat} (h : i < l.length) : (spRows l).getD i [] = [.im (.int .i64 (spAt l i).1),.im (.int .i64 (spAt l i).2)] := by
  unfold spAt
  simp [spRows,Sp.cs,List.getD_eq_getElem?_getD,h]
theorem setSp {l : List Sp} {i : Nat} {a b : Int} : (spRows l).set i [.im (.int .i64 a),.im (.int .i64 b)] = spRows (l.set i (a,b)) := by
  simp [spRows,Sp.cs,List.map_set]
theorem spSnoc {l : List Sp} {a b : Int} : spRows l ++ [[.im (.int .i64 a),.im (.int .i64 b)]] = spRows (l ++ [(a,b)]) := by
  simp [spRows,Sp.cs]
theorem splice2 {x y a b : AC} : splice [x,y] 0 [a,b] = [a,b] := rfl
theorem spRows_frz {l : List Sp} : AC.frz.frzLL (spRows l) = spRows l := by
  show frzLL _ = _
  rw [frzLL_eq]
  simp [spRows,Sp.cs,frzL_eq,AC.frz]
theorem repSp {n : Nat} : List.replicate n (-1,-1) ++ [((-1 : Int),(-1 : Int))] = List.replicate (n + 1) (-1,-1) := by
  rw [List.replicate_succ']

def unsG (o : List Sp) (g : Int) : List Sp := o.set g.toNat (-1,-1)
def spStep (l : List Tm) (o : List Sp) (x : En) : List Sp :=
  if x.n < 0 ∨ (l.length : Int) ≤ x.n then o
  else if (tAt l x.n.toNat).k = 7 then o.set (tAt l x.n.toNat).n.toNat (x.f,x.t)
  else if (tAt l x.n.toNat).k = 8 then (groupsF l x.n).foldl unsG o
  else o
def spInit (l : List Tm) (t : List En) : List Sp := if t.length = 0 then List.replicate (topF l + 1).toNat (-1,-1) else (List.replicate (topF l + 1).toNat (-1,-1)).set 0 ((enAt t 0).f,(enAt t 0).t)
def spWalk (l : List Tm) (t : List En) (i : Nat) : List Sp := (t.take i).foldl (spStep l) (spInit l t)
def spansF (l : List Tm) (t : List En) : List Sp := if rightF l = true then spWalk l t t.length else []

theorem uns_len {gs : List Int} : ∀ {o : List Sp},(gs.foldl unsG o).length = o.length := by
  induction gs with
  | nil => intro o;rfl
  | cons g gs ih => intro o;rw [List.foldl_cons,ih,unsG,List.length_set]
theorem step_splen {l : List Tm} {o : List Sp} {x : En} : (spStep l o x).length = o.length := by
  unfold spStep
  split
  · rfl
  · split
    · rw [List.length_set]
    · split
      · exact uns_len
      · rfl
theorem fold_splen {l : List Tm} : ∀ {t : List En} {o : List Sp},(t.foldl (spStep l) o).length = o.length
  | [],o => rfl
  | x :: t,o => by rw [List.foldl_cons,fold_splen,step_splen]
theorem init_len {l : List Tm} {t : List En} : (spInit l t).length = (topF l + 1).toNat := by
  unfold spInit;split <;> simp
theorem walk_len {l : List Tm} {t : List En} {i : Nat} : (spWalk l t i).length = (topF l + 1).toNat := by
  rw [spWalk,fold_splen,init_len]
theorem walk_succ {l : List Tm} {t : List En} {i : Nat} (h : i < t.length) : spWalk l t (i + 1) = spStep l (spWalk l t i) (enAt t i) := by
  unfold spWalk
  rw [List.take_succ_eq_append_getElem h,List.foldl_append]
  simp [enAt,List.getD_eq_getElem?_getD,h]
theorem take_uns {gs : List Int} {o : List Sp} {i : Nat} (h : i < gs.length) : (gs.take (i + 1)).foldl unsG o = unsG ((gs.take i).foldl unsG o) (gs.getD i 0) := by
  rw [List.take_succ_eq_append_getElem h,List.foldl_append]
  simp [List.getD_eq_getElem?_getD,h]

theorem lastG_ge {ys : List Tm} {m : Nat} (h : ys.any (hasG m) = true) : ∀ {n : Nat},m < n → (m : Int) ≤ lastG ys n
  | 0,hn => by omega
  | n + 1,hn => by
    simp only [lastG]
    split
    · omega
    · rename_i h2
      have : m ≠ n := fun e => h2 (e ▸ h)
      exact lastG_ge h (by omega)
theorem top_le {l : List Tm} : 0 ≤ topF l ∧ topF l ≤ 9 := by
  unfold topF groupsF
  split
  · rw [lastG_eq]
    have h9 : ∀ ys : List Tm,lastG ys 10 ≤ 9 := by
      intro ys
      show (if ys.any (hasG 9) then ((9 : Nat) : Int) else lastG ys 9) ≤ 9
      have := lastG_le (ys := ys) 9
      split <;> omega
    exact ⟨(lastG_le 10).1,h9 _⟩
  · simp
theorem tm_in {l : List Tm} (hr : rightF l = true) {x : Tm} (hx : x ∈ l) (hk : x.k = 7) : 1 ≤ x.n ∧ x.n ≤ topF l := by
  obtain ⟨i,hi,e⟩ := List.mem_iff_getElem.1 hx
  have e' : tAt l i = x := by simp [tAt,hi,e]
  have h7 := fields7 ((term_of_right hr).fields i hi)
  rw [e'] at h7
  have h7 := h7 hk
  refine ⟨h7.1,?_⟩
  rw [topF_eq hr]
  have := lastG_ge (ys := l) (m := x.n.toNat) (by
    rw [List.any_eq_true]
    refine ⟨x,hx,?_⟩
    simp only [hasG,Bool.and_eq_true,beq_iff_eq]
    exact ⟨hk,by omega⟩) (n := 10) (by omega)
  omega
theorem grp_in {l : List Tm} (hr : rightF l = true) {q : Nat} (hq : q < l.length) (hk : (tAt l q).k = 7) : 1 ≤ (tAt l q).n ∧ (tAt l q).n ≤ topF l :=
  tm_in hr (by unfold tAt;rw [List.getD_eq_getElem?_getD,List.getElem?_eq_getElem hq];exact List.getElem_mem _) hk
theorem gs_in {l : List Tm} (hr : rightF l = true) {q : Int} : ∀ g ∈ groupsF l q,1 ≤ g ∧ g ≤ topF l := by
  intro g hg
  unfold groupsF at hg
  split at hg
  · unfold groupsN at hg
    obtain ⟨n,hn,rfl⟩ := List.mem_map.1 hg
    obtain ⟨h1,h2⟩ := List.mem_filter.1 hn
    obtain ⟨x,hx,h3⟩ := List.any_eq_true.1 h2
    simp only [hasG,Bool.and_eq_true,beq_iff_eq] at h3
    have hxl : x ∈ l := by
      unfold nodesF at hx
      rw [ex_eq] at hx
      exact List.mem_of_mem_drop (List.mem_of_mem_take hx)
    have := tm_in hr hxl h3.1
    omega
  · cases hg
theorem gs_at {l : List Tm} (hr : rightF l = true) {q : Int} {i : Nat} (hi : i < (groupsF l q).length) : 1 ≤ (groupsF l q).getD i 0 ∧ (groupsF l q).getD i 0 ≤ topF l :=
  gs_in hr _ (by rw [List.getD_eq_getElem?_getD,List.getElem?_eq_getElem hi];exact List.getElem_mem _)

/-! Each entry lies in the one next above it. -/
/-! What a group spans is nothing, or what an entry of it does. -/
end Go.Proofs.Ytfldmpmaifjcbaa

/-
  Two pairs of numbers (api.Span) are the same just if their numbers are.
-/
set_option linter.unusedSimpArgs false
namespace Go.Proofs.Ytfldmpmaifjcbaa
open Go Go.Hs

theorem guardSpE : Try.prog.eqGuardType Try.prog.depth 54 = false := by kernel_rfl
theorem stoodSpE : Try.prog.stoodInHeld 54 = false := by kernel_rfl
theorem eqInSpE (d : Nat) (x0 x1 y0 y1 : Int) (w : World) : (Op.equalIn (d + 2) 54 (.agg #[.int .i64 x0,.int .i64 x1]) (.agg #[.int .i64 y0,.int .i64 y1])).run Try.prog w =
    .ok (x0 == y0 && x1 == y1) w := by
  have hp : ∀ (cs : Array Value) (j : Nat) (v : Value) (w : World),cs[j]? = some v → (part 3 cs j).run Try.prog w = .ok v w := by
    intro cs j v w h
    simp [part,isAgg,run_underlying Try.underlying3,h]
  have he : ∀ (a b : Int) (w : World),(Op.equalIn (d + 1) 3 (.int .i64 a) (.int .i64 b)).run Try.prog w = .ok (a == b) w := fun a b w => run_equalIn_int w d 3 .i64 .i64 a b Try.underlying3
  rw [show d + 2 = (d + 1) + 1 from rfl,Op.equalIn]
  simp only [Sem.run_bind,run_underlying Try.underlying54,Result.andThen_ok]
  have hpg : ∀ w : World,(program : Sem Program).run Try.prog w = .ok Try.prog w := fun _ => rfl
  rw [hpg,Result.andThen_ok,stoodSpE,if_neg (by decide)]
  have px : ∀ (w : World) (a0 a1 : Int),(part 3 #[Value.int .i64 a0,Value.int .i64 a1] 0).run Try.prog w = .ok (.int .i64 a0) w ∧ (part 3 #[Value.int .i64 a0,Value.int .i64 a1] 1).run Try.prog w = .ok (.int .i64 a1) w := fun w a0 a1 => ⟨hp _ 0 _ w rfl,hp _ 1 _ w rfl⟩
  simp only [List.forIn_toArray,List.forIn_cons,List.forIn_nil,Sem.run_bind,ne_eq,String.reduceEq,not_false_eq_true,if_true,(px _ _ _).1,(px _ _ _).2,Result.andThen_ok,he]
  cases (x0 == y0)
  · simp only [Bool.not_true,Bool.not_false,Bool.false_eq_true,if_false,if_true,Sem.run_bind,Sem.run_pure,Result.andThen_ok,(px _ _ _).1,(px _ _ _).2,he,Bool.true_and,Bool.false_and]
  simp only [Bool.not_true,Bool.not_false,Bool.false_eq_true,if_false,if_true,Sem.run_bind,Sem.run_pure,Result.andThen_ok,(px _ _ _).1,(px _ _ _).2,he,Bool.true_and,Bool.false_and]
  cases (x1 == y1)
  · simp only [Bool.not_true,Bool.not_false,Bool.false_eq_true,if_false,if_true,Sem.run_bind,Sem.run_pure,Result.andThen_ok,(px _ _ _).1,(px _ _ _).2,he,Bool.true_and,Bool.false_and]
  simp only [Bool.not_true,Bool.not_false,Bool.false_eq_true,if_false,if_true,Sem.run_bind,Sem.run_pure,Result.andThen_ok,(px _ _ _).1,(px _ _ _).2,he,Bool.true_and,Bool.false_and]
theorem eqRunSpE (xo yo : Operand) (x0 x1 y0 y1 : Int) : EqRun Try.prog .eql 54 xo yo (.agg #[.int .i64 x0,.int .i64 x1]) (.agg #[.int .i64 y0,.int .i64 y1]) (x0 == y0 && x1 == y1) := by
  intro w
  simp only [Sem.run_bind,run_eqGuard_agg w .eql 54 xo yo _ _ guardSpE,Result.andThen_ok,run_eql_struct,eqInSpE]
theorem eqRunSpEN (xo yo : Operand) (x0 x1 y0 y1 : Int) : EqRun Try.prog .neq 54 xo yo (.agg #[.int .i64 x0,.int .i64 x1]) (.agg #[.int .i64 y0,.int .i64 y1]) (!(x0 == y0 && x1 == y1)) := by
  intro w
  simp only [Sem.run_bind,run_eqGuard_agg w .neq 54 xo yo _ _ guardSpE,Result.andThen_ok,run_neq_struct,eqInSpE]
theorem binSpE (g : Bool) (xo yo : Operand) (x0 x1 y0 y1 : Int) (K : AV → Prop) :
    binK Try.prog g .eql 54 xo yo (.agg [.im (.int .i64 x0),.im (.int .i64 x1)]) (.agg [.im (.int .i64 y0),.im (.int .i64 y1)]) K =
      K (.c (.im (.bool (x0 == y0 && x1 == y1)))) := by
  simp only [binK,imVals,Option.map_some]
  refine propext ⟨fun ⟨b,hb,hK⟩ => ?_,fun h => ⟨_,eqRunSpE xo yo _ _ _ _,h⟩⟩
  have h1 := hb default
  have h2 := eqRunSpE xo yo x0 x1 y0 y1 default
  rw [h1] at h2
  simp only [Result.ok.injEq,Value.bool.injEq,and_true] at h2
  rw [← h2];exact hK
theorem binSpEN (g : Bool) (xo yo : Operand) (x0 x1 y0 y1 : Int) (K : AV → Prop) :
    binK Try.prog g .neq 54 xo yo (.agg [.im (.int .i64 x0),.im (.int .i64 x1)]) (.agg [.im (.int .i64 y0),.im (.int .i64 y1)]) K =
      K (.c (.im (.bool !(x0 == y0 && x1 == y1)))) := by
  simp only [binK,imVals,Option.map_some]
  refine propext ⟨fun ⟨b,hb,hK⟩ => ?_,fun h => ⟨_,eqRunSpEN xo yo _ _ _ _,h⟩⟩
  have h1 := hb default
  have h2 := eqRunSpEN xo yo x0 x1 y0 y1 default
  rw [h1] at h2
  simp only [Result.ok.injEq,Value.bool.injEq,and_true] at h2
  rw [← h2];exact hK

end Go.Proofs.Ytfldmpmaifjcbaa
