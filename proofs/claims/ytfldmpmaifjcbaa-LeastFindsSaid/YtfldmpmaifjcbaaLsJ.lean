/-
  gimletref15.Of.
-/
import Derived.Test.YtfldmpmaifjcbaaLsI
import Derived.Test.YtfldmpmaifjcbaaLsL
set_option linter.unusedSimpArgs false
set_option linter.unusedVariables false
namespace Go.Proofs.Ytfldmpmaifjcbaa
open Go Go.Hs
def L75 (r : Nat) : Option (List Nat) := kl r [(0,[0,1,4]),(1,[0,1,4,5]),(2,[0,1,4,5,6]),(3,[0,1,4,5,6,15]),(4,[0,1,4,5,6]),(5,[0,1,4,5,6]),(6,[0,1,4,5,6,7]),(7,[0,1,4,5,6,7,34]),(8,[0,1,4,5,6,7]),(9,[0,1,4,5,6,7,8]),(10,[0,1,4,5,6,7,8,41]),(11,[0,1,4,5,6,7,8]),(12,[0,1,4,5,6,7,8]),(13,[4])]
def O75 (r : Nat) : List Nat × OT := ordl r [(5,([11,13],.val 0 (.val 2 (.val 5 (.load 1 (.load 3 (.val 4 (.load 6 (.val 7 (.val 8 (.grow 9 (.grow 10 (.eff 11 (.val 12 (.eff 13 (.done)))))))))))))))),(12,([18,20],.val 0 (.val 2 (.val 5 (.val 6 (.val 10 (.val 12 (.val 13 (.val 15 (.val 16 (.val 17 (.load 14 (.alt [1,7,18] 9 (fun i => if i = 1 then .val 3 (.alt [4,7,18] 7 (fun i => if i = 4 then .alt [7,18] 6 (fun i => if i = 7 then .val 8 (.val 9 (.val 11 (.eff 18 (.val 19 (.eff 20 (.done)))))) else .load 7 (.val 8 (.val 9 (.val 11 (.val 19 (.eff 20 (.done))))))) else if i = 7 then .val 8 (.val 9 (.val 11 (.alt [4,18] 3 (fun i => if i = 4 then .eff 18 (.val 19 (.eff 20 (.done))) else .load 4 (.val 19 (.eff 20 (.done))))))) else .load 4 (.load 7 (.val 8 (.val 9 (.val 11 (.val 19 (.eff 20 (.done))))))))) else if i = 7 then .val 8 (.val 9 (.val 11 (.alt [1,18] 5 (fun i => if i = 1 then .val 3 (.alt [4,18] 3 (fun i => if i = 4 then .eff 18 (.val 19 (.eff 20 (.done))) else .load 4 (.val 19 (.eff 20 (.done))))) else .load 1 (.val 3 (.load 4 (.val 19 (.eff 20 (.done))))))))) else .load 1 (.val 3 (.load 4 (.load 7 (.val 8 (.val 9 (.val 11 (.val 19 (.eff 20 (.done)))))))))))))))))))))))]

def boO (R : List (Blk × List Bool)) : List (List AC) := R.map fun x => [.own x.1 4 1 (boRows x.2)]
def bB (R : List (Blk × List Bool)) (q : Nat) : Blk := (R.getD q (none,[])).1
def bV (R : List (Blk × List Bool)) (q : Nat) : List Bool := (R.getD q (none,[])).2
theorem length_boO {R : List (Blk × List Bool)} : (boO R).length = R.length := by simp [boO]
theorem getBO {z : AC} {R : List (Blk × List Bool)} {q : Nat} (h : q < R.length) : getC z (boO R) q 0 = .own (bB R q) 4 1 (boRows (bV R q)) := by
  unfold getC bB bV
  simp [boO,List.getD_eq_getElem?_getD,h]
theorem updBO {R : List (Blk × List Bool)} {q : Nat} {r : List Bool} (h : q < R.length) : updL (boO R) [(q,0)] (boRows r) = boO (R.set q (bB R q,r)) := by
  unfold updL
  rw [getBO h]
  have e : (boO R).getD q [] = [.own (bB R q) 4 1 (boRows (bV R q))] := by
    unfold bB bV
    simp [boO,List.getD_eq_getElem?_getD,h]
  simp only [e,updL,List.set_cons_zero]
  simp [boO,List.map_set]
theorem setBO {R : List (Blk × List Bool)} {q : Nat} {r : List Bool} (h : q < R.length) : (boO R).set q (((boO R).getD q []).set 0 (.own (bB R q) 4 1 (boRows r))) = boO (R.set q (bB R q,r)) := by
  have e : (boO R).getD q [] = [.own (bB R q) 4 1 (boRows (bV R q))] := by
    unfold bB bV
    simp [boO,List.getD_eq_getElem?_getD,h]
  rw [e,List.set_cons_zero]
  simp [boO,List.map_set]
theorem boSnoc {R : List (Blk × List Bool)} {b : Blk} {r : List Bool} : boO R ++ [[.own b 4 1 (boRows r)]] = boO (R ++ [(b,r)]) := by simp [boO]
theorem frzBO' : ∀ {R : List (Blk × List Bool)},AC.frz.frzLL (boO R) = bRows (R.map (·.2))
  | [] => rfl
  | x :: R => by
    have h := frzBO' (R := R)
    have h2 := boRows_frz (bl := x.2)
    unfold boO bRows at h ⊢
    simp only [List.map_cons,AC.frz.frzLL,AC.frz.frzL,AC.frz,h,h2]
theorem frzBO {R : List (Blk × List Bool)} : frzLL (boO R) = bRows (R.map (·.2)) := by
  have := frzBO' (R := R)
  exact this
theorem exB {T : List (List Bool)} {n : Nat} (h : T.length ≤ n) : ex (bRows T) 0 n = bRows T := by
  rw [ex_eq,List.drop_zero,List.take_of_length_le (by rw [length_bRows];omega)]
theorem boTake {R : List (Blk × List Bool)} {n : Nat} (h : R.length ≤ n) : (boO R).take n = boO R := List.take_of_length_le (by rw [length_boO];exact h)
theorem wmul2 {n : Nat} (hn : n ≤ 64) : IntKind.i64.wrap (((n : Int) + 1) * ((n : Int) + 1)) = (((n + 1) * (n + 1) : Nat) : Int) := by
  have h1 : (n + 1) * (n + 1) ≤ 65 * 65 := Nat.mul_le_mul (by omega) (by omega)
  have h2 : ((n : Int) + 1) * ((n : Int) + 1) = (((n + 1) * (n + 1) : Nat) : Int) := by simp
  rw [h2,IntKind.wrap_i64]
  generalize (n + 1) * (n + 1) = c at *
  omega
theorem cell_inj {n a b i j : Nat} (hb : b ≤ n) (hj : j ≤ n) (h : a * (n + 1) + b = i * (n + 1) + j) : a = i ∧ b = j := by
  have h1 : (a * (n + 1) + b) / (n + 1) = a := by
    rw [Nat.add_comm,Nat.add_mul_div_right _ _ (by omega),Nat.div_eq_of_lt (by omega)];omega
  have h2 : (i * (n + 1) + j) / (n + 1) = i := by
    rw [Nat.add_comm,Nat.add_mul_div_right _ _ (by omega),Nat.div_eq_of_lt (by omega)];omega
  have e : a = i := by rw [← h1,h,h2]
  subst e
  exact ⟨rfl,by omega⟩

/-- The rows that are filled, the first q of them. -/
structure RowsOk (l : List Tm) (w : List Int) (T : List (List Bool)) (q : Nat) : Prop where
  len : ∀ c,c < q → (bAt T c).length = (w.length + 1) * (w.length + 1)
  old : ∀ c,c < q → ∀ a b,a ≤ b → b ≤ w.length → (bAt T c).getD (a * (w.length + 1) + b) false = bT l w c a b
theorem bAt_map {R : List (Blk × List Bool)} {q : Nat} : bAt (R.map (·.2)) q = bV R q := by
  unfold bAt bV
  rw [List.getD_eq_getElem?_getD,List.getD_eq_getElem?_getD,List.getElem?_map]
  cases R[q]? <;> rfl
theorem bV_set {R : List (Blk × List Bool)} {q c : Nat} {b : Blk} {r : List Bool} (h : q < R.length) : bV (R.set q (b,r)) c = if c = q then r else bV R c := by
  unfold bV
  simp only [List.getD_eq_getElem?_getD,List.getElem?_set]
  by_cases e : q = c
  · subst e;simp [h]
  · have : ¬ c = q := fun h => e h.symm
    simp [e,this]

structure FillOk (l : List Tm) (w : List Int) (R : List (Blk × List Bool)) (q : Nat) (P : Nat → Nat → Prop) : Prop where
  len : ∀ c,c ≤ q → (bAt (R.map (·.2)) c).length = (w.length + 1) * (w.length + 1)
  old : ∀ c,c < q → ∀ a b,a ≤ b → b ≤ w.length → (bAt (R.map (·.2)) c).getD (a * (w.length + 1) + b) false = bT l w c a b
  new : ∀ a b,P a b → a ≤ b → b ≤ w.length → (bAt (R.map (·.2)) q).getD (a * (w.length + 1) + b) false = bT l w q a b
theorem FillOk.mono {l : List Tm} {w : List Int} {R : List (Blk × List Bool)} {q : Nat} {P P' : Nat → Nat → Prop} (h : FillOk l w R q P) (hp : ∀ a b,b ≤ w.length → P' a b ∧ a ≤ b → P a b) : FillOk l w R q P' :=
  ⟨h.len,h.old,fun a b h1 h2 h3 => h.new a b (hp a b h3 ⟨h1,h2⟩) h2 h3⟩
theorem FillOk.rows {l : List Tm} {w : List Int} {R : List (Blk × List Bool)} {q : Nat} {P : Nat → Nat → Prop} (h : FillOk l w R q P) (hp : ∀ a b,a ≤ b → P a b) : RowsOk l w (R.map (·.2)) (q + 1) :=
  ⟨fun c hc => h.len c (by omega),fun c hc a b h1 h2 => by
    by_cases e : c = q
    · subst e;exact h.new a b (hp a b h1) h1 h2
    · exact h.old c (by omega) a b h1 h2⟩
theorem bV_snoc {R : List (Blk × List Bool)} {x : Blk × List Bool} {c : Nat} : bV (R ++ [x]) c = if c = R.length then x.2 else bV R c := by
  unfold bV
  by_cases e : c = R.length
  · subst e;simp [List.getD_eq_getElem?_getD]
  · rw [if_neg e]
    simp only [List.getD_eq_getElem?_getD]
    by_cases h : c < R.length
    · rw [List.getElem?_append_left h]
    · rw [List.getElem?_eq_none (by simp;omega),List.getElem?_eq_none (by omega)]
theorem fill_new {l : List Tm} {w : List Int} {R : List (Blk × List Bool)} {q : Nat} {bk : Blk} (hq : R.length = q) (h : RowsOk l w (R.map (·.2)) q) : FillOk l w (R ++ [(bk,List.replicate ((w.length + 1) * (w.length + 1)) false)]) q (fun a _ => w.length < a + 0) := by
  refine ⟨fun c hc => ?_,fun c hc a b h1 h2 => ?_,fun a b h1 h2 h3 => by omega⟩
  · rw [bAt_map,bV_snoc]
    split
    · simp
    · rw [← bAt_map];exact h.len c (by omega)
  · rw [bAt_map,bV_snoc,if_neg (by omega),← bAt_map]
    exact h.old c hc a b h1 h2
theorem FillOk.tab {l : List Tm} {w : List Int} {R : List (Blk × List Bool)} {q i j : Nat} (hR : R.length = q + 1) (h : FillOk l w R q (fun a b => i < a ∨ a = i ∧ b < j)) : TabOk l w (R.map (·.2)) q i :=
  ⟨by rw [List.length_map];omega,h.len,h.old,fun a b h1 h2 h3 => h.new a b (.inl h1) h2 h3⟩
theorem FillOk.step {l : List Tm} {w : List Int} {R : List (Blk × List Bool)} {q i j : Nat} {bk : Blk} (hR : R.length = q + 1) (hi : i ≤ j) (hj : j ≤ w.length) (h : FillOk l w R q (fun a b => i < a ∨ a = i ∧ b < j)) : FillOk l w (R.set q (bk,(bV R q).set (i * (w.length + 1) + j) (bT l w q i j))) q (fun a b => i < a ∨ a = i ∧ b < j + 1) := by
  have hl := h.len q (Nat.le_refl _)
  rw [bAt_map] at hl
  have c1 := cell_lt (n := w.length) (i := i) (j := j) (by omega) hj
  refine ⟨fun c hc => ?_,fun c hc a b h1 h2 => ?_,fun a b h1 h2 h3 => ?_⟩
  · rw [bAt_map,bV_set (by omega)]
    split
    · rw [List.length_set];exact hl
    · rw [← bAt_map];exact h.len c hc
  · rw [bAt_map,bV_set (by omega),if_neg (by omega),← bAt_map]
    exact h.old c hc a b h1 h2
  · rw [bAt_map,bV_set (by omega),if_pos rfl]
    by_cases e : a = i ∧ b = j
    · rw [e.1,e.2,List.getD_eq_getElem?_getD,List.getElem?_set_self (by omega)];rfl
    · have ne : i * (w.length + 1) + j ≠ a * (w.length + 1) + b := fun h => e (cell_inj h3 hj h.symm)
      rw [List.getD_eq_getElem?_getD,List.getElem?_set_ne ne,← List.getD_eq_getElem?_getD,← bAt_map]
      refine h.new a b ?_ h2 h3
      omega

theorem one_own (l : List Tm) (w : List Int) (R : List (Blk × List Bool)) (lo : List Int) (q i j : Nat) (b1 : Blk) (ht : Term l lo) (hS : ∀ x ∈ l,(stOf x).wf) (hW : ∀ x ∈ w,0 ≤ x ∧ x ≤ 255) (hw : w.length ≤ 64) (hQ : q < l.length) (hR : R.length = q + 1) (hg : FillOk l w R q (fun a b => i < a ∨ a = i ∧ b < j)) (hij : i ≤ j) (hj : j ≤ w.length) :
    ContractH Try.prog 93 [.c (.sl 8 (tRows l)),.c (.sl 1 (kRows .u8 w)),.agg [.im (.int .i64 w.length),.ref 2001 [] b1 1 0 (q + 1)],.c (.im (.int .i64 q)),.c (.im (.int .i64 i)),.c (.im (.int .i64 j))] [(2001,.row b1 24 1 (boO R))]
      (fun x H => x = .c (.im (.bool (bT l w q i j))) ∧ H = [(2001,.row b1 24 1 (boO R))]) := by
  have h := one_ok l w (R.map (·.2)) lo q i j ht hS hW hw hQ (hg.tab hR) hij hj
  rw [← frzBO] at h
  exact ContractR.lendAgg (pre := [.c (.sl 8 (tRows l)),.c (.sl 1 (kRows .u8 w))]) (c1 := [.im (.int .i64 w.length)]) (c2 := []) (post := [.c (.im (.int .i64 q)),.c (.im (.int .i64 i)),.c (.im (.int .i64 j))]) (fun r h => by subst h;rfl) (by rw [length_boO];exact hR) h

attribute [local go_sem] AV.isS wmul wmul2 tnAdd length_boO getBO updBO boSnoc frzBO frzBO' exB boRows_frz boTake List.length_append List.length_map Int.toNat_natCast length_bRows length_tRows tRows_ex tRows_frz Tm.cs

set_option maxRecDepth 100000 in
set_option maxHeartbeats 4000000 in
theorem refTab_ok (l : List Tm) (w : List Int) (lo : List Int) (ht : Term l lo) (hS : ∀ x ∈ l,(stOf x).wf) (hW : ∀ x ∈ w,0 ≤ x ∧ x ≤ 255) (hw : w.length ≤ 64) :
    ContractR Try.prog 75 [.c (.sl 8 (tRows l)),.c (.sl 1 (kRows .u8 w))] (fun x => ∃ b R,R.length = l.length ∧ RowsOk l w (R.map (·.2)) l.length ∧ x = .agg [.im (.int .i64 w.length),.own b 24 1 (boO R)]) := by
  have hle := ht.le
  have sq : (w.length + 1) * (w.length + 1) ≤ 65 * 65 := Nat.mul_le_mul (by omega) (by omega)
  (refine contract_of_awp (L := L75) Try.func75 rfl (by kernel_rfl) (by first|rfl|decide) (by first|rfl|kernel_rfl) ?_;simp only [Try.ntmps75,initEnv,Env.keys,List.map_nil,List.map_cons,List.append_nil,List.cons_append,List.nil_append])
  (repeat (first|(with_reducible (first|refine Aq ?_|(refine Ar ?_;intro KR kR)|refine Ab ?_|refine As ?_|refine Ae ?_|refine At ?_|refine Al ?_|refine Ag ?_|(refine Ad O75 (by kernel_rfl) (by kernel_rfl) ?_;intro KR kR;simp only [O75,ordl,↓reduceIte,reduceCtorEq,Nat.reduceEqDiff])))|((with_reducible first|refine Oz ?_|refine Rv ?_|refine Rl ?_|refine Rg ?_|refine Re ?_|refine Nz ?_);intro K hK;simp (disch := omega) only [go_sem,seval];(try ((with_reducible first|refine Gt ?_|refine Gb ?_|refine Gn ?_|refine Gs ?_|refine Gv rfl ?_);simp (disch := omega) only [go_sem,seval]));((repeat (first|(intro (xb : Blk))|(intro (xk : Nat))|(intro hx)|(refine ⟨by (first|omega|(intro hg;simp [-List.getD_eq_getElem?_getD] at hg;omega)|assumption|decide),?_⟩)));refine hK _ ?_;clear K hK))|((with_reducible first|refine Onq ?_|refine Rn ?_);simp only [go_sem,seval,L75,O75];refine kR _ ?_;clear KR kR)|(simp only [thenE,inB,↓reduceIte,reduceCtorEq,Nat.reduceEqDiff])))
  generalize xk = x5
  rename_i x4
  refine awp_loop_gh [.matC 1005 0 1 24 1,.mov 1005 0 1 2001] [0,1,4,5,6,1004,1005,2001] (fun m S => ∃ (q : Nat) (bc : Blk) (R : List (Blk × List Bool)),q ≤ l.length ∧ m + q = l.length ∧ R.length = q ∧ RowsOk l w (R.map (·.2)) q ∧ S = [(0,.c (.sl 8 (tRows l))),(1,.c (.sl 1 (kRows .u8 w))),(4,.c (.ptr 1004 [] x4 2 0 0)),(5,.c (.ptr 1005 [] x5 2 0 0)),(6,.c (.im (.int .i64 q))),(1004,.box x4 117 [.im (.int .i64 0),.nil]),(1005,.box x5 117 [.im (.int .i64 w.length),.ref 2001 [] bc 1 0 q]),(2001,.row bc 24 1 (boO R))]) ?_ ?_
  · simp (disch := omega) only [ghs,ghK,AV.isS,go_sem,seval]
    refine ⟨l.length,0,none,[],by omega,by omega,rfl,⟨fun c h => absurd h (Nat.not_lt_zero _),fun c h => absurd h (Nat.not_lt_zero _)⟩,rfl⟩
  rintro m S' ⟨q,bc,R,hq1,hmq,hRq,hRo,rfl⟩
  (repeat (first|(with_reducible (first|refine Aq ?_|(refine Ar ?_;intro KR kR)|refine Ab ?_|refine As ?_|refine Ae ?_|refine At ?_|refine Al ?_|refine Ag ?_|(refine Ad O75 (by kernel_rfl) (by kernel_rfl) ?_;intro KR kR;simp only [O75,ordl,↓reduceIte,reduceCtorEq,Nat.reduceEqDiff])))|((with_reducible first|refine Oz ?_|refine Rv ?_|refine Rl ?_|refine Rg ?_|refine Re ?_|refine Nz ?_);intro K hK;simp (disch := omega) only [go_sem,seval];(try ((with_reducible first|refine Gt ?_|refine Gb ?_|refine Gn ?_|refine Gs ?_|refine Gv rfl ?_);simp (disch := omega) only [go_sem,seval]));((repeat (first|(intro (xb : Blk))|(intro (xk : Nat))|(intro hx)|(refine ⟨by (first|omega|(intro hg;simp [-List.getD_eq_getElem?_getD] at hg;omega)|assumption|decide),?_⟩)));refine hK _ ?_;clear K hK))|((with_reducible first|refine Onq ?_|refine Rn ?_);simp only [go_sem,seval,L75,O75];refine kR _ ?_;clear KR kR)|(simp only [thenE,inB,↓reduceIte,reduceCtorEq,Nat.reduceEqDiff])))
  ((with_reducible refine Ac ?_);intro K hK;simp (disch := omega) only [condK,go_sem,seval];refine hK _ ?_ ?_;all_goals clear K hK;all_goals intro hq;all_goals (try simp only [qF,reduceCtorEq] at hq);all_goals (try (exfalso;first|exact hq|omega)))
  · (repeat (first|(with_reducible (first|refine Aq ?_|(refine Ar ?_;intro KR kR)|refine Ab ?_|refine As ?_|refine Ae ?_|refine At ?_|refine Al ?_|refine Ag ?_|(refine Ad O75 (by kernel_rfl) (by kernel_rfl) ?_;intro KR kR;simp only [O75,ordl,↓reduceIte,reduceCtorEq,Nat.reduceEqDiff])))|((with_reducible first|refine Oz ?_|refine Rv ?_|refine Rl ?_|refine Rg ?_|refine Re ?_|refine Nz ?_);intro K hK;simp (disch := omega) only [go_sem,seval];(try ((with_reducible first|refine Gt ?_|refine Gb ?_|refine Gn ?_|refine Gs ?_|refine Gv rfl ?_);simp (disch := omega) only [go_sem,seval]));((repeat (first|(intro (xb : Blk))|(intro (xk : Nat))|(intro hx)|(refine ⟨by (first|omega|(intro hg;simp [-List.getD_eq_getElem?_getD] at hg;omega)|assumption|decide),?_⟩)));refine hK _ ?_;clear K hK))|((with_reducible first|refine Onq ?_|refine Rn ?_);simp only [go_sem,seval,L75,O75];refine kR _ ?_;clear KR kR)|(simp only [thenE,inB,↓reduceIte,reduceCtorEq,Nat.reduceEqDiff])))
    refine awp_loop_gh [.mov 1005 0 1 2001] [0,1,4,5,6,7,1004,1005,2001] (fun m1 S => ∃ (e : Nat) (z : Int) (b1 : Blk) (R1 : List (Blk × List Bool)),e ≤ w.length + 1 ∧ m1 + e = w.length + 1 ∧ z = (w.length : Int) - e ∧ R1.length = q + 1 ∧ FillOk l w R1 q (fun a _ => w.length < a + e) ∧ S = [(0,.c (.sl 8 (tRows l))),(1,.c (.sl 1 (kRows .u8 w))),(4,.c (.ptr 1004 [] x4 2 0 0)),(5,.c (.ptr 1005 [] x5 2 0 0)),(6,.c (.im (.int .i64 q))),(7,.c (.im (.int .i64 z))),(1004,.box x4 117 [.im (.int .i64 0),.nil]),(1005,.box x5 117 [.im (.int .i64 w.length),.ref 2001 [] b1 1 0 (q + 1)]),(2001,.row b1 24 1 (boO R1))]) ?_ ?_
    · simp (disch := omega) only [ghs,ghK,AV.isS,go_sem,seval]
      rw [List.take_of_length_le (by rw [length_boO,List.length_append,hRq];simp),List.take_of_length_le (by simp)]
      have e9 : ∀ (bb : Blk) (rr : List Bool),(boO (R ++ [(bb,rr)])).length = q + 1 := fun bb rr => by rw [length_boO,List.length_append,hRq];rfl
      rw [e9]
      refine ⟨w.length + 1,0,w.length,_,_,by omega,by omega,by omega,?_,?_,rfl⟩
      · rw [List.length_append,hRq];rfl
      · exact fill_new hRq hRo
    rintro m1 S' ⟨e,z,b1,R1,he,hm1,hz,hR1,hf,rfl⟩
    (repeat (first|(with_reducible (first|refine Aq ?_|(refine Ar ?_;intro KR kR)|refine Ab ?_|refine As ?_|refine Ae ?_|refine At ?_|refine Al ?_|refine Ag ?_|(refine Ad O75 (by kernel_rfl) (by kernel_rfl) ?_;intro KR kR;simp only [O75,ordl,↓reduceIte,reduceCtorEq,Nat.reduceEqDiff])))|((with_reducible first|refine Oz ?_|refine Rv ?_|refine Rl ?_|refine Rg ?_|refine Re ?_|refine Nz ?_);intro K hK;simp (disch := omega) only [go_sem,seval];(try ((with_reducible first|refine Gt ?_|refine Gb ?_|refine Gn ?_|refine Gs ?_|refine Gv rfl ?_);simp (disch := omega) only [go_sem,seval]));((repeat (first|(intro (xb : Blk))|(intro (xk : Nat))|(intro hx)|(refine ⟨by (first|omega|(intro hg;simp [-List.getD_eq_getElem?_getD] at hg;omega)|assumption|decide),?_⟩)));refine hK _ ?_;clear K hK))|((with_reducible first|refine Onq ?_|refine Rn ?_);simp only [go_sem,seval,L75,O75];refine kR _ ?_;clear KR kR)|(simp only [thenE,inB,↓reduceIte,reduceCtorEq,Nat.reduceEqDiff])))
    ((with_reducible refine Ac ?_);intro K hK;simp (disch := omega) only [condK,go_sem,seval];refine hK _ ?_ ?_;all_goals clear K hK;all_goals intro hq;all_goals (try simp only [qF,reduceCtorEq] at hq);all_goals (try (exfalso;first|exact hq|omega)))
    · obtain ⟨i,hi⟩ : ∃ i : Nat,z = i := ⟨z.toNat,by omega⟩
      subst hi
      (repeat (first|(with_reducible (first|refine Aq ?_|(refine Ar ?_;intro KR kR)|refine Ab ?_|refine As ?_|refine Ae ?_|refine At ?_|refine Al ?_|refine Ag ?_|(refine Ad O75 (by kernel_rfl) (by kernel_rfl) ?_;intro KR kR;simp only [O75,ordl,↓reduceIte,reduceCtorEq,Nat.reduceEqDiff])))|((with_reducible first|refine Oz ?_|refine Rv ?_|refine Rl ?_|refine Rg ?_|refine Re ?_|refine Nz ?_);intro K hK;simp (disch := omega) only [go_sem,seval];(try ((with_reducible first|refine Gt ?_|refine Gb ?_|refine Gn ?_|refine Gs ?_|refine Gv rfl ?_);simp (disch := omega) only [go_sem,seval]));((repeat (first|(intro (xb : Blk))|(intro (xk : Nat))|(intro hx)|(refine ⟨by (first|omega|(intro hg;simp [-List.getD_eq_getElem?_getD] at hg;omega)|assumption|decide),?_⟩)));refine hK _ ?_;clear K hK))|((with_reducible first|refine Onq ?_|refine Rn ?_);simp only [go_sem,seval,L75,O75];refine kR _ ?_;clear KR kR)|(simp only [thenE,inB,↓reduceIte,reduceCtorEq,Nat.reduceEqDiff])))
      refine awp_loop [0,1,4,5,6,7,8,1004,1005,2001] (fun m2 S => ∃ (j : Nat) (R2 : List (Blk × List Bool)),i ≤ j ∧ j ≤ w.length + 1 ∧ m2 + j = w.length + 1 ∧ R2.length = q + 1 ∧ FillOk l w R2 q (fun a b => i < a ∨ a = i ∧ b < j) ∧ S = [(0,.c (.sl 8 (tRows l))),(1,.c (.sl 1 (kRows .u8 w))),(4,.c (.ptr 1004 [] x4 2 0 0)),(5,.c (.ptr 1005 [] x5 2 0 0)),(6,.c (.im (.int .i64 q))),(7,.c (.im (.int .i64 i))),(8,.c (.im (.int .i64 j))),(1004,.box x4 117 [.im (.int .i64 0),.nil]),(1005,.box x5 117 [.im (.int .i64 w.length),.ref 2001 [] b1 1 0 (q + 1)]),(2001,.row b1 24 1 (boO R2))]) (w.length + 1 - i) ⟨i,R1,by omega,by omega,by omega,hR1,hf.mono (fun a b h1 h2 => by have := h2.1;omega),rfl⟩ ?_
      rintro m2 S' ⟨j,R2,hj1,hj2,hm2,hR2,hg,rfl⟩
      have c2 : i * (w.length + 1) ≤ 64 * 65 := Nat.mul_le_mul (by omega) (by omega)
      have hl2 := hg.len q (Nat.le_refl _)
      rw [bAt_map] at hl2
      (repeat (first|(with_reducible (first|refine Aq ?_|(refine Ar ?_;intro KR kR)|refine Ab ?_|refine As ?_|refine Ae ?_|refine At ?_|refine Al ?_|refine Ag ?_|(refine Ad O75 (by kernel_rfl) (by kernel_rfl) ?_;intro KR kR;simp only [O75,ordl,↓reduceIte,reduceCtorEq,Nat.reduceEqDiff])))|((with_reducible first|refine Oz ?_|refine Rv ?_|refine Rl ?_|refine Rg ?_|refine Re ?_|refine Nz ?_);intro K hK;simp (disch := omega) only [go_sem,seval];(try ((with_reducible first|refine Gt ?_|refine Gb ?_|refine Gn ?_|refine Gs ?_|refine Gv rfl ?_);simp (disch := omega) only [go_sem,seval]));((repeat (first|(intro (xb : Blk))|(intro (xk : Nat))|(intro hx)|(refine ⟨by (first|omega|(intro hg;simp [-List.getD_eq_getElem?_getD] at hg;omega)|assumption|decide),?_⟩)));refine hK _ ?_;clear K hK))|((with_reducible first|refine Onq ?_|refine Rn ?_);simp only [go_sem,seval,L75,O75];refine kR _ ?_;clear KR kR)|(simp only [thenE,inB,↓reduceIte,reduceCtorEq,Nat.reduceEqDiff])))
      ((with_reducible refine Ac ?_);intro K hK;simp (disch := omega) only [condK,go_sem,seval];refine hK _ ?_ ?_;all_goals clear K hK;all_goals intro hq;all_goals (try simp only [qF,reduceCtorEq] at hq);all_goals (try (exfalso;first|exact hq|omega)))
      · have c1 := cell_lt (n := w.length) (i := i) (j := j) (by omega) (by omega)
        rw [← hl2] at c1
        (repeat' (first|(with_reducible (first|refine Aq ?_|(refine Ar ?_;intro KR kR)|refine Ab ?_|refine As ?_|refine Ae ?_|refine At ?_|refine Al ?_|refine Ag ?_|(refine Ad O75 (by kernel_rfl) (by kernel_rfl) ?_;intro KR kR;simp only [O75,ordl,↓reduceIte,reduceCtorEq,Nat.reduceEqDiff])))|((with_reducible first|refine Oz ?_|refine Rv ?_|refine Rl ?_|refine Rg ?_|refine Re ?_|refine Nz ?_);intro K hK;simp (disch := omega) only [go_sem,seval];(try ((with_reducible first|refine Gt ?_|refine Gb ?_|refine Gn ?_|refine Gs ?_|refine Gv rfl ?_);simp (disch := omega) only [go_sem,seval]));((repeat (first|(intro (xb : Blk))|(intro (xk : Nat))|(intro hx)|(refine ⟨by (first|omega|(intro hg;simp [-List.getD_eq_getElem?_getD] at hg;omega)|assumption|decide),?_⟩)));refine hK _ ?_;clear K hK))|((with_reducible first|refine Onq ?_|refine Rn ?_);simp only [go_sem,seval,L75,O75];refine kR _ ?_;clear KR kR)|(simp only [thenE,inB,↓reduceIte,reduceCtorEq,Nat.reduceEqDiff])|((with_reducible refine Ac ?_);intro K hK;simp (disch := omega) only [condK,go_sem,seval];refine hK _ ?_ ?_;all_goals clear K hK;all_goals intro hq;all_goals (try simp only [qF,reduceCtorEq] at hq);all_goals (try (exfalso;first|exact hq|omega)))))
        (repeat' (first|((with_reducible first|refine Oz ?_|refine Rv ?_|refine Rl ?_|refine Rg ?_|refine Re ?_|refine Nz ?_);intro K hK;simp (disch := omega) only [go_sem,seval];(try ((with_reducible first|refine Gt ?_|refine Gb ?_|refine Gn ?_|refine Gs ?_|refine Gv rfl ?_);simp (disch := omega) only [go_sem,seval]));((repeat (first|(intro (xb : Blk))|(intro (xk : Nat))|(intro hx)|(refine ⟨by (first|omega|(intro hg;simp [-List.getD_eq_getElem?_getD] at hg;omega)|assumption|decide),?_⟩)));refine hK _ ?_;clear K hK))|((with_reducible first|refine Onq ?_|refine Rn ?_);simp only [go_sem,seval,L75,O75];refine kR _ ?_;clear KR kR)|(simp only [thenE,inB,↓reduceIte,reduceCtorEq,Nat.reduceEqDiff])|((with_reducible (first|refine Rb ?_ ?_|refine Rc ?_ ?_ ?_));all_goals (simp only [↓reduceIte,reduceCtorEq,Nat.reduceEqDiff]))))
        all_goals ((with_reducible (first|refine Oz ?_|refine Rg ?_|refine Re ?_|refine Nz ?_));intro K hK;simp (disch := omega) only [go_sem,seval];(try ((with_reducible refine Gt ?_);simp (disch := omega) only [go_sem,seval]));refine ⟨[2001],by simp,by simp [Env.sel,Env.get,Env.keys,AV.isS],?_⟩;simp (disch := omega) only [go_sem,seval];refine ⟨_,_,ContractH.n (one_own l w R2 lo q i j b1 ht hS hW hw (by omega) hR2 hg hj1 (by omega)),?_⟩;intro r H' hr hk;(try obtain rfl := keys_nil hk);(obtain ⟨rfl,rfl⟩ := hr);(try simp (disch := omega) only [AV.flat,AC.flat,AC.flat.flatL,AC.flat.flatLL,go_sem,seval]);((repeat (first|(intro (xb : Blk))|(intro (xk : Nat))|(intro hx)|(refine ⟨by (first|omega|(intro hg;simp [-List.getD_eq_getElem?_getD] at hg;omega)|assumption|decide),?_⟩)));refine hK _ ?_;clear K hK))
        all_goals (repeat' (first|((with_reducible first|refine Oz ?_|refine Rv ?_|refine Rl ?_|refine Rg ?_|refine Re ?_|refine Nz ?_);intro K hK;simp (disch := omega) only [go_sem,seval];(try ((with_reducible first|refine Gt ?_|refine Gb ?_|refine Gn ?_|refine Gs ?_|refine Gv rfl ?_);simp (disch := omega) only [go_sem,seval]));((repeat (first|(intro (xb : Blk))|(intro (xk : Nat))|(intro hx)|(refine ⟨by (first|omega|(intro hg;simp [-List.getD_eq_getElem?_getD] at hg;omega)|assumption|decide),?_⟩)));refine hK _ ?_;clear K hK))|((with_reducible first|refine Onq ?_|refine Rn ?_);simp only [go_sem,seval,L75,O75];refine kR _ ?_;clear KR kR)|(simp only [thenE,inB,↓reduceIte,reduceCtorEq,Nat.reduceEqDiff])|((with_reducible (first|refine Rb ?_ ?_|refine Rc ?_ ?_ ?_));all_goals (simp only [↓reduceIte,reduceCtorEq,Nat.reduceEqDiff]))))
        all_goals (repeat' (first|(with_reducible (first|refine Aq ?_|(refine Ar ?_;intro KR kR)|refine Ab ?_|refine As ?_|refine Ae ?_|refine At ?_|refine Al ?_|refine Ag ?_|(refine Ad O75 (by kernel_rfl) (by kernel_rfl) ?_;intro KR kR;simp only [O75,ordl,↓reduceIte,reduceCtorEq,Nat.reduceEqDiff])))|((with_reducible first|refine Oz ?_|refine Rv ?_|refine Rl ?_|refine Rg ?_|refine Re ?_|refine Nz ?_);intro K hK;simp (disch := omega) only [go_sem,seval];(try ((with_reducible first|refine Gt ?_|refine Gb ?_|refine Gn ?_|refine Gs ?_|refine Gv rfl ?_);simp (disch := omega) only [go_sem,seval]));((repeat (first|(intro (xb : Blk))|(intro (xk : Nat))|(intro hx)|(refine ⟨by (first|omega|(intro hg;simp [-List.getD_eq_getElem?_getD] at hg;omega)|assumption|decide),?_⟩)));refine hK _ ?_;clear K hK))|((with_reducible first|refine Onq ?_|refine Rn ?_);simp only [go_sem,seval,L75,O75];refine kR _ ?_;clear KR kR)|(simp only [thenE,inB,↓reduceIte,reduceCtorEq,Nat.reduceEqDiff])|((with_reducible refine Ac ?_);intro K hK;simp (disch := omega) only [condK,go_sem,seval];refine hK _ ?_ ?_;all_goals clear K hK;all_goals intro hq;all_goals (try simp only [qF,reduceCtorEq] at hq);all_goals (try (exfalso;first|exact hq|omega)))))
        all_goals refine gh_no ⟨m2 - 1,by omega,j + 1,R2.set q (bB R2 q,(bV R2 q).set (i * (w.length + 1) + j) (bT l w q i j)),by omega,by omega,by omega,by rw [List.length_set];exact hR2,hg.step hR2 hj1 (by omega),?_⟩
        all_goals ((try simp (disch := omega) only [List.cons.injEq,Prod.mk.injEq,AV.c.injEq,AV.agg.injEq,AV.opt.injEq,AV.tup.injEq,AV.row.injEq,AV.box.injEq,AV.mapo.injEq,AC.im.injEq,AC.sl.injEq,AC.adr.injEq,AC.ref.injEq,AC.ptr.injEq,AC.own.injEq,AC.fn.injEq,Value.int.injEq,Value.bool.injEq,Value.string.injEq,heq_eq_eq,go_sem,seval]);(try (repeat' refine And.intro ?_ ?_));all_goals (first|rfl|omega|skip))
        all_goals exact setBO (by omega)
      · (repeat (first|(with_reducible (first|refine Aq ?_|(refine Ar ?_;intro KR kR)|refine Ab ?_|refine As ?_|refine Ae ?_|refine At ?_|refine Al ?_|refine Ag ?_|(refine Ad O75 (by kernel_rfl) (by kernel_rfl) ?_;intro KR kR;simp only [O75,ordl,↓reduceIte,reduceCtorEq,Nat.reduceEqDiff])))|((with_reducible first|refine Oz ?_|refine Rv ?_|refine Rl ?_|refine Rg ?_|refine Re ?_|refine Nz ?_);intro K hK;simp (disch := omega) only [go_sem,seval];(try ((with_reducible first|refine Gt ?_|refine Gb ?_|refine Gn ?_|refine Gs ?_|refine Gv rfl ?_);simp (disch := omega) only [go_sem,seval]));((repeat (first|(intro (xb : Blk))|(intro (xk : Nat))|(intro hx)|(refine ⟨by (first|omega|(intro hg;simp [-List.getD_eq_getElem?_getD] at hg;omega)|assumption|decide),?_⟩)));refine hK _ ?_;clear K hK))|((with_reducible first|refine Onq ?_|refine Rn ?_);simp only [go_sem,seval,L75,O75];refine kR _ ?_;clear KR kR)|(simp only [thenE,inB,↓reduceIte,reduceCtorEq,Nat.reduceEqDiff])))
        refine gh_no ⟨m1 - 1,by omega,e + 1,(w.length : Int) - (e + 1 : Nat),b1,R2,by omega,by omega,rfl,hR2,hg.mono (fun a b h1 h2 => by have := h2.1;omega),?_⟩
        ((try simp (disch := omega) only [List.cons.injEq,Prod.mk.injEq,AV.c.injEq,AV.agg.injEq,AV.opt.injEq,AV.tup.injEq,AV.row.injEq,AV.box.injEq,AV.mapo.injEq,AC.im.injEq,AC.sl.injEq,AC.adr.injEq,AC.ref.injEq,AC.ptr.injEq,AC.own.injEq,AC.fn.injEq,Value.int.injEq,Value.bool.injEq,Value.string.injEq,heq_eq_eq,go_sem,seval]);(try (repeat' refine And.intro ?_ ?_));all_goals (first|rfl|omega|skip))
    · (repeat (first|(with_reducible (first|refine Aq ?_|(refine Ar ?_;intro KR kR)|refine Ab ?_|refine As ?_|refine Ae ?_|refine At ?_|refine Al ?_|refine Ag ?_|(refine Ad O75 (by kernel_rfl) (by kernel_rfl) ?_;intro KR kR;simp only [O75,ordl,↓reduceIte,reduceCtorEq,Nat.reduceEqDiff])))|((with_reducible first|refine Oz ?_|refine Rv ?_|refine Rl ?_|refine Rg ?_|refine Re ?_|refine Nz ?_);intro K hK;simp (disch := omega) only [go_sem,seval];(try ((with_reducible first|refine Gt ?_|refine Gb ?_|refine Gn ?_|refine Gs ?_|refine Gv rfl ?_);simp (disch := omega) only [go_sem,seval]));((repeat (first|(intro (xb : Blk))|(intro (xk : Nat))|(intro hx)|(refine ⟨by (first|omega|(intro hg;simp [-List.getD_eq_getElem?_getD] at hg;omega)|assumption|decide),?_⟩)));refine hK _ ?_;clear K hK))|((with_reducible first|refine Onq ?_|refine Rn ?_);simp only [go_sem,seval,L75,O75];refine kR _ ?_;clear KR kR)|(simp only [thenE,inB,↓reduceIte,reduceCtorEq,Nat.reduceEqDiff])))
      refine gh_no ⟨m - 1,by omega,q + 1,b1,R1,by omega,by omega,hR1,hf.rows (fun a b h => by omega),?_⟩
      ((try simp (disch := omega) only [List.cons.injEq,Prod.mk.injEq,AV.c.injEq,AV.agg.injEq,AV.opt.injEq,AV.tup.injEq,AV.row.injEq,AV.box.injEq,AV.mapo.injEq,AC.im.injEq,AC.sl.injEq,AC.adr.injEq,AC.ref.injEq,AC.ptr.injEq,AC.own.injEq,AC.fn.injEq,Value.int.injEq,Value.bool.injEq,Value.string.injEq,heq_eq_eq,go_sem,seval]);(try (repeat' refine And.intro ?_ ?_));all_goals (first|rfl|omega|skip))
  · (repeat (first|(with_reducible (first|refine Aq ?_|(refine Ar ?_;intro KR kR)|refine Ab ?_|refine As ?_|refine Ae ?_|refine At ?_|refine Al ?_|refine Ag ?_|(refine Ad O75 (by kernel_rfl) (by kernel_rfl) ?_;intro KR kR;simp only [O75,ordl,↓reduceIte,reduceCtorEq,Nat.reduceEqDiff])))|((with_reducible first|refine Oz ?_|refine Rv ?_|refine Rl ?_|refine Rg ?_|refine Re ?_|refine Nz ?_);intro K hK;simp (disch := omega) only [go_sem,seval];(try ((with_reducible first|refine Gt ?_|refine Gb ?_|refine Gn ?_|refine Gs ?_|refine Gv rfl ?_);simp (disch := omega) only [go_sem,seval]));((repeat (first|(intro (xb : Blk))|(intro (xk : Nat))|(intro hx)|(refine ⟨by (first|omega|(intro hg;simp [-List.getD_eq_getElem?_getD] at hg;omega)|assumption|decide),?_⟩)));refine hK _ ?_;clear K hK))|((with_reducible first|refine Onq ?_|refine Rn ?_);simp only [go_sem,seval,L75,O75];refine kR _ ?_;clear KR kR)|(simp only [thenE,inB,↓reduceIte,reduceCtorEq,Nat.reduceEqDiff])))
    (simp only [retQ,Try.results75];simp (disch := omega) only [resK,resT,resAV,Env.sel,Env.keys,List.map_nil,List.map_cons,List.all_nil,List.all_cons,AV.isS,Bool.not_false,Bool.and_self,Option.map_some,List.length_cons,List.length_nil,Nat.zero_add,Nat.reduceAdd,not_false_eq_true,true_and,and_true,ne_eq,go_sem,seval,ne_eq])
    have e : q = l.length := by omega
    subst e
    exact ⟨bc,R,hRq,hRo,rfl⟩

end Go.Proofs.Ytfldmpmaifjcbaa
