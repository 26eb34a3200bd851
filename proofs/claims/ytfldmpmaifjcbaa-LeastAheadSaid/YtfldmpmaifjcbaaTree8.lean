/-
  The document's parse trees are the program's.
-/
import Derived.Test.YtfldmpmaifjcbaaKidsP
set_option linter.unusedSimpArgs false
set_option linter.unusedVariables false
namespace Go.Proofs.Ytfldmpmaifjcbaa
open Go Go.Hs
def L88 (r : Nat) : Option (List Nat) := kl r [(0,[0,1,2,3,9]),(1,[0,1,2,3,9,11]),(2,[0,1,2,3,9,11,18]),(3,[0,1,2,3,9,11,31]),(4,[10]),(5,[0,1,2,3,9,11,12]),(6,[0,1,2,3,9,12]),(7,[0,1,2,3,9,12,61]),(8,[10]),(9,[0,1,2,3,9,11]),(10,[10])]
def O88 (r : Nat) : List Nat × OT := ordl r [(6,([],.val 0 (.val 1 (.val 2 (.val 3 (.val 4 (.val 7 (.val 8 (.val 13 (.val 14 (.load 5 (.val 6 (.load 9 (.val 10 (.val 11 (.load 12 (.val 15 (.grow 16 (.val 17 (.done))))))))))))))))))))]

theorem gopO_f {P : Program} {n : Nat} {S : Env} {pu : Bool} {o : Oper} {d : Nat} {K : Env → Prop} (hd : o.dst = some d) (h : d < n ∧ K (S.set d (.opt false (.c (.im (.bool false)))))) : gopO P n pu S o false K := by
  refine .inr ⟨fun h => absurd h (by decide),fun _ => ?_⟩
  rw [hd]
  exact ⟨h.1,_,rfl,h.2⟩
theorem getERo {z : List AC} {l : List En} {i : Nat} (h : l.length ≤ i) : getR z (enRows l) i 0 4 = z := by
  unfold getR
  rw [List.getElem?_eq_none (by rw [length_enRows];exact h)];rfl
theorem toN1 {i : Nat} : ((i : Int) + 1).toNat = i + 1 := by omega
theorem dleT {a b : Int} (h : a ≤ b) : decide (a ≤ b) = true := decide_eq_true h
theorem dleF {a b : Int} (h : ¬ a ≤ b) : decide (a ≤ b) = false := decide_eq_false h

/-- What the document tells of entry i, that should be e. -/
def entV (w : List Int) (t : List En) (nf : En → Nat → Bool × Nat) (e : En) (i : Nat) : Int :=
  if i < t.length ∧ ((enAt t i).d = e.d ∧ (enAt t i).n = e.n ∧ (enAt t i).f = e.f ∧ (enAt t i).t = e.t) ∧ 0 ≤ e.f ∧ e.f ≤ e.t ∧ e.t ≤ w.length ∧ (nf e (i + 1)).1 = true then ((nf e (i + 1)).2 : Int) else -1
def rowV (w : List Int) (t : List En) (nf : En → Nat → Bool × Nat) (e : En) (nd : Int) (i : Nat) : Int :=
  if (rowF nf w t e nd (e.t - e.f).toNat e.f i).1 = true then ((rowF nf w t e nd (e.t - e.f).toNat e.f i).2 : Int) else -1
theorem nxOk_iff {w : List Int} {x : En} {dp nd fr : Int} : nxOk w x dp nd fr = true ↔ (x.d = dp ∧ x.n = nd ∧ x.f = fr ∧ fr ≤ x.t ∧ x.t ≤ w.length) := by
  simp only [nxOk,Bool.and_eq_true,beq_iff_eq,decide_eq_true_eq]
  constructor
  · rintro ⟨⟨⟨⟨a,b⟩,c⟩,d⟩,e⟩;exact ⟨a,b,c,d,e⟩
  · rintro ⟨a,b,c,d,e⟩;exact ⟨⟨⟨⟨a,b⟩,c⟩,d⟩,e⟩
theorem kidF_in {w : List Int} {t : List En} {nf : En → Nat → Bool × Nat} {e : En} {nd fr : Int} {i : Nat} (hi : i < t.length) :
    kidF nf w t e nd fr i = if nxOk w (enAt t i) (e.d + 1) nd fr = true ∧ (enAt t i).t ≤ e.t then (if (nf (enAt t i) (i + 1)).1 = true then ((enAt t i).t,true,(nf (enAt t i) (i + 1)).2) else (0,false,(nf (enAt t i) (i + 1)).2)) else (0,false,i + 1) := by
  unfold kidF nxF
  rw [if_pos hi]
theorem entV_in {w : List Int} {t : List En} {nf : En → Nat → Bool × Nat} {e : En} {nd fr : Int} {i : Nat} (h0 : 0 ≤ fr) (hi : i < t.length) :
    entV w t nf ⟨e.d + 1,nd,fr,(enAt t i).t⟩ i = if nxOk w (enAt t i) (e.d + 1) nd fr = true ∧ (nf (enAt t i) (i + 1)).1 = true then ((nf (enAt t i) (i + 1)).2 : Int) else -1 := by
  by_cases c : nxOk w (enAt t i) (e.d + 1) nd fr = true
  · have c' := nxOk_iff.1 c
    have ee : (⟨e.d + 1,nd,fr,(enAt t i).t⟩ : En) = enAt t i := by rw [← c'.1,← c'.2.1,← c'.2.2.1]
    rw [ee]
    by_cases c2 : (nf (enAt t i) (i + 1)).1 = true
    · rw [entV,if_pos ⟨hi,⟨rfl,rfl,rfl,rfl⟩,by rw [c'.2.2.1];exact h0,by rw [c'.2.2.1];exact c'.2.2.2.1,c'.2.2.2.2,c2⟩,if_pos ⟨c,c2⟩]
    · rw [entV,if_neg (fun h => c2 h.2.2.2.2.2),if_neg (fun h => c2 h.2)]
  · rw [if_neg (fun h => c h.1)]
    exact if_neg (fun h => c (nxOk_iff.2 ⟨h.2.1.1,h.2.1.2.1,h.2.1.2.2.1,h.2.2.2.1,h.2.2.2.2.1⟩))
theorem kid_ent {w : List Int} {t : List En} {nf : En → Nat → Bool × Nat} {e : En} {nd fr : Int} {i : Nat} (h0 : 0 ≤ fr) (hi : i < t.length) :
    (kidF nf w t e nd fr i).2.1 = true ↔ (0 ≤ entV w t nf ⟨e.d + 1,nd,fr,(enAt t i).t⟩ i ∧ (enAt t i).t ≤ e.t) := by
  rw [kidF_in hi,entV_in h0 hi]
  by_cases c : nxOk w (enAt t i) (e.d + 1) nd fr = true
  · by_cases c2 : (nf (enAt t i) (i + 1)).1 = true
    · by_cases c3 : (enAt t i).t ≤ e.t
      · rw [if_pos ⟨c,c3⟩,if_pos c2,if_pos ⟨c,c2⟩];exact ⟨fun _ => ⟨by omega,c3⟩,fun _ => rfl⟩
      · rw [if_neg (fun h => c3 h.2)];exact ⟨fun h => (by cases h),fun h => absurd h.2 c3⟩
    · rw [if_neg c2,if_neg (c := _ ∧ (nf (enAt t i) (i + 1)).1 = true) (fun h => c2 h.2)]
      refine ⟨fun h => ?_,fun h => by omega⟩
      split at h <;> cases h
  · rw [if_neg (fun h => c h.1),if_neg (fun h => c h.1)]
    exact ⟨fun h => (by cases h),fun h => by omega⟩
theorem kid_ent2 {w : List Int} {t : List En} {nf : En → Nat → Bool × Nat} {e : En} {nd fr : Int} {i : Nat} (hi : i < t.length) (h0 : 0 ≤ fr) (h : (kidF nf w t e nd fr i).2.1 = true) :
    (kidF nf w t e nd fr i).1 = (enAt t i).t ∧ ((kidF nf w t e nd fr i).2.2 : Int) = entV w t nf ⟨e.d + 1,nd,fr,(enAt t i).t⟩ i := by
  rw [kidF_in hi] at h ⊢
  rw [entV_in h0 hi]
  split at h
  · rename_i c
    rw [if_pos c]
    split at h
    · rename_i c2
      rw [if_pos c2,if_pos ⟨c.1,c2⟩]
      exact ⟨rfl,rfl⟩
    · cases h
  · cases h
theorem kid_out {w : List Int} {t : List En} {nf : En → Nat → Bool × Nat} {e : En} {nd fr : Int} {i : Nat} (hi : ¬ i < t.length) : (kidF nf w t e nd fr i).2.1 = false := by
  unfold kidF nxF
  rw [if_neg hi,if_neg (fun h => by cases h.1)]
theorem ent_out {w : List Int} {t : List En} {nf : En → Nat → Bool × Nat} {e : En} {i : Nat} (hi : ¬ i < t.length) : entV w t nf e i = -1 := if_neg (fun h => hi h.1)
/-- A part that spans up to the end. -/
theorem end_ent {w : List Int} {t : List En} {nf : En → Nat → Bool × Nat} {e : En} {nd fr : Int} {i : Nat} (h0 : 0 ≤ fr) :
    entV w t nf ⟨e.d + 1,nd,fr,e.t⟩ i = if ((kidF nf w t e nd fr i).2.1 && (kidF nf w t e nd fr i).1 == e.t) = true then ((kidF nf w t e nd fr i).2.2 : Int) else -1 := by
  by_cases hi : i < t.length
  · by_cases ht : (enAt t i).t = e.t
    · have k1 := kid_ent (nf := nf) (w := w) (e := e) (nd := nd) h0 hi
      by_cases c : (kidF nf w t e nd fr i).2.1 = true
      · have k2 := kid_ent2 hi h0 c
        rw [ht] at k2
        rw [if_pos (by rw [c,k2.1];simp),k2.2]
      · rw [if_neg (fun h => c (by simp only [Bool.and_eq_true] at h;exact h.1))]
        rw [ht] at k1
        by_cases c2 : 0 ≤ entV w t nf ⟨e.d + 1,nd,fr,e.t⟩ i
        · exact absurd (k1.2 ⟨c2,Int.le_refl _⟩) c
        · unfold entV at c2 ⊢
          split at c2
          · omega
          · rename_i h;rw [if_neg h]
    · rw [show entV w t nf ⟨e.d + 1,nd,fr,e.t⟩ i = -1 from if_neg (fun g => ht g.2.1.2.2.2),if_neg]
      intro h
      simp only [Bool.and_eq_true,beq_iff_eq] at h
      have k2 := kid_ent2 hi h0 h.1
      rw [k2.1] at h
      exact ht h.2
  · rw [ent_out hi,kid_out hi,if_neg (by simp)]
theorem ent_le {w : List Int} {t : List En} {nf : En → Nat → Bool × Nat} (N : ∀ (e : En) (i : Nat),i ≤ t.length → (nf e i).2 ≤ t.length) (e : En) (i : Nat) : entV w t nf e i = -1 ∨ (0 ≤ entV w t nf e i ∧ entV w t nf e i ≤ t.length) := by
  unfold entV
  split
  · rename_i h
    have := N e (i + 1) (by omega)
    exact .inr ⟨by omega,by omega⟩
  · exact .inl rfl

/-- What is known of the document's entries below a node. -/
def RC (l : List Tm) (w : List Int) (t : List En) (n : Int) (nf : En → Nat → Bool × Nat) : Prop := ∀ (e : En) (i : Nat),(0 ≤ e.d ∧ e.d + e.n ≤ l.length) → 0 ≤ e.n → e.n < l.length → e.n < n → i ≤ t.length →
  Contract Try.prog 64 [.c (.sl 8 (tRows l)),.c (.sl 1 (kRows .u8 w)),.c (.sl 4 (enRows t)),.c (.im (.int .i64 i)),.agg e.cs] (.c (.im (.int .i64 (entV w t nf e i))))

attribute [local go_sem] AV.isS wrap_in En.cs Tm.cs binSet binEntN length_enRows length_kRows length_tRows tRows_ex tRows_frz getE0 getE1 getE2 getE3 getER getERo getE1o getK getA getB getN getTm getSet dltT dltF toN1 dleT dleF eqT eqF beT beF

set_option maxRecDepth 100000 in
set_option maxHeartbeats 4000000 in
theorem kids_ok (l : List Tm) (w : List Int) (t : List En) (n : Int) (nf : En → Nat → Bool × Nat) (N : RC l w t n nf) (L : ∀ (e : En) (i : Nat),i ≤ t.length → (nf e i).2 ≤ t.length) (e : En) (i : Nat) (hl : l.length ≤ 1000) (he : 0 ≤ e.d ∧ e.d + e.n ≤ l.length) (hn0 : 0 ≤ e.n ∧ e.n < l.length) (h0 : 0 ≤ (tAt l e.n.toNat).a) (h1 : (tAt l e.n.toNat).a < e.n) (hn : (tAt l e.n.toNat).a < n) (hf : 0 ≤ e.f ∧ e.f ≤ e.t ∧ e.t ≤ w.length) (hw : w.length ≤ 100000) (hi : i ≤ t.length) (ht : t.length ≤ 100000) :
    Contract Try.prog 88 [.c (.sl 8 (tRows l)),.c (.sl 1 (kRows .u8 w)),.c (.sl 4 (enRows t)),.c (.im (.int .i64 i)),.agg e.cs] (.c (.im (.int .i64 (rowV w t nf e (tAt l e.n.toNat).a i)))) := by
  (refine contract_of_awp (L := L88) Try.func88 rfl (by kernel_rfl) (by first|rfl|decide) (by first|rfl|kernel_rfl) ?_;simp only [Try.ntmps88,initEnv,Env.keys,List.map_nil,List.map_cons,List.append_nil,List.cons_append,List.nil_append])
  (repeat (first|(with_reducible (first|refine Aq ?_|(refine Ar ?_;intro KR kR)|refine Ab ?_|refine As ?_|refine Ae ?_|refine At ?_|refine Al ?_|refine Ag ?_|(refine Ad O88 (by kernel_rfl) (by kernel_rfl) ?_;intro KR kR;simp only [O88,ordl,↓reduceIte,reduceCtorEq,Nat.reduceEqDiff])))|((with_reducible first|refine Oz ?_|refine Rv ?_|refine Rl ?_|refine Rg ?_|refine Re ?_|refine Nz ?_);intro K hK;simp (disch := omega) only [go_sem,seval];(try ((with_reducible first|refine Gt ?_|refine gopO_f rfl ?_|refine Gv rfl ?_);simp (disch := omega) only [go_sem,seval]));((repeat (first|(intro (xb : Blk))|(intro (xk : Nat))|(intro hx)|(refine ⟨by (first|omega|(intro hg;simp [-List.getD_eq_getElem?_getD] at hg;omega)|assumption|decide),?_⟩)));refine hK _ ?_;clear K hK))|((with_reducible first|refine Onq ?_|refine Rn ?_);simp only [go_sem,seval,L88,O88];refine kR _ ?_;clear KR kR)|(simp only [thenE,inB,↓reduceIte,reduceCtorEq,Nat.reduceEqDiff])))
  generalize xk = k9
  refine awp_loop [0,1,2,3,9,11,1009] (fun m S => ∃ (a : Int) (i' : Nat),e.f ≤ a ∧ a ≤ e.t ∧ i' ≤ t.length ∧ m = (e.t - a).toNat ∧ (∃ m',m ≤ m' ∧ rowF nf w t e (tAt l e.n.toNat).a (e.t - e.f).toNat e.f i = rowF nf w t e (tAt l e.n.toNat).a m' a i') ∧
    S = [(0,.c (.sl 8 (tRows l))),(1,.c (.sl 1 (kRows .u8 w))),(2,.c (.sl 4 (enRows t))),(3,.c (.im (.int .i64 i'))),(9,.c (.ptr 1009 [] k9 4 0 0)),(11,.c (.im (.int .i64 a))),(1009,.box k9 56 [.im (.int .i64 e.d),.im (.int .i64 e.n),.im (.int .i64 e.f),.im (.int .i64 e.t)])]) (e.t - e.f).toNat ⟨e.f,i,by omega,by omega,hi,rfl,⟨_,Nat.le_refl _,rfl⟩,rfl⟩ ?_
  rintro m S' ⟨a,i',g1,g2,g3,rfl,⟨m',gm,g4⟩,rfl⟩
  (repeat (first|(with_reducible (first|refine Aq ?_|(refine Ar ?_;intro KR kR)|refine Ab ?_|refine As ?_|refine Ae ?_|refine At ?_|refine Al ?_|refine Ag ?_|(refine Ad O88 (by kernel_rfl) (by kernel_rfl) ?_;intro KR kR;simp only [O88,ordl,↓reduceIte,reduceCtorEq,Nat.reduceEqDiff])))|((with_reducible first|refine Oz ?_|refine Rv ?_|refine Rl ?_|refine Rg ?_|refine Re ?_|refine Nz ?_);intro K hK;simp (disch := omega) only [go_sem,seval];(try ((with_reducible first|refine Gt ?_|refine gopO_f rfl ?_|refine Gv rfl ?_);simp (disch := omega) only [go_sem,seval]));((repeat (first|(intro (xb : Blk))|(intro (xk : Nat))|(intro hx)|(refine ⟨by (first|omega|(intro hg;simp [-List.getD_eq_getElem?_getD] at hg;omega)|assumption|decide),?_⟩)));refine hK _ ?_;clear K hK))|((with_reducible first|refine Onq ?_|refine Rn ?_);simp only [go_sem,seval,L88,O88];refine kR _ ?_;clear KR kR)|(simp only [thenE,inB,↓reduceIte,reduceCtorEq,Nat.reduceEqDiff])))
  ((with_reducible refine Ac ?_);intro K hK;simp (disch := omega) only [condK,go_sem,seval];refine hK _ ?_ ?_;all_goals clear K hK;all_goals intro hq;all_goals (try simp only [qF,reduceCtorEq] at hq);all_goals (try (exfalso;first|exact hq|omega)))
  · obtain ⟨m2,rfl⟩ : ∃ m2,m' = m2 + 1 := ⟨m' - 1,by omega⟩
    have hs : rowF nf w t e (tAt l e.n.toNat).a (m2 + 1) a i' = if (kidF nf w t e (tAt l e.n.toNat).a a i').2.1 = true ∧ (kidF nf w t e (tAt l e.n.toNat).a a i').1 ≠ a then rowF nf w t e (tAt l e.n.toNat).a m2 (kidF nf w t e (tAt l e.n.toNat).a a i').1 (kidF nf w t e (tAt l e.n.toNat).a a i').2.2 else (false,(kidF nf w t e (tAt l e.n.toNat).a a i').2.2) := by
      rw [rowF,if_pos hq]
    have a0 : 0 ≤ a := by omega
    rw [g4.symm] at hs
    have fail : ((kidF nf w t e (tAt l e.n.toNat).a a i').2.1 = true → (kidF nf w t e (tAt l e.n.toNat).a a i').1 = a) → rowV w t nf e (tAt l e.n.toNat).a i = -1 := by
      intro h
      have e2 : rowF nf w t e (tAt l e.n.toNat).a (e.t - e.f).toNat e.f i = (false,(kidF nf w t e (tAt l e.n.toNat).a a i').2.2) := by rw [hs,if_neg (fun g => g.2 (h g.1))]
      rw [rowV,e2,if_neg (by simp)]
    by_cases c1 : i' < t.length
    · have k1 := kid_ent (nf := nf) (w := w) (e := e) (nd := (tAt l e.n.toNat).a) a0 c1
      have k2 := fun h => kid_ent2 (nf := nf) (w := w) (e := e) (nd := (tAt l e.n.toNat).a) (fr := a) c1 a0 h
      have el := ent_le (w := w) L ⟨e.d + 1,(tAt l e.n.toNat).a,a,(enAt t i').t⟩ i'
      clear hq
      by_cases c2 : (enAt t i').t ≤ a
      · (repeat' (first|(with_reducible (first|refine Aq ?_|(refine Ar ?_;intro KR kR)|refine Ab ?_|refine As ?_|refine Ae ?_|refine At ?_|refine Al ?_|refine Ag ?_|(refine Ad O88 (by kernel_rfl) (by kernel_rfl) ?_;intro KR kR;simp only [O88,ordl,↓reduceIte,reduceCtorEq,Nat.reduceEqDiff])))|((with_reducible first|refine Oz ?_|refine Rv ?_|refine Rl ?_|refine Rg ?_|refine Re ?_|refine Nz ?_);intro K hK;simp (disch := omega) only [go_sem,seval];(try ((with_reducible first|refine Gt ?_|refine gopO_f rfl ?_|refine Gv rfl ?_);simp (disch := omega) only [go_sem,seval]));((repeat (first|(intro (xb : Blk))|(intro (xk : Nat))|(intro hx)|(refine ⟨by (first|omega|(intro hg;simp [-List.getD_eq_getElem?_getD] at hg;omega)|assumption|decide),?_⟩)));refine hK _ ?_;clear K hK))|((with_reducible first|refine Onq ?_|refine Rn ?_);simp only [go_sem,seval,L88,O88];refine kR _ ?_;clear KR kR)|(simp only [thenE,inB,↓reduceIte,reduceCtorEq,Nat.reduceEqDiff])|((with_reducible refine Ac ?_);intro K hK;simp (disch := omega) only [condK,go_sem,seval];refine hK _ ?_ ?_;all_goals clear K hK;all_goals intro hq;all_goals (try simp only [qF,reduceCtorEq] at hq);all_goals (try (exfalso;first|exact hq|omega)))))
        (simp only [retQ,Try.results88];simp (disch := omega) only [resK,resT,resAV,Env.sel,Env.keys,List.map_nil,List.map_cons,List.all_nil,List.all_cons,AV.isS,Bool.not_false,Bool.and_self,Option.map_some,List.length_cons,List.length_nil,Nat.zero_add,Nat.reduceAdd,not_false_eq_true,true_and,and_true,ne_eq,go_sem,seval,ne_eq])
        rw [fail (fun h => by
          have h3 := k2 h
          have h4 := (k1.1 h).1
          unfold entV at h4
          split at h4
          · rename_i h5
            have := h5.2.2.2.1
            simp only at this
            rw [h3.1];omega
          · omega)]
      · (repeat' (first|(with_reducible (first|refine Aq ?_|(refine Ar ?_;intro KR kR)|refine Ab ?_|refine As ?_|refine Ae ?_|refine At ?_|refine Al ?_|refine Ag ?_|(refine Ad O88 (by kernel_rfl) (by kernel_rfl) ?_;intro KR kR;simp only [O88,ordl,↓reduceIte,reduceCtorEq,Nat.reduceEqDiff])))|((with_reducible first|refine Oz ?_|refine Rv ?_|refine Rl ?_|refine Rg ?_|refine Re ?_|refine Nz ?_);intro K hK;simp (disch := omega) only [go_sem,seval];(try ((with_reducible first|refine Gt ?_|refine gopO_f rfl ?_|refine Gv rfl ?_);simp (disch := omega) only [go_sem,seval]));((repeat (first|(intro (xb : Blk))|(intro (xk : Nat))|(intro hx)|(refine ⟨by (first|omega|(intro hg;simp [-List.getD_eq_getElem?_getD] at hg;omega)|assumption|decide),?_⟩)));refine hK _ ?_;clear K hK))|((with_reducible first|refine Onq ?_|refine Rn ?_);simp only [go_sem,seval,L88,O88];refine kR _ ?_;clear KR kR)|(simp only [thenE,inB,↓reduceIte,reduceCtorEq,Nat.reduceEqDiff])|((with_reducible refine Ac ?_);intro K hK;simp (disch := omega) only [condK,go_sem,seval];refine hK _ ?_ ?_;all_goals clear K hK;all_goals intro hq;all_goals (try simp only [qF,reduceCtorEq] at hq);all_goals (try (exfalso;first|exact hq|omega)))))
        (repeat' (first|((with_reducible first|refine Oz ?_|refine Rv ?_|refine Rl ?_|refine Rg ?_|refine Re ?_|refine Nz ?_);intro K hK;simp (disch := omega) only [go_sem,seval];(try ((with_reducible first|refine Gt ?_|refine gopO_f rfl ?_|refine Gv rfl ?_);simp (disch := omega) only [go_sem,seval]));((repeat (first|(intro (xb : Blk))|(intro (xk : Nat))|(intro hx)|(refine ⟨by (first|omega|(intro hg;simp [-List.getD_eq_getElem?_getD] at hg;omega)|assumption|decide),?_⟩)));refine hK _ ?_;clear K hK))|((with_reducible first|refine Onq ?_|refine Rn ?_);simp only [go_sem,seval,L88,O88];refine kR _ ?_;clear KR kR)|(simp only [thenE,inB,↓reduceIte,reduceCtorEq,Nat.reduceEqDiff])|((with_reducible (first|refine Rb ?_ ?_|refine Rc ?_ ?_ ?_));all_goals (simp only [↓reduceIte,reduceCtorEq,Nat.reduceEqDiff]))))
        (repeat (first|(with_reducible (first|refine Aq ?_|(refine Ar ?_;intro KR kR)|refine Ab ?_|refine As ?_|refine Ae ?_|refine At ?_|refine Al ?_|refine Ag ?_|(refine Ad O88 (by kernel_rfl) (by kernel_rfl) ?_;intro KR kR;simp only [O88,ordl,↓reduceIte,reduceCtorEq,Nat.reduceEqDiff])))|((with_reducible first|refine Oz ?_|refine Rv ?_|refine Rl ?_|refine Rg ?_|refine Re ?_|refine Nz ?_);intro K hK;simp (disch := omega) only [go_sem,seval];(try ((with_reducible first|refine Gt ?_|refine gopO_f rfl ?_|refine Gv rfl ?_);simp (disch := omega) only [go_sem,seval]));((repeat (first|(intro (xb : Blk))|(intro (xk : Nat))|(intro hx)|(refine ⟨by (first|omega|(intro hg;simp [-List.getD_eq_getElem?_getD] at hg;omega)|assumption|decide),?_⟩)));refine hK _ ?_;clear K hK))|((with_reducible first|refine Onq ?_|refine Rn ?_);simp only [go_sem,seval,L88,O88];refine kR _ ?_;clear KR kR)|(simp only [thenE,inB,↓reduceIte,reduceCtorEq,Nat.reduceEqDiff])))
        ((with_reducible (first|refine Oz ?_|refine Rg ?_|refine Re ?_|refine Nz ?_));intro K hK;simp (disch := omega) only [go_sem,seval];(try ((with_reducible refine Gt ?_);simp (disch := omega) only [go_sem,seval]));refine ⟨[],by simp,by simp [Env.sel,Env.get,Env.keys,AV.isS],?_⟩;simp (disch := omega) only [go_sem,seval];refine ⟨_,_,ContractH.n (N ⟨e.d + 1,(tAt l e.n.toNat).a,a,(enAt t i').t⟩ i' (by first|omega|(dsimp only;omega)) (by first|omega|(dsimp only;omega)) (by first|omega|(dsimp only;omega)) (by first|omega|(dsimp only;omega)) g3),?_⟩;intro r H' hr hk;(try obtain rfl := keys_nil hk);(first|subst hr|(obtain ⟨_,rfl⟩ := hr)|(obtain ⟨_,_,rfl⟩ := hr)|(obtain ⟨_,_,_,rfl⟩ := hr));(try simp (disch := omega) only [AV.flat,AC.flat,AC.flat.flatL,AC.flat.flatLL,go_sem,seval]);((repeat (first|(intro (xb : Blk))|(intro (xk : Nat))|(intro hx)|(refine ⟨by (first|omega|(intro hg;simp [-List.getD_eq_getElem?_getD] at hg;omega)|assumption|decide),?_⟩)));refine hK _ ?_;clear K hK))
        generalize hV : entV w t nf ⟨e.d + 1,(tAt l e.n.toNat).a,a,(enAt t i').t⟩ i' = V at *
        by_cases c3 : V < 0
        · (repeat' (first|(with_reducible (first|refine Aq ?_|(refine Ar ?_;intro KR kR)|refine Ab ?_|refine As ?_|refine Ae ?_|refine At ?_|refine Al ?_|refine Ag ?_|(refine Ad O88 (by kernel_rfl) (by kernel_rfl) ?_;intro KR kR;simp only [O88,ordl,↓reduceIte,reduceCtorEq,Nat.reduceEqDiff])))|((with_reducible first|refine Oz ?_|refine Rv ?_|refine Rl ?_|refine Rg ?_|refine Re ?_|refine Nz ?_);intro K hK;simp (disch := omega) only [go_sem,seval];(try ((with_reducible first|refine Gt ?_|refine gopO_f rfl ?_|refine Gv rfl ?_);simp (disch := omega) only [go_sem,seval]));((repeat (first|(intro (xb : Blk))|(intro (xk : Nat))|(intro hx)|(refine ⟨by (first|omega|(intro hg;simp [-List.getD_eq_getElem?_getD] at hg;omega)|assumption|decide),?_⟩)));refine hK _ ?_;clear K hK))|((with_reducible first|refine Onq ?_|refine Rn ?_);simp only [go_sem,seval,L88,O88];refine kR _ ?_;clear KR kR)|(simp only [thenE,inB,↓reduceIte,reduceCtorEq,Nat.reduceEqDiff])|((with_reducible refine Ac ?_);intro K hK;simp (disch := omega) only [condK,go_sem,seval];refine hK _ ?_ ?_;all_goals clear K hK;all_goals intro hq;all_goals (try simp only [qF,reduceCtorEq] at hq);all_goals (try (exfalso;first|exact hq|omega)))))
          (simp only [retQ,Try.results88];simp (disch := omega) only [resK,resT,resAV,Env.sel,Env.keys,List.map_nil,List.map_cons,List.all_nil,List.all_cons,AV.isS,Bool.not_false,Bool.and_self,Option.map_some,List.length_cons,List.length_nil,Nat.zero_add,Nat.reduceAdd,not_false_eq_true,true_and,and_true,ne_eq,go_sem,seval,ne_eq])
          rw [fail (fun h => by have := (k1.1 h).1;omega)]
        · by_cases c4 : e.t < (enAt t i').t
          · (repeat' (first|(with_reducible (first|refine Aq ?_|(refine Ar ?_;intro KR kR)|refine Ab ?_|refine As ?_|refine Ae ?_|refine At ?_|refine Al ?_|refine Ag ?_|(refine Ad O88 (by kernel_rfl) (by kernel_rfl) ?_;intro KR kR;simp only [O88,ordl,↓reduceIte,reduceCtorEq,Nat.reduceEqDiff])))|((with_reducible first|refine Oz ?_|refine Rv ?_|refine Rl ?_|refine Rg ?_|refine Re ?_|refine Nz ?_);intro K hK;simp (disch := omega) only [go_sem,seval];(try ((with_reducible first|refine Gt ?_|refine gopO_f rfl ?_|refine Gv rfl ?_);simp (disch := omega) only [go_sem,seval]));((repeat (first|(intro (xb : Blk))|(intro (xk : Nat))|(intro hx)|(refine ⟨by (first|omega|(intro hg;simp [-List.getD_eq_getElem?_getD] at hg;omega)|assumption|decide),?_⟩)));refine hK _ ?_;clear K hK))|((with_reducible first|refine Onq ?_|refine Rn ?_);simp only [go_sem,seval,L88,O88];refine kR _ ?_;clear KR kR)|(simp only [thenE,inB,↓reduceIte,reduceCtorEq,Nat.reduceEqDiff])|((with_reducible refine Ac ?_);intro K hK;simp (disch := omega) only [condK,go_sem,seval];refine hK _ ?_ ?_;all_goals clear K hK;all_goals intro hq;all_goals (try simp only [qF,reduceCtorEq] at hq);all_goals (try (exfalso;first|exact hq|omega)))))
            (simp only [retQ,Try.results88];simp (disch := omega) only [resK,resT,resAV,Env.sel,Env.keys,List.map_nil,List.map_cons,List.all_nil,List.all_cons,AV.isS,Bool.not_false,Bool.and_self,Option.map_some,List.length_cons,List.length_nil,Nat.zero_add,Nat.reduceAdd,not_false_eq_true,true_and,and_true,ne_eq,go_sem,seval,ne_eq])
            rw [fail (fun h => by have := (k1.1 h).2;omega)]
          · have h5 := k1.2 ⟨by omega,by omega⟩
            have h6 := k2 h5
            obtain ⟨i2,rfl⟩ : ∃ i2 : Nat,V = i2 := ⟨V.toNat,by omega⟩
            (repeat' (first|(with_reducible (first|refine Aq ?_|(refine Ar ?_;intro KR kR)|refine Ab ?_|refine As ?_|refine Ae ?_|refine At ?_|refine Al ?_|refine Ag ?_|(refine Ad O88 (by kernel_rfl) (by kernel_rfl) ?_;intro KR kR;simp only [O88,ordl,↓reduceIte,reduceCtorEq,Nat.reduceEqDiff])))|((with_reducible first|refine Oz ?_|refine Rv ?_|refine Rl ?_|refine Rg ?_|refine Re ?_|refine Nz ?_);intro K hK;simp (disch := omega) only [go_sem,seval];(try ((with_reducible first|refine Gt ?_|refine gopO_f rfl ?_|refine Gv rfl ?_);simp (disch := omega) only [go_sem,seval]));((repeat (first|(intro (xb : Blk))|(intro (xk : Nat))|(intro hx)|(refine ⟨by (first|omega|(intro hg;simp [-List.getD_eq_getElem?_getD] at hg;omega)|assumption|decide),?_⟩)));refine hK _ ?_;clear K hK))|((with_reducible first|refine Onq ?_|refine Rn ?_);simp only [go_sem,seval,L88,O88];refine kR _ ?_;clear KR kR)|(simp only [thenE,inB,↓reduceIte,reduceCtorEq,Nat.reduceEqDiff])|((with_reducible refine Ac ?_);intro K hK;simp (disch := omega) only [condK,go_sem,seval];refine hK _ ?_ ?_;all_goals clear K hK;all_goals intro hq;all_goals (try simp only [qF,reduceCtorEq] at hq);all_goals (try (exfalso;first|exact hq|omega)))))
            refine gh_no ⟨(e.t - (enAt t i').t).toNat,by omega,(enAt t i').t,i2,by omega,by omega,by omega,rfl,⟨m2,by omega,?_⟩,rfl⟩
            rw [hs,if_pos ⟨h5,by rw [h6.1];omega⟩,h6.1]
            congr 1
            omega
    · (repeat' (first|(with_reducible (first|refine Aq ?_|(refine Ar ?_;intro KR kR)|refine Ab ?_|refine As ?_|refine Ae ?_|refine At ?_|refine Al ?_|refine Ag ?_|(refine Ad O88 (by kernel_rfl) (by kernel_rfl) ?_;intro KR kR;simp only [O88,ordl,↓reduceIte,reduceCtorEq,Nat.reduceEqDiff])))|((with_reducible first|refine Oz ?_|refine Rv ?_|refine Rl ?_|refine Rg ?_|refine Re ?_|refine Nz ?_);intro K hK;simp (disch := omega) only [go_sem,seval];(try ((with_reducible first|refine Gt ?_|refine gopO_f rfl ?_|refine Gv rfl ?_);simp (disch := omega) only [go_sem,seval]));((repeat (first|(intro (xb : Blk))|(intro (xk : Nat))|(intro hx)|(refine ⟨by (first|omega|(intro hg;simp [-List.getD_eq_getElem?_getD] at hg;omega)|assumption|decide),?_⟩)));refine hK _ ?_;clear K hK))|((with_reducible first|refine Onq ?_|refine Rn ?_);simp only [go_sem,seval,L88,O88];refine kR _ ?_;clear KR kR)|(simp only [thenE,inB,↓reduceIte,reduceCtorEq,Nat.reduceEqDiff])|((with_reducible refine Ac ?_);intro K hK;simp (disch := omega) only [condK,go_sem,seval];refine hK _ ?_ ?_;all_goals clear K hK;all_goals intro hq;all_goals (try simp only [qF,reduceCtorEq] at hq);all_goals (try (exfalso;first|exact hq|omega)))))
      (simp only [retQ,Try.results88];simp (disch := omega) only [resK,resT,resAV,Env.sel,Env.keys,List.map_nil,List.map_cons,List.all_nil,List.all_cons,AV.isS,Bool.not_false,Bool.and_self,Option.map_some,List.length_cons,List.length_nil,Nat.zero_add,Nat.reduceAdd,not_false_eq_true,true_and,and_true,ne_eq,go_sem,seval,ne_eq])
      rw [fail (fun h => by rw [kid_out c1] at h;cases h)]
  · have e1 : rowF nf w t e (tAt l e.n.toNat).a m' a i' = (true,i') := by
      cases m' with
      | zero => rfl
      | succ m2 => rw [rowF,if_neg (by omega)]
    (repeat' (first|(with_reducible (first|refine Aq ?_|(refine Ar ?_;intro KR kR)|refine Ab ?_|refine As ?_|refine Ae ?_|refine At ?_|refine Al ?_|refine Ag ?_|(refine Ad O88 (by kernel_rfl) (by kernel_rfl) ?_;intro KR kR;simp only [O88,ordl,↓reduceIte,reduceCtorEq,Nat.reduceEqDiff])))|((with_reducible first|refine Oz ?_|refine Rv ?_|refine Rl ?_|refine Rg ?_|refine Re ?_|refine Nz ?_);intro K hK;simp (disch := omega) only [go_sem,seval];(try ((with_reducible first|refine Gt ?_|refine gopO_f rfl ?_|refine Gv rfl ?_);simp (disch := omega) only [go_sem,seval]));((repeat (first|(intro (xb : Blk))|(intro (xk : Nat))|(intro hx)|(refine ⟨by (first|omega|(intro hg;simp [-List.getD_eq_getElem?_getD] at hg;omega)|assumption|decide),?_⟩)));refine hK _ ?_;clear K hK))|((with_reducible first|refine Onq ?_|refine Rn ?_);simp only [go_sem,seval,L88,O88];refine kR _ ?_;clear KR kR)|(simp only [thenE,inB,↓reduceIte,reduceCtorEq,Nat.reduceEqDiff])|((with_reducible refine Ac ?_);intro K hK;simp (disch := omega) only [condK,go_sem,seval];refine hK _ ?_ ?_;all_goals clear K hK;all_goals intro hq;all_goals (try simp only [qF,reduceCtorEq] at hq);all_goals (try (exfalso;first|exact hq|omega)))))
    (simp only [retQ,Try.results88];simp (disch := omega) only [resK,resT,resAV,Env.sel,Env.keys,List.map_nil,List.map_cons,List.all_nil,List.all_cons,AV.isS,Bool.not_false,Bool.and_self,Option.map_some,List.length_cons,List.length_nil,Nat.zero_add,Nat.reduceAdd,not_false_eq_true,true_and,and_true,ne_eq,go_sem,seval,ne_eq])
    rw [rowV,g4,e1,if_pos rfl]

end Go.Proofs.Ytfldmpmaifjcbaa
