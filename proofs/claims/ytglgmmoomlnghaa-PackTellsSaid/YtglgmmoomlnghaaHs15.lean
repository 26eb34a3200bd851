/-
  THE HEAP SEMANTICS, part 15: a code does what 'awp' says; a function's contract from its code.
-/
import Derived.Test.YtglgmmoomlnghaaHs14
import Derived.ScopeJumps
namespace Go.Hs
open Go Go.RowKit

section
variable {P : Program} {n : Nat} {p0 F : Nat → Prop} {w0 : World} {S : Env} {a : Act} {w : World} {p : Nat → Prop} {ow : Nat → List Nat} {Q : Exit → Act → World → Prop}

theorem ghs_sound : ∀ (l : List Gh) {S : Env} {p : Nat → Prop} {ow : Nat → List Nat} {K : Env → Prop},Rel n p0 F w0 S a w p ow → ghs l S K → ∃ S' p' ow',K S' ∧ Rel n p0 F w0 S' a w p' ow'
  | [],S,p,ow,K,hR,h => ⟨S,p,ow,h,hR⟩
  | x :: r,S,p,ow,K,hR,h => by
    simp only [ghs] at h
    obtain ⟨S1,p1,ow1,h1,hR1⟩ := gh_sound hR h
    exact ghs_sound r hR1 h1

theorem mem_live {ks : List Nat} : ∀ {S : Env} {d : Nat} {v : AV},(d,v) ∈ S.live ks → (d,v) ∈ S
  | [],d,v,h => by simp [Env.live] at h
  | (k,u) :: r,d,v,h => by
    simp only [Env.live] at h
    split at h
    · cases h with
      | head => simp
      | tail _ h => exact List.mem_cons_of_mem _ (mem_live h)
    · exact List.mem_cons_of_mem _ (mem_live h)

theorem keepS_rel (hR : Rel n p0 F w0 S a w p ow) (k : Option (List Nat)) : Rel n p0 F w0 (keepS S k) a w p ow := by
  cases k with
  | none => exact hR
  | some ks => exact rel_sub hR fun _ _ h => mem_live h

theorem keepR_rel (hR : Rel n p0 F w0 S a w p ow) (k : Option (List Nat)) : Rel n p0 F w0 (keepR S k) a w p ow := by
  cases k with
  | none => exact hR
  | some ks => exact rel_restr hR ks

theorem awp_sound {L : Nat → Option (List Nat)} : ∀ (c : Code) {Q : Exit → Env → Prop} {S : Env} {a : Act} {w : World} {p : Nat → Prop} {ow : Nat → List Nat},Rel n p0 F w0 S a w p ow → awp P n L c Q S → c.wp P (After n p0 F w0 Q) a w := by
  intro c
  induction c with
  | skip => intro Q S a w p ow hR h;exact wp_skip ⟨S,p,ow,h,hR⟩
  | region id ops draw =>
    intro Q S a w p ow hR h
    simp only [awp] at h
    obtain ⟨gh,h⟩ := h
    obtain ⟨S1,p1,ow1,h,hR1⟩ := ghs_sound gh hR h
    cases draw with
    | false =>
      exact wp_region_list (aops_sound _ hR1 h fun S' a' w' p' ow' hK hR' => ⟨_,p',ow',hK,keepS_rel hR' _⟩)
    | true =>
      obtain ⟨h1,E,t,h2,h3⟩ := h
      simp only [Bool.and_eq_true,beq_iff_eq] at h2
      obtain ⟨⟨⟨hs,hok⟩,hlen⟩,hB⟩ := h2
      let Q0 : Exit → Act → World → Prop := fun e a' w' => e = .normal ∧ After n p0 F w0 Q .normal a' w'
      have hQ0 : ∀ c a w,¬ Q0 (.panic c) a w := fun c a w h => by cases h.1
      have hq : (Code.region id ops true).wp P Q0 a w := by
        refine wp_region_any h1 ?_
        have hR2 : Rel n p0 F w0 S1 a { w with drawn := w.drawn + 1 } p1 ow1 := rel_world hR1 (Chg.of_below (Below.refl _ _).drew)
        have hw := rops_sound (w := { w with drawn := w.drawn + 1 }) (Q := Q0) hs hQ0 t _ hB hok closed_start hR2 h3 fun S' a' w' p' ow' hK hR' => ⟨rfl,_,p',ow',hK,keepS_rel hR' _⟩
        rw [hlen] at hw
        exact wpAny_of_G _ _ _ _ hw
      refine wp_mono hq ?_
      rintro e a' w' ⟨rfl,h⟩
      exact h
  | seq x y ihx ihy =>
    intro Q S a w p ow hR h
    simp only [awp] at h
    obtain ⟨ks,M,h,hM⟩ := h
    refine wp_seq (wp_mono (ihx hR h) ?_)
    rintro e a' w' ⟨S',p',ow',hq,hR'⟩
    cases e with
    | normal => exact ihy (keepR_rel hR' ks) (hM _ hq)
    | _ => exact ⟨S',p',ow',hq,hR'⟩
  | cond c x y ihx ihy =>
    intro Q S a w p ow hR h
    simp only [awp] at h
    unfold condK at h
    obtain ⟨v,h1,hv⟩ := evK_sound hR h
    split at h1
    · rename_i b
      exact wp_cond_split (RdS_im (hv rfl)) (fun hb => ihx hR (h1.1 hb)) (fun hb => ihy hR (h1.2 hb))
    · exact h1.elim
  | block id c ih =>
    intro Q S a w p ow hR h
    simp only [awp] at h
    refine wp_block (wp_mono (ih hR h) ?_)
    rintro e a' w' ⟨S',p',ow',hq,hR'⟩
    cases e with
    | exit id' =>
      simp only [inB] at hq
      simp only [Exit.inBlock]
      split
      · rename_i hid;rw [if_pos hid] at hq;exact ⟨S',p',ow',hq,hR'⟩
      · rename_i hid;rw [if_neg hid] at hq;exact ⟨S',p',ow',hq,hR'⟩
    | _ => exact ⟨S',p',ow',hq,hR'⟩
  | loop c ih =>
    intro Q S a w p ow hR h
    simp only [awp] at h
    obtain ⟨gh,ks,I,h,hround⟩ := h
    obtain ⟨S1,p1,ow1,⟨k,h0⟩,hR1⟩ := ghs_sound gh hR h
    have key : ∀ m k S a w p ow,k < m → Rel n p0 F w0 S a w p ow → I k S → Code.rounds P c (After n p0 F w0 Q) m a w := by
      intro m
      induction m with
      | zero => intro k S a w p ow hk;omega
      | succ m ihm =>
        intro k S a w p ow hk hR hI
        rw [rounds_succ]
        refine wp_mono (ih hR (hround k S hI)) ?_
        rintro e a' w' ⟨S',p',ow',hq,hR'⟩
        cases e with
        | normal =>
          obtain ⟨gh',hq⟩ := hq
          obtain ⟨S2,p2,ow2,⟨k',hk',hI'⟩,hR2⟩ := ghs_sound gh' hR' hq
          exact ihm k' _ a' w' p2 ow2 (by omega) (keepR_rel hR2 ks) hI'
        | _ => exact ⟨S',p',ow',hq,hR'⟩
    exact wp_loop_rounds (k + 1) (key (k + 1) k _ a w p1 ow1 (by omega) (keepR_rel hR1 ks) h0)
  | exit id => intro Q S a w p ow hR h;exact wp_exit ⟨S,p,ow,h,hR⟩
  | ret => intro Q S a w p ow hR h;exact wp_ret ⟨S,p,ow,h,hR⟩
  | label l => intro Q S a w p ow hR h;exact wp_label ⟨S,p,ow,h,hR⟩
  | goto l => intro Q S a w p ow hR h;exact wp_goto ⟨S,p,ow,h,hR⟩
  | _ => intro Q S a w p ow hR h;exact h p0 F w0 a w p ow hR

/-! Results. -/

def resOne (tmps : Array Value) : ResultVar → Sem Value
  | .tmp t => pure (tmps.getD t undef)
  | .cell a t => do loadVar t (← asAddr (tmps.getD a undef))

theorem results_eq (fn : Func) (tmps : Array Value) : results fn tmps = (do
    let vs ← fn.results.mapM (resOne tmps)
    pure (if h : vs.size = 1 then vs[0] else .tuple vs)) := by
  unfold results
  have : (fun (x : ResultVar) => (match x with
    | .tmp t => pure (tmps.getD t undef)
    | .cell a t => do loadVar t (← asAddr (tmps.getD a undef)) : Sem Value)) = resOne tmps := by
    funext x;cases x <;> rfl
  rw [← this]
  rfl

theorem isAggT_run {T : TypeId} (h : isAggT P T = true) (w : World) : (isAgg T).run P w = .ok true w := by
  unfold isAggT at h
  split at h
  · rename_i fs hu;simp [isAgg,run_underlying hu]
  · rename_i l e hu;simp [isAgg,run_underlying hu]
  · simp at h

theorem isAggT_run' {T : TypeId} {d : TypeDesc} (hd : P.underlying T = some d) (h : isAggT P T = false) (w : World) : (isAgg T).run P w = .ok false w := by
  unfold isAggT at h
  rw [hd] at h
  cases d <;> simp_all [isAgg,run_underlying hd]

theorem run_load_box {T ty g : Nat} {cur : Array Value} (hT : isAggT P T = true) (hs : szOf P T = some cur.size) (hg : w.heap[g]? = some (.cells cur ty (0,0))) : (loadVar T ⟨g,0,none⟩).run P w = .ok (.agg cur) w := by
  have h1 : ∀ j v,cur.toList[j]? = some v → w.cell? ((⟨g,0,none⟩ : Addr).add j) = some v := by
    intro j v hj
    rw [addr_add_zero,cell_of_row w g j cur ty (0,0) hg]
    simpa using hj
  have := run_loadCells_list (P := P) (w := w) ⟨g,0,none⟩ cur.toList h1
  simp only [Array.length_toList] at this
  simp [loadVar,isAggT_run hT,run_szOf hs,this]

theorem absH_sound {Hk : List Nat} (hR : Rel n p0 F w0 S a w p ow) {O0 : List Nat} (hF : Free F w0 S w p ow O0) {u : Value} {c : AC} {K : Env → AC → Prop} (hu : RdC w p u c) (h : absH Hk S c K) :
    ∃ S' c' O,K S' c' ∧ Rel n p0 F w0 S' a w p ow ∧ (∀ d v,(d,v) ∈ S' → (d,v) ∈ S) ∧ Free F w0 S' w p ow (O0 ++ O) ∧ RdO w p [u] [c'] O := by
  unfold absH at h
  split at h
  · split at h
    · exact ⟨_,_,[],h,hR,fun _ _ h => h,by simpa using hF,.per hu .nil⟩
    · exact absC_sound hR hF hu h
  · exact absC_sound hR hF hu h

theorem resT_sound {Hk : List Nat} : ∀ (rs : List ResultVar) {S : Env} {O0 : List Nat} {K : Env → List TC → Prop},(∀ r ∈ rs,∀ t T,r = .cell t T → ∃ d,P.underlying T = some d) → Rel n p0 F w0 S a w p ow → Free F w0 S w p ow O0 → resT P Hk S rs K →
    ∃ S' l us O,K S' l ∧ Rel n p0 F w0 S' a w p ow ∧ Free F w0 S' w p ow (O0 ++ O) ∧ (rs.mapM (resOne a.tmps)).run P w = .ok us w ∧ RdTOs w p us l O
  | [],S,O0,K,hT,hR,hF,h => ⟨S,[],[],[],by simpa [resT] using h,hR,by simpa using hF,by simp,.nil⟩
  | .tmp t :: r,S,O0,K,hT,hR,hF,h => by
    simp only [resT] at h
    have hT' : ∀ x ∈ r,∀ t T,x = .cell t T → ∃ d,P.underlying T = some d := fun x hx => hT x (by simp [hx])
    have run : ∀ us,(r.mapM (resOne a.tmps)).run P w = .ok us w → ((ResultVar.tmp t :: r).mapM (resOne a.tmps)).run P w = .ok (slotOf a t :: us) w := by
      intro us h2
      simp only [List.mapM_cons,Sem.run_bind,resOne,Sem.run_pure,Result.andThen_ok,h2]
      rfl
    split at h
    · rename_i c hc
      have hu : RdC w p (slotOf a t) c := hR.getS hc rfl
      obtain ⟨S1,c',O1,h,hR1,_,hF1,ho1⟩ := absH_sound hR hF hu h
      obtain ⟨S2,l,us,O2,h,hR2,hF2,h2,h3⟩ := resT_sound r hT' hR1 hF1 h
      exact ⟨S2,_,_,O1 ++ O2,h,hR2,by rw [← List.append_assoc];exact hF2,run us h2,.cons ho1 h3⟩
    · rename_i cs hc
      obtain ⟨vs,hu,hr⟩ := (hR.getS hc rfl : ∃ vs,slotOf a t = .agg vs ∧ RdL w p vs.toList cs)
      obtain ⟨S1,cs',O1,h,hR1,_,hF1,ho1⟩ := absL_sound cs hR hF hr h
      obtain ⟨S2,l,us,O2,h,hR2,hF2,h2,h3⟩ := resT_sound r hT' hR1 hF1 h
      exact ⟨S2,_,_,O1 ++ O2,h,hR2,by rw [← List.append_assoc];exact hF2,run us h2,.cons ⟨vs,hu,ho1⟩ h3⟩
    · exact h.elim
  | .cell t T :: r,S,O0,K,hT,hR,hF,h => by
    simp only [resT] at h
    have hT' : ∀ x ∈ r,∀ t T,x = .cell t T → ∃ d,P.underlying T = some d := fun x hx => hT x (by simp [hx])
    obtain ⟨dsc,hdsc⟩ := hT _ (by simp) t T rfl
    split at h
    · rename_i g k sz hc
      split at h
      · rename_i k' ty cs hg
        obtain ⟨rfl,hsz,h⟩ := h
        have hp : slotOf a t = .pointer (some ⟨k',0,none⟩) := by
          have := RdS_ptr (hR.getS hc rfl)
          simpa using this
        have hp' : a.tmps.getD t undef = .pointer (some ⟨k',0,none⟩) := hp
        obtain ⟨xs,O',⟨_,cur,c1,c2,c3,c4,c5⟩,h2,h3,h4⟩ := (hR.get hg : RdOb w p ⟨some (k',1),ty,cs.length,[cs]⟩ (ow g))
        simp only [List.flatten_cons,List.flatten_nil,List.append_nil] at h3
        have hcl : cur.size = cs.length := by simpa using c4
        have hxs : xs = cur.toList := by rw [← c5];simp [List.take_of_length_le,hcl]
        subst hxs
        have hFd := free_take hR hF hg
        rw [h4] at hFd
        have hF1 := hFd.sub ((List.Sublist.refl O0).append (List.sublist_append_right (blks (some (k',1))) O'))
        split at h
        · rename_i hag
          obtain ⟨S2,l,us,O2,h,hR2,hF2,h5,h6⟩ := resT_sound r hT' (rel_drop hR g) hF1 h
          refine ⟨S2,_,.agg cur :: us,O' ++ O2,h,hR2,by rw [← List.append_assoc];exact hF2,?_,.cons ⟨cur,rfl,h3⟩ h6⟩
          simp only [List.mapM_cons,Sem.run_bind,resOne,hp',asAddr,Sem.run_pure,Result.andThen_ok,run_load_box hag (by rw [hcl];exact hsz) c1,h5]
        · rename_i hag
          split at h
          · rename_i c
            obtain ⟨S2,l,us,O2,h,hR2,hF2,h5,h6⟩ := resT_sound r hT' (rel_drop hR g) hF1 h
            have hone : ∃ v,cur = #[v] := by
              have : cur.size = 1 := by simpa using hcl
              exact ⟨cur[0],by apply Array.ext;simp [this];intro i h1 h2;simp at h2;subst h2;rfl⟩
            obtain ⟨v,rfl⟩ := hone
            refine ⟨S2,_,v :: us,O' ++ O2,h,hR2,by rw [← List.append_assoc];exact hF2,?_,.cons h3 h6⟩
            have hload : (loadVar T ⟨k',0,none⟩).run P w = .ok v w := by
              have hcell : w.cell? ⟨k',0,none⟩ = some v := by rw [cell_of_row w k' 0 _ ty (0,0) c1];rfl
              simp [loadVar,isAggT_run' hdsc hag,hcell]
            simp only [List.mapM_cons,Sem.run_bind,resOne,hp',asAddr,Sem.run_pure,Result.andThen_ok,hload,h5]
          · exact h.elim
      · exact h.elim
    · exact h.elim

theorem RdTOs.length {vs : List Value} {cs : List TC} {O : List Nat} (h : RdTOs w p vs cs O) : vs.length = cs.length := by
  induction h with
  | nil => rfl
  | cons _ _ ih => simp [ih]

theorem initEnv_mem : ∀ {i d : Nat} {args : List AV} {v : AV},(d,v) ∈ initEnv i args → i ≤ d ∧ d < i + args.length ∧ args[d - i]? = some v
  | i,d,[],v,h => by simp [initEnv] at h
  | i,d,x :: r,v,h => by
    simp only [initEnv] at h
    cases h with
    | head => simp
    | tail _ h =>
      obtain ⟨h1,h2,h3⟩ := initEnv_mem h
      refine ⟨by omega,by simp;omega,?_⟩
      rw [show d - i = (d - (i + 1)) + 1 by omega]
      simpa using h3

theorem RdAs.get {vs : List Value} {as : List AV} (h : RdAs w p vs as) : ∀ (j : Nat) (c : AV),as[j]? = some c → ∃ v,vs[j]? = some v ∧ RdS w p v c := by
  induction h with
  | nil => intro j c hj;simp at hj
  | cons h _ ih =>
    intro j c hj
    cases j with
    | zero => simp at hj;subst hj;exact ⟨_,by simp,h⟩
    | succ j => simp at hj;obtain ⟨v,hv,hr⟩ := ih j c hj;exact ⟨v,by simpa using hv,hr⟩

/-- **A FUNCTION's CONTRACT FROM ITS CODE.** -/
theorem contract_of_awpN {N : List Nat} {f : FuncId} {fn : Func} {c : Code} {L : Nat → Option (List Nat)} {args : List AV} {H : Env} {R : AV → Env → Prop} (hf : P.funcs[f]? = some fn) (hb : fn.body = some c) (hname : (fn.name == "runtime.NumGoroutine") = false)
    (hH : (H.keys.all fun k => decide (args.length ≤ k)) = true) (hres : (fn.results.toList.all fun|.cell _ T => (P.underlying T).isSome|_ => true) = true)
    (h : awp P fn.ntmps L c (retQ P fn (H.keys ++ N) R) (initEnv 0 args ++ H)) : ContractN P f args H N R := by
  refine ⟨⟨fn,hf,hname,by rw [hb];rfl⟩,?_⟩
  intro w p vs ow hp ha hO
  refine calls_of_wp hf hb ?_
  let ow0 : Nat → List Nat := fun d => if d ∈ H.keys then ow d else []
  have hkey : ∀ d v,(d,v) ∈ H → d ∈ H.keys := fun d v hm => List.mem_map.2 ⟨(d,v),hm,rfl⟩
  have hlow : ∀ d v,(d,v) ∈ initEnv 0 args → d ∉ H.keys := by
    intro d v hm hk
    obtain ⟨_,h2,_⟩ := initEnv_mem hm
    have := List.all_eq_true.1 hH d hk
    simp at this
    omega
  have hR : Rel fn.ntmps p (InH H ow) w (initEnv 0 args ++ H) { tmps := vs.toArray ++ Array.replicate (fn.ntmps - vs.toArray.size) undef,defers := [] } w p ow0 := by
    have hslot : ∀ d v,vs[d]? = some v → slotOf { tmps := vs.toArray ++ Array.replicate (fn.ntmps - vs.toArray.size) undef,defers := [] } d = v := by
      intro d v hd
      have hlt := (List.getElem?_eq_some_iff.1 hd).1
      simp only [slotOf,Array.getD_eq_getD_getElem?]
      rw [Array.getElem?_append_left (by simpa using hlt)]
      simp [hd]
    refine ⟨rfl,by simp;omega,Chg.refl _ _,hp,fun b hb => .inl hb,?_,?_,?_,?_⟩
    · intro d v hm
      rcases List.mem_append.1 hm with hm|hm
      · obtain ⟨_,_,h2⟩ := initEnv_mem hm
        obtain ⟨u,h3,h5⟩ := ha.get _ _ h2
        rw [hslot d u (by simpa using h3)]
        exact h5.v
      · simp only [ow0,hkey d v hm,if_true]
        exact (hO.vals d v hm).2 _
    · intro d d' v v' b hm hm' hne hb'
      rcases List.mem_append.1 hm with hm|hm
      · simp only [ow0,hlow d v hm,if_false] at hb';cases hb'
      · simp only [ow0,hkey d v hm,if_true] at hb'
        rcases List.mem_append.1 hm' with hm'|hm'
        · simp only [ow0,hlow d' v' hm',if_false];simp
        · simp only [ow0,hkey d' v' hm',if_true]
          exact hO.sep _ _ _ _ b hm hm' hne hb'
    · intro d v hm
      rcases List.mem_append.1 hm with hm|hm
      · simp only [ow0,hlow d v hm,if_false];exact .nil
      · simp only [ow0,hkey d v hm,if_true];exact hO.nod d v hm
    · intro d v hm b hb'
      rcases List.mem_append.1 hm with hm|hm
      · simp only [ow0,hlow d v hm,if_false] at hb';cases hb'
      · simp only [ow0,hkey d v hm,if_true] at hb'
        obtain ⟨h1,h2⟩ := hO.fresh d v hm b hb'
        exact ⟨h1,h2,.inl ⟨d,v,hm,hb'⟩⟩
  refine wp_mono (awp_sound c hR h) ?_
  rintro e a' w' ⟨S',p',ow',hq,hR'⟩
  have fin : resK P (H.keys ++ N) S' fn.results.toList R → a'.defers = [] ∧ ∃ v,(results fn a'.tmps).run P w' = .ok v w' ∧ ∃ v_1 p' r H' ow' O,R r H' ∧ H'.keys = H.keys ++ N ∧ Ending.returned v = Ending.returned v_1 ∧ Chg (InH H ow) w w' ∧ (∀ b,p b → p' b) ∧ (∀ b,p' b → b < w'.heap.size ∧ (p b ∨ InH H ow b ∨ w.heap.size ≤ b)) ∧
      RdR w' p' v_1 O r ∧ Owns H' w' p' ow' ∧ O.Nodup ∧ (∀ b ∈ O,b < w'.heap.size ∧ ¬ p' b ∧ (InH H ow b ∨ w.heap.size ≤ b) ∧ ¬ InH H' ow' b) ∧ (∀ b,InH H' ow' b → InH H ow b ∨ w.heap.size ≤ b) := by
    intro hk
    have hT : ∀ r ∈ fn.results.toList,∀ t T,r = .cell t T → ∃ d,P.underlying T = some d := by
      rintro r hr t T rfl
      have := List.all_eq_true.1 hres _ hr
      exact Option.isSome_iff_exists.1 this
    obtain ⟨S2,l,us,O,⟨hks,hobj,hRr⟩,hR2,hF2,hrun,hrd⟩ := resT_sound _ hT hR' Free.nil hk
    rw [List.nil_append] at hF2
    have hp2 : ∀ b,p' b ∨ p b → b < w'.heap.size ∧ (p b ∨ InH H ow b ∨ w.heap.size ≤ b) := by
      rintro b (h|h)
      · exact ⟨hR2.plt b h,hR2.pnew b h⟩
      · exact ⟨Nat.lt_of_lt_of_le (hp b h) hR2.chg.size,.inl h⟩
    have hnp : ∀ b,(InH H ow b ∨ w.heap.size ≤ b) → ¬ p b := by
      rintro b (⟨d,v,hm,hb⟩|h) hpb
      · exact (hO.fresh d v hm b hb).2 hpb
      · have := hp b hpb;omega
    have hsel : ∀ g v,(g,v) ∈ S2.sel (H.keys ++ N) → (g,v) ∈ S2 ∧ v.isS = false := fun g v hm => ⟨Env.mem_of_get (sel_mem hm).1,by simpa using List.all_eq_true.1 hobj _ hm⟩
    refine ⟨hR2.defers,(if h : us.toArray.size = 1 then us.toArray[0] else .tuple us.toArray),?_,_,fun b => p' b ∨ p b,resAV l,S2.sel (H.keys ++ N),ow',O,hRr,hks,rfl,hR2.chg,fun _ h => .inr h,hp2,?_,?_,hF2.nod,?_,?_⟩
    · rw [results_eq,Array.mapM_eq_mapM_toList]
      simp [hrun]
    · have hm : RdTOs w' (fun b => p' b ∨ p b) us l O := by
        clear hRr hrun hks hobj hsel hF2
        induction hrd with
        | nil => exact .nil
        | @cons v c vs cs O1 O2 h1 _ ih =>
          refine .cons ?_ ih
          cases c with
          | c c => exact (show RdO _ _ _ _ _ from h1).mono (fun _ h => .inl h) (KeepsOn.refl _ _) fun _ _ => rfl
          | ag cs => obtain ⟨ws,e1,e2⟩ := h1;exact ⟨ws,e1,e2.mono (fun _ h => .inl h) (KeepsOn.refl _ _) fun _ _ => rfl⟩
      have hl := hm.length
      cases hm with
      | nil => exact ⟨#[],rfl,.nil⟩
      | @cons v c vs cs O1 O2 h1 t =>
        cases t with
        | nil =>
          rw [dif_pos (by simp),List.append_nil]
          cases c with
          | c c => exact h1
          | ag cs => exact h1
        | @cons v2 c2 vs2 cs2 O3 O4 h2 t =>
          rw [dif_neg (by simp)]
          have e : resAV (c :: c2 :: cs2) = .tup (c :: c2 :: cs2) := by cases c <;> rfl
          rw [e]
          exact ⟨_,rfl,.cons h1 (.cons h2 t)⟩
    · refine ⟨fun g v hm => ?_,fun d d' v v' b h1 h2 => hR2.sep _ _ _ _ b (hsel _ _ h1).1 (hsel _ _ h2).1,fun d v h1 => hR2.nod _ _ (hsel _ _ h1).1,fun d v h1 b hb => ?_⟩
      · obtain ⟨h1,h2⟩ := hsel g v hm
        refine ⟨h2,fun u => ?_⟩
        have := (hR2.vals _ _ h1).mono (p' := fun b => p' b ∨ p b) (fun _ h => .inl h) (KeepsOn.refl _ _) (fun _ _ => rfl)
        cases v <;> first|exact this|simp [AV.isS] at h2
      · obtain ⟨h2,_⟩ := hsel d v h1
        have h3 := hR2.fresh _ _ h2 b hb
        refine ⟨h3.1,?_⟩
        rintro (h|h)
        · exact h3.2.1 h
        · exact hnp b h3.2.2 h
    · intro b hb
      obtain ⟨h1,h2,h3⟩ := hF2.fresh b hb
      refine ⟨h1,?_,h3,?_⟩
      · rintro (h|h)
        · exact h2 h
        · exact hnp b h3 h
      · rintro ⟨d,v,hm,hb'⟩
        exact hF2.apart _ _ (hsel d v hm).1 b hb' hb
    · rintro b ⟨d,v,hm,hb⟩
      exact (hR2.fresh _ _ (hsel d v hm).1 b hb).2.2
  cases e with
  | ret => exact fin hq
  | normal => exact fin hq
  | _ => exact hq.elim

theorem contract_of_awp {f : FuncId} {fn : Func} {c : Code} {L : Nat → Option (List Nat)} {args : List AV} {H : Env} {R : AV → Env → Prop} (hf : P.funcs[f]? = some fn) (hb : fn.body = some c) (hname : (fn.name == "runtime.NumGoroutine") = false)
    (hH : (H.keys.all fun k => decide (args.length ≤ k)) = true) (hres : (fn.results.toList.all fun|.cell _ T => (P.underlying T).isSome|_ => true) = true)
    (h : awp P fn.ntmps L c (retQ P fn H.keys R) (initEnv 0 args ++ H)) : ContractH P f args H R :=
  (contract_of_awpN (N := []) hf hb hname hH hres (by rw [List.append_nil];exact h)).h

/-- A loop: what holds of the frame at each round's head, with a number that goes down. -/
theorem awp_loop {L : Nat → Option (List Nat)} {c : Code} {Q : Exit → Env → Prop} {S : Env} (ks : List Nat) (I : Nat → Env → Prop) (k : Nat) (h0 : I k (S.restr ks)) (hround : ∀ k S',I k S' → awp P n L c (thenE (fun S'' => ∃ gh',ghs gh' S'' fun S'' => ∃ k',k' < k ∧ I k' (S''.restr ks)) Q) S') : awp P n L (.loop c) Q S :=
  ⟨[],some ks,I,⟨k,h0⟩,hround⟩
end
end Go.Hs
