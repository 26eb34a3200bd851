/-
  THE VALUE SEMANTICS, part 12: a function's contract from its code; the rules that a proof of 'awp' uses.
-/
import Derived.Test.YtgiihapbgpnkkaaVs11
namespace Go.Vs
open Go Go.RowKit

section
variable {P : Program} {n : Nat} {p0 : Nat → Prop} {w0 : World} {S : Env} {a : Act} {w : World} {p : Nat → Prop}

def resOne (tmps : Array Value) : ResultVar → Sem Value
  | .tmp t => pure (tmps.getD t undef)
  | .cell a t => do loadVar t (← asAddr (tmps.getD a undef))

theorem results_eq (fn : Func) (tmps : Array Value) : results fn tmps = (do
    let vs ← fn.results.mapM (resOne tmps)
    pure (if h : vs.size = 1 then vs[0] else .tuple vs)) := by
  unfold results
  have : (fun (x : ResultVar) => (match x with
    | .tmp t => pure (tmps.getD t undef)
    | .cell a t => do loadVar t (← asAddr (tmps.getD a undef)) : Sem Value)) = resOne tmps := by
    funext x; cases x <;> rfl
  rw [← this]
  rfl

theorem lent_new (hR : Rel n p0 w0 S a w p) : ∀ b, lentP S a p b → p0 b ∨ w0.heap.size ≤ b := by
  rintro b (h | ⟨d, v, hm, ho, hb⟩)
  · exact hR.pnew b h
  · exact .inr (blk_lt (hR.vals _ _ hm) ho hb).1

theorem isAggT_run {T : TypeId} (h : isAggT P T = true) (w : World) : (isAgg T).run P w = .ok true w := by
  unfold isAggT at h
  split at h
  · rename_i fs hu; simp [isAgg, run_underlying hu]
  · rename_i l e hu; simp [isAgg, run_underlying hu]
  · simp at h

theorem run_load_box {T ty g : Nat} {cur : Array Value} (hT : isAggT P T = true) (hs : szOf P T = some cur.size) (hg : w.heap[g]? = some (.cells cur ty (0, 0))) : (loadVar T ⟨g, 0, none⟩).run P w = .ok (.agg cur) w := by
  have h1 : ∀ j v, cur.toList[j]? = some v → w.cell? ((⟨g, 0, none⟩ : Addr).add j) = some v := by
    intro j v hj
    rw [addr_add_zero, cell_of_row w g j cur ty (0, 0) hg]
    simpa using hj
  have := run_loadCells_list (P := P) (w := w) ⟨g, 0, none⟩ cur.toList h1
  simp only [Array.length_toList] at this
  simp [loadVar, isAggT_run hT, run_szOf hs, this]

theorem resT_sound (hR : Rel n p0 w0 S a w p) : ∀ (rs : List ResultVar) (vs : List TC), resT P S rs = some vs → ∃ us, (rs.mapM (resOne a.tmps)).run P w = .ok us w ∧ RdTs w (lentP S a p) us vs
  | [], vs, h => by simp [resT] at h; subst h; exact ⟨[], by simp, .nil⟩
  | .tmp t :: r, vs, h => by
    simp only [resT] at h
    have fin : ∀ (c : TC), RdT w (lentP S a p) (slotOf a t) c → (resT P S r).map (c :: ·) = some vs → ∃ us, ((ResultVar.tmp t :: r).mapM (resOne a.tmps)).run P w = .ok us w ∧ RdTs w (lentP S a p) us vs := by
      intro c hc h
      simp only [Option.map_eq_some_iff] at h
      obtain ⟨vs', h1, rfl⟩ := h
      obtain ⟨us, h2, h3⟩ := resT_sound hR r vs' h1
      refine ⟨slotOf a t :: us, ?_, .cons hc h3⟩
      simp only [List.mapM_cons, Sem.run_bind, resOne, Sem.run_pure, Result.andThen_ok, h2]
      rfl
    have up : ∀ {v : AV}, RdV w p w0.heap.size (slotOf a) (slotOf a t) v → v.arg = true → RdV w (lentP S a p) w0.heap.size (slotOf a) (slotOf a t) v := fun h ha => h.keep (fun _ h => .inl h) (fun _ _ => rfl) fun ho => absurd ho (arg_owns ha)
    have row : ∀ (d : Nat) (b : Bool) (ty sz : Nat) (es : List (List AC)), S.get d = some (.row b ty sz es) → RdC w (lentP S a p) (slotOf a d) (.sl sz es) := by
      intro d b ty sz es hd
      obtain ⟨_, ⟨xs, q2, q3⟩, q4⟩ := hR.get hd
      exact rdC_of_row q2 q3 (fun _ h => .inl h) (fun g' hg' => .inr ⟨d, _, Env.mem_of_get hd, rfl, hg'⟩)
    split at h
    · rename_i c hc; exact fin (.c c) (up (hR.get hc) rfl) h
    · rename_i cs hc; exact fin (.ag cs) (up (hR.get hc) rfl) h
    · rename_i b ty sz es hc; exact fin (.c (.sl sz es)) (row _ _ _ _ _ hc) h
    · rename_i d hc
      split at h
      · rename_i b ty sz es hd
        refine fin (.c (.sl sz es)) ?_ h
        show RdC w _ (slotOf a t) _
        have : slotOf a t = slotOf a d := hR.get hc
        rw [this]; exact row _ _ _ _ _ hd
      · simp at h
    · simp at h
  | .cell t T :: r, vs, h => by
    simp only [resT] at h
    split at h
    · rename_i ty cs hc
      split at h
      · rename_i hcond
        simp only [Option.map_eq_some_iff] at h
        obtain ⟨vs', h1, rfl⟩ := h
        obtain ⟨us, h2, h3⟩ := resT_sound hR r vs' h1
        obtain ⟨g, cur, hv, hB, hng, hg, hrl⟩ := hR.get hc
        have hcl : cur.size = cs.length := by rw [← hrl.length, Array.length_toList]
        refine ⟨.agg cur :: us, ?_, .cons ⟨cur, rfl, hrl.mono (fun _ h => .inl h) (fun _ _ => rfl)⟩ h3⟩
        have hv' : a.tmps.getD t undef = .pointer (some ⟨g, 0, none⟩) := hv
        simp only [List.mapM_cons, Sem.run_bind, resOne, hv', asAddr, Sem.run_pure, Result.andThen_ok, run_load_box hcond.1 (by rw [hcl]; exact hcond.2) hg, h2]
      · simp at h
    · simp at h

theorem RdTs.length {vs : List Value} {cs : List TC} (h : RdTs w p vs cs) : vs.length = cs.length := by
  induction h with
  | nil => rfl
  | cons _ _ ih => simp [ih]

theorem res_sound (hR : Rel n p0 w0 S a w p) {fn : Func} {R : AV → Prop} (h : resK P S fn.results.toList R) :
    ∃ v p' r, R r ∧ (results fn a.tmps).run P w = .ok v w ∧ (∀ b, p' b → b < w.heap.size ∧ (p0 b ∨ w0.heap.size ≤ b)) ∧ RdV w p' w0.heap.size (fun _ => undef) v r := by
  have hp : ∀ b, p b → b < w.heap.size ∧ (p0 b ∨ w0.heap.size ≤ b) := fun b hb => ⟨hR.plt b hb, hR.pnew b hb⟩
  have hpl : ∀ b, lentP S a p b → b < w.heap.size ∧ (p0 b ∨ w0.heap.size ≤ b) := fun b hb => ⟨lent_lt hR b hb, lent_new hR b hb⟩
  have hrun : ∀ us, (fn.results.toList.mapM (resOne a.tmps)).run P w = .ok us w → (results fn a.tmps).run P w = .ok (if h : us.toArray.size = 1 then us.toArray[0] else .tuple us.toArray) w := by
    intro us hu
    rw [results_eq, Array.mapM_eq_mapM_toList]
    simp [hu]
  unfold resK at h
  split at h
  · rename_i t hrs
    have h1 : (results fn a.tmps).run P w = .ok (slotOf a t) w := by
      have := hrun [slotOf a t] (by rw [hrs]; simp [resOne, slotOf])
      simpa using this
    split at h
    · rename_i c hc; exact ⟨_, p, _, h, h1, hp, rdV_arg rfl (hR.get hc)⟩
    · rename_i cs hc; exact ⟨_, p, _, h, h1, hp, rdV_arg rfl (hR.get hc)⟩
    · rename_i b ty sz es hc; exact ⟨_, p, _, h, h1, hp, hR.get hc⟩
    · rename_i d hc
      split at h
      · rename_i b ty sz es hd
        have e : slotOf a t = slotOf a d := hR.get hc
        exact ⟨_, p, _, h, h1, hp, by rw [e]; exact hR.get hd⟩
      · exact h.elim
    · exact h.elim
  · rename_i t T hrs
    split at h
    · rename_i cs hc
      obtain ⟨us, h2, h3⟩ := resT_sound hR _ _ hc
      have hr := hrun us (by rw [hrs]; exact h2)
      cases h3 with
      | cons hh t =>
        cases t
        refine ⟨_, lentP S a p, _, h, hr, hpl, ?_⟩
        simp only [List.size_toArray, List.length_cons, List.length_nil, Nat.zero_add, dite_true]
        exact hh
    · exact h.elim
  · split at h
    · rename_i vs hc
      obtain ⟨hl, h⟩ := h
      obtain ⟨us, h2, h3⟩ := resT_sound hR _ _ hc
      have hr := hrun us h2
      have hlen : us.length = vs.length := h3.length
      rw [dif_neg (by simp; omega)] at hr
      exact ⟨_, lentP S a p, _, h, hr, hpl, us.toArray, rfl, by simpa using h3⟩
    · exact h.elim

theorem initEnv_mem : ∀ {i d : Nat} {args : List AV} {v : AV}, (d, v) ∈ initEnv i args → i ≤ d ∧ args[d - i]? = some v
  | i, d, [], v, h => by simp [initEnv] at h
  | i, d, x :: r, v, h => by
    simp only [initEnv] at h
    cases h with
    | head => simp
    | tail _ h =>
      obtain ⟨h1, h2⟩ := initEnv_mem h
      refine ⟨by omega, ?_⟩
      rw [show d - i = (d - (i + 1)) + 1 by omega]
      simpa using h2

theorem RdAs.get {vs : List Value} {as : List AV} (h : RdAs w p vs as) : ∀ (j : Nat) (c : AV), as[j]? = some c → ∃ v, vs[j]? = some v ∧ c.arg = true ∧ RdV w p 0 (fun _ => undef) v c := by
  induction h with
  | nil => intro j c hj; simp at hj
  | cons ha h _ ih =>
    intro j c hj
    cases j with
    | zero => simp at hj; subst hj; exact ⟨_, by simp, ha, h⟩
    | succ j => simp at hj; obtain ⟨v, hv, hr⟩ := ih j c hj; exact ⟨v, by simpa using hv, hr⟩

/-- **A FUNCTION's CONTRACT FROM ITS CODE.** -/
theorem contract_of_awp {f : FuncId} {fn : Func} {c : Code} {L : Nat → Option (List Nat)} {args : List AV} {R : AV → Prop} (hf : P.funcs[f]? = some fn) (hb : fn.body = some c) (hname : (fn.name == "runtime.NumGoroutine") = false) (hres : ∀ r, R r → r.res = true)
    (h : awp P fn.ntmps L c (retQ P fn R) (initEnv 0 args)) : ContractR P f args R := by
  refine ⟨hres, ⟨fn, hf, hname, by rw [hb]; rfl⟩, ?_⟩
  intro w p vs hp ha
  refine calls_of_wp hf hb ?_
  have hR : Rel fn.ntmps p w (initEnv 0 args) { tmps := vs.toArray ++ Array.replicate (fn.ntmps - vs.toArray.size) undef, defers := [] } w p := by
    have hslot : ∀ d v, vs[d]? = some v → slotOf { tmps := vs.toArray ++ Array.replicate (fn.ntmps - vs.toArray.size) undef, defers := [] } d = v := by
      intro d v hd
      have hlt := (List.getElem?_eq_some_iff.1 hd).1
      simp only [slotOf, Array.getD_eq_getD_getElem?]
      rw [Array.getElem?_append_left (by simpa using hlt)]
      simp [hd]
    have hown : ∀ d v, (d, v) ∈ initEnv 0 args → v.owns = false := by
      intro d v hm
      obtain ⟨_, h2⟩ := initEnv_mem hm
      obtain ⟨_, _, h4, _⟩ := ha.get _ _ h2
      have := arg_owns h4
      simpa using this
    refine ⟨rfl, by simp; omega, Below.refl _ _, hp, fun b hb => .inl hb, ?_, ?_⟩
    · intro d v hm
      obtain ⟨_, h2⟩ := initEnv_mem hm
      obtain ⟨u, h3, h4, h5⟩ := ha.get _ _ h2
      rw [hslot d u (by simpa using h3)]
      exact rdV_arg h4 h5
    · intro d d' v v' g h1 _ _ ho
      rw [hown d v h1] at ho; cases ho
  refine wp_mono (awp_sound c hR h) ?_
  rintro e a' w' ⟨S', p', hq, hR'⟩
  have fin : resK P S' fn.results.toList R → a'.defers = [] ∧ ∃ v, (results fn a'.tmps).run P w' = .ok v w' ∧ ∃ v_1 p' r, R r ∧ Ending.returned v = Ending.returned v_1 ∧ Below w.heap.size w w' ∧ (∀ b, p' b → b < w'.heap.size ∧ (p b ∨ w.heap.size ≤ b)) ∧ RdV w' p' w.heap.size (fun _ => undef) v_1 r := by
    intro hk
    obtain ⟨v, p2, r, hRr, h1, h2, h3⟩ := res_sound hR' hk
    exact ⟨hR'.defers, v, h1, v, p2, r, hRr, rfl, hR'.below, h2, h3⟩
  cases e with
  | ret => exact fin hq
  | normal => exact fin hq
  | _ => exact hq.elim

/-- A loop: what holds of the frame at each round's head, with a number that goes down. -/
theorem awp_loop {L : Nat → Option (List Nat)} {c : Code} {Q : Exit → Env → Prop} {S : Env} (ks : List Nat) (I : Nat → Env → Prop) (k : Nat) (h0 : I k (S.restr ks)) (hround : ∀ k S', I k S' → awp P n L c (thenE (fun S'' => ∃ k', k' < k ∧ I k' (S''.restr ks)) Q) S') : awp P n L (.loop c) Q S :=
  ⟨[], some ks, I, ⟨k, h0⟩, hround⟩
/-- The same, where what some slots own is only read from here on. -/
theorem awp_loop_pub {L : Nat → Option (List Nat)} {c : Code} {Q : Exit → Env → Prop} {S : Env} (ds ks : List Nat) (I : Nat → Env → Prop) (k : Nat) (h0 : I k ((S.pubs ds).restr ks)) (hround : ∀ k S', I k S' → awp P n L c (thenE (fun S'' => ∃ k', k' < k ∧ I k' (S''.restr ks)) Q) S') : awp P n L (.loop c) Q S :=
  ⟨ds, some ks, I, ⟨k, h0⟩, hround⟩

end
end Go.Vs
