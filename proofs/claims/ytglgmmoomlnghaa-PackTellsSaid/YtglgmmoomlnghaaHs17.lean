/-
  THE HEAP SEMANTICS, part 17: from a law's contract to its row: what an argument reads as, by its type's shape, whichever it is; behind the call the arguments read as they did.
-/
import Derived.Test.YtglgmmoomlnghaaHs16
import Derived.ProofKit
import Derived.Carry
import Derived.ChangeSlices
import Derived.ChangeArms
import Derived.OpenShut
namespace Go.Hs
open Go Go.RowKit Go.ChangeShapes Go.WideShapes Go.ChangeAt

/-! Which type each cell has. -/

def cellT (P : Program) : Nat → TypeId → Nat → Option TypeId
  | 0,_,_ => none
  | n + 1,t,j => match P.underlying t with
    | some .bool|some (.int _)|some .string|some (.slice _) => if j = 0 then some t else none
    | some (.struct fs) => match (List.range fs.size).find? fun i => match fs[i]? with
        | some f => decide (f.offset ≤ j) && decide (j < f.offset + P.cellsOf f.type)
        | none => false with
      | some i => match fs[i]? with
        | some f => if f.offset ≤ j ∧ j < f.offset + P.cellsOf f.type then cellT P n f.type (j - f.offset) else none
        | none => none
      | none => none
    | some (.array k e) => if j < k * P.cellsOf e then cellT P n e (j % P.cellsOf e) else none
    | _ => none

def lvs (P : Program) (t : TypeId) : Option (List TypeId) := (List.range (P.cellsOf t)).mapM (cellT P 8 t)

section
variable {H : Type} {enc : TypeId × Value → H} {P : Program} {w : World}

theorem trod_one {t : TypeId} {fuel : Nat} {cs : List Value} {x : DataW H × List MemPlace} {sp : Nat → Bool} (h : DataW.trod enc P w 0 sp true fuel t cs = some x)
    (ht : P.underlying t = some .bool ∨ (∃ k,P.underlying t = some (.int k)) ∨ P.underlying t = some .string ∨ ∃ e,P.underlying t = some (.slice e)) : ∃ v,cs = [v] := by
  rcases ht with ht|⟨k,ht⟩|ht|⟨e,ht⟩
  · obtain ⟨b,rfl,_⟩ := DataW.trod_bool ht h;exact ⟨_,rfl⟩
  · obtain ⟨b,rfl,_⟩ := DataW.trod_int ht h;exact ⟨_,rfl⟩
  · obtain ⟨b,rfl,_⟩ := DataW.trod_string ht h;exact ⟨_,rfl⟩
  · rcases DataW.trod_slice ht h with ⟨rfl,_⟩|⟨a,len,cap,elems,rest,n,_,rfl,_⟩ <;> exact ⟨_,rfl⟩

/-- Each cell reads by its own type. -/
theorem trod_cell : ∀ (n : Nat) {t u : TypeId} {j : Nat} {fuel : Nat} {cs : List Value} {x : DataW H × List MemPlace} {sp : Nat → Bool},
    DataW.trod enc P w 0 sp true fuel t cs = some x → cellT P n t j = some u → ∃ v m y,cs[j]? = some v ∧ DataW.trod enc P w 0 sp true m u [v] = some y
  | 0,_,_,_,_,_,_,_,_,h => by simp [cellT] at h
  | n + 1,t,u,j,fuel,cs,x,sp,h,hu => by
    unfold cellT at hu
    have one : (P.underlying t = some .bool ∨ (∃ k,P.underlying t = some (.int k)) ∨ P.underlying t = some .string ∨ ∃ e,P.underlying t = some (.slice e)) → (if j = 0 then some t else none) = some u → ∃ v m y,cs[j]? = some v ∧ DataW.trod enc P w 0 sp true m u [v] = some y := by
      intro ht hj
      split at hj
      · rename_i h0
        subst h0
        cases hj
        obtain ⟨v,rfl⟩ := trod_one h ht
        exact ⟨v,fuel,x,rfl,h⟩
      · cases hj
    split at hu
    · rename_i ht;exact one (.inl ht) hu
    · rename_i k ht;exact one (.inr (.inl ⟨k,ht⟩)) hu
    · rename_i ht;exact one (.inr (.inr (.inl ht))) hu
    · rename_i e ht;exact one (.inr (.inr (.inr ⟨e,ht⟩))) hu
    · rename_i fs ht
      split at hu
      · rename_i i hfind
        split at hu
        · rename_i f hf
          split at hu
          · rename_i hb
            obtain ⟨xs,m,_,_,_,hlen,hx⟩ := DataW.trod_struct ht h
            have hi : i < xs.length := by
              have := (Array.getElem?_eq_some_iff.1 hf).1
              omega
            have h1 := hx i f hf
            rw [List.getElem?_eq_getElem hi] at h1
            obtain ⟨v,m',y,h2,h3⟩ := trod_cell n h1 hu
            refine ⟨v,m',y,?_,h3⟩
            rw [List.getElem?_take,if_pos (by omega),List.getElem?_drop,show f.offset + (j - f.offset) = j by omega] at h2
            exact h2
          · cases hu
        · cases hu
      · cases hu
    · rename_i k e ht
      split at hu
      · rename_i hb
        obtain ⟨xs,m,_,_,_,hlen,hx⟩ := DataW.trod_array ht h
        have hpos : 0 < P.cellsOf e := by
          rcases Nat.eq_zero_or_pos (P.cellsOf e) with h0|h0
          · rw [h0] at hb;omega
          · exact h0
        have hi : j / P.cellsOf e < k := (Nat.div_lt_iff_lt_mul hpos).2 hb
        have h1 := hx (j / P.cellsOf e) hi
        rw [List.getElem?_eq_getElem (by omega)] at h1
        obtain ⟨v,m',y,h2,h3⟩ := trod_cell n h1 hu
        refine ⟨v,m',y,?_,h3⟩
        rw [List.getElem?_take,if_pos (Nat.mod_lt _ hpos),List.getElem?_drop,Nat.mul_comm,Nat.div_add_mod] at h2
        exact h2
      · cases hu
    · cases hu

theorem lvs_get {t : TypeId} {ts : List TypeId} (h : lvs P t = some ts) : ts.length = P.cellsOf t ∧ ∀ (j : Nat) u,ts[j]? = some u → cellT P 8 t j = some u := by
  have key : ∀ (l : List Nat) (ts : List TypeId),l.mapM (cellT P 8 t) = some ts → ts.length = l.length ∧ ∀ (j : Nat) u,ts[j]? = some u → ∃ i : Nat,l[j]? = some i ∧ cellT P 8 t i = some u := by
    intro l
    induction l with
    | nil => intro ts h;simp at h;subst h;exact ⟨rfl,by simp⟩
    | cons i r ih =>
      intro ts h
      rw [List.mapM_cons] at h
      cases h1 : cellT P 8 t i with
      | none => simp [h1] at h
      | some u =>
        cases h2 : r.mapM (cellT P 8 t) with
        | none => simp [h1,h2] at h
        | some us =>
          simp [h1,h2] at h
          subst h
          obtain ⟨h3,h4⟩ := ih us h2
          refine ⟨by simp [h3],?_⟩
          intro j v hj
          cases j with
          | zero => simp at hj;subst hj;exact ⟨i,by simp,h1⟩
          | succ j => simp at hj;obtain ⟨i',hi,hu⟩ := h4 j v hj;exact ⟨i',by simpa using hi,hu⟩
  obtain ⟨h1,h2⟩ := key _ _ h
  refine ⟨by simpa using h1,fun j u hj => ?_⟩
  obtain ⟨i,hi,hu⟩ := h2 j u hj
  rw [List.getElem?_range] at hi
  · simp at hi;subst hi;exact hu
  · have := (List.getElem?_eq_some_iff.1 hj).1;simp at h1;omega

/-! What a cell reads as, by its type. -/
def okC (P : Program) : Nat → TypeId → AC → Prop
  | 0,_,_ => False
  | n + 1,t,c => match P.underlying t with
    | some .bool => ∃ b,c = .im (.bool b)
    | some (.int k) => ∃ m,(Lit.int k m).wf = true ∧ c = .im (.int k m)
    | some .string => ∃ s : ByteArray,s.size ≤ maxLen ∧ c = .im (.string s)
    | some (.slice e) => ∃ ts es,lvs P e = some ts ∧ c = .sl ts.length es ∧ es.length ≤ maxLen ∧ ∀ r,r ∈ es → r.length = ts.length ∧ ∀ (j : Nat) u c,ts[j]? = some u → r[j]? = some c → okC P n u c
    | _ => False

def okR (P : Program) (n : Nat) (ts : List TypeId) (r : List AC) : Prop := r.length = ts.length ∧ ∀ (j : Nat) u c,ts[j]? = some u → r[j]? = some c → okC P n u c

theorem okR_nil {n : Nat} {r : List AC} (h : okR P n [] r) : r = [] := List.eq_nil_of_length_eq_zero h.1
theorem okR_cons {n : Nat} {t : TypeId} {ts : List TypeId} {r : List AC} (h : okR P n (t :: ts) r) : ∃ c r',r = c :: r' ∧ okC P n t c ∧ okR P n ts r' := by
  obtain ⟨h1,h2⟩ := h
  cases r with
  | nil => simp at h1
  | cons c r' => exact ⟨c,r',rfl,h2 0 t c (by simp) (by simp),by simpa using h1,fun j u c' hu hc => h2 (j + 1) u c' (by simpa using hu) (by simpa using hc)⟩

def supC (P : Program) : Nat → TypeId → Bool
  | 0,_ => false
  | n + 1,t => match P.underlying t with
    | some .bool|some (.int _)|some .string => true
    | some (.slice e) => match lvs P e with
      | some ts => decide (0 < ts.length) && ts.all (supC P n)
      | none => false
    | _ => false

theorem choose2 {α : Type} [Inhabited α] {Q : Nat → Nat → α → Prop} {A B : Nat} (h : ∀ i,i < A → ∀ j,j < B → ∃ c,Q i j c) : ∃ f : Nat → Nat → α,∀ i,i < A → ∀ j,j < B → Q i j (f i j) := by
  classical
  refine ⟨fun i j => if hij : ∃ c,Q i j c then hij.choose else default,fun i hi j hj => ?_⟩
  simp only [dif_pos (h i hi j hj)]
  exact (h i hi j hj).choose_spec

theorem rd_leaf : ∀ (n : Nat) {t : TypeId} {fuel : Nat} {v : Value} {x : DataW H × List MemPlace} {sp : Nat → Bool},
    supC P n t = true → DataW.trod enc P w 0 sp true fuel t [v] = some x → ∃ c,okC P n t c ∧ RdC w (fun b => b < w.heap.size) v c
  | 0,_,_,_,_,_,h,_ => by simp [supC] at h
  | n + 1,t,fuel,v,x,sp,hs,h => by
    unfold supC at hs
    unfold okC
    split at hs
    · rename_i ht
      obtain ⟨b,hb,_⟩ := DataW.trod_bool ht h
      cases hb
      exact ⟨_,⟨b,rfl⟩,.im _ rfl⟩
    · rename_i k ht
      obtain ⟨b,hb,_,hw⟩ := DataW.trod_int ht h
      cases hb
      exact ⟨_,⟨b,hw,rfl⟩,.im _ rfl⟩
    · rename_i ht
      obtain ⟨b,hb,_,hw⟩ := DataW.trod_string ht h
      cases hb
      exact ⟨_,⟨b,hw,rfl⟩,.im _ rfl⟩
    · rename_i e ht
      split at hs
      · rename_i ts hts
        simp only [Bool.and_eq_true,decide_eq_true_eq] at hs
        obtain ⟨hpos,hs⟩ := hs
        obtain ⟨hl,hg⟩ := lvs_get hts
        rcases DataW.trod_slice ht h with ⟨hv,_⟩|⟨a,len,cap,elems,rest,m,_,hv,_,hb,hlc,hmx,hlen,hel,_,_⟩
        · cases hv
          exact ⟨_,⟨ts,[],hts,rfl,by simp,by simp⟩,.nilS _ _⟩
        · cases hv
          -- each cell of each element
          have each : ∀ i,i < len → ∀ j,j < ts.length → ∃ q : Value × AC,w.cell? (a.add (i * ts.length + j)) = some q.1 ∧ (∀ u,ts[j]? = some u → okC P n u q.2) ∧ RdC w (fun b => b < w.heap.size) q.1 q.2 := by
            intro i hi j hj
            have h1 := hel i hi
            rw [List.getElem?_eq_getElem (by omega),Option.bind_eq_some_iff] at h1
            obtain ⟨cs,hcs,hcy⟩ := h1
            obtain ⟨_,hcl,hcell⟩ := World.cells?_some hcs
            have hu : ts[j]? = some ts[j] := List.getElem?_eq_getElem hj
            obtain ⟨u,m',y,h2,h3⟩ := trod_cell 8 hcy (hg j _ hu)
            obtain ⟨c,h4,h5⟩ := rd_leaf n (List.all_eq_true.1 hs _ (List.getElem_mem hj)) h3
            refine ⟨(u,c),?_,?_,h5⟩
            · have := hcell j (by omega)
              rw [h2,addr_add_add,← hl] at this
              exact this
            · intro u' hu'
              rw [hu] at hu'
              cases hu'
              exact h4
          have : Inhabited (Value × AC) := ⟨(undef,.nil)⟩
          obtain ⟨f,hf⟩ := choose2 each
          have hrow : ∀ i r,((List.range len).map fun i => (List.range ts.length).map fun j => (f i j).2)[i]? = some r → i < len ∧ r = (List.range ts.length).map fun j => (f i j).2 := by
            intro i r hr
            rw [List.getElem?_map] at hr
            have hi : i < len := by
              rcases Nat.lt_or_ge i len with h|h
              · exact h
              · rw [List.getElem?_eq_none (by simpa using h)] at hr;cases hr
            rw [List.getElem?_range hi] at hr
            simp at hr
            exact ⟨hi,hr.symm⟩
          have hcol : ∀ i j c,((List.range ts.length).map fun j => (f i j).2)[j]? = some c → j < ts.length ∧ c = (f i j).2 := by
            intro i j c hc
            rw [List.getElem?_map] at hc
            have hj : j < ts.length := by
              rcases Nat.lt_or_ge j ts.length with h|h
              · exact h
              · rw [List.getElem?_eq_none (by simpa using h)] at hc;cases hc
            rw [List.getElem?_range hj] at hc
            simp at hc
            exact ⟨hj,hc.symm⟩
          refine ⟨.sl ts.length ((List.range len).map fun i => (List.range ts.length).map fun j => (f i j).2),⟨ts,_,hts,rfl,by simp;omega,?_⟩,?_⟩
          · intro r hr
            obtain ⟨i,hi⟩ := List.mem_iff_getElem?.1 hr
            obtain ⟨hil,rfl⟩ := hrow i r hi
            refine ⟨by simp,fun j u c hu hc => ?_⟩
            obtain ⟨hj,rfl⟩ := hcol i j c hc
            exact (hf i hil j hj).2.1 u hu
          · refine .sl a len cap ts.length _ (fun i j => (f i j).1) (by simp) hlc ?_ ?_ ?_ ?_
            · intro r hr
              obtain ⟨i,hi⟩ := List.mem_iff_getElem?.1 hr
              obtain ⟨_,rfl⟩ := hrow i r hi
              simp
            · intro hne
              have h0 : 0 < len := by
                rcases Nat.eq_zero_or_pos len with h|h
                · subst h;simp at hne
                · exact h
              have := World.block_lt_of_cell? w _ (hf 0 h0 0 hpos).1
              rwa [addr_add_block] at this
            · intro i r j hi hj
              exact (hf i (hrow i r hi).1 j hj).1
            · intro i r j c hi hc
              obtain ⟨hil,rfl⟩ := hrow i r hi
              obtain ⟨hj,rfl⟩ := hcol i j c hc
              exact (hf i hil j hj).2.2
      · cases hs
    · cases hs

/-- An argument of one cell. -/
theorem rd_arg {t : TypeId} {v : Value} {d : DataW H} {ps : List MemPlace} (n : Nat) (hs : supC P n t = true) (hok : Value.okWide P w .any 0 t v) (h : DataW.Trod enc P w 0 (fun _ => true) true t v d ps) :
    ∃ c,okC P n t c ∧ RdS w (fun b => b < w.heap.size) v (.c c) := by
  obtain ⟨fuel,hf⟩ := h
  have hv : v.cells.toList = [v] := by
    cases n with
    | zero => simp [supC] at hs
    | succ n =>
      unfold supC at hs
      split at hs
      · rename_i ht;obtain ⟨b,rfl⟩ := okWide_bool ht hok;rfl
      · rename_i k ht;obtain ⟨b,rfl⟩ := okWide_int ht hok;rfl
      · rename_i ht;obtain ⟨b,rfl⟩ := okWide_string ht hok;rfl
      · rename_i e ht;obtain ⟨a,l,c,rfl⟩ := okWide_slice ht hok;rfl
      · cases hs
  rw [hv] at hf
  exact rd_leaf n hs hf

/-- An argument that is a struct, or an array. -/
theorem rd_agg {t : TypeId} {v : Value} {d : DataW H} {ps : List MemPlace} {ts : List TypeId} (n : Nat) (ht : isAggT P t = true) (hts : lvs P t = some ts) (hs : ts.all (supC P n) = true) (hok : Value.okWide P w .any 0 t v) (h : DataW.Trod enc P w 0 (fun _ => true) true t v d ps) :
    ∃ cs,okR P n ts cs ∧ RdS w (fun b => b < w.heap.size) v (.agg cs) := by
  obtain ⟨fuel,hf⟩ := h
  obtain ⟨xs,rfl,hxs⟩ : ∃ xs,v = .agg xs ∧ xs.size = P.cellsOf t := by
    unfold isAggT at ht
    simp only [Value.okWide] at hok
    split at ht
    · rename_i fs hu;rw [hu] at hok;obtain ⟨cs,h1,h2,_⟩ := hok;exact ⟨cs,h1,h2⟩
    · rename_i l e hu;rw [hu] at hok;obtain ⟨cs,h1,h2,_⟩ := hok;exact ⟨cs,h1,h2⟩
    · cases ht
  have hf' : DataW.trod enc P w 0 (fun _ => true) true fuel t xs.toList = some (d,ps) := hf
  obtain ⟨hl,hg⟩ := lvs_get hts
  have each : ∀ i,i < 1 → ∀ j,j < ts.length → ∃ c : AC,(∀ u,ts[j]? = some u → okC P n u c) ∧ ∀ v,xs.toList[j]? = some v → RdC w (fun b => b < w.heap.size) v c := by
    intro _ _ j hj
    have hu : ts[j]? = some ts[j] := List.getElem?_eq_getElem hj
    obtain ⟨v,m',y,h2,h3⟩ := trod_cell 8 hf' (hg j _ hu)
    obtain ⟨c,h4,h5⟩ := rd_leaf n (List.all_eq_true.1 hs _ (List.getElem_mem hj)) h3
    refine ⟨c,fun u' hu' => ?_,fun v' hv' => ?_⟩
    · rw [hu] at hu';cases hu';exact h4
    · rw [h2] at hv';cases hv';exact h5
  obtain ⟨f,hf2⟩ := choose2 each
  have hcol : ∀ j c,((List.range ts.length).map fun j => f 0 j)[j]? = some c → j < ts.length ∧ c = f 0 j := by
    intro j c hc
    rw [List.getElem?_map] at hc
    have hj : j < ts.length := by
      rcases Nat.lt_or_ge j ts.length with h|h
      · exact h
      · rw [List.getElem?_eq_none (by simpa using h)] at hc;cases hc
    rw [List.getElem?_range hj] at hc
    simp at hc
    exact ⟨hj,hc.symm⟩
  refine ⟨(List.range ts.length).map fun j => f 0 j,⟨by simp,fun j u c hu hc => ?_⟩,xs,rfl,RdL.of_get (by simp;omega) fun j v c hv hc => ?_⟩
  · obtain ⟨hj,rfl⟩ := hcol j c hc
    exact (hf2 0 (by omega) j hj).1 u hu
  · obtain ⟨hj,rfl⟩ := hcol j c hc
    exact (hf2 0 (by omega) j hj).2 v hv

theorem rows_of {T : Type} {enc : T → List AC} {W : T → Prop} : ∀ {es : List (List AC)},(∀ r,r ∈ es → ∃ t,r = enc t ∧ W t) → ∃ l : List T,es = l.map enc ∧ ∀ t,t ∈ l → W t
  | [],_ => ⟨[],rfl,by simp⟩
  | r :: es,h => by
    obtain ⟨t,rfl,ht⟩ := h r (by simp)
    obtain ⟨l,rfl,hl⟩ := rows_of fun r hr => h r (List.mem_cons_of_mem _ hr)
    refine ⟨t :: l,rfl,?_⟩
    intro u hu
    cases hu with
    | head => exact ht
    | tail _ hu => exact hl u hu

theorem ok_int {n : Nat} {t : TypeId} {k : IntKind} {c : AC} (ht : P.underlying t = some (.int k)) (h : okC P (n + 1) t c) : ∃ m,(Lit.int k m).wf = true ∧ c = .im (.int k m) := by
  unfold okC at h;rw [ht] at h;exact h
theorem ok_slice {n : Nat} {t e : TypeId} {ts : List TypeId} {c : AC} (ht : P.underlying t = some (.slice e)) (hts : lvs P e = some ts) (h : okC P (n + 1) t c) : ∃ es,c = .sl ts.length es ∧ es.length ≤ maxLen ∧ ∀ r,r ∈ es → okR P n ts r := by
  unfold okC at h;rw [ht] at h
  obtain ⟨ts',es,h1,h2,h3,h4⟩ := h
  rw [hts] at h1;cases h1
  exact ⟨es,h2,h3,h4⟩
theorem ok_ints {n : Nat} {t e e' : TypeId} {k : IntKind} {c : AC} (ht : P.underlying t = some (.slice e)) (hts : lvs P e = some [e']) (he : P.underlying e' = some (.int k)) (h : okC P (n + 2) t c) :
    ∃ l : List Int,c = .sl 1 (kRows k l) ∧ l.length ≤ maxLen ∧ ∀ m,m ∈ l → (Lit.int k m).wf = true := by
  obtain ⟨es,rfl,h2,h3⟩ := ok_slice ht hts h
  obtain ⟨l,rfl,hl⟩ := rows_of (enc := fun m : Int => [AC.im (.int k m)]) (W := fun m => (Lit.int k m).wf = true) (fun r hr => by
    obtain ⟨c,r',rfl,h4,h5⟩ := okR_cons (h3 r hr)
    obtain ⟨m,h6,rfl⟩ := ok_int he h4
    obtain rfl := okR_nil h5
    exact ⟨m,rfl,h6⟩)
  exact ⟨l,rfl,by simpa using h2,hl⟩

theorem wf_u8' {n : Int} (h : (Lit.int .u8 n).wf = true) : 0 ≤ n ∧ n ≤ 255 := by
  simpa [Lit.wf,IntKind.min,IntKind.max,IntKind.signed,IntKind.bits] using h

theorem args_stay {W W' : World} (hl : laidOutB P = true) (hb : Below W.heap.size W W') : ∀ {ts : List TypeId} {vs : List Value} {ds : List (DataW H)} {ps : List MemPlace},(∀ t ∈ ts,P.readableRec t = true ∧ t < P.types.size) →
    DataW.TrodAll enc P W 0 (fun _ => true) true ts vs ds ps → (∀ x ∈ ps,x.block < W.heap.size) → DataW.TrodAll enc P W' 0 (fun b => decide (b < W.heap.size)) true ts vs ds ps
  | [],vs,ds,ps,_,h,_ => by
    obtain ⟨rfl,rfl,rfl⟩ := trodAll_nil h
    exact trodAll_mk0
  | t :: ts,vs,ds,ps,ht,h,hlt => by
    obtain ⟨v,vs',d,ds',p,q,rfl,rfl,rfl,h1,h2⟩ := trodAll_cons h
    have h3 := ht t (by simp)
    exact ⟨p,q,Below.trod hl h3.1 h3.2 h1 hb fun x hx => hlt x (by simp [hx]),args_stay hl hb (fun t' ht' => ht t' (by simp [ht'])) h2 fun x hx => hlt x (by simp [hx]),rfl⟩

/-- **A LAW's POST FROM ITS CONTRACT.** -/
theorem law_done {f : Func} {s : ChangeSpec} {fid : FuncId} {W : World} {args : Array Value} {ds gs : List (DataW H)} {before : List MemPlace} {tb : TypeId} {avs : List AV}
    (hl : laidOutB P = true) (hp : ∀ t ∈ f.params.toList,P.readableRec t = true ∧ t < P.types.size) (hrt : f.resultTypes = #[tb]) (htb : P.underlying tb = some .bool)
    (hW : DataW.Whole enc P f.params.toList s.vars false W args.toList ds gs before) (hsv : s.vars = []) (hfn : s.fn H ds = { results := [.lit (.bool true)],args := ds })
    (hC : Contract P fid avs (.c (.im (.bool true)))) (hR : RdAs W (fun b => b < W.heap.size) args.toList avs) :
    Calls P fid args W fun e W' => ∃ v,e = .returned v ∧ s.post enc P f false true false false W args v W' := by
  have hc := hC.calls W (fun b => b < W.heap.size) args.toList (fun _ => []) (fun _ h => h) hR ⟨by simp,by simp,by simp,by simp⟩
  rw [Array.toArray_toList] at hc
  refine hc.mono fun e W' ⟨v,p',r,H',ow',O,hr,_,he,hch,_,_,hrd,_⟩ => ?_
  subst hr he
  have hb : Below W.heap.size W W' := (hch.mono (G := fun _ => False) (by rintro b ⟨d,v,h,_⟩;cases h)).below
  have hv : v = .bool true := by
    cases hrd with
    | per h _ => exact RdS_im (v := .bool true) h
  subst hv
  have hW' := hW
  obtain ⟨p,q,hA,hV,rfl,_,_⟩ := hW
  rw [hsv] at hV
  obtain ⟨rfl,rfl⟩ := trodVars_none hV
  have hlt : ∀ x ∈ p,x.block < W.heap.size := fun x hx => by simpa using hW'.lt x (by simp [hx])
  refine ⟨_,rfl,_,_,_,[],p,[],hW',?_,?_,?_,hb.frame _,fun h => by cases h⟩
  · rw [List.append_nil,hfn,hrt]
    exact trodAll_mk1 (shut_bool htb true)
  · rw [List.append_nil,hfn]
    exact args_stay hl hb hp hA hlt
  · rw [List.append_nil,hfn,hsv]
    rfl

end
end Go.Hs
