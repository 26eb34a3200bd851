/-
  THE HEAP SEMANTICS, part 8: literals of structs, arrays and slices; make; append; copy; maps.
-/
import Derived.Test.YtglgmmoomlnghaaHs7
import Derived.Laws.IdiomStrings
namespace Go.Hs
open Go Go.RowKit

section
variable {P : Program} {n : Nat} {p0 F : Nat → Prop} {w0 : World} {S : Env} {a : Act} {w : World} {p : Nat → Prop} {ow : Nat → List Nat} {Q : Exit → Act → World → Prop}

theorem rdS_cells {u : Value} {v : AV} {cs : List AC} (h : RdS w p u v) (hc : cellsOf v = some cs) : RdL w p u.cells.toList cs := by
  unfold cellsOf at hc
  split at hc
  · rename_i c
    simp at hc;subst hc
    have hu : RdC w p u c := h
    rw [hu.cells1]
    exact .cons hu .nil
  · rename_i cs'
    simp at hc;subst hc
    obtain ⟨vs,rfl,h2⟩ := h
    exact h2
  · simp at hc

/-- Parts, each read as its cells. -/
inductive RdP (w : World) (p : Nat → Prop) (ρ : Operand → Value) : List (Nat × Operand) → List (Nat × List AC) → List Nat → Prop where
  | nil : RdP w p ρ [] [] []
  | cons {i : Nat} {x : Operand} {cs : List AC} {r : List (Nat × Operand)} {l : List (Nat × List AC)} {O O' : List Nat} (h : RdO w p (ρ x).cells.toList cs O) (t : RdP w p ρ r l O') : RdP w p ρ ((i,x) :: r) ((i,cs) :: l) (O ++ O')

theorem foldl_set (off : Nat) : ∀ (vs : List Value) (k : Nat) (cs : Array Value),off + k + vs.length ≤ cs.size →
    ((vs.zipIdx k).foldl (fun cs x => cs.setIfInBounds (off + x.2) x.1) cs).toList = cs.toList.take (off + k) ++ vs ++ cs.toList.drop (off + k + vs.length)
  | [],k,cs,_ => by simp
  | v :: rest,k,cs,h => by
    have ih := foldl_set off rest (k + 1) (cs.setIfInBounds (off + k) v) (by simp at h ⊢;omega)
    have e := list_seg_step cs.toList (off + k) v rest (by simp at h ⊢;omega)
    simp only [List.zipIdx_cons,List.foldl_cons]
    rw [ih]
    simpa [Array.toList_setIfInBounds,Nat.add_assoc] using e

theorem fill_eq {off : Nat} {cells : Array Value} {v : Value} (h : off + v.cells.size ≤ cells.size) :
    (v.cells.zipIdx.foldl (fun cs (x : Value × Nat) => cs.setIfInBounds (off + x.2) x.1) cells).toList = cells.toList.take off ++ v.cells.toList ++ cells.toList.drop (off + v.cells.toList.length) := by
  have := foldl_set off v.cells.toList 0 cells (by simpa using h)
  rw [← Array.foldl_toList,Array.toList_zipIdx,this]
  rfl

theorem rdL_splice {xs vs : List Value} {cs ds : List AC} (h : RdL w p xs cs) (k : RdL w p vs ds) (j : Nat) : RdL w p (xs.take j ++ vs ++ xs.drop (j + vs.length)) (splice cs j ds) := by
  unfold splice
  rw [k.length]
  exact ((h.take j).append k).append (h.drop _)

theorem partsV_sound (hR : Rel n p0 F w0 S a w p ow) {g : Bool} : ∀ (parts : List (Nat × Operand)) {K : List (Nat × List AC) → Prop},partsV S g parts K →
    ∃ l,K l ∧ (g = true → l.length = parts.length ∧ ∀ (i : Nat) x y,parts[i]? = some x → l[i]? = some y → y.1 = x.1 ∧ RdL w p (a.eval x.2).cells.toList y.2)
  | [],K,h => ⟨[],h,fun _ => ⟨rfl,by simp⟩⟩
  | (i,x) :: r,K,h => by
    unfold partsV at h
    obtain ⟨v,h1,hx⟩ := evK_sound hR h
    clear h
    split at h1
    · rename_i cs hc
      obtain ⟨l,h2,hP⟩ := partsV_sound hR r h1
      refine ⟨_,h2,fun hg => ?_⟩
      obtain ⟨g1,g2⟩ := hP hg
      refine ⟨by simp [g1],fun j x' y' hx' hy' => ?_⟩
      cases j with
      | zero => simp at hx' hy';subst hx' hy';exact ⟨rfl,rdS_cells (hx hg) hc⟩
      | succ j => exact g2 j x' y' (by simpa using hx') (by simpa using hy')
    · exact h1.elim

theorem fill_ok {place : Nat → Option (Nat × Nat)} : ∀ {parts : List (Nat × Operand)} {l : List (Nat × List AC)} {cells : Array Value} {cs cs' : List AC},l.length = parts.length → (∀ (i : Nat) x y,parts[i]? = some x → l[i]? = some y → y.1 = x.1 ∧ RdL w p (a.eval x.2).cells.toList y.2) →
    RdL w p cells.toList cs → fillA place cs l = some cs' →
    ∃ cells',Instr.fill place cells (parts.map fun x => (x.1,a.eval x.2)) = some cells' ∧ RdL w p cells'.toList cs'
  | [],[],cells,cs,cs',_,_,hc,h => by simp [fillA] at h;subst h;exact ⟨cells,rfl,hc⟩
  | (i,x) :: r,(i',e) :: l,cells,cs,cs',hl,hP,hc,h => by
    obtain ⟨hi,hv⟩ := hP 0 _ _ rfl rfl
    simp only at hi hv
    subst hi
    simp only [fillA] at h
    split at h
    · rename_i off size hp
      split at h
      · rename_i hcond
        obtain ⟨h1,h2⟩ := hcond
        have e1 : (a.eval x).cells.size = size := by rw [← h1,← hv.length,Array.length_toList]
        have e3 : cells.size = cs.length := by rw [← hc.length,Array.length_toList]
        have hstep : RdL w p ((a.eval x).cells.zipIdx.foldl (fun cs (x : Value × Nat) => cs.setIfInBounds (off + x.2) x.1) cells).toList (splice cs off e) := by
          rw [fill_eq (by omega)]
          exact rdL_splice hc hv _
        obtain ⟨cells',h3,h4⟩ := fill_ok (parts := r) (l := l) (by simpa using hl) (fun j x y hx hy => hP (j + 1) x y (by simpa using hx) (by simpa using hy)) hstep h
        refine ⟨cells',?_,h4⟩
        have e2 : ¬ (off + (a.eval x).cells.size > cells.size) := by omega
        rw [e1] at e2
        simp only [List.map_cons,Instr.fill,hp,e1,ne_eq,not_true,decide_false,Bool.false_or,decide_eq_true_eq]
        rw [if_neg e2]
        exact h3
      · simp at h
    · simp at h
  | [],_ :: _,_,_,_,hl,_,_,_ => by simp at hl
  | _ :: _,[],_,_,_,hl,_,_,_ => by simp at hl

theorem built_ok {T : TypeId} {zs cs : List AC} {bp : BP} {parts : Array (Nat × Operand)} {l : List (Nat × List AC)} (hb : bInfo P T = some (zs,bp)) (hf : fillA bp.place zs l = some cs) (hl : l.length = parts.toList.length)
    (hP : ∀ (i : Nat) x y,parts.toList[i]? = some x → l[i]? = some y → y.1 = x.1 ∧ RdL w p (a.eval x.2).cells.toList y.2) :
    ∃ cells,P.built T (parts.map fun (i,x) => (i,a.eval x)).toList = some cells ∧ RdL w p cells.toList cs := by
  unfold bInfo at hb
  split at hb
  · rename_i s by' zs' hi
    obtain ⟨i,z,h1,h2,h3,h4,h5,h6⟩ := eInfo_ok hi
    have hz := constACs_ok w p h6
    have hparts : (parts.map fun (i,x) => (i,a.eval x)).toList = parts.toList.map fun x => (x.1,a.eval x.2) := by simp
    rw [hparts]
    unfold Program.built
    split at hb
    · rename_i len e hu
      simp only [Option.map_eq_some_iff,Prod.mk.injEq] at hb
      obtain ⟨s',hs',rfl,rfl⟩ := hb
      unfold szOf at hs'
      cases hie : P.info? e with
      | none => simp [hie] at hs'
      | some ie =>
        simp [hie] at hs'
        obtain ⟨cells,hc1,hc2⟩ := fill_ok hl hP hz hf
        refine ⟨cells,?_,hc2⟩
        subst hs'
        simp only [h1,hu,h2,hie]
        exact hc1
    · rename_i fs hu
      simp only [Option.map_eq_some_iff,Prod.mk.injEq] at hb
      obtain ⟨pl,hpl,rfl,rfl⟩ := hb
      obtain ⟨cells,hc1,hc2⟩ := fill_ok hl hP hz hf
      refine ⟨cells,?_,hc2⟩
      simp only [h1,hu,h2,hpl]
      have : (fun (x : Nat) => pl.toArray[x]?) = BP.place (.str pl) := by funext x;simp [BP.place]
      rw [this]
      exact hc1
    · simp at hb
  · simp at hb

theorem buildV_sound (hR : Rel n p0 F w0 S a w p ow) {g : Bool} {o : Oper} {T : TypeId} {parts : Array (Nat × Operand)} (ho : o.op = .build T parts) {K : AV → Prop} (h : buildV P S g T parts.toList K) : ∃ v,K v ∧ (g = true → VOK P a w p o v) := by
  obtain ⟨l,h1,hP⟩ := partsV_sound hR _ h
  split at h1
  · rename_i zs bp hb
    split at h1
    · rename_i cs hf
      refine ⟨_,h1,fun hg => ?_⟩
      obtain ⟨cells,hc1,hc2⟩ := built_ok (a := a) (w := w) (p := p) hb hf (hP hg).1 (hP hg).2
      refine ⟨.agg cells,⟨cells,rfl,hc2⟩,fun w' _ => ?_⟩
      simp only [execOp,ho,Sem.run_bind,run_build w' T _ cells hc1,Result.andThen_ok,Sem.run_pure]
    · exact h1.elim
  · exact h1.elim

theorem partsS_sound : ∀ (parts : List (Nat × Operand)) {S : Env} {O0 : List Nat} {K : Env → List (Nat × List AC) → Prop},Rel n p0 F w0 S a w p ow → Free F w0 S w p ow O0 → partsS S parts K →
    ∃ S' l O,K S' l ∧ Rel n p0 F w0 S' a w p ow ∧ Free F w0 S' w p ow (O0 ++ O) ∧ RdP w p a.eval parts l O
  | [],S,O0,K,hR,hF,h => ⟨S,[],[],h,hR,by simpa using hF,.nil⟩
  | (i,x) :: r,S,O0,K,hR,hF,h => by
    unfold partsS at h
    obtain ⟨S1,cs,O1,h1,hR1,_,hF1,hv⟩ := evS_sound hR hF h
    obtain ⟨S2,l,O2,h2,hR2,hF2,hP⟩ := partsS_sound r hR1 hF1 h1
    exact ⟨S2,_,O1 ++ O2,h2,hR2,by rw [← List.append_assoc];exact hF2,.cons hv hP⟩

theorem fill_rows {sz : Nat} : ∀ {parts : List (Nat × Operand)} {l : List (Nat × List AC)} {k : Nat} {pre : List (List AC)} {avs zvs : List Value} {zs : List AC} {Op Ol : List Nat} {cells : Array Value},RdP w p a.eval parts l Ol → l.map (·.1) = List.range' k l.length → (∀ x ∈ l,x.2.length = sz) →
    (∀ e,e ∈ pre → e.length = sz) → pre.length = k → zs.length = l.length * sz → cells.toList = avs ++ zvs → RdO w p avs pre.flatten Op → RdL w p zvs zs →
    ∃ cells',Instr.fill (fun i => some (i * sz,sz)) cells (parts.map fun x => (x.1,a.eval x.2)) = some cells' ∧ RdO w p cells'.toList (pre ++ l.map (·.2)).flatten (Op ++ Ol)
  | [],_,k,pre,avs,zvs,zs,Op,_,cells,.nil,_,_,_,_,hz,hc,ha,hzv => by
    have h0 : zs = [] := List.eq_nil_of_length_eq_zero (by simpa using hz)
    have h1 : zvs = [] := List.eq_nil_of_length_eq_zero (by rw [hzv.length,h0];rfl)
    exact ⟨cells,rfl,by simpa [hc,h1] using ha⟩
  | (i,x) :: r,_,k,pre,avs,zvs,zs,Op,_,cells,.cons (cs := e) (l := l) (O := O1) (O' := O2) hv ht,hidx,hsz,hpre,hk,hz,hc,ha,hzv => by
    simp only [List.map_cons,List.length_cons,List.range'_succ,List.cons.injEq] at hidx
    obtain ⟨rfl,hidx⟩ := hidx
    have he : e.length = sz := hsz (i,e) (by simp)
    have hpl : avs.length = i * sz := by rw [ha.length,flatten_length hpre,hk]
    have hzl : zs.length = sz + l.length * sz := by rw [hz];simp [Nat.add_mul];omega
    have hzvl := hzv.length
    have e1 : (a.eval x).cells.size = sz := by rw [← he,← hv.length,Array.length_toList]
    have hcs : cells.size = i * sz + (sz + l.length * sz) := by rw [← Array.length_toList,hc,List.length_append,hpl,hzvl,hzl]
    have e2 : ¬ (i * sz + sz > cells.size) := by omega
    have hstep := fill_eq (off := i * sz) (cells := cells) (v := a.eval x) (by rw [e1];omega)
    have hvl : (a.eval x).cells.toList.length = sz := by rw [Array.length_toList,e1]
    rw [hc,← hpl,List.take_left,List.drop_length_add_append,hvl,hpl] at hstep
    obtain ⟨cells',h3,h4⟩ := fill_rows (k := i + 1) (pre := pre ++ [e]) (zs := zs.drop sz) (Op := Op ++ O1) ht hidx (fun y hy => hsz y (by simp [hy]))
      (by intro y hy;simp at hy;rcases hy with hy|hy;exact hpre y hy;rw [hy];exact he) (by simp [hk]) (by rw [List.length_drop,hzl];omega) hstep
      (by rw [List.flatten_append];simpa using ha.append hv) (hzv.drop sz)
    refine ⟨cells',?_,by simpa [List.append_assoc] using h4⟩
    simp only [List.map_cons,Instr.fill,e1,ne_eq,not_true,decide_false,Bool.false_or,decide_eq_true_eq]
    rw [if_neg e2]
    exact h3

theorem rdF_replicate {vs : List Value} {cs : List AC} (h : RdL w p vs cs) : ∀ k,RdL w p (List.replicate k vs).flatten (List.replicate k cs).flatten
  | 0 => by simpa using .nil
  | k + 1 => by
    simp only [List.replicate_succ,List.flatten_cons]
    exact h.append (rdF_replicate h k)

theorem madeCells_eq (z : Array Value) (k : Nat) : (madeCells z (k * z.size)).toList = (List.replicate k z.toList).flatten := by
  apply List.ext_getElem?
  intro i
  have hl : (List.replicate k z.toList).flatten.length = k * z.size := by simp
  by_cases hi : i < k * z.size
  · have hz : 0 < z.size := by
      rcases Nat.eq_zero_or_pos z.size with h|h
      · rw [h] at hi;simp at hi
      · exact h
    have hdiv : i / z.size < k := by rw [Nat.div_lt_iff_lt_mul hz];exact hi
    have hmod : i % z.size < z.size := Nat.mod_lt _ hz
    have e1 : (madeCells z (k * z.size)).toList[i]? = some z[i % z.size]! := by
      simp [madeCells,hi]
    rw [e1]
    have key : ∀ (k q r : Nat),q < k → r < z.size → (List.replicate k z.toList).flatten[q * z.size + r]? = z.toList[r]? := by
      intro k
      induction k with
      | zero => intro q r hq;omega
      | succ k ih =>
        intro q r hq hr
        simp only [List.replicate_succ,List.flatten_cons]
        cases q with
        | zero => rw [Nat.zero_mul,Nat.zero_add,List.getElem?_append_left (by simpa using hr)]
        | succ q =>
          rw [List.getElem?_append_right (by simp [Nat.add_mul];omega)]
          have : (q + 1) * z.size + r - z.toList.length = q * z.size + r := by simp [Nat.add_mul];omega
          rw [this]
          exact ih q r (by omega) hr
    have := key k (i / z.size) (i % z.size) hdiv hmod
    rw [Nat.mul_comm,Nat.div_add_mod] at this
    rw [this]
    simp [hmod]
  · rw [List.getElem?_eq_none (by simp [size_madeCells];omega),List.getElem?_eq_none (by rw [hl];omega)]

/-- A new row of our own. -/
theorem rel_newRow (hR : Rel n p0 F w0 S a w p ow) {OF : List Nat} (hF : Free F w0 S w p ow OF) {d e sz nn cap : Nat} {cells : Array Value} {es : List (List AC)} (hd : d < n) (hm : cap ≤ maxLen) (hs : cells.size = cap * sz) (hn : nn ≤ cap) (hes : es.length = nn)
    (hsz : ∀ x,x ∈ es → x.length = sz) (hr : RdO w p (cells.toList.take (nn * sz)) es.flatten OF) :
    ∃ ow',Rel n p0 F w0 ((S.set (nm d) (.row (some (w.heap.size,cap)) e sz es)).set d (.c (.ref (nm d) [] (some (w.heap.size,cap)) sz 0 nn))) (a.put (some d) (.slice (some ⟨w.heap.size,0,none⟩) nn cap)) (w.alloc (.cells cells e)) p ow' := by
  obtain ⟨ow1,hR1⟩ := rel_new1 hR hF (g := nm d) (v := .row (some (w.heap.size,cap)) e sz es) (.cells cells e) (by
    refine ⟨cells.toList.take (nn * sz),OF,⟨?_,cells,heap_alloc_new w _,by rw [hes];exact hn,hm,hs,by rw [hes]⟩,hsz,?_,rfl⟩
    · rw [List.length_take,Array.length_toList,hs,hes]
      exact Nat.min_eq_left (Nat.mul_le_mul_right _ hn)
    · exact hr.mono (fun _ h => h) (keeps_new hR _) fun b hb => Below.heap_alloc w _ b (hF.fresh b hb).1)
  refine ⟨_,rel_set hR1 hd ?_⟩
  have := RdC.ref (w := w.alloc (.cells cells e)) (p := p) (nm d) [] w.heap.size cap sz 0 nn 0 ⟨fun _ => by simp,fun _ => rfl⟩ (by omega)
  exact this

theorem buildSlice_sound (hR : Rel n p0 F w0 S a w p ow) {o : Oper} {T d len : Nat} {parts : Array (Nat × Operand)} (ho : o.op = .buildSlice T len parts) (hd : o.dst = some d) {K : Env → Prop} (h : buildSliceK P n S T len parts.toList d K) {next : Act → World → Prop} (hn : GoesG n p0 F w0 w K next) : o.wp P a w next Q := by
  obtain ⟨S',l,O,h,hR',hF,hP⟩ := partsS_sound _ hR Free.nil h
  rw [List.nil_append] at hF
  split at h
  · rename_i e hu
    split at h
    · rename_i sz by' zs hi
      obtain ⟨hpos,hidx,hsz,hlim,hdn,hK⟩ := h
      obtain ⟨i,z,h1,h2,h3,h4,h5,h6⟩ := eInfo_ok hi
      have hlen : l.length = len := by have := congrArg List.length hidx;simpa using this
      have hparts : (parts.map fun (i,x) => (i,a.eval x)).toList = parts.toList.map fun x => (x.1,a.eval x.2) := by simp
      have hzs := constACs_ok w p h6
      have hzl : zs.length = sz := by rw [← hzs.length,Array.length_toList,h5]
      let z0 : Array Value := if len * sz = 0 then #[] else z.cells
      let start : Array Value := (Array.range (len * sz)).map (z0[· % z0.size]!)
      have hstr : RdL w p start.toList (List.replicate len zs).flatten := by
        by_cases h0 : len * sz = 0
        · have e1 : (List.replicate len zs).flatten = [] := by
            apply List.eq_nil_of_length_eq_zero
            simp [hzl,h0]
          have e2 : start = #[] := by simp [start,h0,Array.range_zero']
          rw [e1,e2]
          exact .nil
        · have e0 : start = madeCells z.cells (len * sz) := by simp only [start,z0,h0,if_false];rfl
          rw [e0,← h5,madeCells_eq]
          exact rdF_replicate hzs len
      obtain ⟨cells,hc1,hc2⟩ := fill_rows (sz := sz) (k := 0) (pre := []) (avs := []) (zvs := start.toList) (zs := (List.replicate len zs).flatten) (Op := []) (cells := start) hP (by rw [hidx,List.range_eq_range',hlen]) hsz (by simp) rfl (by simp [hzl,hlen]) rfl .nil hstr
      have hfl : (l.map (·.2)).flatten.length = len * sz := by rw [flatten_length (sz := sz) (by intro x hx;simp at hx;obtain ⟨i',hx⟩ := hx;exact hsz _ hx)];simp [hlen]
      have hcs : cells.size = len * sz := by
        have := hc2.length
        rw [Array.length_toList] at this
        rw [this]
        simpa using hfl
      have hszr : (sizeOf e).run P w = .ok sz w := by simp [sizeOf,typeInfo,h1,h3]
      have hrun : (execOp a.eval o).run P w = .ok (.value (.slice (some ⟨w.heap.size,0,none⟩) len len)) (w.alloc (.cells cells e)) := by
        have hlim' : ¬ (len * sz > 2 ^ 24) := by simp;omega
        by_cases h0 : len * sz = 0
        · have hs0 : start = (Array.range (len * sz)).map ((#[] : Array Value)[· % (#[] : Array Value).size]!) := by simp only [start,z0,h0,if_true]
          rw [hs0] at hc1
          simp only [execOp,ho,Instr.buildSlice,Sem.run_bind,run_underlying hu,Result.andThen_ok,hszr,hlim',if_false,Sem.run_pure]
          rw [if_pos h0]
          simp only [Sem.run_bind,Sem.run_pure,Result.andThen_ok,hparts,hc1]
          simp [newRow]
        · have hs0 : start = (Array.range (len * sz)).map (z.cells[· % z.cells.size]!) := by simp only [start,z0,h0,if_false]
          rw [hs0] at hc1
          have hzr : (zeroValue e).run P w = .ok z w := by simp [zeroValue,typeInfo,h1,h2]
          simp only [execOp,ho,Instr.buildSlice,Sem.run_bind,run_underlying hu,Result.andThen_ok,hszr,hlim',if_false,Sem.run_pure]
          rw [if_neg h0]
          simp only [Sem.run_bind,Sem.run_pure,Result.andThen_ok,hzr,hparts,hc1]
          simp [newRow]
      refine wp_value hrun ?_
      rw [hd]
      have hcap : len ≤ maxLen := by
        have : len * 1 ≤ len * sz := Nat.mul_le_mul_left _ hpos
        unfold maxLen;omega
      obtain ⟨ow',hR2⟩ := rel_newRow (es := l.map (·.2)) (nn := len) hR' hF hdn hcap hcs (Nat.le_refl _) (by simp [hlen]) (by
        intro x hx
        simp at hx;obtain ⟨i',hx⟩ := hx
        exact hsz _ hx) (by
        rw [List.take_of_length_le (by rw [Array.length_toList,hcs];exact Nat.le_refl _)]
        simpa using hc2)
      exact hn _ _ _ p _ (below_new _ _) (hK _) hR2
    · exact h.elim
  · exact h.elim

theorem makeSlice_sound (hR : Rel n p0 F w0 S a w p ow) {o : Oper} {T d : Nat} {lo co : Operand} (ho : o.op = .makeSlice T lo co) (hd : o.dst = some d) {K : Env → Prop} (h : makeSliceK P n S T lo co d K) {next : Act → World → Prop} (hn : GoesG n p0 F w0 w K next) : o.wp P a w next Q := by
  unfold makeSliceK at h
  obtain ⟨va,h1,hva⟩ := evK_sound hR h
  clear h
  split at h1
  · rename_i ka x
    obtain ⟨vb,h2,hvb⟩ := evK_sound hR h1
    clear h1
    split at h2
    · rename_i kb y
      split at h2
      · rename_i e hu
        split at h2
        · rename_i sz by' zs hi
          obtain ⟨hx0,hxy,hby,hlim,hdn,hK⟩ := h2
          obtain ⟨i,z,g1,g2,g3,g4,g5,g6⟩ := eInfo_ok hi
          have ea : a.eval lo = .int ka x := RdS_im (hva rfl)
          have eb : a.eval co = .int kb y := RdS_im (hvb rfl)
          have hr := run_make (P := P) w T e i z hu g1 g2 ka kb x y hx0 hxy (by rw [g4];exact hby) (by omega)
          have hrun : (execOp a.eval o).run P w = .ok (.value (.slice (some ⟨w.heap.size,0,none⟩) x.toNat y.toNat)) (w.alloc (.cells (madeCells z.cells (y.toNat * i.size)) e)) := by
            simp only [execOp,ho,ea,eb,Sem.run_bind,hr,Result.andThen_ok,Sem.run_pure]
          refine wp_value hrun ?_
          rw [hd]
          have hsz : (madeCells z.cells (y.toNat * i.size)).size = y.toNat * sz := by rw [size_madeCells,g3]
          have hm : y.toNat ≤ maxLen := by unfold maxLen;omega
          have hzs := constACs_ok w p g6
          have hzl : zs.length = sz := by rw [← hzs.length,Array.length_toList,g5]
          have hxyn : x.toNat ≤ y.toNat := by omega
          have htake : RdO w p ((madeCells z.cells (y.toNat * i.size)).toList.take (x.toNat * sz)) (List.replicate x.toNat zs).flatten [] := by
            rw [g3,← g5,madeCells_eq]
            have hsplit : (List.replicate y.toNat z.cells.toList).flatten = (List.replicate x.toNat z.cells.toList).flatten ++ (List.replicate (y.toNat - x.toNat) z.cells.toList).flatten := by
              rw [← List.flatten_append,List.replicate_append_replicate]
              congr 2
              omega
            have hl : (List.replicate x.toNat z.cells.toList).flatten.length = x.toNat * z.cells.size := by simp
            rw [hsplit,← hl,List.take_left]
            exact (rdF_replicate hzs _).o
          obtain ⟨ow',hR2⟩ := rel_newRow (e := e) (nn := x.toNat) hR Free.nil hdn hm hsz hxyn (by simp) (by intro q hq;rw [List.eq_of_mem_replicate hq];exact hzl) htake
          exact hn _ _ _ p _ (below_new _ _) (hK _) hR2
        · exact h2.elim
      · exact h2.elim
    · exact h2.elim
  · exact h1.elim

end
end Go.Hs
