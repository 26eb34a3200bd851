/-
  THE VALUE SEMANTICS, part 9: literals of structs, arrays and slices; make; append.
-/
import Derived.Test.YtgiihapbgpnkkaaVs8
namespace Go.Vs
open Go Go.RowKit

def partsK (S : Env) : List (Nat × Operand) → (Env → List (Nat × List AC) → Prop) → Prop
  | [], K => K S []
  | (i, x) :: r, K => evP S x fun S v => match cellsOf v with
    | some cs => partsK S r fun S l => K S ((i, cs) :: l)
    | none => False

/-- Parts, each read as its cells. -/
inductive RdP (w : World) (p : Nat → Prop) (ρ : Operand → Value) : List (Nat × Operand) → List (Nat × List AC) → Prop where
  | nil : RdP w p ρ [] []
  | cons {i : Nat} {x : Operand} {cs : List AC} {r : List (Nat × Operand)} {l : List (Nat × List AC)} (h : RdL w p (ρ x).cells.toList cs) (t : RdP w p ρ r l) : RdP w p ρ ((i, x) :: r) ((i, cs) :: l)

theorem RdP.mono {w w' : World} {p p' : Nat → Prop} {ρ : Operand → Value} (hpp : ∀ b, p b → p' b) (hk : KeepsOn p w w') {r : List (Nat × Operand)} {l : List (Nat × List AC)} (h : RdP w p ρ r l) : RdP w' p' ρ r l := by
  induction h with
  | nil => exact .nil
  | cons h _ ih => exact .cons (h.mono hpp hk) ih

/-- Where the parts of a literal lie: of an array (an element's size), of a struct (offset and size of each field). -/
inductive BP where
  | arr (s : Nat)
  | str (l : List (Nat × Nat))

def BP.place : BP → Nat → Option (Nat × Nat)
  | .arr s, i => some (i * s, s)
  | .str l, i => l[i]?

def bInfo (P : Program) (T : TypeId) : Option (List AC × BP) :=
  match eInfo P T with
  | some (_, _, cs) => match P.underlying T with
    | some (.array _ e) => (szOf P e).map fun s => (cs, .arr s)
    | some (.struct fs) => (fs.toList.mapM (fun f => (P.info? f.type).map fun i => (f.offset, i.size))).map fun l => (cs, .str l)
    | _ => none
  | none => none

def fillA (place : Nat → Option (Nat × Nat)) (cs : List AC) : List (Nat × List AC) → Option (List AC)
  | [] => some cs
  | (i, e) :: r => match place i with
    | some (off, size) => if e.length = size ∧ off + size ≤ cs.length then fillA place (splice cs off e) r else none
    | none => none

def buildK (P : Program) (n : Nat) (S : Env) (T : TypeId) (parts : List (Nat × Operand)) (d : Nat) (K : Env → Prop) : Prop :=
  partsK S parts fun S l => match bInfo P T with
    | some (zs, bp) => match fillA bp.place zs l with
      | some cs => d < n ∧ K (S.set d (.agg cs))
      | none => False
    | none => False

def buildSliceK (P : Program) (n : Nat) (S : Env) (T : TypeId) (len : Nat) (parts : List (Nat × Operand)) (d : Nat) (K : Env → Prop) : Prop :=
  partsK S parts fun S l => match P.underlying T with
    | some (.slice e) => match eInfo P e with
      | some (sz, _, _) => 0 < sz ∧ l.map (·.1) = List.range len ∧ (∀ x ∈ l, x.2.length = sz) ∧ len * sz ≤ 16777216 ∧ d < n ∧ K (S.set d (.row false e sz (l.map (·.2))))
      | none => False
    | _ => False

def makeSliceK (P : Program) (n : Nat) (S : Env) (T : TypeId) (lo co : Operand) (d : Nat) (K : Env → Prop) : Prop :=
  evK S true lo fun
    | .c (.im (.int _ a)) => evK S true co fun
      | .c (.im (.int _ b)) => match P.underlying T with
        | some (.slice e) => match eInfo P e with
          | some (sz, by', zs) => 0 ≤ b ∧ by' * b ≤ 281474976710656 ∧ b ≤ 4611686018427387904 ∧ d < n ∧
              (a = b → K (S.set d (.row false e sz (List.replicate b.toNat zs)))) ∧ (a ≠ b → a = 0 ∧ K (S.set d (.row false e sz [])))
          | none => False
        | _ => False
      | _ => False
    | _ => False

/-- The elements behind an operand of append. -/
def srcK (S : Env) (v : AV) (sz : Nat) (K : List (List AC) → Prop) : Prop :=
  match v with
  | .c .nil => K []
  | .c (.sl sz' es) => sz' = sz ∧ K es
  | .alias d => match S.get d with
    | some (.row _ _ sz' es) => sz' = sz ∧ K es
    | _ => False
  | .view d sz' lo hi => match S.get d with
    | some (.row _ _ sz'' es) => sz' = sz ∧ sz'' = sz ∧ hi ≤ es.length ∧ K (es.extract lo hi)
    | _ => False
  | _ => False

def appendK (P : Program) (n : Nat) (S : Env) (T : TypeId) (s x : Operand) (d : Nat) (K : Env → Prop) : Prop :=
  match P.underlying T with
  | some (.slice e) => match eInfo P e with
    | some (sz, by', _) => 0 < sz ∧ d < n ∧ evK S true x fun vx => srcK S vx sz fun ys => evK S true s fun
      | .c .nil => ys.length ≤ 4611686018427387904 ∧ ys.length * by' ≤ 140737488355328 ∧ K (S.set d (.row ys.isEmpty e sz ys))
      | .alias d' => match S.get d' with
        | some (.row b ty sz' es) => ty = e ∧ sz' = sz ∧ es.length + ys.length ≤ 4611686018427387904 ∧ (es.length + ys.length) * by' ≤ 140737488355328 ∧ K ((S.drop d').set d (.row (b && ys.isEmpty) e sz (es ++ ys)))
        | _ => False
      | _ => False
    | none => False
  | _ => False

section
variable {P : Program} {n : Nat} {p0 : Nat → Prop} {w0 : World} {S : Env} {a : Act} {w : World} {p : Nat → Prop} {Q : Exit → Act → World → Prop}

theorem partsK_sound : ∀ (parts : List (Nat × Operand)) {S : Env} {p : Nat → Prop} {K : Env → List (Nat × List AC) → Prop}, Rel n p0 w0 S a w p → partsK S parts K →
    ∃ S' l p', K S' l ∧ Rel n p0 w0 S' a w p' ∧ (∀ b, p b → p' b) ∧ RdP w p' a.eval parts l
  | [], S, p, K, hR, h => ⟨S, [], p, h, hR, fun _ h => h, .nil⟩
  | (i, x) :: r, S, p, K, hR, h => by
    unfold partsK at h
    obtain ⟨S1, v, p1, h1, hR1, hv, hpp1⟩ := evP_sound' hR h
    split at h1
    · rename_i cs hc
      obtain ⟨S2, l, p2, h2, hR2, hpp, hP⟩ := partsK_sound r hR1 h1
      exact ⟨S2, _, p2, h2, hR2, fun b hb => hpp b (hpp1 b hb), .cons ((rdV_cells hv hc).mono hpp (fun _ _ => rfl)) hP⟩
    · exact h1.elim

theorem foldl_set (off : Nat) : ∀ (vs : List Value) (k : Nat) (cs : Array Value), off + k + vs.length ≤ cs.size →
    ((vs.zipIdx k).foldl (fun cs x => cs.setIfInBounds (off + x.2) x.1) cs).toList = cs.toList.take (off + k) ++ vs ++ cs.toList.drop (off + k + vs.length)
  | [], k, cs, _ => by simp
  | v :: rest, k, cs, h => by
    have ih := foldl_set off rest (k + 1) (cs.setIfInBounds (off + k) v) (by simp at h ⊢; omega)
    have e := list_seg_step cs.toList (off + k) v rest (by simp at h ⊢; omega)
    simp only [List.zipIdx_cons, List.foldl_cons]
    rw [ih]
    simpa [Array.toList_setIfInBounds, Nat.add_assoc] using e

theorem fill_step {off : Nat} {cells : Array Value} {v : Value} {cs e : List AC} (hc : RdL w p cells.toList cs) (hv : RdL w p v.cells.toList e) (hl : off + e.length ≤ cs.length) :
    RdL w p (v.cells.zipIdx.foldl (fun cs (x : Value × Nat) => cs.setIfInBounds (off + x.2) x.1) cells).toList (splice cs off e) := by
  have h1 : v.cells.toList.length = e.length := hv.length
  have h2 : cells.toList.length = cs.length := hc.length
  have := foldl_set off v.cells.toList 0 cells (by rw [h1, ← Array.length_toList, h2]; omega)
  rw [← Array.foldl_toList, Array.toList_zipIdx, this]
  exact rdL_splice hc hv _

theorem fill_ok {place : Nat → Option (Nat × Nat)} : ∀ {parts : List (Nat × Operand)} {l : List (Nat × List AC)} {cells : Array Value} {cs cs' : List AC}, RdP w p a.eval parts l → RdL w p cells.toList cs → fillA place cs l = some cs' →
    ∃ cells', Instr.fill place cells (parts.map fun x => (x.1, a.eval x.2)) = some cells' ∧ RdL w p cells'.toList cs'
  | [], _, cells, cs, cs', .nil, hc, h => by simp [fillA] at h; subst h; exact ⟨cells, rfl, hc⟩
  | (i, x) :: r, _, cells, cs, cs', .cons (cs := e) hv ht, hc, h => by
    simp only [fillA] at h
    split at h
    · rename_i off size hp
      split at h
      · rename_i hcond
        obtain ⟨h1, h2⟩ := hcond
        obtain ⟨cells', h3, h4⟩ := fill_ok ht (fill_step (off := off) hc hv (by omega)) h
        refine ⟨cells', ?_, h4⟩
        have e1 : (a.eval x).cells.size = size := by rw [← h1, ← hv.length, Array.length_toList]
        have e2 : ¬ (off + (a.eval x).cells.size > cells.size) := by rw [e1, ← Array.length_toList, hc.length]; omega
        rw [e1] at e2
        simp only [List.map_cons, Instr.fill, hp, e1, ne_eq, not_true, decide_false, Bool.false_or, decide_eq_true_eq]
        rw [if_neg e2]
        exact h3
      · simp at h
    · simp at h

theorem built_ok {T : TypeId} {zs cs : List AC} {bp : BP} {parts : Array (Nat × Operand)} {l : List (Nat × List AC)} (hb : bInfo P T = some (zs, bp)) (hf : fillA bp.place zs l = some cs) (hP : RdP w p a.eval parts.toList l) :
    ∃ cells, P.built T (parts.map fun (i, x) => (i, a.eval x)).toList = some cells ∧ RdL w p cells.toList cs := by
  unfold bInfo at hb
  split at hb
  · rename_i s by' zs' hi
    obtain ⟨i, z, h1, h2, h3, h4, h5, h6⟩ := eInfo_ok hi
    have hz := constACs_ok w p h6
    have hparts : (parts.map fun (i, x) => (i, a.eval x)).toList = parts.toList.map fun x => (x.1, a.eval x.2) := by simp
    rw [hparts]
    unfold Program.built
    split at hb
    · rename_i len e hu
      simp only [Option.map_eq_some_iff, Prod.mk.injEq] at hb
      obtain ⟨s', hs', rfl, rfl⟩ := hb
      unfold szOf at hs'
      cases hie : P.info? e with
      | none => simp [hie] at hs'
      | some ie =>
        simp [hie] at hs'
        obtain ⟨cells, hc1, hc2⟩ := fill_ok hP hz hf
        refine ⟨cells, ?_, hc2⟩
        subst hs'
        simp only [h1, hu, h2, hie]
        exact hc1
    · rename_i fs hu
      simp only [Option.map_eq_some_iff, Prod.mk.injEq] at hb
      obtain ⟨pl, hpl, rfl, rfl⟩ := hb
      obtain ⟨cells, hc1, hc2⟩ := fill_ok hP hz hf
      refine ⟨cells, ?_, hc2⟩
      simp only [h1, hu, h2, hpl]
      have : (fun (x : Nat) => pl.toArray[x]?) = BP.place (.str pl) := by funext x; simp [BP.place]
      rw [this]
      exact hc1
    · simp at hb
  · simp at hb

theorem build_sound (hR : Rel n p0 w0 S a w p) {o : Oper} {T d : Nat} {parts : Array (Nat × Operand)} (ho : o.op = .build T parts) (hd : o.dst = some d) {K : Env → Prop} (h : buildK P n S T parts.toList d K) {next : Act → World → Prop} (hn : GoesG n p0 w0 w K next) : o.wp P a w next Q := by
  obtain ⟨S', l, p', h, hR', _, hP⟩ := partsK_sound _ hR h
  split at h
  · rename_i zs bp hb
    split at h
    · rename_i cs hf
      obtain ⟨cells, hc1, hc2⟩ := built_ok (a := a) hb hf hP
      have hrun : (execOp a.eval o).run P w = .ok (.value (.agg cells)) w := by
        simp only [execOp, ho, Sem.run_bind, run_build w T _ cells hc1, Result.andThen_ok, Sem.run_pure]
      refine wp_value hrun ?_
      rw [hd]
      exact hn _ _ _ p' (Below.refl _ _) h.2 (rel_set hR' h.1 (by simp [AV.refs]) rfl ⟨cells, rfl, hc2⟩)
    · exact h.elim
  · exact h.elim

theorem fill_rows {sz : Nat} : ∀ {parts : List (Nat × Operand)} {l : List (Nat × List AC)} {k : Nat} {pre : List (List AC)} {cells : Array Value} {zs : List AC}, RdP w p a.eval parts l → l.map (·.1) = List.range' k l.length → (∀ x ∈ l, x.2.length = sz) →
    (∀ e, e ∈ pre → e.length = sz) → pre.length = k → zs.length = l.length * sz → RdL w p cells.toList (pre.flatten ++ zs) →
    ∃ cells', Instr.fill (fun i => some (i * sz, sz)) cells (parts.map fun x => (x.1, a.eval x.2)) = some cells' ∧ RdL w p cells'.toList (pre ++ l.map (·.2)).flatten
  | [], _, k, pre, cells, zs, .nil, _, _, _, _, hz, hc => by
    have : zs = [] := List.eq_nil_of_length_eq_zero (by simpa using hz)
    exact ⟨cells, rfl, by simpa [this] using hc⟩
  | (i, x) :: r, _, k, pre, cells, zs, .cons (cs := e) (l := l) hv ht, hidx, hsz, hpre, hk, hz, hc => by
    simp only [List.map_cons, List.length_cons, List.range'_succ, List.cons.injEq] at hidx
    obtain ⟨rfl, hidx⟩ := hidx
    have he : e.length = sz := hsz (i, e) (by simp)
    have hpl : pre.flatten.length = i * sz := by rw [flatten_length hpre, hk]
    have hzl : zs.length = sz + l.length * sz := by rw [hz]; simp [Nat.add_mul]; omega
    have hstep := fill_step (off := i * sz) hc hv (by rw [List.length_append, hpl, he]; omega)
    have hsp : splice (pre.flatten ++ zs) (i * sz) e = (pre ++ [e]).flatten ++ zs.drop sz := by
      unfold splice
      rw [← hpl, List.take_left, List.drop_length_add_append, he]
      simp
    rw [hsp] at hstep
    obtain ⟨cells', h3, h4⟩ := fill_rows (k := i + 1) (pre := pre ++ [e]) (zs := zs.drop sz) ht hidx (fun y hy => hsz y (by simp [hy])) (by intro y hy; simp at hy; rcases hy with hy | hy; exact hpre y hy; rw [hy]; exact he) (by simp [hk]) (by rw [List.length_drop, hzl]; omega) hstep
    refine ⟨cells', ?_, by simpa using h4⟩
    have e1 : (a.eval x).cells.size = sz := by rw [← he, ← hv.length, Array.length_toList]
    have e2 : ¬ (i * sz + sz > cells.size) := by
      have := hc.length
      rw [Array.length_toList, List.length_append, hpl] at this
      omega
    simp only [List.map_cons, Instr.fill, e1, ne_eq, not_true, decide_false, Bool.false_or, decide_eq_true_eq]
    rw [if_neg e2]
    exact h3

theorem rdL_replicate {v : Value} {c : AC} (h : RdC w p v c) : ∀ k, RdL w p (List.replicate k v) (List.replicate k c)
  | 0 => .nil
  | k + 1 => .cons h (rdL_replicate h k)

theorem rdF_replicate {vs : List Value} {cs : List AC} (h : RdL w p vs cs) : ∀ k, RdL w p (List.replicate k vs).flatten (List.replicate k cs).flatten
  | 0 => by simpa using .nil
  | k + 1 => by
    simp only [List.replicate_succ, List.flatten_cons]
    exact h.append (rdF_replicate h k)

theorem madeCells_eq (z : Array Value) (k : Nat) : (madeCells z (k * z.size)).toList = (List.replicate k z.toList).flatten := by
  apply List.ext_getElem?
  intro i
  have hl : (List.replicate k z.toList).flatten.length = k * z.size := by simp
  by_cases hi : i < k * z.size
  · have hz : 0 < z.size := by
      rcases Nat.eq_zero_or_pos z.size with h | h
      · rw [h] at hi; simp at hi
      · exact h
    have hdiv : i / z.size < k := by rw [Nat.div_lt_iff_lt_mul hz]; exact hi
    have hmod : i % z.size < z.size := Nat.mod_lt _ hz
    have e1 : (madeCells z (k * z.size)).toList[i]? = some z[i % z.size]! := by
      simp [madeCells, hi]
    rw [e1]
    have key : ∀ (k q r : Nat), q < k → r < z.size → (List.replicate k z.toList).flatten[q * z.size + r]? = z.toList[r]? := by
      intro k
      induction k with
      | zero => intro q r hq; omega
      | succ k ih =>
        intro q r hq hr
        simp only [List.replicate_succ, List.flatten_cons]
        cases q with
        | zero => rw [Nat.zero_mul, Nat.zero_add, List.getElem?_append_left (by simpa using hr)]
        | succ q =>
          rw [List.getElem?_append_right (by simp [Nat.add_mul]; omega)]
          have : (q + 1) * z.size + r - z.toList.length = q * z.size + r := by simp [Nat.add_mul]; omega
          rw [this]
          exact ih q r (by omega) hr
    have := key k (i / z.size) (i % z.size) hdiv hmod
    rw [Nat.mul_comm, Nat.div_add_mod] at this
    rw [this]
    simp [hmod]
  · rw [List.getElem?_eq_none (by simp [size_madeCells]; omega), List.getElem?_eq_none (by rw [hl]; omega)]

/-- A new row of our own. -/
theorem rel_newRow (hR : Rel n p0 w0 S a w p) {d e sz nn cap : Nat} {cells : Array Value} {es : List (List AC)} (hd : d < n) (hm : cap ≤ maxLen) (hs : cells.size = cap * sz) (hn : nn ≤ cap) (hes : es.length = nn)
    (hsz : ∀ x, x ∈ es → x.length = sz) (hr : RdL w p (cells.toList.take (nn * sz)) es.flatten) :
    Rel n p0 w0 (S.set d (.row false e sz es)) (a.put (some d) (.slice (some ⟨w.heap.size, 0, none⟩) nn cap)) (w.alloc (.cells cells e)) p := by
  refine rel_new hR _ hd (by simp [AV.refs]) (fun _ g hg => by simp [blkOf] at hg; exact hg.symm) ?_
  refine ⟨by simp, ⟨cells.toList.take (nn * sz), ⟨?_, .inr ⟨w.heap.size, cap, cells, by rw [hes], hR.below.size, heap_alloc_new w _, by omega, hm, hs, by rw [hes]⟩⟩, hsz, ?_⟩, ?_⟩
  · rw [List.length_take, Array.length_toList, hs, hes]
    exact Nat.min_eq_left (Nat.mul_le_mul_right _ hn)
  · exact hr.mono (fun _ h => h) (fun b hb => Below.heap_alloc w _ b (hR.plt b hb))
  · intro g hg hp
    simp [blkOf] at hg; subst hg
    have := hR.plt _ hp; omega

theorem buildSlice_sound (hR : Rel n p0 w0 S a w p) {o : Oper} {T d len : Nat} {parts : Array (Nat × Operand)} (ho : o.op = .buildSlice T len parts) (hd : o.dst = some d) {K : Env → Prop} (h : buildSliceK P n S T len parts.toList d K) {next : Act → World → Prop} (hn : GoesG n p0 w0 w K next) : o.wp P a w next Q := by
  obtain ⟨S', l, p', h, hR', _, hP⟩ := partsK_sound _ hR h
  split at h
  · rename_i e hu
    split at h
    · rename_i sz by' zs hi
      obtain ⟨hpos, hidx, hsz, hlim, hdn, hK⟩ := h
      obtain ⟨i, z, h1, h2, h3, h4, h5, h6⟩ := eInfo_ok hi
      have hlen : l.length = len := by have := congrArg List.length hidx; simpa using this
      have hparts : (parts.map fun (i, x) => (i, a.eval x)).toList = parts.toList.map fun x => (x.1, a.eval x.2) := by simp
      have hzs := constACs_ok w p' h6
      have hzl : zs.length = sz := by rw [← hzs.length, Array.length_toList, h5]
      let z0 : Array Value := if len * sz = 0 then #[] else z.cells
      let start : Array Value := (Array.range (len * sz)).map (z0[· % z0.size]!)
      have hstr : RdL w p' start.toList (List.replicate len zs).flatten := by
        by_cases h0 : len * sz = 0
        · have e1 : (List.replicate len zs).flatten = [] := by
            apply List.eq_nil_of_length_eq_zero
            simp [hzl, h0]
          have e2 : start = #[] := by simp [start, h0, Array.range_zero']
          rw [e1, e2]
          exact .nil
        · have e0 : start = madeCells z.cells (len * sz) := by simp only [start, z0, h0, if_false]; rfl
          rw [e0, ← h5, madeCells_eq]
          exact rdF_replicate hzs len
      obtain ⟨cells, hc1, hc2⟩ := fill_rows (sz := sz) (k := 0) (pre := []) (zs := (List.replicate len zs).flatten) hP (by rw [hidx, List.range_eq_range', hlen]) hsz (by simp) rfl (by simp [hzl, hlen]) (by simpa using hstr)
      have hfl : (l.map (·.2)).flatten.length = len * sz := by rw [flatten_length (sz := sz) (by intro x hx; simp at hx; obtain ⟨i', hx⟩ := hx; exact hsz _ hx)]; simp [hlen]
      have hcs : cells.size = len * sz := by
        have := hc2.length
        rw [Array.length_toList] at this
        rw [this]
        simpa using hfl
      have hszr : (sizeOf e).run P w = .ok sz w := by simp [sizeOf, typeInfo, h1, h3]
      have hrun : (execOp a.eval o).run P w = .ok (.value (.slice (some ⟨w.heap.size, 0, none⟩) len len)) (w.alloc (.cells cells e)) := by
        have hlim' : ¬ (len * sz > 2 ^ 24) := by simp; omega
        by_cases h0 : len * sz = 0
        · have hs0 : start = (Array.range (len * sz)).map ((#[] : Array Value)[· % (#[] : Array Value).size]!) := by simp only [start, z0, h0, if_true]
          rw [hs0] at hc1
          simp only [execOp, ho, Instr.buildSlice, Sem.run_bind, run_underlying hu, Result.andThen_ok, hszr, hlim', if_false, Sem.run_pure]
          rw [if_pos h0]
          simp only [Sem.run_bind, Sem.run_pure, Result.andThen_ok, hparts, hc1]
          simp [newRow]
        · have hs0 : start = (Array.range (len * sz)).map (z.cells[· % z.cells.size]!) := by simp only [start, z0, h0, if_false]
          rw [hs0] at hc1
          have hzr : (zeroValue e).run P w = .ok z w := by simp [zeroValue, typeInfo, h1, h2]
          simp only [execOp, ho, Instr.buildSlice, Sem.run_bind, run_underlying hu, Result.andThen_ok, hszr, hlim', if_false, Sem.run_pure]
          rw [if_neg h0]
          simp only [Sem.run_bind, Sem.run_pure, Result.andThen_ok, hzr, hparts, hc1]
          simp [newRow]
      refine wp_value hrun ?_
      rw [hd]
      have hcap : len ≤ maxLen := by
        have : len * 1 ≤ len * sz := Nat.mul_le_mul_left _ hpos
        unfold maxLen; omega
      refine hn _ _ _ p' (below_new _ _) hK (rel_newRow hR' hdn hcap hcs (Nat.le_refl _) (by simp [hlen]) ?_ ?_)
      · intro x hx
        simp at hx; obtain ⟨i', hx⟩ := hx
        exact hsz _ hx
      · rw [List.take_of_length_le (by rw [Array.length_toList, hcs]; exact Nat.le_refl _)]
        simpa using hc2
    · exact h.elim
  · exact h.elim

end
end Go.Vs
