/-
  THE VALUE SEMANTICS, part 8: the operations that turn memory or hand over what is owned: assignments, new variables, stores, literals, make, append.
-/
import Derived.Test.YtgiihapbgpnkkaaVs7
namespace Go.Vs
open Go Go.RowKit

def cellsOf : AV → Option (List AC)
  | .c c => some [c]
  | .agg cs => some cs
  | _ => none

def splice (e : List AC) (j : Nat) (cs : List AC) : List AC := e.take j ++ cs ++ e.drop (j + cs.length)

theorem splice_one {e : List AC} {j : Nat} {c : AC} (h : j < e.length) : splice e j [c] = e.set j c := by
  unfold splice
  rw [List.set_eq_take_append_cons_drop, if_pos h]
  simp

theorem splice_all {e cs : List AC} (h : cs.length = e.length) : splice e 0 cs = cs := by
  unfold splice
  simp [h]

def asgK (P : Program) (n : Nat) (S : Env) (ty : TypeId) (x : Operand) (d : Nat) (K : Env → Prop) : Prop :=
  match x with
  | .const (.slice none 0 0) => match P.underlying ty with
    | some (.slice e) => match szOf P e with
      | some s => d < n ∧ K (S.set d (.row true e s []))
      | none => False
    | _ => False
  | .tmp t => match S.get t with
    | some (.row b ty sz es) => t ≠ d ∧ d < n ∧ K ((S.drop t).set d (.row b ty sz es))
    | some (.box ty cs) => t ≠ d ∧ d < n ∧ K ((S.drop t).set d (.box ty cs))
    | some (.view d' sz lo hi) => match S.get d' with
      | some (.row b ty sz' es) => d' = d ∧ lo = 0 ∧ sz = sz' ∧ d < n ∧ hi ≤ es.length ∧ K (S.set d (.row b ty sz (es.take hi)))
      | _ => False
    | _ => evK S true x fun v => d < n ∧ v.refs ≠ some d ∧ v.owns = false ∧ K (S.set d v)
  | _ => evK S true x fun v => d < n ∧ v.refs ≠ some d ∧ v.owns = false ∧ K (S.set d v)

section
variable {P : Program} {n : Nat} {p0 : Nat → Prop} {w0 : World} {S : Env} {a : Act} {w : World} {p : Nat → Prop} {Q : Exit → Act → World → Prop}

abbrev Goes (n : Nat) (p0 : Nat → Prop) (w0 : World) (K : Env → Prop) (next : Act → World → Prop) : Prop :=
  ∀ S' a' w' p', K S' → Rel n p0 w0 S' a' w' p' → next a' w'

/-- The same for what only lets memory grow. -/
abbrev GoesG (n : Nat) (p0 : Nat → Prop) (w0 w : World) (K : Env → Prop) (next : Act → World → Prop) : Prop :=
  ∀ S' a' w' p', Below w.heap.size w w' → K S' → Rel n p0 w0 S' a' w' p' → next a' w'

theorem Goes.g {K : Env → Prop} {next : Act → World → Prop} (h : Goes n p0 w0 K next) : GoesG n p0 w0 w K next := fun _ _ _ _ _ h1 h2 => h _ _ _ _ h1 h2

theorem below_new (w : World) (o : Obj) : Below w.heap.size w (w.alloc o) := (Below.refl _ _).alloc (Nat.le_refl _) o

theorem wp_value {o : Oper} {u : Value} {w' : World} {next : Act → World → Prop} (h : (execOp a.eval o).run P w = .ok (.value u) w') (hn : next (a.put o.dst u) w') : o.wp P a w next Q := by
  unfold Oper.wp; rw [h]; exact hn

theorem rdV_row_congr {B : Nat} {sl sl' : Nat → Value} {u : Value} {b : Bool} {ty sz : Nat} {es : List (List AC)} (h : RdV w p B sl u (.row b ty sz es)) : RdV w p B sl' u (.row b ty sz es) := h

theorem rel_move (hR : Rel n p0 w0 S a w p) {t d : Nat} {v : AV} (ht : S.get t = some v) (ho : v.owns = true) (hr : v.refs = none) (_htd : t ≠ d) (hd : d < n) :
    Rel n p0 w0 ((S.drop t).set d v) (a.put (some d) (slotOf a t)) w p := by
  refine rel_upd hR (S0 := (S.drop t).drop d) ?_ hd (Below.refl _ _) hR.plt hR.pnew (fun _ h => h) (fun _ _ => rfl) (fun _ _ _ _ _ _ h => ⟨rfl, h⟩) ?_ ?_
  · intro d' v' h
    obtain ⟨h1, h2, h3⟩ := Env.mem_drop h
    exact ⟨(Env.mem_drop h1).1, h2, h3⟩
  · exact (hR.get ht).congr fun r hr' => by rw [hr] at hr'; cases hr'
  · intro _ g hg d' v' hm ho'
    obtain ⟨h1, h2, h3⟩ := Env.mem_drop hm
    obtain ⟨h4, h5, _⟩ := Env.mem_drop h1
    exact hR.sep t d' _ _ g (Env.mem_of_get ht) h4 (Ne.symm h5) ho ho' hg

theorem asg_sound (hR : Rel n p0 w0 S a w p) {o : Oper} {x : Operand} {d : Nat} (ho : o.op = .assign x) (hd : o.dst = some d) {K : Env → Prop} (h : asgK P n S o.type x d K) {next : Act → World → Prop} (hn : GoesG n p0 w0 w K next) : o.wp P a w next Q := by
  have hrun : (execOp a.eval o).run P w = .ok (.value (a.eval x)) w := by simp [execOp, ho]
  have plain : (evK S true x fun v => d < n ∧ v.refs ≠ some d ∧ v.owns = false ∧ K (S.set d v)) → o.wp P a w next Q := by
    intro h
    obtain ⟨v, ⟨h1, h2, h3, h4⟩, hx⟩ := evK_sound hR h
    refine wp_value hrun ?_
    rw [hd]
    exact hn _ _ _ p (Below.refl _ _) h4 (rel_set hR h1 h2 h3 (hx rfl))
  unfold asgK at h
  split at h
  · split at h
    · rename_i e hu
      split at h
      · rename_i s hs
        obtain ⟨h1, h2⟩ := h
        refine wp_value hrun ?_
        rw [hd]
        refine hn _ _ _ p (Below.refl _ _) h2 (rel_upd hR (fun d' v' h => Env.mem_drop h) h1 (Below.refl _ _) hR.plt hR.pnew (fun _ h => h) (fun _ _ => rfl) (fun _ _ _ _ _ _ h => ⟨rfl, h⟩) ?_ ?_)
        · refine ⟨⟨fun _ => rfl, fun _ => rfl⟩, ⟨[], World.ownsRow_nil _ _ _ _, ⟨by simp, .nil⟩⟩, fun g hg => by simp [Act.eval, blkOf] at hg⟩
        · intro _ g hg; simp [Act.eval, blkOf] at hg
      · exact h.elim
    · exact h.elim
  · rename_i t
    split at h
    · rename_i b ty sz es ht
      obtain ⟨h1, h2, h3⟩ := h
      refine wp_value hrun ?_
      rw [hd]
      exact hn _ _ _ p (Below.refl _ _) h3 (rel_move hR ht rfl rfl h1 h2)
    · rename_i ty cs ht
      obtain ⟨h1, h2, h3⟩ := h
      refine wp_value hrun ?_
      rw [hd]
      exact hn _ _ _ p (Below.refl _ _) h3 (rel_move hR ht rfl rfl h1 h2)
    · rename_i d' sz lo hi ht
      split at h
      · rename_i b ty sz' es hd'
        obtain ⟨rfl, rfl, rfl, h1, h2, h3⟩ := h
        refine wp_value hrun ?_
        rw [hd]
        have hv := hR.get ht
        obtain ⟨hr1, ⟨xs, hr2, hr3⟩, hr4⟩ := hR.get hd'
        have hval : a.eval (.tmp t) = slotOf a t := rfl
        obtain ⟨hlh, hvv⟩ := hv
        have hblk : ∀ g, blkOf (slotOf a t) = some g → blkOf (slotOf a d') = some g := by
          intro g hg
          rcases hvv with ⟨g', nn, cap, hsl, hhc, oo, hoo, hu⟩ | ⟨hsl, hh0, hu⟩
          · rw [hu] at hg; rw [hsl]; exact hg
          · rw [hu] at hg; simp [blkOf] at hg
        refine hn _ _ _ p (Below.refl _ _) h3 (rel_upd hR (fun d' v' h => Env.mem_drop h) h1 (Below.refl _ _) hR.plt hR.pnew (fun _ h => h) (fun _ _ => rfl) (fun _ _ _ _ _ _ h => ⟨rfl, h⟩) ?_ ?_)
        · show RdV w p _ _ (slotOf a t) _
          have hlen : (es.take hi).length = hi := by simp; omega
          refine ⟨?_, ⟨xs.take (hi * sz), ?_, ?_⟩, fun g hg => hr4 g (hblk g hg)⟩
          · rcases hvv with ⟨g', nn, cap, hsl, hhc, oo, hoo, hu⟩ | ⟨hsl, hh0, hu⟩
            · rw [hu]
              constructor
              · intro hb
                have := hr1.1 hb
                rw [hsl] at this; simp at this
              · intro h; simp at h
            · rw [hu]
              exact ⟨fun _ => rfl, fun _ => hr1.2 hsl⟩
          · rcases hvv with ⟨g', nn, cap, hsl, hhc, oo, hoo, hu⟩ | ⟨hsl, hh0, hu⟩
            · have hoo0 : oo = 0 := by
                by_cases hc : 0 < cap
                · rw [hoo.1 hc]; simp
                · exact hoo.2 rfl
              subst hoo0
              rcases hr2.2 with ⟨hn', _⟩ | ⟨g2, cap2, cur, hv2, hb2, hg2, hc2, hm2, hs2, ht2⟩
              · rw [hsl] at hn'; simp at hn'
              · rw [hsl] at hv2
                simp only [Value.slice.injEq, Option.some.injEq, Addr.mk.injEq, and_true] at hv2
                obtain ⟨rfl, rfl, rfl⟩ := hv2
                rw [hlen]
                refine ⟨?_, .inr ⟨g', cap, cur, by rw [hu]; simp, hb2, hg2, by omega, hm2, hs2, ?_⟩⟩
                · rw [List.length_take, hr2.1]
                  have : hi * sz ≤ es.length * sz := Nat.mul_le_mul_right _ h2
                  omega
                · rw [← ht2, List.take_take]
                  have : hi * sz ≤ es.length * sz := Nat.mul_le_mul_right _ h2
                  rw [Nat.min_eq_left this]
            · subst hh0
              refine ⟨by simp, .inl ⟨hu, by simp⟩⟩
          · refine ⟨fun e he => hr3.1 e (List.mem_of_mem_take he), ?_⟩
            have : (es.take hi).flatten = es.flatten.take (hi * sz) := by
              have h5 : es.flatten = (es.take hi).flatten ++ (es.drop hi).flatten := by rw [← List.flatten_append, List.take_append_drop]
              have h6 : (es.take hi).flatten.length = hi * sz := by rw [flatten_length (sz := sz) (fun e he => hr3.1 e (List.mem_of_mem_take he)), hlen]
              rw [h5, ← h6, List.take_left]
            rw [this]
            exact hr3.2.take _
        · intro _ g hg d1 v1 hm ho1
          obtain ⟨h4, h5, _⟩ := Env.mem_drop hm
          exact hR.sep d' d1 _ _ g (Env.mem_of_get hd') h4 (Ne.symm h5) rfl ho1 (hblk g hg)
      · exact h.elim
    · exact plain h
  · exact plain h

/-- A new variable. -/
def allocK (P : Program) (n : Nat) (S : Env) (T d : Nat) (K : Env → Prop) : Prop :=
  match eInfo P T with
  | some (_, _, cs) => d < n ∧ K (S.set d (.box T cs))
  | none => False

theorem rel_box (hR : Rel n p0 w0 S a w p) {T d : Nat} {v : Value} {cs : List AC} (hd : d < n) (hv : RdL w p v.cells.toList cs) :
    Rel n p0 w0 (S.set d (.box T cs)) (a.put (some d) (.pointer (some ⟨w.heap.size, 0, none⟩))) (w.alloc (.cells v.cells T)) p := by
  refine rel_new hR _ hd (by simp [AV.refs]) (fun _ g hg => by simp [blkOf] at hg; exact hg.symm) ?_
  refine ⟨_, v.cells, rfl, hR.below.size, fun h => ?_, heap_alloc_new w _, ?_⟩
  · have := hR.plt _ h; omega
  · exact hv.mono (fun _ h => h) (fun b hb => Below.heap_alloc w _ b (hR.plt b hb))

theorem run_newVar (T : TypeId) (v : Value) : (newVar T v).run P w = .ok ⟨w.heap.size, 0, none⟩ (w.alloc (.cells v.cells T)) := by
  simp [newVar, newRow]

theorem alloc_sound (hR : Rel n p0 w0 S a w p) {o : Oper} {T d : Nat} (ho : o.op = .alloc T) (hd : o.dst = some d) {K : Env → Prop} (h : allocK P n S T d K) {next : Act → World → Prop} (hn : GoesG n p0 w0 w K next) : o.wp P a w next Q := by
  unfold allocK at h
  split at h
  · rename_i s b cs hi
    obtain ⟨i, z, h1, h2, h3, h4, h5, h6⟩ := eInfo_ok hi
    have hrun : (execOp a.eval o).run P w = .ok (.value (.pointer (some ⟨w.heap.size, 0, none⟩))) (w.alloc (.cells z.cells T)) := by
      simp [execOp, ho, Instr.alloc, zeroValue, typeInfo, h1, h2, run_newVar]
    refine wp_value hrun ?_
    rw [hd]
    exact hn _ _ _ p (below_new _ _) h.2 (rel_box hR h.1 (constACs_ok w p h6))
  · exact h.elim

def boxK (n : Nat) (S : Env) (T : Nat) (x : Operand) (d : Nat) (K : Env → Prop) : Prop :=
  evP S x fun S v => match cellsOf v with
    | some cs => d < n ∧ K (S.set d (.box T cs))
    | none => False

theorem rdV_cells {B : Nat} {sl : Nat → Value} {u : Value} {v : AV} {cs : List AC} (h : RdV w p B sl u v) (hc : cellsOf v = some cs) : RdL w p u.cells.toList cs := by
  unfold cellsOf at hc
  split at hc
  · rename_i c
    simp at hc; subst hc
    have hu : RdC w p u c := h
    have : u.cells = #[u] := by
      cases hu with
      | im _ hs => cases u <;> simp [scal] at hs <;> rfl
      | nil => rfl
      | nilS => rfl
      | sl => rfl
    rw [this]
    exact .cons hu .nil
  · rename_i cs'
    simp at hc; subst hc
    obtain ⟨vs, rfl, h2⟩ := h
    exact h2
  · simp at hc

theorem box_sound (hR : Rel n p0 w0 S a w p) {o : Oper} {T d : Nat} {x : Operand} (ho : o.op = .box T x) (hd : o.dst = some d) {K : Env → Prop} (h : boxK n S T x d K) {next : Act → World → Prop} (hn : GoesG n p0 w0 w K next) : o.wp P a w next Q := by
  obtain ⟨S', v, p', h, hR', hv⟩ := evP_sound hR h
  split at h
  · rename_i cs hc
    have hrun : (execOp a.eval o).run P w = .ok (.value (.pointer (some ⟨w.heap.size, 0, none⟩))) (w.alloc (.cells (a.eval x).cells T)) := by
      simp [execOp, ho, Instr.box, run_newVar]
    refine wp_value hrun ?_
    rw [hd]
    exact hn _ _ _ p' (below_new _ _) h.2 (rel_box hR' h.1 (rdV_cells hv hc))
  · exact h.elim

/-- A store. -/
def storeK (P : Program) (S : Env) (T : Nat) (ad x : Operand) (K : Env → Prop) : Prop :=
  evP S x fun S v => match cellsOf v, szOf P T with
    | some cs, some s => s = cs.length ∧ evK S true ad fun
      | .adr d sz i j => match S.get d with
        | some (.row b ty sz' es) => sz = sz' ∧ i < es.length ∧ j + cs.length ≤ sz ∧ K (S.upd d (.row b ty sz (es.set i (splice (es.getD i []) j cs))))
        | some (.box ty cs0) => i = 0 ∧ j + cs.length ≤ cs0.length ∧ K (S.upd d (.box ty (splice cs0 j cs)))
        | _ => False
      | .alias d => match S.get d with
        | some (.box ty cs0) => cs.length = cs0.length ∧ K (S.upd d (.box ty cs))
        | _ => False
      | _ => False
    | _, _ => False

theorem flatten_splice {sz : Nat} : ∀ {es : List (List AC)}, (∀ e, e ∈ es → e.length = sz) → ∀ (i : Nat) (e : List AC) (j : Nat) (cs : List AC), es[i]? = some e → j + cs.length ≤ sz → (es.set i (splice e j cs)).flatten = splice es.flatten (i * sz + j) cs
  | [], _, i, e, j, cs, hi, _ => by simp at hi
  | e0 :: es, h, i, e, j, cs, hi, hj => by
    have h1 := h e0 (by simp)
    cases i with
    | zero =>
      simp at hi; subst hi
      simp only [List.set_cons_zero, List.flatten_cons, Nat.zero_mul, Nat.zero_add, splice]
      rw [List.take_append_of_le_length (by omega), List.drop_append_of_le_length (by omega)]
      simp [List.append_assoc]
    | succ i =>
      simp at hi
      have h2 := flatten_splice (es := es) (fun e he => h e (by simp [he])) i e j cs hi hj
      simp only [List.set_cons_succ, List.flatten_cons, h2]
      simp only [splice]
      have e1 : (i + 1) * sz + j = e0.length + (i * sz + j) := by rw [h1, Nat.add_mul]; omega
      have e2 : (i + 1) * sz + j + cs.length = e0.length + (i * sz + j + cs.length) := by omega
      rw [e2, e1, List.take_length_add_append, List.drop_length_add_append]
      simp [List.append_assoc]

theorem rdL_splice {xs vs : List Value} {cs ds : List AC} (h : RdL w p xs cs) (k : RdL w p vs ds) (j : Nat) : RdL w p (xs.take j ++ vs ++ xs.drop (j + vs.length)) (splice cs j ds) := by
  unfold splice
  rw [k.length]
  exact ((h.take j).append k).append (h.drop _)

theorem setRow_same (g : Nat) (old cs : Array Value) (t : TypeId) (fr : Nat × Nat) (hg : w.heap[g]? = some (.cells old t fr)) : (w.setRow g cs).heap[g]? = some (.cells cs t fr) := setRow_heap w g old cs t fr hg

theorem take_splice {α : Type} {C V : List α} {m o X : Nat} (hV : V.length = m) (h : o + m ≤ X) (hc : X ≤ C.length) : (C.take o ++ V ++ C.drop (o + m)).take X = (C.take X).take o ++ V ++ (C.take X).drop (o + m) := by
  have hA : (C.take o ++ V).length = o + m := by rw [List.length_append, List.length_take, hV]; omega
  rw [List.take_append, hA, List.take_of_length_le (by omega), List.drop_take, List.take_take, Nat.min_eq_left (by omega)]

theorem run_storeVar {T s g off ty : Nat} {v : Value} {cur : Array Value} (hs : szOf P T = some s) (hv : v.cells.size = s) (hg : w.heap[g]? = some (.cells cur ty (0, 0))) (hl : off + s ≤ cur.size) (h1 : ∀ u ∈ v.cells.toList, u.oneCell' = true) :
    (storeVar T ⟨g, off, none⟩ v).run P w = .ok () (w.setRow g (cur.toList.take off ++ v.cells.toList ++ cur.toList.drop (off + v.cells.toList.length)).toArray) := by
  have h := run_storeCells_at P g off ty v.cells.toList 0 cur w hg (by simp; omega) h1
  simp only [Nat.add_zero] at h
  simp [storeVar, run_szOf hs, hv, h]

theorem below_setRow {g : Nat} {cs : Array Value} {B : Nat} (hB : B ≤ g) : Below B w (w.setRow g cs) :=
  ⟨rfl, rfl, rfl, by simp, fun k hk => setRow_other w g k cs (by omega)⟩

theorem store_sound (hR : Rel n p0 w0 S a w p) {o : Oper} {T : Nat} {ad x : Operand} (ho : o.op = .store T ad x) (hd : o.dst = none) {K : Env → Prop} (h : storeK P S T ad x K) {next : Act → World → Prop} (hn : Goes n p0 w0 K next) : o.wp P a w next Q := by
  obtain ⟨S', v, p', h1, hR1, hv⟩ := evP_sound hR h
  clear h hR
  have hR := hR1
  have h := h1
  clear h1 hR1
  split at h
  · rename_i cs s hc hs
    obtain ⟨hsl, h⟩ := h
    obtain ⟨va, h, hva⟩ := evK_sound hR h
    replace hva := hva rfl
    have hcells := rdV_cells hv hc
    have hlen : (a.eval x).cells.size = s := by rw [hsl, ← hcells.length, Array.length_toList]
    have fin : ∀ (g off ty : Nat) (cur : Array Value), a.eval ad = .pointer (some ⟨g, off, none⟩) → w.heap[g]? = some (.cells cur ty (0, 0)) → off + cs.length ≤ cur.size →
        next a (w.setRow g (cur.toList.take off ++ (a.eval x).cells.toList ++ cur.toList.drop (off + (a.eval x).cells.toList.length)).toArray) → o.wp P a w next Q := by
      intro g off ty cur ha hg hl hnext
      have hrun : (execOp a.eval o).run P w = .ok .skip (w.setRow g (cur.toList.take off ++ (a.eval x).cells.toList ++ cur.toList.drop (off + (a.eval x).cells.toList.length)).toArray) := by
        have hst := run_storeVar (P := P) hs hlen hg (by omega : off + s ≤ cur.size) hcells.oneCell
        simp only [execOp, ho, Instr.storeAt, ha, Instr.sureAddr, Sem.run_bind, Sem.run_pure, Result.andThen_ok, hst]
      unfold Oper.wp
      rw [hrun]
      simp only [Oper.upon, hd, Act.put]
      exact hnext
    split at h
    · rename_i d sz i j
      split at h
      · rename_i b ty sz' es hdd
        obtain ⟨rfl, hi, hj, hK⟩ := h
        obtain ⟨g, hb, hu⟩ := hva
        obtain ⟨hr1, ⟨xs, hr2, hr3⟩, hr4⟩ := hR.get hdd
        rcases hr2.2 with ⟨hn', _⟩ | ⟨g2, cap, cur, hv2, hb2, hg2, hc2, hm2, hs2, ht2⟩
        · rw [hn'] at hb; simp [blkOf] at hb
        · have : g2 = g := by rw [hv2] at hb; simpa [blkOf] using hb
          subst this
          have hei : es[i]? = some (es.getD i []) := by rw [List.getD_eq_getElem?_getD, List.getElem?_eq_getElem hi]; rfl
          have hbig : i * sz + j + cs.length ≤ es.length * sz := by
            have : (i + 1) * sz ≤ es.length * sz := Nat.mul_le_mul_right _ hi
            rw [Nat.add_mul] at this; omega
          have hcs : es.length * sz ≤ cur.size := by rw [hs2]; exact Nat.mul_le_mul_right _ hc2
          refine fin g2 (i * sz + j) ty cur hu hg2 (by omega) ?_
          refine hn _ _ _ p' hK (rel_turn hR hdd rfl hb rfl (below_setRow hb2) (fun b' hb' _ => setRow_other w g2 b' _ hb') ?_)
          have hng : ¬ p' g2 := hr4 g2 hb
          have hxs' : RdL w p' (xs.take (i * sz + j) ++ (a.eval x).cells.toList ++ xs.drop (i * sz + j + (a.eval x).cells.toList.length)) (es.set i (splice (es.getD i []) j cs)).flatten := by
            rw [flatten_splice hr3.1 i _ j cs hei hj]
            exact rdL_splice hr3.2 hcells _
          have hvl : (a.eval x).cells.toList.length = cs.length := hcells.length
          refine ⟨hr1, ⟨_, ⟨?_, .inr ⟨g2, cap, _, by rw [List.length_set]; exact hv2, hb2, setRow_same g2 cur _ ty _ hg2, by rw [List.length_set]; exact hc2, hm2, ?_, rfl⟩⟩, ?_, ?_⟩, hr4⟩
          · rw [List.length_set]
            simp only [List.length_take, List.length_append, List.length_drop, Array.length_toList, hvl]
            omega
          · simp only [List.size_toArray, List.length_take, List.length_append, List.length_drop, Array.length_toList, hvl]
            omega
          · intro e he
            rcases List.mem_or_eq_of_mem_set he with he | he
            · exact hr3.1 e he
            · rw [he]
              have : (es.getD i []).length = sz := hr3.1 _ (List.mem_of_getElem? hei)
              simp only [splice, List.length_append, List.length_take, List.length_drop]
              omega
          · have hk : KeepsOn p' w (w.setRow g2 (cur.toList.take (i * sz + j) ++ (a.eval x).cells.toList ++ cur.toList.drop (i * sz + j + (a.eval x).cells.toList.length)).toArray) := fun b' hb' => setRow_other w g2 b' _ (by intro h; subst h; exact hng hb')
            have e1 : (cur.toList.take (i * sz + j) ++ (a.eval x).cells.toList ++ cur.toList.drop (i * sz + j + (a.eval x).cells.toList.length)).toArray.toList.take ((es.set i (splice (es.getD i []) j cs)).length * sz) =
                xs.take (i * sz + j) ++ (a.eval x).cells.toList ++ xs.drop (i * sz + j + (a.eval x).cells.toList.length) := by
              rw [List.length_set, ← ht2, hvl]
              exact take_splice hvl (by omega) (by rw [Array.length_toList]; omega)
            rw [e1]
            exact hxs'.mono (fun _ h => h) hk
      · rename_i ty cs0 hdd
        obtain ⟨rfl, hj, hK⟩ := h
        obtain ⟨g, hb, hu⟩ := hva
        obtain ⟨g2, cur, hv2, hb2, hng, hg2, hr5⟩ := hR.get hdd
        have : g2 = g := by rw [hv2] at hb; simpa [blkOf] using hb
        subst this
        have hcl : cur.size = cs0.length := by rw [← hr5.length, Array.length_toList]
        rw [Nat.zero_mul, Nat.zero_add] at hu
        refine fin g2 j ty cur hu hg2 (by omega) ?_
        refine hn _ _ _ p' hK (rel_turn hR hdd rfl hb rfl (below_setRow hb2) (fun b' hb' _ => setRow_other w g2 b' _ hb') ?_)
        refine ⟨g2, _, hv2, hb2, hng, setRow_same g2 cur _ ty _ hg2, ?_⟩
        refine RdL.mono (fun _ h => h) (fun b' hb' => setRow_other w g2 b' _ (by intro h; subst h; exact hng hb')) ?_
        exact rdL_splice hr5 hcells _
      · exact h.elim
    · rename_i d
      split at h
      · rename_i ty cs0 hdd
        obtain ⟨hj, hK⟩ := h
        obtain ⟨g2, cur, hv2, hb2, hng, hg2, hr5⟩ := hR.get hdd
        have hu : a.eval ad = .pointer (some ⟨g2, 0, none⟩) := (show a.eval ad = slotOf a d from hva).trans hv2
        have hcl : cur.size = cs0.length := by rw [← hr5.length, Array.length_toList]
        refine fin g2 0 ty cur hu hg2 (by omega) ?_
        refine hn _ _ _ p' hK (rel_turn hR hdd rfl (by rw [hv2]; rfl) rfl (below_setRow hb2) (fun b' hb' _ => setRow_other w g2 b' _ hb') ?_)
        refine ⟨g2, _, hv2, hb2, hng, setRow_same g2 cur _ ty _ hg2, ?_⟩
        refine RdL.mono (fun _ h => h) (fun b' hb' => setRow_other w g2 b' _ (by intro h; subst h; exact hng hb')) ?_
        have := rdL_splice hr5 hcells 0
        rwa [splice_all hj] at this
      · exact h.elim
    · exact h.elim
  · exact h.elim

end
end Go.Vs
