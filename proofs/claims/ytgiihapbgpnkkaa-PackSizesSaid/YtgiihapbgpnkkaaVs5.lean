/-
  THE VALUE SEMANTICS, part 5: one law for all value operations.
-/
import Derived.Test.YtgiihapbgpnkkaaVs4
namespace Go.Vs
open Go Go.RowKit

section
variable {P : Program} {n : Nat} {p0 : Nat → Prop} {w0 : World} {S : Env} {a : Act} {w : World} {p : Nat → Prop}

theorem addr_add_zero (g k : Nat) : (⟨g, 0, none⟩ : Addr).add k = ⟨g, k, none⟩ := by
  unfold Addr.add
  split
  · rename_i h; rw [h]
  · simp

theorem lies_row {B ty sz g l cap : Nat} {es : List (List AC)} {xs : List Value} (ho : w.ownsRow B ty sz (.slice (some ⟨g, 0, none⟩) l cap) es.length xs) (hf : RdF w p sz es xs) (hl : l = es.length) : Lies w p ⟨g, 0, none⟩ sz es := by
  subst hl
  refine ⟨hf.1, fun i e j c hi hj => ?_⟩
  obtain ⟨u, hu, hr⟩ := hf.get hi hj
  refine ⟨u, ?_, hr⟩
  rw [addr_add_zero, ho.cellAt]
  · exact hu
  · have := (List.getElem?_eq_some_iff.1 hu).1
    rw [ho.1] at this; exact this

theorem lies_box {g ty : Nat} {cur : Array Value} {cs : List AC} (hg : w.heap[g]? = some (.cells cur ty (0, 0))) (hr : RdL w p cur.toList cs) : Lies w p ⟨g, 0, none⟩ cs.length [cs] := by
  refine ⟨fun e he => by simp at he; rw [he], fun i e j c hi hj => ?_⟩
  cases i with
  | zero =>
    simp at hi; subst hi
    obtain ⟨u, hu, h⟩ := hr.get j c hj
    refine ⟨u, ?_, h⟩
    rw [Nat.zero_mul, Nat.zero_add, addr_add_zero, cell_of_row w g j cur ty (0, 0) hg]
    simpa using hu
  | succ i => simp at hi

theorem ownsRow_slice {B ty sz nn : Nat} {u : Value} {xs : List Value} (h : w.ownsRow B ty sz u nn xs) : (u = .slice none 0 0 ∧ nn = 0) ∨ ∃ g cap, u = .slice (some ⟨g, 0, none⟩) nn cap ∧ nn ≤ cap ∧ B ≤ g ∧ g < w.heap.size := by
  rcases h.2 with hn | ⟨g, cap, cur, hv, hb, hg, hc, _⟩
  · exact .inl hn
  · exact .inr ⟨g, cap, hv, hc, hb, (Array.getElem?_eq_some_iff.1 hg).1⟩

theorem Rel.lies (hR : Rel n p0 w0 S a w p) {d sz : Nat} {es : List (List AC)} (hc : content S d = some (sz, es)) {g : Nat} (hb : blkOf (slotOf a d) = some g) : Lies w p ⟨g, 0, none⟩ sz es := by
  unfold content at hc
  split at hc
  · rename_i isnil ty sz' es' hd
    simp only [Option.some.injEq, Prod.mk.injEq] at hc
    obtain ⟨rfl, rfl⟩ := hc
    obtain ⟨h1, ⟨xs, h2, h3⟩, h4⟩ := hR.get hd
    rcases ownsRow_slice h2 with ⟨hv, _⟩ | ⟨g', cap, hv, _, _, _⟩
    · rw [hv] at hb; simp [blkOf] at hb
    · rw [hv] at hb h2
      simp [blkOf] at hb; subst hb
      exact lies_row h2 h3 rfl
  · rename_i ty cs hd
    simp only [Option.some.injEq, Prod.mk.injEq] at hc
    obtain ⟨rfl, rfl⟩ := hc
    obtain ⟨g', cur, h1, h2, h3, h4, h5⟩ := hR.get hd
    rw [h1] at hb; simp [blkOf] at hb; subst hb
    exact lies_box h4 h5
  · simp at hc

theorem lies_ro {a0 : Addr} {nn cap sz : Nat} {es : List (List AC)} (h : RdC w p (.slice (some a0) nn cap) (.sl sz es)) : Lies w p a0 sz es := by
  cases h with
  | sl _ _ _ _ _ us hn hcap hsz hp hc hr =>
    refine ⟨hsz, fun i e j c hi hj => ⟨us i j, ?_, hr i e j c hi hj⟩⟩
    refine hc i e j hi ?_
    have := hsz e (List.mem_of_getElem? hi)
    have := (List.getElem?_eq_some_iff.1 hj).1
    omega

theorem run_fieldAt {s f : Nat} {fs : Array Field} {fd : Field} {s' : Nat} (hs : P.underlying s = some (.struct fs)) (hf : fs[f]? = some fd) (hz : szOf P fd.type = some s') (h0 : s' ≠ 0) (a0 : Addr) (w' : World) :
    (Instr.fieldAt s (.pointer (some a0)) f).run P w' = .ok (.pointer (some (a0.add fd.offset))) w' := by
  simp [Instr.fieldAt, run_underlying hs, hf, Instr.sureAddr, fieldPlace, run_szOf hz, h0]

theorem run_indexAt_sl {t e s : Nat} (ht : P.underlying t = some (.slice e)) (hs : szOf P e = some s) (a0 : Addr) (len cap : Nat) (k : IntKind) (i : Int) (h0 : 0 ≤ i) (h1 : i < len) (w' : World) :
    (Instr.indexAt t (.slice (some a0) len cap) (.int k i)).run P w' = .ok (.pointer (some (a0.add (i.toNat * s)))) w' := by
  simp [Instr.indexAt, run_underlying ht, asIntOf, h0, h1, run_szOf hs]

theorem run_indexAt_ar {t e s len : Nat} (ht : P.underlying t = some (.array len e)) (hs : szOf P e = some s) (a0 : Addr) (k : IntKind) (i : Int) (h0 : 0 ≤ i) (h1 : i < len) (w' : World) :
    (Instr.indexAt t (.pointer (some a0)) (.int k i)).run P w' = .ok (.pointer (some (a0.add (i.toNat * s)))) w' := by
  simp [Instr.indexAt, run_underlying ht, asIntOf, Instr.sureAddr, h0, h1, run_szOf hs]

theorem rdC_sl_form {u : Value} {sz : Nat} {es : List (List AC)} (h : RdC w p u (.sl sz es)) (hne : es ≠ []) : ∃ a0 cap, u = .slice (some a0) es.length cap := by
  cases h with
  | nilS => exact absurd rfl hne
  | sl a0 nn cap _ _ us hn => subst hn; exact ⟨_, _, rfl⟩

theorem rdC_sl_len {u : Value} {sz : Nat} {es : List (List AC)} (h : RdC w p u (.sl sz es)) : ∃ a0 cap, u = .slice a0 es.length cap ∧ es.length ≤ cap := by
  cases h with
  | nilS => exact ⟨none, _, rfl, Nat.zero_le _⟩
  | sl a0 nn cap _ _ us hn hcap => subst hn; exact ⟨_, _, rfl, hcap⟩

theorem run_len_slice {t e : Nat} (ht : P.underlying t = some (.slice e)) (x : Option Addr) (l c : Nat) (ty : TypeId) (w' : World) : (Builtin.len_ #[t] ty #[.slice x l c]).run P w' = .ok (.int .i64 l) w' := by
  simp [Builtin.len_, run_underlying ht, goInt]

theorem toList_one {α : Type} {xs : Array α} {x : α} (h : xs.toList = [x]) : xs = #[x] := Array.toList_inj.1 h
theorem toList_two {α : Type} {xs : Array α} {x y : α} (h : xs.toList = [x, y]) : xs = #[x, y] := Array.toList_inj.1 h

theorem exec_len {o : Oper} {c : Call} {x : Operand} {t : TypeId} (ho : o.op = .call c) (hc : c.callee = .builtin .len) (ha : c.args.toList = [x]) (ht : c.argTypes.toList = [t]) (ρ : Operand → Value) (w' : World) {v : Value} (h : (Builtin.len_ #[t] o.type #[ρ x]).run P w' = .ok v w') :
    (execOp ρ o).run P w' = .ok (.value v) w' := by
  simp [execOp, ho, resolve, invoke, builtin, hc, toList_one ha, toList_one ht, h]

theorem exec_max {o : Oper} {c : Call} {x y : Operand} (ho : o.op = .call c) (hc : c.callee = .builtin .max) (ha : c.args.toList = [x, y]) (ρ : Operand → Value) (w' : World) {k k' : IntKind} {i j : Int} (hx : ρ x = .int k i) (hy : ρ y = .int k' j) :
    (execOp ρ o).run P w' = .ok (.value (.int k (if j > i then j else i))) w' := by
  simp [execOp, ho, resolve, invoke, builtin, hc, toList_two ha, Builtin.max_, Builtin.max2, hx, hy]

theorem exec_min {o : Oper} {c : Call} {x y : Operand} (ho : o.op = .call c) (hc : c.callee = .builtin .min) (ha : c.args.toList = [x, y]) (ρ : Operand → Value) (w' : World) {k k' : IntKind} {i j : Int} (hx : ρ x = .int k i) (hy : ρ y = .int k' j) :
    (execOp ρ o).run P w' = .ok (.value (.int k (if j < i then j else i))) w' := by
  simp [execOp, ho, resolve, invoke, builtin, hc, toList_two ha, Builtin.min_, Builtin.min2, hx, hy]

theorem run_slice_sl {t e s : Nat} (ht : P.underlying t = some (.slice e)) (hs : szOf P e = some s) (x : Option Addr) (len cap : Nat) (lo hi : Option Value) (l : Int) (h : Option Int)
    (hlo : (lo = none ∧ l = 0) ∨ ∃ k, lo = some (.int k l)) (hhi : (hi = none ∧ h = none) ∨ ∃ k i, hi = some (.int k i) ∧ h = some i)
    (h0 : 0 ≤ l) (h1 : l ≤ h.getD len) (h2 : h.getD len ≤ len) (hc : len ≤ cap) (w' : World) :
    (Instr.sliceAt t (.slice x len cap) lo hi none).run P w' =
      .ok (.slice (if cap = l.toNat then x else x.map (·.add (l.toNat * s))) ((h.getD len).toNat - l.toNat) (cap - l.toNat)) w' := by
  have key : (Instr.sliceBounds true len cap lo hi none).run P w' = .ok (l.toNat, (h.getD len).toNat, cap) w' := by
    rcases hhi with ⟨rfl, rfl⟩ | ⟨k, i, rfl, rfl⟩
    · simp only [Option.getD_none] at h1 h2
      rcases hlo with ⟨rfl, rfl⟩ | ⟨k, rfl⟩
      · simp [Instr.sliceBounds]
      · have : l ≤ (len : Int) := h1
        simp [Instr.sliceBounds, Instr.sliceBound, asIntOf, h0, this]
    · simp only [Option.getD_some] at h1 h2
      have h3 : 0 ≤ i := by omega
      have h4 : i ≤ (cap : Int) := by omega
      rcases hlo with ⟨rfl, rfl⟩ | ⟨k', rfl⟩
      · simp [Instr.sliceBounds, Instr.sliceBound, asIntOf, h3, h4]
      · have h5 : l ≤ ((i.toNat : Nat) : Int) := by omega
        have h6 : (0 ≤ l ∧ l ≤ max i 0) := ⟨h0, by omega⟩
        simp [Instr.sliceBounds, Instr.sliceBound, asIntOf, h3, h4, h6]
  unfold Instr.sliceAt
  simp only [Sem.run_bind, run_underlying ht, Result.andThen_ok, Instr.slice, key, run_szOf hs, Sem.run_pure]

end
end Go.Vs
