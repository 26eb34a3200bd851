/-
  THE VALUE SEMANTICS, part 15: from a law's contract to its row: the arguments read as abstract values; behind the call they read as they did.
-/
import Derived.Test.YtgiihapbgpnkkaaVs14
import Derived.ProofKit
import Derived.Carry
import Derived.ChangeSlices
namespace Go.Vs
open Go Go.RowKit Go.ChangeShapes Go.WideShapes Go.ChangeAt

variable {H : Type} {enc : TypeId × Value → H} {P : Program}

theorem args_stay {W W' : World} (hl : laidOutB P = true) (hb : Below W.heap.size W W') : ∀ {ts : List TypeId} {vs : List Value} {ds : List (DataW H)} {ps : List MemPlace}, (∀ t ∈ ts, P.readableRec t = true ∧ t < P.types.size) →
    DataW.TrodAll enc P W 0 (fun _ => true) true ts vs ds ps → (∀ x ∈ ps, x.block < W.heap.size) → DataW.TrodAll enc P W' 0 (fun b => decide (b < W.heap.size)) true ts vs ds ps
  | [], vs, ds, ps, _, h, _ => by
    obtain ⟨rfl, rfl, rfl⟩ := trodAll_nil h
    exact trodAll_mk0
  | t :: ts, vs, ds, ps, ht, h, hlt => by
    obtain ⟨v, vs', d, ds', p, q, rfl, rfl, rfl, h1, h2⟩ := trodAll_cons h
    have h3 := ht t (by simp)
    exact ⟨p, q, Below.trod hl h3.1 h3.2 h1 hb fun x hx => hlt x (by simp [hx]), args_stay hl hb (fun t' ht' => ht t' (by simp [ht'])) h2 fun x hx => hlt x (by simp [hx]), rfl⟩

/-- **A LAW's POST FROM ITS CONTRACT.** -/
theorem law_done {f : Func} {s : ChangeSpec} {fid : FuncId} {W : World} {args : Array Value} {ds gs : List (DataW H)} {before : List MemPlace} {tb : TypeId} {avs : List AV}
    (hl : laidOutB P = true) (hp : ∀ t ∈ f.params.toList, P.readableRec t = true ∧ t < P.types.size) (hrt : f.resultTypes = #[tb]) (htb : P.underlying tb = some .bool)
    (hW : DataW.Whole enc P f.params.toList s.vars false W args.toList ds gs before) (hsv : s.vars = []) (hfn : s.fn H ds = { results := [.lit (.bool true)], args := ds })
    (hC : Contract P fid avs (.c (.im (.bool true)))) (hR : RdAs W (fun b => b < W.heap.size) args.toList avs) :
    Calls P fid args W fun e W' => ∃ v, e = .returned v ∧ s.post enc P f false true false false W args v W' := by
  have hc := hC.calls W (fun b => b < W.heap.size) args.toList (fun _ h => h) hR
  rw [Array.toArray_toList] at hc
  refine hc.mono fun e W' ⟨v, p', r, hr, he, hb, _, hrd⟩ => ?_
  subst hr he
  have hv : v = .bool true := RdV_im hrd
  subst hv
  have hW' := hW
  obtain ⟨p, q, hA, hV, rfl, _, _⟩ := hW
  rw [hsv] at hV
  obtain ⟨rfl, rfl⟩ := trodVars_none hV
  have hlt : ∀ x ∈ p, x.block < W.heap.size := fun x hx => by simpa using hW'.lt x (by simp [hx])
  refine ⟨_, rfl, _, _, _, [], p, [], hW', ?_, ?_, ?_, hb.frame _, fun h => by cases h⟩
  · rw [List.append_nil, hfn, hrt]
    exact trodAll_mk1 (shut_bool htb true)
  · rw [List.append_nil, hfn]
    exact args_stay hl hb hp hA hlt
  · rw [List.append_nil, hfn, hsv]
    rfl

theorem rd_ints {W : World} {t e : TypeId} {k : IntKind} {v : Value} {d : DataW H} {ps : List MemPlace} (ht : P.underlying t = some (.slice e)) (he : P.underlying e = some (.int k)) (hc : P.cellsOf e = 1)
    (hok : Value.okWide P W .any 0 t v) (h : DataW.Trod enc P W 0 (fun _ => true) true t v d ps) :
    ∃ l : List Int, (∀ n ∈ l, (Lit.int k n).wf = true) ∧ l.length ≤ maxLen ∧ RdV W (fun b => b < W.heap.size) 0 (fun _ => undef) v (.c (.sl 1 (kRows k l))) := by
  obtain ⟨a0, len, cap, rfl⟩ := okWide_slice ht hok
  obtain ⟨fuel, hf⟩ := h
  rcases open_ints ht he hc hf with ⟨hcs, hx⟩ | ⟨a, len', cap', zs, hcs, _, hl, hmx, hz, hx, hcell, hwz⟩
  · simp [Value.cells] at hcs
    obtain ⟨rfl, rfl, rfl⟩ := hcs
    exact ⟨[], by simp, by simp [maxLen], .nilS 1 0⟩
  · simp [Value.cells] at hcs
    obtain ⟨rfl, rfl, rfl⟩ := hcs
    simp only [if_true] at hz
    have hget : ∀ i e, (kRows k (zs.take len))[i]? = some e → i < len ∧ i < zs.length ∧ e = [.im (.int k (zs.getD i 0))] := by
      intro i e hi
      have hil : i < (zs.take len).length := by have := (List.getElem?_eq_some_iff.1 hi).1; simpa [kRows] using this
      have h1 : i < len ∧ i < zs.length := by simpa [List.length_take, Nat.lt_min] using hil
      refine ⟨h1.1, h1.2, ?_⟩
      simp only [kRows, List.getElem?_map, List.getElem?_take, h1.1, if_true, List.getElem?_eq_getElem h1.2, Option.map_some, Option.some.injEq] at hi
      rw [← hi]
      simp [h1.2]
    refine ⟨zs.take len, fun n hn => hwz n (List.mem_of_mem_take hn), by simp; omega, ?_⟩
    refine .sl a len cap 1 (kRows k (zs.take len)) (fun i _ => .int k (zs.getD i 0)) (by rw [length_kRows]; simp; omega) hl ?_ ?_ ?_ ?_
    · intro e he; simp only [kRows, List.mem_map] at he; obtain ⟨x, _, rfl⟩ := he; rfl
    · intro hne
      have h0 : 0 < zs.length := by
        cases hzs : zs with
        | nil => rw [hzs] at hne; simp [kRows] at hne
        | cons x r => simp
      have := World.block_lt_of_cell? W _ (hcell 0 h0)
      rwa [addr_add_block] at this
    · intro i e j hi hj
      obtain ⟨_, h2, _⟩ := hget i e hi
      have : j = 0 := by omega
      subst this
      rw [Nat.mul_one, Nat.add_zero]
      exact hcell i h2
    · intro i e j c hi hj
      obtain ⟨_, _, rfl⟩ := hget i e hi
      cases j with
      | zero => simp at hj; subst hj; exact .im _ rfl
      | succ j => simp at hj

theorem rd_int {W : World} {t : TypeId} {k : IntKind} {v : Value} {d : DataW H} {ps : List MemPlace} (ht : P.underlying t = some (.int k))
    (hok : Value.okWide P W .any 0 t v) (h : DataW.Trod enc P W 0 (fun _ => true) true t v d ps) :
    ∃ n : Int, (Lit.int k n).wf = true ∧ RdV W (fun b => b < W.heap.size) 0 (fun _ => undef) v (.c (.im (.int k n))) := by
  obtain ⟨n, rfl, _, _, w⟩ := open_int ht hok h
  exact ⟨n, w, .im _ rfl⟩

theorem wf_u8 {l : List Int} (h : ∀ n ∈ l, (Lit.int .u8 n).wf = true) : ∀ x ∈ l, 0 ≤ x ∧ x ≤ 255 := by
  intro x hx
  simpa [Lit.wf, IntKind.min, IntKind.max, IntKind.signed, IntKind.bits] using h x hx

theorem wf_i64 {n : Int} (h : (Lit.int .i64 n).wf = true) : -9223372036854775808 ≤ n ∧ n ≤ 9223372036854775807 := by
  simpa [Lit.wf, IntKind.min, IntKind.max, IntKind.signed, IntKind.bits] using h

end Go.Vs
