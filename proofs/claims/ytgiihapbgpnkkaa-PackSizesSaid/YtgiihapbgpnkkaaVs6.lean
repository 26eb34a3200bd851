/-
  THE VALUE SEMANTICS, part 6: the law for all value operations.
-/
import Derived.Test.YtgiihapbgpnkkaaVs5
namespace Go.Vs
open Go Go.RowKit

section
variable {P : Program} {n : Nat} {p0 : Nat → Prop} {w0 : World} {S : Env} {a : Act} {w : World} {p : Nat → Prop}

theorem and_true_of {g b : Bool} (hg : g = true) (hb : b = true) : (g && b) = true := by rw [hg, hb]; rfl

theorem adr_pointer {B d sz i j : Nat} {u : Value} (h : RdV w p B (slotOf a) u (.adr d sz i j)) : ∃ g, blkOf (slotOf a d) = some g ∧ u = .pointer (some ((⟨g, 0, none⟩ : Addr).add (i * sz + j))) := by
  obtain ⟨g, h1, h2⟩ := h
  exact ⟨g, h1, by rw [addr_add_zero]; exact h2⟩

theorem box_pointer (hR : Rel n p0 w0 S a w p) {d ty : Nat} {cs : List AC} (hd : S.get d = some (.box ty cs)) : ∃ g, blkOf (slotOf a d) = some g ∧ slotOf a d = .pointer (some ⟨g, 0, none⟩) := by
  obtain ⟨g, cur, h1, h2, h3, h4, h5⟩ := hR.get hd
  exact ⟨g, by rw [h1]; rfl, h1⟩

theorem strRows_ints : ∀ {es : List (List AC)} {l : List Int}, strRows es = some l → es = l.map fun n => [AC.im (.int .u8 n)]
  | [], l, h => by simp [strRows] at h; subst h; rfl
  | e :: r, l, h => by
    unfold strRows at h
    split at h
    · rename_i heq; cases heq
    · rename_i n r' heq
      simp only [List.cons.injEq] at heq
      obtain ⟨rfl, rfl⟩ := heq
      simp only [Option.map_eq_some_iff] at h
      obtain ⟨l', h1, rfl⟩ := h
      rw [strRows_ints h1]; rfl
    · cases h

theorem conv_lies {a0 : Addr} {nn cap : Nat} {es : List (List AC)} {l : List Int} (hl : Lies w p a0 1 es) (h : strRows es = some l) (hn : nn = es.length) (w' : World) (hw : Later w w') :
    (Conv.bytesToString (.slice (some a0) nn cap)).run P w' = .ok (.string (bytesS l)) w' := by
  have he := strRows_ints h
  have hlen : nn = (l.map (Value.int .u8)).length := by rw [hn, he]; simp
  refine run_bytesToString w' a0 nn cap l ?_
  rw [hlen]
  refine run_loadCells_list w' a0 _ fun j v hj => ?_
  simp only [List.getElem?_map, Option.map_eq_some_iff] at hj
  obtain ⟨x, hx, rfl⟩ := hj
  obtain ⟨u, hu, hr⟩ := hl.2 j [AC.im (.int .u8 x)] 0 _ (by rw [he]; simp [hx]) rfl
  cases hr
  have := hw.cell hu
  simpa using this

theorem lies_extract {a0 : Addr} {sz lo hi : Nat} {es : List (List AC)} (hl : Lies w p a0 sz es) : Lies w p (a0.add (lo * sz)) sz (es.extract lo hi) := by
  refine ⟨fun e he => hl.1 e ?_, fun i e j c hi' hj => ?_⟩
  · rw [List.extract_eq_take_drop] at he
    exact List.mem_of_mem_drop (List.mem_of_mem_take he)
  · have h1 : es[lo + i]? = some e := by
      rw [List.extract_eq_take_drop, List.getElem?_take] at hi'
      split at hi'
      · simpa using hi'
      · cases hi'
    obtain ⟨u, hu, hr⟩ := hl.2 _ _ _ _ h1 hj
    refine ⟨u, ?_, hr⟩
    rw [addr_add_add, ← hu]
    congr 2
    rw [Nat.add_mul, Nat.add_assoc]

theorem convSK_sound {B : Nat} {sl : Nat → Value} {g : Bool} {src dst : TypeId} {sz : Nat} {es : List (List AC)} {u1 : Value} {K : AV → Prop}
    (hx : g = true → (es = [] ∧ ∃ cap, u1 = .slice none 0 cap) ∨ ∃ a0 nn cap, u1 = .slice (some a0) nn cap ∧ nn = es.length ∧ Lies w p a0 sz es) (h : convSK P src dst sz es K) :
    ∃ v, K v ∧ (g = true → ∃ u, RdV w p B sl u v ∧ ∀ w', Later w w' → (convert src dst u1).run P w' = .ok u w') := by
  obtain ⟨rfl, hd, hs, h⟩ := h
  split at hs
  · rename_i e hse
    split at h
    · rename_i l hl
      refine ⟨_, h, fun hg => ⟨_, .im _ rfl, fun w' hw' => ?_⟩⟩
      rcases hx hg with ⟨rfl, cap, rfl⟩ | ⟨a0, nn, cap, rfl, hn, hli⟩
      · rw [run_convert_bytes_string w' src dst e _ _ _ hse hs hd]
        simp [strRows] at hl
        subst hl
        rfl
      · rw [run_convert_bytes_string w' src dst e _ _ _ hse hs hd]
        exact conv_lies hli hl hn w' hw'
    · exact h.elim
  · exact hs.elim

theorem convK_sound (hR : Rel n p0 w0 S a w p) {g : Bool} {src dst : TypeId} {vx : AV} {u1 : Value} {K : AV → Prop} (hx : g = true → RdV w p w0.heap.size (slotOf a) u1 vx) (h : convK P S g src dst vx K) :
    ∃ v, K v ∧ (g = true → ∃ u, RdV w p w0.heap.size (slotOf a) u v ∧ ∀ w', Later w w' → (convert src dst u1).run P w' = .ok u w') := by
  unfold convK at h
  split at h
  · split at h
    · rename_i s k hs hd
      refine ⟨_, h, fun hg => ⟨_, .im _ rfl, fun w' _ => ?_⟩⟩
      rw [RdV_im (hx hg)]
      simp [convert, run_underlying hs, run_underlying hd, Conv.intToInt]
    · exact h.elim
  · split at h
    · rename_i s hs hd
      refine ⟨_, h, fun hg => ⟨_, .im _ rfl, fun w' _ => ?_⟩⟩
      rw [RdV_im (hx hg)]
      simp [convert, run_underlying hs, run_underlying hd]
    · exact h.elim
  · exact convSK_sound (fun hg => .inl ⟨rfl, 0, RdV_nil (hx hg)⟩) h
  · rename_i sz es
    refine convSK_sound (fun hg => ?_) h
    have hr : RdC w p u1 (.sl sz es) := hx hg
    cases hr with
    | nilS _ cap => exact .inl ⟨rfl, cap, rfl⟩
    | sl a0 nn cap _ _ us hn hcap hsz hp hc hrr =>
      exact .inr ⟨a0, nn, cap, rfl, hn, lies_ro (.sl a0 nn cap sz es us hn hcap hsz hp hc hrr)⟩
  · rename_i d
    split at h
    · rename_i b ty sz es hd
      refine convSK_sound (fun hg => ?_) h
      obtain ⟨_, ⟨xs, h2, h3⟩, h4⟩ := hR.get hd
      have hv : u1 = slotOf a d := hx hg
      rcases ownsRow_slice h2 with ⟨hn, h0⟩ | ⟨g', cap, hv', _⟩
      · exact .inl ⟨List.eq_nil_of_length_eq_zero h0, 0, by rw [hv, hn]⟩
      · refine .inr ⟨_, _, cap, by rw [hv, hv'], rfl, ?_⟩
        exact hR.lies (by unfold content; rw [hd]) (by rw [hv']; rfl)
    · exact h.elim
  · rename_i d sz lo hi
    split at h
    · rename_i b ty sz' es hd
      obtain ⟨rfl, hhi, h⟩ := h
      refine convSK_sound (fun hg => ?_) h
      have hhi := hhi hg
      obtain ⟨_, ⟨xs, h2, h3⟩, h4⟩ := hR.get hd
      have hu := hx hg
      obtain ⟨hlh, hv⟩ := hu
      have hlen : (es.extract lo hi).length = hi - lo := by simp [List.extract_eq_take_drop]; omega
      rcases hv with ⟨g', nn, cap, hsl, hhc, oo, hoo, hu⟩ | ⟨hsl, hh0, hu⟩
      · have hli := hR.lies (by unfold content; rw [hd]) (by rw [hsl]; rfl : blkOf (slotOf a d) = some g')
        by_cases hlt : lo < cap
        · refine .inr ⟨_, _, _, hu, hlen.symm, ?_⟩
          rw [hoo.1 hlt, ← addr_add_zero]
          exact lies_extract hli
        · have he : es.extract lo hi = [] := by apply List.eq_nil_of_length_eq_zero; omega
          refine .inr ⟨_, _, _, hu, by rw [he]; simp; omega, ?_⟩
          rw [he]
          exact ⟨by simp, by simp⟩
      · refine .inl ⟨by apply List.eq_nil_of_length_eq_zero; omega, 0, hu⟩
    · exact h.elim
  · exact h.elim

theorem vop_load (hR : Rel n p0 w0 S a w p) {g : Bool} {o : Oper} {K : AV → Prop} {t : TypeId} {x : Operand} (ho : o.op = .load t x) (h : vop P S g (.load t x) K) : ∃ v, K v ∧ (g = true → VOK P w0 a w p o v) := by
  have fin : ∀ {v : AV}, (g = true → ∃ u, RdV w p w0.heap.size (slotOf a) u v ∧ ∀ w', Later w w' → (Instr.loadAt t (a.eval x)).run P w' = .ok u w') → (g = true → VOK P w0 a w p o v) := by
    intro v h hg
    obtain ⟨u, h1, h2⟩ := h hg
    exact ⟨u, h1, fun w' hw' => by simp [execOp, ho, h2 w' hw']⟩
  simp only [vop] at h
  obtain ⟨vx, h, hx⟩ := evK_sound hR h
  cases vx with
  | adr d sz i j =>
    simp only at h
    split at h
    · rename_i sz' es hc
      obtain ⟨rfl, h⟩ := h
      by_cases hgt : g = true
      · obtain ⟨g', hb, hu⟩ := adr_pointer (hx hgt)
        obtain ⟨v, hv, hok⟩ := loadK_sound (B := w0.heap.size) (sl := slotOf a) (fun _ => ⟨hR.lies hc hb, hu⟩) h
        exact ⟨v, hv, fin hok⟩
      · obtain ⟨v, hv, _⟩ := loadK_sound (w := w) (p := p) (B := w0.heap.size) (sl := slotOf a) (a0 := ⟨0, 0, none⟩) (u1 := undef) (fun hg => absurd hg hgt) h
        exact ⟨v, hv, fun hg => absurd hg hgt⟩
    · exact h.elim
  | alias d =>
    simp only at h
    split at h
    · rename_i ty cs hd
      obtain ⟨g', hb, hv⟩ := box_pointer hR hd
      obtain ⟨v, hv', hok⟩ := loadK_sound (B := w0.heap.size) (sl := slotOf a) (a0 := ⟨g', 0, none⟩) (u1 := a.eval x) (fun hg => ⟨hR.lies (by unfold content; rw [hd]) hb, by
        have : a.eval x = slotOf a d := hx hg
        rw [Nat.zero_mul, addr_add_zero]
        exact this.trans hv⟩) h
      exact ⟨v, hv', fin hok⟩
    · exact h.elim
  | adrR sz es i j =>
    by_cases hgt : g = true
    · obtain ⟨a0, cap, h1, h2⟩ := hx hgt
      obtain ⟨v, hv, hok⟩ := loadK_sound (B := w0.heap.size) (sl := slotOf a) (fun _ => ⟨lies_ro h1, h2⟩) h
      exact ⟨v, hv, fin hok⟩
    · obtain ⟨v, hv, _⟩ := loadK_sound (w := w) (p := p) (B := w0.heap.size) (sl := slotOf a) (a0 := ⟨0, 0, none⟩) (u1 := undef) (fun hg => absurd hg hgt) h
      exact ⟨v, hv, fun hg => absurd hg hgt⟩
  | _ => exact h.elim

theorem vop_fieldAddr (hR : Rel n p0 w0 S a w p) {g : Bool} {o : Oper} {K : AV → Prop} {s f : Nat} {x : Operand} (ho : o.op = .fieldAddr s x f) (h : vop P S g (.fieldAddr s x f) K) : ∃ v, K v ∧ (g = true → VOK P w0 a w p o v) := by
  simp only [vop] at h
  obtain ⟨vx, h, hx⟩ := evK_sound hR h
  split at h
  · rename_i fs hs
    split at h
    · rename_i fd hf
      split at h
      · rename_i s' hz
        obtain ⟨h0, h⟩ := h
        have fin : ∀ (a0 : Addr), a.eval x = .pointer (some a0) → ∀ w', (execOp a.eval o).run P w' = .ok (.value (.pointer (some (a0.add fd.offset)))) w' := by
          intro a0 ha w'
          simp [execOp, ho, ha, run_fieldAt hs hf hz h0]
        cases vx with
        | adr d sz i j =>
          refine ⟨_, h, fun hg => ?_⟩
          obtain ⟨g', hb, hu⟩ := adr_pointer (hx hg)
          refine ⟨_, ⟨g', hb, rfl⟩, fun w' _ => ?_⟩
          rw [fin _ hu, addr_add_add, addr_add_zero, Nat.add_assoc]
        | alias d =>
          simp only at h
          split at h
          · rename_i ty cs hd
            refine ⟨_, h, fun hg => ?_⟩
            obtain ⟨g', hb, hv⟩ := box_pointer hR hd
            refine ⟨_, ⟨g', hb, rfl⟩, fun w' _ => ?_⟩
            have : a.eval x = slotOf a d := hx hg
            rw [fin _ (by rw [this, hv]), addr_add_zero, Nat.zero_mul, Nat.zero_add]
          · exact h.elim
        | adrR sz es i j =>
          refine ⟨_, h, fun hg => ?_⟩
          obtain ⟨a0, cap, h1, h2⟩ := hx hg
          refine ⟨_, ⟨a0, cap, h1, rfl⟩, fun w' _ => ?_⟩
          rw [fin _ h2, addr_add_add, Nat.add_assoc]
        | _ => exact h.elim
      · exact h.elim
    · exact h.elim
  · exact h.elim

theorem vop_indexAddr (hR : Rel n p0 w0 S a w p) {g : Bool} {o : Oper} {K : AV → Prop} {t : TypeId} {x ix : Operand} (ho : o.op = .indexAddr t x ix) (h : vop P S g (.indexAddr t x ix) K) : ∃ v, K v ∧ (g = true → VOK P w0 a w p o v) := by
  simp only [vop] at h
  obtain ⟨vi, h, hi⟩ := evK_sound hR h
  split at h
  · rename_i vi k i
    have ei : g = true → a.eval ix = .int k i := fun hg => RdV_im (hi hg)
    obtain ⟨vx, h, hx⟩ := evK_sound hR h
    split at h
    · rename_i e ht
      split at h
      · rename_i s hs
        have fin : g = true → ∀ (a0 : Addr) (len cap : Nat), a.eval x = .slice (some a0) len cap → 0 ≤ i ∧ i < len → ∀ w', (execOp a.eval o).run P w' = .ok (.value (.pointer (some (a0.add (i.toNat * s))))) w' := by
          intro hg a0 len cap ha hb w'
          simp only [execOp, ho, ha, ei hg, Sem.run_bind, run_indexAt_sl ht hs a0 len cap k i hb.1 hb.2, Result.andThen_ok, Sem.run_pure]
        split at h
        · rename_i sz es
          obtain ⟨rfl, hb, h⟩ := h
          refine ⟨_, h, fun hg => ?_⟩
          obtain ⟨h1, h2⟩ := hb hg
          have hr : RdC w p (a.eval x) (.sl sz es) := hx hg
          obtain ⟨a0, cap, hu⟩ := rdC_sl_form hr (by intro h; rw [h] at h2; simp at h2; omega)
          refine ⟨_, ⟨a0, cap, by rw [← hu]; exact hr, rfl⟩, fun w' _ => ?_⟩
          rw [fin hg a0 _ cap hu ⟨h1, h2⟩, Nat.add_zero]
        · rename_i d
          split at h
          · rename_i isnil ty sz es hd
            obtain ⟨rfl, hb, h⟩ := h
            refine ⟨_, h, fun hg => ?_⟩
            obtain ⟨h1, h2⟩ := hb hg
            obtain ⟨_, ⟨xs, ho1, hf⟩, _⟩ := hR.get hd
            have hv : a.eval x = slotOf a d := hx hg
            rcases ownsRow_slice ho1 with ⟨hn, h0⟩ | ⟨g', cap, hv', _⟩
            · omega
            · refine ⟨_, ⟨g', by rw [hv']; rfl, rfl⟩, fun w' _ => ?_⟩
              rw [fin hg _ _ cap (by rw [hv, hv']) ⟨h1, h2⟩, addr_add_zero, Nat.add_zero]
          · exact h.elim
        · rename_i d sz lo hi
          obtain ⟨rfl, hb, h⟩ := h
          refine ⟨_, h, fun hg => ?_⟩
          obtain ⟨h1, h2⟩ := hb hg
          obtain ⟨hlh, hv⟩ := hx hg
          rcases hv with ⟨g', nn, cap, hsl, hhc, oo, hoo, hu⟩ | ⟨hsl, hh0, hu⟩
          · refine ⟨_, ⟨g', by rw [hsl]; rfl, rfl⟩, fun w' _ => ?_⟩
            have hlt : lo < cap := by omega
            rw [hoo.1 hlt] at hu
            rw [fin hg _ _ _ hu ⟨h1, by omega⟩]
            have : (⟨g', lo * sz, none⟩ : Addr).add (i.toNat * sz) = ⟨g', lo * sz + i.toNat * sz, none⟩ := by
              rw [← addr_add_zero g' (lo * sz), addr_add_add, addr_add_zero]
            rw [this, Nat.add_mul, Nat.add_zero]
          · omega
        · exact h.elim
      · exact h.elim
    · rename_i len e ht
      split at h
      · rename_i s hs
        have fin : g = true → ∀ (a0 : Addr), a.eval x = .pointer (some a0) → 0 ≤ i ∧ i < len → ∀ w', (execOp a.eval o).run P w' = .ok (.value (.pointer (some (a0.add (i.toNat * s))))) w' := by
          intro hg a0 ha hb w'
          simp only [execOp, ho, ha, ei hg, Sem.run_bind, run_indexAt_ar ht hs a0 k i hb.1 hb.2, Result.andThen_ok, Sem.run_pure]
        split at h
        · obtain ⟨hb, h⟩ := h
          refine ⟨_, h, fun hg => ?_⟩
          obtain ⟨g', hbk, hu⟩ := adr_pointer (hx hg)
          refine ⟨_, ⟨g', hbk, rfl⟩, fun w' _ => ?_⟩
          rw [fin hg _ hu (hb hg), addr_add_add, addr_add_zero, Nat.add_assoc]
        · rename_i d
          split at h
          · rename_i ty cs hd
            obtain ⟨hb, h⟩ := h
            refine ⟨_, h, fun hg => ?_⟩
            obtain ⟨g', hbk, hv⟩ := box_pointer hR hd
            refine ⟨_, ⟨g', hbk, rfl⟩, fun w' _ => ?_⟩
            have : a.eval x = slotOf a d := hx hg
            rw [fin hg _ (by rw [this, hv]) (hb hg), addr_add_zero, Nat.zero_mul, Nat.zero_add]
          · exact h.elim
        · obtain ⟨hb, h⟩ := h
          refine ⟨_, h, fun hg => ?_⟩
          obtain ⟨a0, cap, h1, h2⟩ := hx hg
          refine ⟨_, ⟨a0, cap, h1, rfl⟩, fun w' _ => ?_⟩
          rw [fin hg _ h2 (hb hg), addr_add_add, Nat.add_assoc]
        · exact h.elim
      · exact h.elim
    · exact h.elim
  · exact h.elim

theorem rdC_sl_extract {u : Value} {sz l h cap nn : Nat} {x : Option Addr} {es : List (List AC)} (hnn : nn = es.length) (hr : RdC w p (.slice x nn cap) (.sl sz es)) (h1 : l ≤ h) (h2 : h ≤ es.length) (hu : u = .slice (if cap = l then x else x.map (·.add (l * sz))) (h - l) (cap - l)) :
    RdC w p u (.sl sz (es.extract l h)) := by
  subst hu
  have hlen : (es.extract l h).length = h - l := by simp [List.extract_eq_take_drop]; omega
  cases hr with
  | nilS =>
    have e1 : h - l = 0 := by simp at h2; omega
    have e2 : ([] : List (List AC)).extract l h = [] := by simp [List.extract_eq_take_drop]
    rw [e2, e1]
    split
    · exact .nilS sz _
    · exact .nilS sz _
  | sl a0 nn _ _ _ us hn hcap hsz hp hc hrr =>
    by_cases hcl : cap = l
    · have e1 : h - l = 0 := by omega
      have e2 : es.extract l h = [] := by apply List.eq_nil_of_length_eq_zero; omega
      rw [if_pos hcl, e2, e1]
      exact .sl a0 0 _ sz [] (fun _ _ => undef) rfl (by omega) (by simp) (by simp) (by simp) (by simp)
    · rw [if_neg hcl]
      have hget : ∀ i e, (es.extract l h)[i]? = some e → es[l + i]? = some e := by
        intro i e hi
        rw [List.extract_eq_take_drop, List.getElem?_take] at hi
        split at hi
        · rwa [List.getElem?_drop] at hi
        · cases hi
      refine .sl _ (h - l) (cap - l) sz _ (fun i j => us (l + i) j) hlen.symm (by omega) ?_ ?_ ?_ ?_
      · intro e he
        obtain ⟨i, hi⟩ := List.getElem?_of_mem he
        exact hsz e (List.mem_of_getElem? (hget i e hi))
      · intro hne
        rw [addr_add_block]
        exact hp (by intro h0; rw [h0] at hne; simp [List.extract_eq_take_drop] at hne)
      · intro i e j hi hj
        rw [addr_add_add, ← Nat.add_assoc, ← Nat.add_mul]
        exact hc (l + i) e j (hget i e hi) hj
      · intro i e j c hi hj
        exact hrr (l + i) e j c (hget i e hi) hj

theorem boundK_sound (hR : Rel n p0 w0 S a w p) {g : Bool} {x : Option Operand} {K : Option Int → Prop} (h : boundK S g x K) :
    ∃ l, K l ∧ (g = true → (x = none ∧ l = none) ∨ ∃ k ox i, x = some ox ∧ a.eval ox = .int k i ∧ l = some i) := by
  unfold boundK at h
  cases x with
  | none => exact ⟨none, h, fun _ => .inl ⟨rfl, rfl⟩⟩
  | some ox =>
    simp only at h
    obtain ⟨vl, h, hl⟩ := evK_sound hR h
    split at h
    · rename_i k i
      exact ⟨some i, h, fun hg => .inr ⟨k, ox, i, rfl, RdV_im (hl hg), rfl⟩⟩
    · exact h.elim

theorem vop_slice (hR : Rel n p0 w0 S a w p) {g : Bool} {o : Oper} {K : AV → Prop} {t : TypeId} {x : Operand} {lo hi : Option Operand} (ho : o.op = .slice t x lo hi none) (h : vop P S g (.slice t x lo hi none) K) : ∃ v, K v ∧ (g = true → VOK P w0 a w p o v) := by
  simp only [vop] at h
  obtain ⟨vx, ha, hx⟩ := evK_sound hR h
  clear h
  obtain ⟨l0, hb, hlo⟩ := boundK_sound hR ha
  clear ha
  obtain ⟨h', h, hhi⟩ := boundK_sound hR hb
  clear hb
  unfold sliceK at h
  generalize hl0 : l0.getD 0 = l at h
  split at h
  · rename_i e ht
    split at h
    · rename_i s hs
      have fin : g = true → ∀ (x0 : Option Addr) (len cap : Nat), a.eval x = .slice x0 len cap → len ≤ cap → 0 ≤ l ∧ l ≤ h'.getD len ∧ h'.getD len ≤ len → ∀ w', (execOp a.eval o).run P w' = .ok (.value (.slice (if cap = l.toNat then x0 else x0.map (·.add (l.toNat * s))) ((h'.getD len).toNat - l.toNat) (cap - l.toNat))) w' := by
        intro hg x0 len cap ha hc hb w'
        have h1 : (lo.map a.eval = none ∧ l = 0) ∨ ∃ k, lo.map a.eval = some (.int k l) := by
          rcases hlo hg with ⟨rfl, hq⟩ | ⟨k, ox, i, rfl, hq, hh⟩
          · exact .inl ⟨rfl, by rw [← hl0, hq]; rfl⟩
          · exact .inr ⟨k, by rw [← hl0, hh]; simp [hq]⟩
        have h2 : (hi.map a.eval = none ∧ h' = none) ∨ ∃ k i, hi.map a.eval = some (.int k i) ∧ h' = some i := by
          rcases hhi hg with ⟨rfl, hq⟩ | ⟨k, ox, i, rfl, hq, hh⟩
          · exact .inl ⟨rfl, hq⟩
          · exact .inr ⟨k, i, by simp [hq], hh⟩
        have := run_slice_sl ht hs x0 len cap (lo.map a.eval) (hi.map a.eval) l h' h1 h2 hb.1 hb.2.1 hb.2.2 hc w'
        simp only [execOp, ho, ha, Option.map_none, Sem.run_bind, this, Result.andThen_ok, Sem.run_pure]
      split at h
      · rename_i sz es
        obtain ⟨rfl, hb, h⟩ := h
        refine ⟨_, h, fun hg => ?_⟩
        have hb' := hb hg
        have hr : RdC w p (a.eval x) (.sl sz es) := hx hg
        obtain ⟨x0, cap, hu, hcap⟩ := rdC_sl_len hr
        refine ⟨_, ?_, fun w' _ => fin hg x0 _ cap hu hcap hb' w'⟩
        rw [hu] at hr
        exact rdC_sl_extract rfl hr (by omega) (by omega) rfl
      · rename_i d
        split at h
        · rename_i isnil ty sz es hd
          obtain ⟨rfl, hb, h⟩ := h
          refine ⟨_, h, fun hg => ?_⟩
          have hb' := hb hg
          obtain ⟨_, ⟨xs, ho1, hf⟩, _⟩ := hR.get hd
          have hv : a.eval x = slotOf a d := hx hg
          rcases ownsRow_slice ho1 with ⟨hn, h0⟩ | ⟨g', cap, hv', hcap, _⟩
          · refine ⟨_, ?_, fun w' _ => fin hg none 0 0 (by rw [hv, hn]) (Nat.le_refl _) (by rw [h0] at hb'; exact hb') w'⟩
            have e0 : l = 0 := by omega
            have e1 : (h'.getD ((0 : Nat) : Int)) = 0 := by rw [h0] at hb'; omega
            refine ⟨by omega, .inr ⟨hn, by rw [h0, e1]; rfl, ?_⟩⟩
            rw [e0, e1]
            rfl
          · refine ⟨_, ?_, fun w' _ => fin hg _ _ cap (by rw [hv, hv']) hcap hb' w'⟩
            refine ⟨by omega, .inl ⟨g', _, cap, hv', by omega, ?_⟩⟩
            by_cases hcl : cap = l.toNat
            · refine ⟨0, ⟨fun h => by omega, fun _ => rfl⟩, ?_⟩
              rw [if_pos hcl]
            · refine ⟨l.toNat * sz, ⟨fun _ => rfl, fun h => by rw [h]; simp⟩, ?_⟩
              rw [if_neg hcl]
              simp only [Option.map_some, addr_add_zero]
        · exact h.elim
      · exact h.elim
    · exact h.elim
  · exact h.elim

theorem vop_sound (hR : Rel n p0 w0 S a w p) {g : Bool} {o : Oper} {K : AV → Prop} (h : vop P S g o.op K) : ∃ v, K v ∧ (g = true → VOK P w0 a w p o v) := by
  generalize ho : o.op = op at h
  unfold vop at h
  split at h
  · -- move
    obtain ⟨v, hv, hx⟩ := evK_sound hR h
    exact ⟨v, hv, fun hg => ⟨_, hx hg, fun w' _ => by simp [execOp, ho]⟩⟩
  · -- assign
    obtain ⟨v, hv, hx⟩ := evK_sound hR h
    exact ⟨v, hv, fun hg => ⟨_, hx hg, fun w' _ => by simp [execOp, ho]⟩⟩
  · -- pick
    obtain ⟨vc, h1, hc⟩ := evK_sound hR h
    clear h
    split at h1
    · rename_i b
      obtain ⟨vx, h2, hx⟩ := evK_sound hR h1
      clear h1
      split at h2
      · rename_i pp
        obtain ⟨vy, h3, hy⟩ := evK_sound hR h2
        clear h2
        split at h3
        · rename_i q
          refine ⟨_, h3, fun hg => ⟨_, .im _ rfl, fun w' _ => ?_⟩⟩
          have ec := RdV_im (hc hg)
          cases b with
          | true =>
            have ex := RdV_im (hx (by simp [hg]))
            simp [execOp, ho, ec, ex, asBool]
          | false =>
            have ey := RdV_im (hy (by simp [hg]))
            simp [execOp, ho, ec, ey, asBool]
        · exact h3.elim
      · exact h2.elim
    · exact h1.elim
  · -- binOp
    obtain ⟨vx, h1, hx⟩ := evK_sound hR h
    obtain ⟨vy, h2, hy⟩ := evK_sound hR h1
    obtain ⟨v, hv, hok⟩ := binK_sound hR hx hy h2
    refine ⟨v, hv, fun hg => ?_⟩
    obtain ⟨u, hu, hr⟩ := hok hg
    refine ⟨u, hu, fun w' hw' => ?_⟩
    have := hr w' hw'
    simp only [execOp, ho]
    rw [Sem.run_bind, this]
    simp
  · -- unOp
    obtain ⟨vx, h1, hx⟩ := evK_sound hR h
    obtain ⟨v, hv, hok⟩ := unK_sound (P := P) hx h1
    refine ⟨v, hv, fun hg => ?_⟩
    obtain ⟨u, hu, hr⟩ := hok hg
    exact ⟨u, hu, fun w' hw' => by simp [execOp, ho, hr w' hw']⟩
  · -- convert
    obtain ⟨vx, h1, hx⟩ := evK_sound hR h
    obtain ⟨v, hv, hok⟩ := convK_sound (P := P) hR hx h1
    refine ⟨v, hv, fun hg => ?_⟩
    obtain ⟨u, hu, hr⟩ := hok hg
    exact ⟨u, hu, fun w' hw' => by simp [execOp, ho, hr w' hw']⟩
  · exact vop_load hR ho (by simp only [vop]; exact h)
  · exact vop_fieldAddr hR ho (by simp only [vop]; exact h)
  · exact vop_indexAddr hR ho (by simp only [vop]; exact h)
  · -- extract
    rename_i x k
    obtain ⟨vx, h1, hx⟩ := evK_sound hR h
    clear h
    split at h1
    · rename_i vs
      have go : ∀ (c : TC), vs[k]? = some c → g = true → ∃ u, RdT w p u c ∧ ∀ w', (execOp a.eval o).run P w' = .ok (.value u) w' := by
        intro c hc hg
        obtain ⟨us, hu, hr⟩ := hx hg
        obtain ⟨u, hu2, hr2⟩ := hr.get _ _ hc
        refine ⟨u, hr2, fun w' => ?_⟩
        have : us[k]? = some u := by simpa using hu2
        simp [execOp, ho, hu, Instr.extract, this]
      split at h1
      · rename_i c hc
        refine ⟨_, h1, fun hg => ?_⟩
        obtain ⟨u, h2, h3⟩ := go _ hc hg
        exact ⟨u, h2, fun w' _ => h3 w'⟩
      · rename_i cs hc
        refine ⟨_, h1, fun hg => ?_⟩
        obtain ⟨u, h2, h3⟩ := go _ hc hg
        exact ⟨u, h2, fun w' _ => h3 w'⟩
      · exact h1.elim
    · exact h1.elim
  · -- nilCheck
    obtain ⟨vx, h1, hx⟩ := evK_sound hR h
    clear h
    split at h1
    · refine ⟨_, h1, fun hg => ?_⟩
      obtain ⟨g', hb, hu⟩ := hx hg
      refine ⟨_, ⟨g', hb, rfl⟩, fun w' _ => ?_⟩
      simp [execOp, ho, hu]
    · split at h1
      · rename_i hd
        refine ⟨_, h1, fun hg => ?_⟩
        obtain ⟨g', hb, hv⟩ := box_pointer hR hd
        have : a.eval _ = slotOf a _ := hx hg
        refine ⟨_, rfl, fun w' _ => ?_⟩
        simp [execOp, ho, this, hv]
      · exact h1.elim
    · exact h1.elim
  · exact vop_slice hR ho (by simp only [vop]; exact h)
  · -- call
    rename_i cl
    unfold callK at h
    split at h
    · -- len
      rename_i x t hc ha ht0
      obtain ⟨vx, h1, hx⟩ := evK_sound hR h
      clear h
      split at h1
      · rename_i s
        obtain ⟨ht, hK⟩ := h1
        refine ⟨_, hK, fun hg => ⟨_, .im _ rfl, fun w' _ => exec_len ho hc ha ht0 a.eval w' ?_⟩⟩
        rw [RdV_im (hx hg)]
        simp [Builtin.len_, run_underlying ht, goInt]
      · obtain ⟨⟨e, ht⟩, hK⟩ := h1
        refine ⟨_, hK, fun hg => ⟨_, .im _ rfl, fun w' _ => exec_len ho hc ha ht0 a.eval w' ?_⟩⟩
        rw [RdV_nil (hx hg)]
        exact run_len_slice ht _ _ _ _ _
      · rename_i sz es
        obtain ⟨⟨e, ht⟩, hK⟩ := h1
        refine ⟨_, hK, fun hg => ⟨_, .im _ rfl, fun w' _ => exec_len ho hc ha ht0 a.eval w' ?_⟩⟩
        obtain ⟨x0, cap, hu, _⟩ := rdC_sl_len (show RdC w p _ (.sl sz es) from hx hg)
        rw [hu]
        exact run_len_slice ht _ _ _ _ _
      · split at h1
        · rename_i hd
          obtain ⟨⟨e, ht⟩, hK⟩ := h1
          refine ⟨_, hK, fun hg => ⟨_, .im _ rfl, fun w' _ => exec_len ho hc ha ht0 a.eval w' ?_⟩⟩
          obtain ⟨_, ⟨xs, ho1, hf⟩, _⟩ := hR.get hd
          have hv : a.eval x = slotOf a _ := hx hg
          rcases ownsRow_slice ho1 with ⟨hn, h0⟩ | ⟨g', cap, hv', _⟩
          · rw [hv, hn, h0]; exact run_len_slice ht _ _ _ _ _
          · rw [hv, hv']; exact run_len_slice ht _ _ _ _ _
        · exact h1.elim
      · rename_i d sz lo hi
        obtain ⟨⟨e, ht⟩, hK⟩ := h1
        refine ⟨_, hK, fun hg => ⟨_, .im _ rfl, fun w' _ => exec_len ho hc ha ht0 a.eval w' ?_⟩⟩
        obtain ⟨hlh, hv⟩ := hx hg
        rcases hv with ⟨g', nn, cap, hsl, hhc, oo, hoo, hu⟩ | ⟨hsl, hh0, hu⟩
        · rw [hu]; exact run_len_slice ht _ _ _ _ _
        · rw [hu, hh0, Nat.zero_sub]; exact run_len_slice ht _ _ _ _ _
      · exact h1.elim
    · -- max
      rename_i x y ts hc ha
      obtain ⟨vx, h1, hx⟩ := evK_sound hR h
      clear h
      split at h1
      · obtain ⟨vy, h2, hy⟩ := evK_sound hR h1
        clear h1
        split at h2
        · exact ⟨_, h2, fun hg => ⟨_, .im _ rfl, fun w' _ => exec_max ho hc ha a.eval w' (RdV_im (hx hg)) (RdV_im (hy hg))⟩⟩
        · exact h2.elim
      · exact h1.elim
    · -- min
      rename_i x y ts hc ha
      obtain ⟨vx, h1, hx⟩ := evK_sound hR h
      clear h
      split at h1
      · obtain ⟨vy, h2, hy⟩ := evK_sound hR h1
        clear h1
        split at h2
        · exact ⟨_, h2, fun hg => ⟨_, .im _ rfl, fun w' _ => exec_min ho hc ha a.eval w' (RdV_im (hx hg)) (RdV_im (hy hg))⟩⟩
        · exact h2.elim
      · exact h1.elim
    · exact h.elim
  · exact h.elim

end
end Go.Vs
