/-
  THE VALUE SEMANTICS, part 10: make and append do what part 9 says.
-/
import Derived.Test.YtgiihapbgpnkkaaVs9
namespace Go.Vs
open Go Go.RowKit

section
variable {P : Program} {n : Nat} {p0 : Nat → Prop} {w0 : World} {S : Env} {a : Act} {w : World} {p : Nat → Prop} {Q : Exit → Act → World → Prop}

theorem makeSlice_sound (hR : Rel n p0 w0 S a w p) {o : Oper} {T d : Nat} {lo co : Operand} (ho : o.op = .makeSlice T lo co) (hd : o.dst = some d) {K : Env → Prop} (h : makeSliceK P n S T lo co d K) {next : Act → World → Prop} (hn : GoesG n p0 w0 w K next) : o.wp P a w next Q := by
  unfold makeSliceK at h
  obtain ⟨va, h1, hva⟩ := evK_sound hR h
  clear h
  split at h1
  · rename_i ka x
    obtain ⟨vb, h2, hvb⟩ := evK_sound hR h1
    clear h1
    split at h2
    · rename_i kb y
      split at h2
      · rename_i e hu
        split at h2
        · rename_i sz by' zs hi
          obtain ⟨hy0, hby, hlim, hdn, heq, hne⟩ := h2
          obtain ⟨i, z, g1, g2, g3, g4, g5, g6⟩ := eInfo_ok hi
          have ea : a.eval lo = .int ka x := RdV_im (hva rfl)
          have eb : a.eval co = .int kb y := RdV_im (hvb rfl)
          have hx : 0 ≤ x ∧ x ≤ y := by
            by_cases hxy : x = y
            · exact ⟨by omega, by omega⟩
            · have := (hne hxy).1; exact ⟨by omega, by omega⟩
          have hr := run_make (P := P) w T e i z hu g1 g2 ka kb x y hx.1 hx.2 (by rw [g4]; exact hby) (by omega)
          have hrun : (execOp a.eval o).run P w = .ok (.value (.slice (some ⟨w.heap.size, 0, none⟩) x.toNat y.toNat)) (w.alloc (.cells (madeCells z.cells (y.toNat * i.size)) e)) := by
            simp only [execOp, ho, ea, eb, Sem.run_bind, hr, Result.andThen_ok, Sem.run_pure]
          refine wp_value hrun ?_
          rw [hd]
          have hsz : (madeCells z.cells (y.toNat * i.size)).size = y.toNat * sz := by rw [size_madeCells, g3]
          have hm : y.toNat ≤ maxLen := by unfold maxLen; omega
          have hzs := constACs_ok w p g6
          have hzl : zs.length = sz := by rw [← hzs.length, Array.length_toList, g5]
          by_cases hxy : x = y
          · subst hxy
            refine hn _ _ _ p (below_new _ _) (heq rfl) (rel_newRow hR hdn hm hsz (Nat.le_refl _) (by simp) ?_ ?_)
            · intro q hq; rw [List.eq_of_mem_replicate hq]; exact hzl
            · rw [List.take_of_length_le (by rw [Array.length_toList, hsz]; exact Nat.le_refl _), g3, ← g5, madeCells_eq]
              exact rdF_replicate hzs _
          · obtain ⟨rfl, hK⟩ := hne hxy
            refine hn _ _ _ p (below_new _ _) hK (rel_newRow hR hdn hm hsz (by simp) (by simp) (by simp) ?_)
            simpa using .nil
        · exact h2.elim
      · exact h2.elim
    · exact h2.elim
  · exact h1.elim

theorem run_append_none (t ty e : TypeId) (i : TypeInfo) (ht : P.underlying t = some (.slice e)) (hi : P.info? e = some i) {B size nn c : Nat} {v : Value} {xs : List Value} (hown : w.ownsRow B e size v nn xs) :
    (Builtin.append_ #[t, t] ty #[v, .slice none 0 c]).run P w = .ok v w := by
  rcases hown.2 with ⟨rfl, rfl⟩ | ⟨g, cap, cur, rfl, _, _, hnc, _⟩
  · simp [Builtin.append_, run_underlying ht, sizeOf, typeInfo, hi, Builtin.lenOf, Builtin.firstCells]
  · simp [Builtin.append_, run_underlying ht, sizeOf, typeInfo, hi, Builtin.lenOf, Builtin.firstCells, hnc, storeCells]

theorem run_append_mine (t ty e : TypeId) (i : TypeInfo) (z : Value) {B size bytes : Nat} (ht : P.underlying t = some (.slice e)) (hi : P.info? e = some i) (hz : i.zero = some z)
    (hsize : i.size = size) (hby : i.bytes = bytes) (hzs : z.cells.size = size) (hsz : 0 < size) {v : Value} {nn : Nat} {xs : List Value} (hown : w.ownsRow B e size v nn xs)
    (ad : Addr) (m c : Nat) (news : List Value) (hl : news.length = m * size) (hnews : ∀ j u, news[j]? = some u → w.cell? (ad.add j) = some u) (h1 : ∀ u ∈ news, u.oneCell' = true)
    (h63 : nn + m ≤ 4611686018427387904) (hbytes : (nn + m) * bytes ≤ 140737488355328) (hbase : B ≤ w.heap.size) :
    ∃ v' w', (Builtin.append_ #[t, t] ty #[v, .slice (some ad) m c]).run P w = .ok v' w' ∧ w'.ownsRow B e size v' (nn + m) (xs ++ news) ∧ w.grownBy w' v.ownBlock ∧
      (v' = .slice none 0 0 ↔ v = .slice none 0 0 ∧ m = 0) ∧ (∀ g, v'.ownBlock = some g → v.ownBlock = some g ∨ w.heap.size ≤ g) := by
  have h63' : nn + m ≤ maxLen := by unfold maxLen; omega
  obtain ⟨v', w', hr, ho, hg, hnil⟩ := run_append_own w B t ty e i z size bytes ht hi hz hsize hby hzs hsz v nn xs hown ad m c news hl hnews h1 h63' hbytes hbase
  refine ⟨v', w', hr, ho, hg, hnil, ?_⟩
  intro g hgb
  rcases ownsRow_slice hown with ⟨hv, hn0⟩ | ⟨g0, cap, hv, hnc, _, _⟩
  · by_cases hm : m = 0
    · rw [hnil.2 ⟨hv, hm⟩] at hgb; simp [Value.ownBlock] at hgb
    · subst hv hn0
      have hr2 := run_append_nil (P := P) w t ty e i z ht hi hz ad m c news (by rw [hsize]; exact hl) hnews (by omega) (by omega) (by rw [hby]; simp only [Nat.zero_add] at hbytes; omega)
      rw [hr] at hr2
      simp only [Result.ok.injEq] at hr2
      rw [hr2.1] at hgb
      simp [Value.ownBlock] at hgb
      exact .inr (by omega)
  · subst hv
    by_cases hroom : nn + m ≤ cap
    · obtain ⟨w2, hr2, _⟩ := run_append_fits (P := P) w B t ty e i size ht hi hsize g0 nn cap xs hown ad m c news hl hnews h1 hroom
      rw [hr] at hr2
      simp only [Result.ok.injEq] at hr2
      rw [hr2.1] at hgb
      exact .inl hgb
    · have holds : ∀ j u, xs[j]? = some u → w.cell? ((⟨g0, 0, none⟩ : Addr).add j) = some u := hown.cells (g := g0) rfl
      have hr2 := run_append_grow (P := P) w t ty e i z ht hi hz ⟨g0, 0, none⟩ nn cap xs (by rw [hsize]; exact hown.1) holds ad m c news (by rw [hsize]; exact hl) hnews (by omega) (by omega) (growslice_fits (by omega) (by rw [hby]; exact hbytes))
      rw [hr] at hr2
      simp only [Result.ok.injEq] at hr2
      rw [hr2.1] at hgb
      simp [Value.ownBlock] at hgb
      exact .inr (by omega)

theorem lies_flat {sz : Nat} : ∀ {es : List (List AC)} {a0 : Addr}, Lies w p a0 sz es → ∃ xs, RdL w p xs es.flatten ∧ ∀ j u, xs[j]? = some u → w.cell? (a0.add j) = some u
  | [], _, _ => ⟨[], .nil, by simp⟩
  | e :: es, a0, h => by
    have he : e.length = sz := h.1 e (by simp)
    have hcell : ∀ j, ∃ u, j < sz → w.cell? (a0.add j) = some u ∧ ∀ c, e[j]? = some c → RdC w p u c := by
      intro j
      by_cases hj : j < sz
      · obtain ⟨u, hu, hr⟩ := h.2 0 e j _ (by simp) (List.getElem?_eq_getElem (by omega : j < e.length))
        rw [Nat.zero_mul, Nat.zero_add] at hu
        exact ⟨u, fun _ => ⟨hu, fun c hc => by rw [List.getElem?_eq_getElem (by omega : j < e.length)] at hc; simp at hc; subst hc; exact hr⟩⟩
      · exact ⟨undef, fun h => absurd h hj⟩
    let f : Nat → Value := fun j => (hcell j).choose
    have hf : ∀ j, j < sz → w.cell? (a0.add j) = some (f j) ∧ ∀ c, e[j]? = some c → RdC w p (f j) c := fun j hj => (hcell j).choose_spec hj
    have hrest : Lies w p (a0.add sz) sz es := by
      refine ⟨fun x hx => h.1 x (by simp [hx]), fun i e' j c hi hj => ?_⟩
      obtain ⟨u, hu, hr⟩ := h.2 (i + 1) e' j c (by simpa using hi) hj
      refine ⟨u, ?_, hr⟩
      rw [addr_add_add, show sz + (i * sz + j) = (i + 1) * sz + j by rw [Nat.add_mul]; omega]
      exact hu
    obtain ⟨xs, h1, h2⟩ := lies_flat hrest
    refine ⟨(List.range sz).map f ++ xs, ?_, ?_⟩
    · simp only [List.flatten_cons]
      refine RdL.append (RdL.of_get (by simp [he]) ?_) h1
      intro j v c hv hc
      simp only [List.getElem?_map, Option.map_eq_some_iff] at hv
      obtain ⟨j', hj', rfl⟩ := hv
      obtain ⟨hk1, hk2⟩ := List.getElem?_eq_some_iff.1 hj'
      simp at hk1 hk2; subst hk2
      exact (hf j hk1).2 c hc
    · intro j u hj
      by_cases hlt : j < sz
      · rw [List.getElem?_append_left (by simpa using hlt)] at hj
        simp [hlt] at hj
        subst hj
        exact (hf j hlt).1
      · rw [List.getElem?_append_right (by simp; omega)] at hj
        simp at hj
        have := h2 _ _ hj
        rw [addr_add_add] at this
        rw [show sz + (j - sz) = j by omega] at this
        exact this

theorem rdC_none {u : Value} {sz nn cap : Nat} {es : List (List AC)} (h : RdC w p u (.sl sz es)) (hu : u = .slice none nn cap) : es = [] := by
  cases h with
  | nilS => rfl
  | sl => simp at hu

/-- What an operand of append brings. -/
theorem srcK_sound (hR : Rel n p0 w0 S a w p) {v : AV} {sz : Nat} {u : Value} {K : List (List AC) → Prop} (hv : RdV w p w0.heap.size (slotOf a) u v) (h : srcK S v sz K) :
    ∃ ys, K ys ∧ (∀ e ∈ ys, e.length = sz) ∧ ((ys = [] ∧ ∃ c, u = .slice none 0 c) ∨ ∃ ad c news, u = .slice (some ad) ys.length c ∧ RdL w p news ys.flatten ∧ ∀ j x, news[j]? = some x → w.cell? (ad.add j) = some x) := by
  have own : ∀ (d : Nat) (b : Bool) (ty : Nat) (es : List (List AC)), S.get d = some (.row b ty sz es) → (∀ e ∈ es, e.length = sz) ∧ ((es = [] ∧ slotOf a d = .slice none 0 0) ∨ ∃ g cap, slotOf a d = .slice (some ⟨g, 0, none⟩) es.length cap ∧ es.length ≤ cap ∧ Lies w p ⟨g, 0, none⟩ sz es) := by
    intro d b ty es hd
    obtain ⟨_, ⟨xs, h2, h3⟩, _⟩ := hR.get hd
    refine ⟨h3.1, ?_⟩
    rcases ownsRow_slice h2 with ⟨hn, h0⟩ | ⟨g, cap, hv, hc, _⟩
    · exact .inl ⟨List.eq_nil_of_length_eq_zero h0, hn⟩
    · rw [hv] at h2
      exact .inr ⟨g, cap, hv, hc, lies_row h2 h3 rfl⟩
  unfold srcK at h
  split at h
  · exact ⟨[], h, by simp, .inl ⟨rfl, 0, RdV_nil hv⟩⟩
  · rename_i sz' es
    obtain ⟨rfl, hK⟩ := h
    have hr : RdC w p u (.sl sz' es) := hv
    refine ⟨es, hK, ?_, ?_⟩
    · cases hr with
      | nilS => simp
      | sl _ _ _ _ _ _ _ _ hsz => exact hsz
    · obtain ⟨x0, cap, hu, hcap⟩ := rdC_sl_len hr
      cases x0 with
      | none =>
        have h0 := rdC_none hr hu
        rw [h0] at hu
        exact .inl ⟨h0, _, hu⟩
      | some ad =>
        rw [hu] at hr
        obtain ⟨xs, h1, h2⟩ := lies_flat (lies_ro hr)
        exact .inr ⟨ad, cap, xs, hu, h1, h2⟩
  · rename_i d
    split at h
    · rename_i b ty sz' es hd
      obtain ⟨rfl, hK⟩ := h
      have hu : u = slotOf a d := hv
      obtain ⟨h1, h2⟩ := own d b ty es hd
      refine ⟨es, hK, h1, ?_⟩
      rcases h2 with ⟨h2, h3⟩ | ⟨g, cap, h2, _, h3⟩
      · exact .inl ⟨h2, 0, by rw [hu, h3]⟩
      · obtain ⟨xs, h4, h5⟩ := lies_flat h3
        exact .inr ⟨_, cap, xs, by rw [hu, h2], h4, h5⟩
    · exact h.elim
  · rename_i d sz' lo hi
    split at h
    · rename_i b ty sz'' es hd
      obtain ⟨rfl, rfl, hhi, hK⟩ := h
      obtain ⟨h1, h2⟩ := own d b ty es hd
      obtain ⟨hlh, hvv⟩ := hv
      have hex : ∀ e ∈ es.extract lo hi, e.length = sz'' := by
        intro e he
        rw [List.extract_eq_take_drop] at he
        exact h1 e (List.mem_of_mem_drop (List.mem_of_mem_take he))
      have hlen : (es.extract lo hi).length = hi - lo := by simp [List.extract_eq_take_drop]; omega
      refine ⟨_, hK, hex, ?_⟩
      rcases hvv with ⟨g', nn, cap, hsl, hhc, oo, hoo, hu⟩ | ⟨hsl, hh0, hu⟩
      · rcases h2 with ⟨_, h3⟩ | ⟨g, cap', h3, _, h4⟩
        · rw [hsl] at h3; simp at h3
        · rw [hsl] at h3
          simp only [Value.slice.injEq, Option.some.injEq, Addr.mk.injEq, and_true] at h3
          obtain ⟨rfl, rfl, rfl⟩ := h3
          have hsub : ∃ xs, RdL w p xs (es.extract lo hi).flatten ∧ ∀ j x, xs[j]? = some x → w.cell? ((⟨g', oo, none⟩ : Addr).add j) = some x := by
            by_cases hlt : lo < cap
            · rw [hoo.1 hlt]
              have : Lies w p ⟨g', lo * sz'', none⟩ sz'' (es.extract lo hi) := by
                refine ⟨hex, fun i e j c hi' hj => ?_⟩
                have hi2 : es[lo + i]? = some e := by
                  rw [List.extract_eq_take_drop, List.getElem?_take] at hi'
                  split at hi'
                  · rwa [List.getElem?_drop] at hi'
                  · cases hi'
                obtain ⟨x, hx, hr⟩ := h4.2 (lo + i) e j c hi2 hj
                refine ⟨x, ?_, hr⟩
                rw [← addr_add_zero g' (lo * sz''), addr_add_add, show lo * sz'' + (i * sz'' + j) = (lo + i) * sz'' + j by rw [Nat.add_mul]; omega]
                exact hx
              exact lies_flat this
            · have : es.extract lo hi = [] := by apply List.eq_nil_of_length_eq_zero; omega
              rw [this]
              exact ⟨[], .nil, by simp⟩
          obtain ⟨xs, h5, h6⟩ := hsub
          exact .inr ⟨_, _, xs, by rw [hlen]; exact hu, h5, h6⟩
      · have : es.extract lo hi = [] := by apply List.eq_nil_of_length_eq_zero; omega
        exact .inl ⟨this, 0, hu⟩
    · exact h.elim
  · exact h.elim

theorem below_grown {w' : World} {row : Option Nat} {B : Nat} (hg : w.grownBy w' row) (hB : B ≤ w.heap.size) (hr : ∀ k, row = some k → B ≤ k) : Below B w w' := (Below.refl B w).grown hg hB hr

/-- Behind an append: env S0 is what is left of the others, v was the row (or nil). -/
theorem rel_append (hR : Rel n p0 w0 S a w p) {S0 : Env} {d e sz nn m : Nat} {b : Bool} {v v' : Value} {w' : World} {es ys : List (List AC)} {xs news : List Value}
    (hsub : ∀ d' v', (d', v') ∈ S0 → (d', v') ∈ S ∧ d' ≠ d ∧ v'.refs ≠ some d) (hd : d < n)
    (hes : RdF w p sz es xs) (hys : RdL w p news ys.flatten) (hyl : ∀ y ∈ ys, y.length = sz) (hnn : es.length = nn) (hm : ys.length = m)
    (hno : ∀ g, v.ownBlock = some g → w0.heap.size ≤ g ∧ g < w.heap.size ∧ ¬ p g)
    (hoth : ∀ g d' v', v.ownBlock = some g → (d', v') ∈ S0 → v'.owns = true → blkOf (slotOf a d') ≠ some g)
    (ho : w'.ownsRow w0.heap.size e sz v' (nn + m) (xs ++ news)) (hg : w.grownBy w' v.ownBlock) (hnil : v' = .slice none 0 0 ↔ b = true ∧ m = 0) (hblk : ∀ g, v'.ownBlock = some g → v.ownBlock = some g ∨ w.heap.size ≤ g) :
    Rel n p0 w0 ((d, .row (b && ys.isEmpty) e sz (es ++ ys)) :: S0) (a.put (some d) v') w' p := by
  have hkp : KeepsOn p w w' := fun c hc => hg.block c (hR.plt c hc) (fun h => (hno c h.symm).2.2 hc)
  have hob : ∀ g, blkOf v' = some g → v'.ownBlock = some g := by
    intro g hgb
    rcases ownsRow_slice ho with ⟨h, _⟩ | ⟨g', cap, h, _⟩
    · rw [h] at hgb; simp [blkOf] at hgb
    · rw [h] at hgb ⊢; simpa [blkOf, Value.ownBlock] using hgb
  have hlen : (es ++ ys).length = nn + m := by rw [List.length_append, hnn, hm]
  refine rel_upd hR hsub hd (below_grown hg hR.below.size (fun k hk => (hno k hk).1)) (fun c hc => Nat.lt_of_lt_of_le (hR.plt c hc) hg.size) hR.pnew (fun _ h => h) hkp ?_ ?_ ?_
  · intro d' v1 g hm' ho' hb' hp
    refine ⟨hg.block g (blk_lt (hR.vals _ _ (hsub _ _ hm').1) ho' hb').2.1 ?_, hp⟩
    intro h
    exact hoth g d' v1 h.symm hm' ho' hb'
  · refine ⟨?_, ⟨xs ++ news, by rw [hlen]; exact ho, ?_, ?_⟩, ?_⟩
    · rw [Bool.and_eq_true, hnil, ← hm]
      simp [List.isEmpty_iff]
    · intro x hx
      rcases List.mem_append.1 hx with h | h
      · exact hes.1 x h
      · exact hyl x h
    · rw [List.flatten_append]
      exact (hes.2.append hys).mono (fun _ h => h) hkp
    · intro g hgb hp
      rcases hblk g (hob g hgb) with h | h
      · exact (hno g h).2.2 hp
      · have := hR.plt g hp; omega
  · intro _ g hgb d' v1 hm' ho'
    rcases hblk g (hob g hgb) with h | h
    · exact hoth g d' v1 h hm' ho'
    · intro h2
      have := (blk_lt (hR.vals _ _ (hsub _ _ hm').1) ho' h2).2.1
      omega

theorem exec_append {o : Oper} {c : Call} {x y : Operand} {t1 t2 : TypeId} (ho : o.op = .call c) (hc : c.callee = .builtin .append) (ha : c.args.toList = [x, y]) (ht : c.argTypes.toList = [t1, t2]) (ρ : Operand → Value) {v : Value} {w' : World} (h : (Builtin.append_ #[t1, t2] o.type #[ρ x, ρ y]).run P w = .ok v w') :
    (execOp ρ o).run P w = .ok (.value v) w' := by
  simp [execOp, ho, resolve, invoke, builtin, hc, toList_two ha, toList_two ht, h]

theorem append_sound (hR : Rel n p0 w0 S a w p) {o : Oper} {c : Call} {T d : Nat} {s x : Operand} (ho : o.op = .call c) (hc : c.callee = .builtin .append) (ha : c.args.toList = [s, x]) (ht : c.argTypes.toList = [T, T]) (hd : o.dst = some d) {K : Env → Prop} (h : appendK P n S T s x d K) {next : Act → World → Prop} (hn : Goes n p0 w0 K next) : o.wp P a w next Q := by
  unfold appendK at h
  split at h
  · rename_i e hu
    split at h
    · rename_i sz by' zs hi
      obtain ⟨i, z, g1, g2, g3, g4, g5, g6⟩ := eInfo_ok hi
      obtain ⟨hsz, hdn, h⟩ := h
      obtain ⟨vx, h1, hvx⟩ := evK_sound hR h
      clear h
      obtain ⟨ys, h2, hyl, hsrc⟩ := srcK_sound hR (hvx rfl) h1
      clear h1
      obtain ⟨vs, h3, hvs⟩ := evK_sound hR h2
      clear h2
      replace hvs := hvs rfl
      have drops : ∀ d', (∀ d1 v1, (d1, v1) ∈ (S.drop d').drop d → (d1, v1) ∈ S ∧ d1 ≠ d ∧ v1.refs ≠ some d) := by
        intro d' d1 v1 hm
        obtain ⟨q1, q2, q3⟩ := Env.mem_drop hm
        exact ⟨(Env.mem_drop q1).1, q2, q3⟩
      split at h3
      · obtain ⟨hlim, hby, hK⟩ := h3
        have es0 : a.eval s = .slice none 0 0 := RdV_nil hvs
        have hown := World.ownsRow_nil w w0.heap.size e sz
        have hrf : RdF w p sz [] [] := ⟨by simp, .nil⟩
        rcases hsrc with ⟨hy0, c', hux⟩ | ⟨ad, c', news, hux, hrl, hcl⟩
        · subst hy0
          have hr := run_append_none (P := P) T o.type e i hu g1 (c := c') hown
          refine wp_value (exec_append ho hc ha ht a.eval (by rw [es0, hux]; exact hr)) ?_
          rw [hd]
          refine hn _ _ _ p hK ?_
          have := rel_append (v := .slice none 0 0) (v' := .slice none 0 0) (w' := w) (b := true) (nn := 0) (m := 0) hR (fun d' v' h => Env.mem_drop h) hdn hrf .nil hyl rfl rfl (by simp [Value.ownBlock]) (by simp [Value.ownBlock]) (by simpa using hown) ⟨rfl, rfl, rfl, Nat.le_refl _, fun _ _ _ => rfl⟩ (by simp) (by simp [Value.ownBlock])
          simpa [Env.set] using this
        · have hnl : news.length = ys.length * sz := by rw [hrl.length, flatten_length hyl]
          obtain ⟨v', w', hr, ho', hg, hnil, hblk⟩ := run_append_mine (P := P) T o.type e i z hu g1 g2 g3 g4 g5 hsz hown ad ys.length c' news hnl hcl hrl.oneCell (by omega) (by simpa using hby) hR.below.size
          refine wp_value (exec_append ho hc ha ht a.eval (by rw [es0, hux]; exact hr)) ?_
          rw [hd]
          refine hn _ _ _ p hK ?_
          have := rel_append (v := .slice none 0 0) (v' := v') (w' := w') (b := true) (nn := 0) (m := ys.length) hR (fun d' v' h => Env.mem_drop h) hdn hrf hrl hyl rfl rfl (by simp [Value.ownBlock]) (by simp [Value.ownBlock]) ho' hg (by simpa using hnil) hblk
          simpa [Env.set] using this
      · rename_i d'
        split at h3
        · rename_i b ty sz' es hdd
          obtain ⟨rfl, rfl, hlim, hby, hK⟩ := h3
          have hval : a.eval s = slotOf a d' := hvs
          have hrv := hR.get hdd
          obtain ⟨hr1, ⟨xs, hr2, hr3⟩, hr4⟩ := hrv
          have hbo : ∀ g, (slotOf a d').ownBlock = some g → blkOf (slotOf a d') = some g := by
            intro g hg
            rcases ownsRow_slice hr2 with ⟨h, _⟩ | ⟨g', cap, h, _⟩
            · rw [h] at hg; simp [Value.ownBlock] at hg
            · rw [h] at hg ⊢; simpa [blkOf, Value.ownBlock] using hg
          have hno : ∀ g, (slotOf a d').ownBlock = some g → w0.heap.size ≤ g ∧ g < w.heap.size ∧ ¬ p g := fun g hg => blk_lt (hR.get hdd) rfl (hbo g hg)
          have hoth : ∀ g d1 v1, (slotOf a d').ownBlock = some g → (d1, v1) ∈ (S.drop d').drop d → v1.owns = true → blkOf (slotOf a d1) ≠ some g := by
            intro g d1 v1 hg hm ho1
            obtain ⟨q1, q2, q3⟩ := Env.mem_drop hm
            obtain ⟨q4, q5, _⟩ := Env.mem_drop q1
            exact hR.sep d' d1 _ _ g (Env.mem_of_get hdd) q4 (Ne.symm q5) rfl ho1 (hbo g hg)
          rcases hsrc with ⟨hy0, c', hux⟩ | ⟨ad, c', news, hux, hrl, hcl⟩
          · subst hy0
            have hr := run_append_none (P := P) T o.type ty i hu g1 (c := c') hr2
            refine wp_value (exec_append ho hc ha ht a.eval (by rw [hval, hux]; exact hr)) ?_
            rw [hd]
            refine hn _ _ _ p hK ?_
            have := rel_append (v := slotOf a d') (v' := slotOf a d') (w' := w) (b := b) (nn := es.length) (m := 0) (ys := []) (news := []) hR (drops d') hdn hr3 .nil hyl rfl rfl hno hoth (by simpa using hr2) ⟨rfl, rfl, rfl, Nat.le_refl _, fun _ _ _ => rfl⟩ (by rw [← hr1]; simp) (fun g hg => .inl hg)
            simpa [Env.set] using this
          · have hnl : news.length = ys.length * sz' := by rw [hrl.length, flatten_length hyl]
            obtain ⟨v', w', hr, ho', hg, hnil, hblk⟩ := run_append_mine (P := P) T o.type ty i z hu g1 g2 g3 g4 g5 hsz hr2 ad ys.length c' news hnl hcl hrl.oneCell hlim hby hR.below.size
            refine wp_value (exec_append ho hc ha ht a.eval (by rw [hval, hux]; exact hr)) ?_
            rw [hd]
            refine hn _ _ _ p hK ?_
            exact rel_append (v := slotOf a d') (v' := v') (w' := w') (b := b) (nn := es.length) (m := ys.length) hR (drops d') hdn hr3 hrl hyl rfl rfl hno hoth ho' hg (by rw [hnil, ← hr1]) hblk
        · exact h3.elim
      · exact h3.elim
    · exact h.elim
  · exact h.elim

end
end Go.Vs
