/-
  THE VALUE SEMANTICS, part 4: the value operations do on the machine what part 3 says.
-/
import Derived.Test.YtgiihapbgpnkkaaVs3
namespace Go.Vs
open Go Go.RowKit

section
variable {P : Program} {n : Nat} {p0 : Nat → Prop} {w0 : World} {S : Env} {a : Act} {w : World} {p : Nat → Prop}

theorem RdV_im {B : Nat} {sl : Nat → Value} {u v : Value} (h : RdV w p B sl u (.c (.im v))) : u = v := by
  have h' : RdC w p u (.im v) := h
  cases h'; rfl

theorem RdV_nil {B : Nat} {sl : Nat → Value} {u : Value} (h : RdV w p B sl u (.c .nil)) : u = .slice none 0 0 := by
  have h' : RdC w p u .nil := h
  cases h'; rfl

theorem equalIn_bool (d : Nat) (xt : TypeId) (ht : P.underlying xt = some .bool) (x y : Bool) (w' : World) : (Op.equalIn (d + 1) xt (.bool x) (.bool y)).run P w' = .ok (x == y) w' := by
  simp [Op.equalIn, run_underlying ht]
theorem equal_bool (xt : TypeId) (ht : P.underlying xt = some .bool) (x y : Bool) (w' : World) : (Op.equal xt (.bool x) (.bool y)).run P w' = .ok (x == y) w' := equalIn_bool 9999 xt ht x y w'
theorem equalIn_nil (d : Nat) (xt e : TypeId) (ht : P.underlying xt = some (.slice e)) (x : Option Addr) (l c : Nat) (w' : World) : (Op.equalIn (d + 1) xt (.slice x l c) (.slice none 0 0)).run P w' = .ok x.isNone w' := by
  cases x <;> simp [Op.equalIn, run_underlying ht]
theorem equal_nil (xt e : TypeId) (ht : P.underlying xt = some (.slice e)) (x : Option Addr) (l c : Nat) (w' : World) : (Op.equal xt (.slice x l c) (.slice none 0 0)).run P w' = .ok x.isNone w' := equalIn_nil 9999 xt e ht x l c w'

theorem binK_sound (hR : Rel n p0 w0 S a w p) {g : Bool} {op : BinOp} {xt : TypeId} {xo yo : Operand} {vx vy : AV} {u1 u2 : Value} {K : AV → Prop}
    (hx : g = true → RdV w p w0.heap.size (slotOf a) u1 vx) (hy : g = true → RdV w p w0.heap.size (slotOf a) u2 vy) (h : binK P S g op xt xo yo vx vy K) :
    ∃ v, K v ∧ (g = true → ∃ u, RdV w p w0.heap.size (slotOf a) u v ∧ ∀ w', Later w w' → (do eqGuard op xt xo yo u1 u2; binOp op xt u1 u2 : Sem Value).run P w' = .ok u w') := by
  unfold binK at h
  split at h
  · rename_i k x k' y
    have e1 : g = true → u1 = .int k x := fun hg => RdV_im (hx hg)
    have e2 : g = true → u2 = .int k' y := fun hg => RdV_im (hy hg)
    split at h
    all_goals
      first
      | (obtain ⟨rfl, h0, hK⟩ := h
         refine ⟨_, hK, fun hg => ⟨_, .im _ rfl, fun w' _ => ?_⟩⟩
         have h0' := h0 hg
         rw [e1 hg, e2 hg]
         simp [eqGuard, binOp, Op.intDiv, h0'])
      | (obtain ⟨rfl, hK⟩ := h
         refine ⟨_, hK, fun hg => ⟨_, .im _ rfl, fun w' _ => ?_⟩⟩
         rw [e1 hg, e2 hg]
         simp [eqGuard, binOp, Op.intArith, Op.intBits, Op.intCmp])
      | (obtain ⟨h0, hK⟩ := h
         refine ⟨_, hK, fun hg => ⟨_, .im _ rfl, fun w' _ => ?_⟩⟩
         have h0' := h0 hg
         rw [e1 hg, e2 hg]
         simp [eqGuard, binOp, Op.shift, Int.not_lt.2 h0'])
  · rename_i x y
    have e1 : g = true → u1 = .bool x := fun hg => RdV_im (hx hg)
    have e2 : g = true → u2 = .bool y := fun hg => RdV_im (hy hg)
    split at h
    · obtain ⟨ht, hK⟩ := h
      refine ⟨_, hK, fun hg => ⟨_, .im _ rfl, fun w' _ => ?_⟩⟩
      rw [e1 hg, e2 hg]
      simp [eqGuard, binOp, equal_bool xt ht]
    · obtain ⟨ht, hK⟩ := h
      refine ⟨_, hK, fun hg => ⟨_, .im _ rfl, fun w' _ => ?_⟩⟩
      rw [e1 hg, e2 hg]
      simp [eqGuard, binOp, equal_bool xt ht]
      cases x <;> cases y <;> rfl
    · exact h.elim
  · rename_i x y
    have e1 : g = true → u1 = .string x := fun hg => RdV_im (hx hg)
    have e2 : g = true → u2 = .string y := fun hg => RdV_im (hy hg)
    split at h
    · obtain ⟨h0, hK⟩ := h
      refine ⟨_, hK, fun hg => ⟨_, .im _ rfl, fun w' _ => ?_⟩⟩
      have h0' := h0 hg
      rw [e1 hg, e2 hg]
      have : ¬ (((x.size + y.size : Nat) : Int) > IntKind.i64.max) := by
        have : IntKind.i64.max = 9223372036854775807 := by decide
        omega
      simp only [eqGuard, binOp, Op.stringOp, this, if_false]
      rfl
    all_goals
      first
      | (refine ⟨_, h, fun hg => ⟨_, .im _ rfl, fun w' _ => ?_⟩⟩
         rw [e1 hg, e2 hg]
         simp [eqGuard, binOp, Op.stringOp]
         done)
      | exact h.elim
  · rename_i xs ys
    split at h
    · rename_i vx vy h1 h2
      obtain ⟨b, hb, hK⟩ := h
      refine ⟨_, hK, fun hg => ⟨_, .im _ rfl, fun w' _ => ?_⟩⟩
      obtain ⟨ws, hw1, hw2⟩ := hx hg
      obtain ⟨zs, hz1, hz2⟩ := hy hg
      have e1 := imVals_ok hw2 h1
      have e2 := imVals_ok hz2 h2
      subst hw1 hz1
      rw [← e1, ← e2] at hb
      simpa using hb w'
    · exact h.elim
  · rename_i d
    split at h
    · rename_i isnil ty sz es e hd ht
      have hr := hR.get hd
      obtain ⟨h1, ⟨xs, h2, h3⟩, h4⟩ := hr
      have key : g = true → u1 = slotOf a d ∧ u2 = .slice none 0 0 := fun hg => ⟨hx hg, RdV_nil (hy hg)⟩
      have hval : ∀ w' : World, (Op.equal xt (slotOf a d) (.slice none 0 0)).run P w' = .ok isnil w' := by
        intro w'
        rcases h2.2 with ⟨hv, hn⟩ | ⟨gg, cap, cur, hv, _⟩
        · have := h1.2 hv
          rw [hv, this]
          simp [equal_nil xt e ht]
        · have : isnil = false := by
            cases isnil with
            | false => rfl
            | true => have := h1.1 rfl; rw [hv] at this; simp at this
          rw [hv, this]
          simp [equal_nil xt e ht]
      have hsl : ∃ x y z, slotOf a d = .slice x y z := by
        rcases h2.2 with ⟨hv, hn⟩ | ⟨gg, cap, cur, hv, _⟩
        · exact ⟨_, _, _, hv⟩
        · exact ⟨_, _, _, hv⟩
      obtain ⟨x, y, z, hxyz⟩ := hsl
      split at h
      · refine ⟨_, h, fun hg => ⟨_, .im _ rfl, fun w' _ => ?_⟩⟩
        obtain ⟨k1, k2⟩ := key hg
        have := hval w'
        rw [k1, k2, hxyz] at *
        simp [eqGuard, binOp, this]
      · refine ⟨_, h, fun hg => ⟨_, .im _ rfl, fun w' _ => ?_⟩⟩
        obtain ⟨k1, k2⟩ := key hg
        have := hval w'
        rw [k1, k2, hxyz] at *
        simp [eqGuard, binOp, this]
      · exact h.elim
    · exact h.elim
  · split at h
    · rename_i e ht
      split at h
      · refine ⟨_, h, fun hg => ⟨_, .im _ rfl, fun w' _ => ?_⟩⟩
        rw [RdV_nil (hx hg), RdV_nil (hy hg)]
        simp [eqGuard, binOp, equal_nil xt e ht]
      · refine ⟨_, h, fun hg => ⟨_, .im _ rfl, fun w' _ => ?_⟩⟩
        rw [RdV_nil (hx hg), RdV_nil (hy hg)]
        simp [eqGuard, binOp, equal_nil xt e ht]
      · exact h.elim
    · exact h.elim
  · rename_i sz es
    split at h
    · rename_i e ht
      have key : g = true → u2 = .slice none 0 0 ∧ ∃ x y z, u1 = .slice x y z ∧ (x.isNone = true → es = []) := by
        intro hg
        refine ⟨RdV_nil (hy hg), ?_⟩
        have h1 : RdC w p u1 (.sl sz es) := hx hg
        cases h1 with
        | nilS _ cap => exact ⟨_, _, _, rfl, fun _ => rfl⟩
        | sl a0 nn cap _ _ us hn hcap hsz hp hc hr => exact ⟨_, _, _, rfl, fun h => by cases h⟩
      by_cases hg : g = true
      · obtain ⟨k2, x, y, z, k1, k3⟩ := key hg
        split at h
        · refine ⟨_, h x.isNone k3, fun hg => ⟨_, .im _ rfl, fun w' _ => ?_⟩⟩
          rw [k1, k2]
          simp [eqGuard, binOp, equal_nil xt e ht]
        · refine ⟨_, h x.isNone k3, fun hg => ⟨_, .im _ rfl, fun w' _ => ?_⟩⟩
          rw [k1, k2]
          simp [eqGuard, binOp, equal_nil xt e ht]
        · exact h.elim
      · split at h
        · exact ⟨_, h false (by intro h; cases h), fun hg' => absurd hg' hg⟩
        · exact ⟨_, h false (by intro h; cases h), fun hg' => absurd hg' hg⟩
        · exact h.elim
    · exact h.elim
  · exact h.elim

theorem unK_sound {B : Nat} {sl : Nat → Value} {g : Bool} {op : UnOp} {vx : AV} {u1 : Value} {K : AV → Prop} (hx : g = true → RdV w p B sl u1 vx) (h : unK op vx K) :
    ∃ v, K v ∧ (g = true → ∃ u, RdV w p B sl u v ∧ ∀ w', Later w w' → (Op.unary op u1).run P w' = .ok u w') := by
  unfold unK at h
  split at h
  · refine ⟨_, h, fun hg => ⟨_, .im _ rfl, fun w' _ => ?_⟩⟩
    rw [RdV_im (hx hg)]; simp [Op.unary, Op.intArith]
  · refine ⟨_, h, fun hg => ⟨_, .im _ rfl, fun w' _ => ?_⟩⟩
    rw [RdV_im (hx hg)]; simp [Op.unary, Op.intBits]
  · refine ⟨_, h, fun hg => ⟨_, .im _ rfl, fun w' _ => ?_⟩⟩
    rw [RdV_im (hx hg)]; simp [Op.unary]
  · exact h.elim

/-- Where the cells of rows lie. -/
def Lies (w : World) (p : Nat → Prop) (a0 : Addr) (sz : Nat) (es : List (List AC)) : Prop :=
  (∀ e, e ∈ es → e.length = sz) ∧ ∀ i e j c, es[i]? = some e → e[j]? = some c → ∃ u, w.cell? (a0.add (i * sz + j)) = some u ∧ RdC w p u c

theorem addr_add_add (a0 : Addr) (x y : Nat) : (a0.add x).add y = a0.add (x + y) := by
  unfold Addr.add
  by_cases hx : x = 0
  · simp [hx]
  · by_cases hy : y = 0
    · simp [hy]
    · have : x + y ≠ 0 := by omega
      simp only [hx, hy, this, if_false]
      congr 1
      exact Nat.add_assoc _ _ _

theorem loadK_sound {B : Nat} {sl : Nat → Value} {g : Bool} {t : TypeId} {sz i j : Nat} {es : List (List AC)} {K : AV → Prop} {a0 : Addr} {u1 : Value}
    (hl : g = true → Lies w p a0 sz es ∧ u1 = .pointer (some (a0.add (i * sz + j)))) (h : loadK P g t sz es i j K) :
    ∃ v, K v ∧ (g = true → ∃ u, RdV w p B sl u v ∧ ∀ w', Later w w' → (Instr.loadAt t u1).run P w' = .ok u w') := by
  have agg : ∀ (s : Nat), szOf P t = some s → (∀ w' : World, (isAgg t).run P w' = .ok true w') → (g = true → i < es.length ∧ j + s ≤ sz) →
      ∀ zs, (g = true → ∃ u, RdV w p B sl u (.agg (getR zs es i j s)) ∧ ∀ w', Later w w' → (Instr.loadAt t u1).run P w' = .ok u w') := by
    intro s hs hagg hb zs hg
    obtain ⟨h1, h2⟩ := hb hg
    have hgr : getR zs es i j s = ((es.getD i []).drop j).take s := by
      unfold getR
      rw [List.getElem?_eq_getElem h1, List.getD_eq_getElem?_getD, List.getElem?_eq_getElem h1]; rfl
    rw [hgr]
    obtain ⟨⟨hlen, hl2⟩, hu1⟩ := hl hg
    subst hu1
    have he : es[i]? = some (es.getD i []) := by rw [List.getD_eq_getElem?_getD, List.getElem?_eq_getElem h1]; rfl
    have hsz : (es.getD i []).length = sz := hlen _ (List.mem_of_getElem? he)
    have hf : ∀ k, ∃ u, k < s → w.cell? ((a0.add (i * sz + j)).add k) = some u ∧ ∀ c, (((es.getD i []).drop j).take s)[k]? = some c → RdC w p u c := by
      intro k
      by_cases hk : k < s
      · have hlt : j + k < (es.getD i []).length := by omega
        obtain ⟨u, hu, hr⟩   := hl2 i _ (j + k) _ he (List.getElem?_eq_getElem hlt)
        refine ⟨u, fun _ => ⟨by rw [addr_add_add, Nat.add_assoc]; exact hu, fun c hc => ?_⟩⟩
        rw [List.getElem?_take, if_pos hk, List.getElem?_drop, List.getElem?_eq_getElem hlt] at hc
        simp at hc; subst hc; exact hr
      · exact ⟨undef, fun h => absurd h hk⟩
    let f : Nat → Value := fun k => (hf k).choose
    have hfs : ∀ k, k < s → w.cell? ((a0.add (i * sz + j)).add k) = some (f k) ∧ ∀ c, (((es.getD i []).drop j).take s)[k]? = some c → RdC w p (f k) c := fun k hk => (hf k).choose_spec hk
    refine ⟨.agg ((List.range s).map f).toArray, ⟨_, rfl, ?_⟩, ?_⟩
    · apply RdL.of_get
      · rw [List.length_take, List.length_drop, hsz]; simp; omega
      · intro k v c hv hc
        simp only [List.getElem?_map, Option.map_eq_some_iff] at hv
        obtain ⟨k', hk', rfl⟩ := hv
        obtain ⟨hk1, hk2⟩ := List.getElem?_eq_some_iff.1 hk'
        simp at hk1 hk2; subst hk2
        exact (hfs k hk1).2 c hc
    · intro w' hw'
      have hrun := run_loadCells (P := P) (w := w') (a0.add (i * sz + j)) s f (fun k hk => hw'.cell (hfs k hk).1)
      simp only [Instr.loadAt, Instr.sureAddr, loadVar, Sem.run_bind, Sem.run_pure, Result.andThen_ok, hagg w', if_true, run_szOf hs]
      rw [hrun]
      simp
  have one : ∀ (dd : AC) (_ : ∀ w' : World, (isAgg t).run P w' = .ok false w') (_ : g = true → i < es.length ∧ j < sz),
      (g = true → ∃ u, RdV w p B sl u (.c (getC dd es i j)) ∧ ∀ w', Later w w' → (Instr.loadAt t u1).run P w' = .ok u w') := by
    intro dd hagg hb hg
    obtain ⟨h1, h2⟩ := hb hg
    obtain ⟨⟨hlen, hl2⟩, hu1⟩ := hl hg
    subst hu1
    have he : es[i]? = some (es.getD i []) := by rw [List.getD_eq_getElem?_getD, List.getElem?_eq_getElem h1]; rfl
    have hsz : (es.getD i []).length = sz := hlen _ (List.mem_of_getElem? he)
    have hlt : j < (es.getD i []).length := by omega
    obtain ⟨u, hu, hr⟩   := hl2 i _ j _ he (List.getElem?_eq_getElem hlt)
    refine ⟨u, ?_, fun w' hw' => ?_⟩
    · have : getC dd es i j = (es.getD i [])[j] := by
        unfold getC
        rw [he]
        simp only [Option.bind_some]
        rw [List.getElem?_eq_getElem hlt]; rfl
      show RdC w p u (getC dd es i j)
      rw [this]; exact hr
    · simp [Instr.loadAt, Instr.sureAddr, loadVar, hagg w', hw'.cell hu]
  unfold loadK at h
  split at h
  · rename_i fs ht
    split at h
    · rename_i s b' zs hi
      obtain ⟨i', z, g1, g2, g3, _⟩ := eInfo_ok hi
      exact ⟨_, h.2, agg s (by simp [szOf, g1, g3]) (fun w' => by simp [isAgg, run_underlying ht]) h.1 zs⟩
    · exact h.elim
  · rename_i len e ht
    split at h
    · rename_i s b' zs hi
      obtain ⟨i', z, g1, g2, g3, _⟩ := eInfo_ok hi
      exact ⟨_, h.2, agg s (by simp [szOf, g1, g3]) (fun w' => by simp [isAgg, run_underlying ht]) h.1 zs⟩
    · exact h.elim
  · rename_i d ht1 ht2 ht
    refine ⟨_, h.2, one _ (fun w' => ?_) h.1⟩
    cases d <;> simp_all [isAgg, run_underlying ht]
  · exact h.elim

end
end Go.Vs
