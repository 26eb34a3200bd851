/-
  THE HEAP SEMANTICS, part 4: the value operations do on the machine what part 3 says.
-/
import Derived.Test.YtglgmmoomlnghaaHs3
namespace Go.Hs
open Go Go.RowKit

section
variable {P : Program} {w : World} {p : Nat → Prop}

theorem RdS_im {u v : Value} (h : RdS w p u (.c (.im v))) : u = v := by
  have h' : RdC w p u (.im v) := h
  cases h';rfl

theorem RdS_nil {u : Value} (h : RdS w p u (.c .nil)) : u = .slice none 0 0 := by
  have h' : RdC w p u .nil := h
  cases h';rfl

theorem RdS_ptr {u : Value} {g : Nat} {q : List (Nat × Nat)} {k sz i j : Nat} (h : RdS w p u (.c (.ptr g q k sz i j))) : u = .pointer (some ⟨k,i * sz + j,none⟩) := by
  have h' : RdC w p u (.ptr g q k sz i j) := h
  cases h';rfl

theorem RdS_ref {u : Value} {g : Nat} {q : List (Nat × Nat)} {b : Blk} {sz lo n : Nat} (h : RdS w p u (.c (.ref g q b sz lo n))) : ∃ x cap,u = .slice x n cap ∧ n ≤ cap ∧ (x.isNone = b.isNone) := by
  have h' : RdC w p u (.ref g q b sz lo n) := h
  cases h' with
  | refN => exact ⟨_,_,rfl,Nat.le_refl _,rfl⟩
  | ref _ _ k cap _ _ _ o ho hc => exact ⟨_,_,rfl,by omega,rfl⟩

theorem rdC_sl_form {u : Value} {sz : Nat} {es : List (List AC)} (h : RdC w p u (.sl sz es)) (hne : es ≠ []) : ∃ a0 cap,u = .slice (some a0) es.length cap := by
  cases h with
  | nilS => exact absurd rfl hne
  | sl a0 nn cap _ _ us hn => subst hn;exact ⟨_,_,rfl⟩

theorem rdC_sl_len {u : Value} {sz : Nat} {es : List (List AC)} (h : RdC w p u (.sl sz es)) : ∃ a0 cap,u = .slice a0 es.length cap ∧ es.length ≤ cap := by
  cases h with
  | nilS => exact ⟨none,_,rfl,Nat.zero_le _⟩
  | sl a0 nn cap _ _ us hn hcap => subst hn;exact ⟨_,_,rfl,hcap⟩

theorem rdC_none {u : Value} {sz nn cap : Nat} {es : List (List AC)} (h : RdC w p u (.sl sz es)) (hu : u = .slice none nn cap) : es = [] := by
  cases h with
  | nilS => rfl
  | sl => simp at hu

theorem equalIn_bool (d : Nat) (xt : TypeId) (ht : P.underlying xt = some .bool) (x y : Bool) (w' : World) : (Op.equalIn (d + 1) xt (.bool x) (.bool y)).run P w' = .ok (x == y) w' := by
  simp [Op.equalIn,run_underlying ht]
theorem equal_bool (xt : TypeId) (ht : P.underlying xt = some .bool) (x y : Bool) (w' : World) : (Op.equal xt (.bool x) (.bool y)).run P w' = .ok (x == y) w' := equalIn_bool 9999 xt ht x y w'
theorem equalIn_nil (d : Nat) (xt e : TypeId) (ht : P.underlying xt = some (.slice e)) (x : Option Addr) (l c : Nat) (w' : World) : (Op.equalIn (d + 1) xt (.slice x l c) (.slice none 0 0)).run P w' = .ok x.isNone w' := by
  cases x <;> simp [Op.equalIn,run_underlying ht]
theorem equal_nil (xt e : TypeId) (ht : P.underlying xt = some (.slice e)) (x : Option Addr) (l c : Nat) (w' : World) : (Op.equal xt (.slice x l c) (.slice none 0 0)).run P w' = .ok x.isNone w' := equalIn_nil 9999 xt e ht x l c w'
theorem equalIn_ptr (d : Nat) (xt e s : TypeId) (ht : P.underlying xt = some (.pointer e)) (hs : szOf P e = some s) (_h0 : s ≠ 0) (x : Addr) (_hx : x.spot = none) (w' : World) : (Op.equalIn (d + 1) xt (.pointer (some x)) (.pointer (some x))).run P w' = .ok true w' := by
  simp [Op.equalIn,run_underlying ht,run_szOf hs,sameAddr]
theorem equal_ptr (xt e s : TypeId) (ht : P.underlying xt = some (.pointer e)) (hs : szOf P e = some s) (h0 : s ≠ 0) (x : Addr) (hx : x.spot = none) (w' : World) : (Op.equal xt (.pointer (some x)) (.pointer (some x))).run P w' = .ok true w' := equalIn_ptr 9999 xt e s ht hs h0 x hx w'
theorem equalIn_ptrN (d : Nat) (xt e : TypeId) (ht : P.underlying xt = some (.pointer e)) (x : Option Addr) (w' : World) : (Op.equalIn (d + 1) xt (.pointer x) (.pointer none)).run P w' = .ok x.isNone w' := by
  cases x <;> simp [Op.equalIn,run_underlying ht]
theorem equal_ptrN (xt e : TypeId) (ht : P.underlying xt = some (.pointer e)) (x : Option Addr) (w' : World) : (Op.equal xt (.pointer x) (.pointer none)).run P w' = .ok x.isNone w' := equalIn_ptrN 9999 xt e ht x w'
theorem equalIn_if (d : Nat) (xt : TypeId) (ms : Array (String × TypeId)) (ht : P.underlying xt = some (.interface ms)) (t : TypeId) (v : Value) (w' : World) : (Op.equalIn (d + 1) xt (.iface t v) .nilIface).run P w' = .ok false w' := by
  simp [Op.equalIn,run_underlying ht]
theorem equal_if (xt : TypeId) (ms : Array (String × TypeId)) (ht : P.underlying xt = some (.interface ms)) (t : TypeId) (v : Value) (w' : World) : (Op.equal xt (.iface t v) .nilIface).run P w' = .ok false w' := equalIn_if 9999 xt ms ht t v w'
theorem equalIn_ifN (d : Nat) (xt : TypeId) (ms : Array (String × TypeId)) (ht : P.underlying xt = some (.interface ms)) (w' : World) : (Op.equalIn (d + 1) xt .nilIface .nilIface).run P w' = .ok true w' := by
  simp [Op.equalIn,run_underlying ht]
theorem equal_ifN (xt : TypeId) (ms : Array (String × TypeId)) (ht : P.underlying xt = some (.interface ms)) (w' : World) : (Op.equal xt .nilIface .nilIface).run P w' = .ok true w' := equalIn_ifN 9999 xt ms ht w'

/-- What an operation on values that read as such does. -/
abbrev ROKW (P : Program) (w : World) (p : Nat → Prop) (s : Sem Value) (v : AV) : Prop := ∃ u,RdS w p u v ∧ ∀ w',s.run P w' = .ok u w'
abbrev ROK (P : Program) (w : World) (p : Nat → Prop) (s : Sem Value) (v : AV) : Prop := ∃ u,RdS w p u v ∧ ∀ w',Later w w' → s.run P w' = .ok u w'

theorem nilEq_sound {g : Bool} {op : BinOp} {xt : TypeId} {xo yo : Operand} {b : Bool} {u1 u2 : Value} {K : AV → Prop} (hx : g = true → ∃ x l c,u1 = .slice x l c ∧ x.isNone = b) (hy : g = true → u2 = .slice none 0 0) (h : nilEqK P op xt b K) :
    ∃ v,K v ∧ (g = true → ROKW P w p (do eqGuard op xt xo yo u1 u2;binOp op xt u1 u2) v) := by
  unfold nilEqK at h
  split at h
  · rename_i e ht
    split at h
    · refine ⟨_,h,fun hg => ⟨_,.im _ rfl,fun w' => ?_⟩⟩
      obtain ⟨x,l,c,h1,h2⟩ := hx hg
      rw [h1,hy hg]
      simp [eqGuard,binOp,equal_nil xt e ht,h2]
    · refine ⟨_,h,fun hg => ⟨_,.im _ rfl,fun w' => ?_⟩⟩
      obtain ⟨x,l,c,h1,h2⟩ := hx hg
      rw [h1,hy hg]
      simp [eqGuard,binOp,equal_nil xt e ht,h2]
    · exact h.elim
  · exact h.elim

theorem binK_sound {g : Bool} {op : BinOp} {xt : TypeId} {xo yo : Operand} {vx vy : AV} {u1 u2 : Value} {K : AV → Prop}
    (hx : g = true → RdS w p u1 vx) (hy : g = true → RdS w p u2 vy) (h : binK P g op xt xo yo vx vy K) :
    ∃ v,K v ∧ (g = true → ROKW P w p (do eqGuard op xt xo yo u1 u2;binOp op xt u1 u2) v) := by
  unfold binK at h
  split at h
  · rename_i k x k' y
    have e1 : g = true → u1 = .int k x := fun hg => RdS_im (hx hg)
    have e2 : g = true → u2 = .int k' y := fun hg => RdS_im (hy hg)
    split at h
    all_goals
      first
      | (obtain ⟨rfl,h0,hK⟩ := h
         refine ⟨_,hK,fun hg => ⟨_,.im _ rfl,fun w' => ?_⟩⟩
         have h0' := h0 hg
         rw [e1 hg,e2 hg]
         simp [eqGuard,binOp,Op.intDiv,h0'])
      | (obtain ⟨rfl,hK⟩ := h
         refine ⟨_,hK,fun hg => ⟨_,.im _ rfl,fun w' => ?_⟩⟩
         rw [e1 hg,e2 hg]
         simp [eqGuard,binOp,Op.intArith,Op.intBits,Op.intCmp])
      | (obtain ⟨h0,hK⟩ := h
         refine ⟨_,hK,fun hg => ⟨_,.im _ rfl,fun w' => ?_⟩⟩
         have h0' := h0 hg
         rw [e1 hg,e2 hg]
         simp [eqGuard,binOp,Op.shift,Int.not_lt.2 h0'])
  · rename_i x y
    have e1 : g = true → u1 = .bool x := fun hg => RdS_im (hx hg)
    have e2 : g = true → u2 = .bool y := fun hg => RdS_im (hy hg)
    split at h
    · obtain ⟨ht,hK⟩ := h
      refine ⟨_,hK,fun hg => ⟨_,.im _ rfl,fun w' => ?_⟩⟩
      rw [e1 hg,e2 hg]
      simp [eqGuard,binOp,equal_bool xt ht]
    · obtain ⟨ht,hK⟩ := h
      refine ⟨_,hK,fun hg => ⟨_,.im _ rfl,fun w' => ?_⟩⟩
      rw [e1 hg,e2 hg]
      simp [eqGuard,binOp,equal_bool xt ht]
      cases x <;> cases y <;> rfl
    · exact h.elim
  · rename_i x y
    have e1 : g = true → u1 = .string x := fun hg => RdS_im (hx hg)
    have e2 : g = true → u2 = .string y := fun hg => RdS_im (hy hg)
    split at h
    · obtain ⟨h0,hK⟩ := h
      refine ⟨_,hK,fun hg => ⟨_,.im _ rfl,fun w' => ?_⟩⟩
      have h0' := h0 hg
      rw [e1 hg,e2 hg]
      have : ¬ (((x.size + y.size : Nat) : Int) > IntKind.i64.max) := by
        have : IntKind.i64.max = 9223372036854775807 := by decide
        omega
      simp only [eqGuard,binOp,Op.stringOp,this,if_false]
      rfl
    all_goals
      first
      | (refine ⟨_,h,fun hg => ⟨_,.im _ rfl,fun w' => ?_⟩⟩
         rw [e1 hg,e2 hg]
         simp [eqGuard,binOp,Op.stringOp]
         done)
      | exact h.elim
  · rename_i xs ys
    split at h
    · rename_i vx vy h1 h2
      obtain ⟨b,hb,hK⟩ := h
      refine ⟨_,hK,fun hg => ⟨_,.im _ rfl,fun w' => ?_⟩⟩
      obtain ⟨ws,hw1,hw2⟩ := hx hg
      obtain ⟨zs,hz1,hz2⟩ := hy hg
      have e1 := imVals_ok hw2 h1
      have e2 := imVals_ok hz2 h2
      subst hw1 hz1
      rw [← e1,← e2] at hb
      simpa using hb w'
    · exact h.elim
  · exact nilEq_sound (fun hg => ⟨_,_,_,RdS_nil (hx hg),rfl⟩) (fun hg => RdS_nil (hy hg)) h
  · exact nilEq_sound (fun hg => let ⟨x,cap,h1,_,h2⟩ := RdS_ref (hx hg);⟨x,_,cap,h1,h2⟩) (fun hg => RdS_nil (hy hg)) h
  · rename_i sz es
    by_cases hg : g = true
    · have h1 : RdC w p u1 (.sl sz es) := hx hg
      cases h1 with
      | nilS _ cap => exact nilEq_sound (fun _ => ⟨_,_,_,rfl,rfl⟩) (fun hg => RdS_nil (hy hg)) (h true (fun _ => rfl))
      | sl a0 nn cap _ _ us hn hcap hsz hp hc hr => exact nilEq_sound (fun _ => ⟨_,_,_,rfl,rfl⟩) (fun hg => RdS_nil (hy hg)) (h false (fun h => by cases h))
    · exact nilEq_sound (b := false) (fun h => absurd h hg) (fun h => absurd h hg) (h false (fun h => by cases h))
  · split at h
    · rename_i e ht
      split at h
      · rename_i s hs
        obtain ⟨h0,hk,ho,h⟩ := h
        have key : g = true → ∃ x : Addr,x.spot = none ∧ u1 = .pointer (some x) ∧ u2 = .pointer (some x) := fun hg => ⟨_,rfl,RdS_ptr (hx hg),by rw [RdS_ptr (hy hg),hk,ho]⟩
        split at h
        · refine ⟨_,h,fun hg => ⟨_,.im _ rfl,fun w' => ?_⟩⟩
          obtain ⟨x,h1,rfl,rfl⟩ := key hg
          simp [eqGuard,binOp,equal_ptr xt e s ht hs h0 x h1]
        · refine ⟨_,h,fun hg => ⟨_,.im _ rfl,fun w' => ?_⟩⟩
          obtain ⟨x,h1,rfl,rfl⟩ := key hg
          simp [eqGuard,binOp,equal_ptr xt e s ht hs h0 x h1]
        · exact h.elim
      · exact h.elim
    · exact h.elim
  · split at h
    · rename_i e ht
      refine ⟨_,h,fun hg => ⟨_,.im _ rfl,fun w' => ?_⟩⟩
      rw [RdS_ptr (hx hg),RdS_im (hy hg)]
      simp [eqGuard,binOp,equal_ptrN xt e ht]
    · rename_i e ht
      refine ⟨_,h,fun hg => ⟨_,.im _ rfl,fun w' => ?_⟩⟩
      rw [RdS_ptr (hx hg),RdS_im (hy hg)]
      simp [eqGuard,binOp,equal_ptrN xt e ht]
    · exact h.elim
  · split at h
    · rename_i e ht
      refine ⟨_,h,fun hg => ⟨_,.im _ rfl,fun w' => ?_⟩⟩
      rw [RdS_im (hx hg),RdS_im (hy hg)]
      simp [eqGuard,binOp,equal_ptrN xt e ht]
    · rename_i e ht
      refine ⟨_,h,fun hg => ⟨_,.im _ rfl,fun w' => ?_⟩⟩
      rw [RdS_im (hx hg),RdS_im (hy hg)]
      simp [eqGuard,binOp,equal_ptrN xt e ht]
    · exact h.elim
  · have key : g = true → ∃ t v,u1 = .iface t v := fun hg => by
      have h1 : RdC w p u1 (.ifc _ _) := hx hg
      cases h1;exact ⟨_,_,rfl⟩
    split at h
    all_goals first
      | exact h.elim
      | (rename_i ms ht
         refine ⟨_,h,fun hg => ⟨_,.im _ rfl,fun w' => ?_⟩⟩
         obtain ⟨t,v,rfl⟩ := key hg
         rw [RdS_im (hy hg)]
         simp [eqGuard,binOp,equal_if xt ms ht])
  · have key : g = true → ∃ t v,u1 = .iface t v := fun hg => by
      have h1 : RdC w p u1 (.ifa _ _) := hx hg
      cases h1;exact ⟨_,_,rfl⟩
    split at h
    all_goals first
      | exact h.elim
      | (rename_i ms ht
         refine ⟨_,h,fun hg => ⟨_,.im _ rfl,fun w' => ?_⟩⟩
         obtain ⟨t,v,rfl⟩ := key hg
         rw [RdS_im (hy hg)]
         simp [eqGuard,binOp,equal_if xt ms ht])
  · split at h
    all_goals first
      | exact h.elim
      | (rename_i ms _ ht
         refine ⟨_,h,fun hg => ⟨_,.im _ rfl,fun w' => ?_⟩⟩
         rw [RdS_im (hx hg),RdS_im (hy hg)]
         simp [eqGuard,binOp,equal_ifN xt ms ht])
  · exact h.elim

theorem unK_sound {g : Bool} {op : UnOp} {vx : AV} {u1 : Value} {K : AV → Prop} (hx : g = true → RdS w p u1 vx) (h : unK op vx K) :
    ∃ v,K v ∧ (g = true → ROKW P w p (Op.unary op u1) v) := by
  unfold unK at h
  split at h
  · refine ⟨_,h,fun hg => ⟨_,.im _ rfl,fun w' => ?_⟩⟩
    rw [RdS_im (hx hg)];simp [Op.unary,Op.intArith]
  · refine ⟨_,h,fun hg => ⟨_,.im _ rfl,fun w' => ?_⟩⟩
    rw [RdS_im (hx hg)];simp [Op.unary,Op.intBits]
  · refine ⟨_,h,fun hg => ⟨_,.im _ rfl,fun w' => ?_⟩⟩
    rw [RdS_im (hx hg)];simp [Op.unary]
  · exact h.elim

theorem loadK_sound {g : Bool} {t : TypeId} {gg : Nat} {q : List (Nat × Nat)} {sz i j : Nat} {es : List (List AC)} {K : AV → Prop} {a0 : Addr} {u1 : Value}
    (hl : g = true → Lies w p a0 sz es ∧ u1 = .pointer (some (a0.add (i * sz + j)))) (h : loadK P g t gg q sz es i j K) :
    ∃ v,K v ∧ (g = true → ROK P w p (Instr.loadAt t u1) v) := by
  have agg : ∀ (s : Nat),szOf P t = some s → (∀ w' : World,(isAgg t).run P w' = .ok true w') → (g = true → i < es.length ∧ j + s ≤ sz) →
      ∀ zs,(getR zs es i j s).all AC.per = true → (g = true → ROK P w p (Instr.loadAt t u1) (.agg (getR zs es i j s))) := by
    intro s hs hagg hb zs hper hg
    obtain ⟨h1,h2⟩ := hb hg
    have hgr : getR zs es i j s = ((es.getD i []).drop j).take s := by
      unfold getR
      rw [List.getElem?_eq_getElem h1,List.getD_eq_getElem?_getD,List.getElem?_eq_getElem h1];rfl
    rw [hgr] at hper ⊢
    obtain ⟨⟨hlen,hl2⟩,hu1⟩ := hl hg
    subst hu1
    have he : es[i]? = some (es.getD i []) := by rw [List.getD_eq_getElem?_getD,List.getElem?_eq_getElem h1];rfl
    have hsz : (es.getD i []).length = sz := hlen _ (List.mem_of_getElem? he)
    have hf : ∀ k,∃ u,k < s → w.cell? ((a0.add (i * sz + j)).add k) = some u ∧ ∀ c,(((es.getD i []).drop j).take s)[k]? = some c → RdC w p u c := by
      intro k
      by_cases hk : k < s
      · have hlt : j + k < (es.getD i []).length := by omega
        obtain ⟨u,hu,hr⟩ := hl2 i _ (j + k) _ he (List.getElem?_eq_getElem hlt)
        refine ⟨u,fun _ => ⟨by rw [addr_add_add,Nat.add_assoc];exact hu,fun c hc => ?_⟩⟩
        have hcp : c.per = true := List.all_eq_true.1 hper c (List.mem_of_getElem? hc)
        rw [List.getElem?_take,if_pos hk,List.getElem?_drop,List.getElem?_eq_getElem hlt] at hc
        have hce := Option.some.inj hc
        have := hr 0 [] 0 0
        rw [hce] at this
        rwa [ldC_per hcp] at this
      · exact ⟨undef,fun h => absurd h hk⟩
    let f : Nat → Value := fun k => (hf k).choose
    have hfs : ∀ k,k < s → w.cell? ((a0.add (i * sz + j)).add k) = some (f k) ∧ ∀ c,(((es.getD i []).drop j).take s)[k]? = some c → RdC w p (f k) c := fun k hk => (hf k).choose_spec hk
    refine ⟨.agg ((List.range s).map f).toArray,⟨_,rfl,?_⟩,?_⟩
    · apply RdL.of_get
      · rw [List.length_take,List.length_drop,hsz];simp;omega
      · intro k v c hv hc
        simp only [List.getElem?_map,Option.map_eq_some_iff] at hv
        obtain ⟨k',hk',rfl⟩ := hv
        obtain ⟨hk1,hk2⟩ := List.getElem?_eq_some_iff.1 hk'
        simp at hk1 hk2;subst hk2
        exact (hfs k hk1).2 c hc
    · intro w' hw'
      have hrun := run_loadCells (P := P) (w := w') (a0.add (i * sz + j)) s f (fun k hk => hw'.cell (hfs k hk).1)
      simp only [Instr.loadAt,Instr.sureAddr,loadVar,Sem.run_bind,Sem.run_pure,Result.andThen_ok,hagg w',if_true,run_szOf hs]
      rw [hrun]
      simp
  have one : ∀ (dd : AC) (_ : ∀ w' : World,(isAgg t).run P w' = .ok false w') (_ : g = true → i < es.length ∧ j < sz),
      (g = true → ROK P w p (Instr.loadAt t u1) (.c (ldC gg q i j (getC dd es i j)))) := by
    intro dd hagg hb hg
    obtain ⟨h1,h2⟩ := hb hg
    obtain ⟨⟨hlen,hl2⟩,hu1⟩ := hl hg
    subst hu1
    have he : es[i]? = some (es.getD i []) := by rw [List.getD_eq_getElem?_getD,List.getElem?_eq_getElem h1];rfl
    have hsz : (es.getD i []).length = sz := hlen _ (List.mem_of_getElem? he)
    have hlt : j < (es.getD i []).length := by omega
    obtain ⟨u,hu,hr⟩ := hl2 i _ j _ he (List.getElem?_eq_getElem hlt)
    refine ⟨u,?_,fun w' hw' => ?_⟩
    · have : getC dd es i j = (es.getD i [])[j] := by
        unfold getC
        rw [he]
        simp only [Option.bind_some]
        rw [List.getElem?_eq_getElem hlt];rfl
      show RdC w p u (ldC gg q i j (getC dd es i j))
      rw [this];exact hr _ _ _ _
    · simp [Instr.loadAt,Instr.sureAddr,loadVar,hagg w',hw'.cell hu]
  unfold loadK at h
  split at h
  · rename_i fs ht
    split at h
    · rename_i s b' zs hi
      obtain ⟨i',z,g1,g2,g3,_⟩ := eInfo_ok hi
      exact ⟨_,h.2.2,agg s (by simp [szOf,g1,g3]) (fun w' => by simp [isAgg,run_underlying ht]) h.1 zs h.2.1⟩
    · exact h.elim
  · rename_i len e ht
    split at h
    · rename_i s b' zs hi
      obtain ⟨i',z,g1,g2,g3,_⟩ := eInfo_ok hi
      exact ⟨_,h.2.2,agg s (by simp [szOf,g1,g3]) (fun w' => by simp [isAgg,run_underlying ht]) h.1 zs h.2.1⟩
    · exact h.elim
  · rename_i d ht1 ht2 ht
    refine ⟨_,h.2,one _ (fun w' => ?_) h.1⟩
    cases d <;> simp_all [isAgg,run_underlying ht]
  · exact h.elim

theorem run_fieldAt {s f : Nat} {fs : Array Field} {fd : Field} {s' : Nat} (hs : P.underlying s = some (.struct fs)) (hf : fs[f]? = some fd) (hz : szOf P fd.type = some s') (h0 : s' ≠ 0) (a0 : Addr) (w' : World) :
    (Instr.fieldAt s (.pointer (some a0)) f).run P w' = .ok (.pointer (some (a0.add fd.offset))) w' := by
  simp [Instr.fieldAt,run_underlying hs,hf,Instr.sureAddr,fieldPlace,run_szOf hz,h0]

theorem run_indexAt_sl {t e s : Nat} (ht : P.underlying t = some (.slice e)) (hs : szOf P e = some s) (a0 : Addr) (len cap : Nat) (k : IntKind) (i : Int) (h0 : 0 ≤ i) (h1 : i < len) (w' : World) :
    (Instr.indexAt t (.slice (some a0) len cap) (.int k i)).run P w' = .ok (.pointer (some (a0.add (i.toNat * s)))) w' := by
  simp [Instr.indexAt,run_underlying ht,asIntOf,h0,h1,run_szOf hs]

theorem run_indexAt_ar {t e s len : Nat} (ht : P.underlying t = some (.array len e)) (hs : szOf P e = some s) (a0 : Addr) (k : IntKind) (i : Int) (h0 : 0 ≤ i) (h1 : i < len) (w' : World) :
    (Instr.indexAt t (.pointer (some a0)) (.int k i)).run P w' = .ok (.pointer (some (a0.add (i.toNat * s)))) w' := by
  simp [Instr.indexAt,run_underlying ht,asIntOf,Instr.sureAddr,h0,h1,run_szOf hs]

theorem run_len_slice {t e : Nat} (ht : P.underlying t = some (.slice e)) (x : Option Addr) (l c : Nat) (ty : TypeId) (w' : World) : (Builtin.len_ #[t] ty #[.slice x l c]).run P w' = .ok (.int .i64 l) w' := by
  simp [Builtin.len_,run_underlying ht,goInt]

theorem toList_one {α : Type} {xs : Array α} {x : α} (h : xs.toList = [x]) : xs = #[x] := Array.toList_inj.1 h
theorem toList_two {α : Type} {xs : Array α} {x y : α} (h : xs.toList = [x,y]) : xs = #[x,y] := Array.toList_inj.1 h
theorem toList_nil {α : Type} {xs : Array α} (h : xs.toList = []) : xs = #[] := Array.toList_inj.1 h

theorem exec_len {o : Oper} {c : Call} {x : Operand} {t : TypeId} (ho : o.op = .call c) (hc : c.callee = .builtin .len) (ha : c.args.toList = [x]) (ht : c.argTypes.toList = [t]) (ρ : Operand → Value) (w' : World) {v : Value} (h : (Builtin.len_ #[t] o.type #[ρ x]).run P w' = .ok v w') :
    (execOp ρ o).run P w' = .ok (.value v) w' := by
  simp [execOp,ho,resolve,invoke,builtin,hc,toList_one ha,toList_one ht,h]

theorem exec_max {o : Oper} {c : Call} {x y : Operand} (ho : o.op = .call c) (hc : c.callee = .builtin .max) (ha : c.args.toList = [x,y]) (ρ : Operand → Value) (w' : World) {k k' : IntKind} {i j : Int} (hx : ρ x = .int k i) (hy : ρ y = .int k' j) :
    (execOp ρ o).run P w' = .ok (.value (.int k (if j > i then j else i))) w' := by
  simp [execOp,ho,resolve,invoke,builtin,hc,toList_two ha,Builtin.max_,Builtin.max2,hx,hy]

theorem exec_min {o : Oper} {c : Call} {x y : Operand} (ho : o.op = .call c) (hc : c.callee = .builtin .min) (ha : c.args.toList = [x,y]) (ρ : Operand → Value) (w' : World) {k k' : IntKind} {i j : Int} (hx : ρ x = .int k i) (hy : ρ y = .int k' j) :
    (execOp ρ o).run P w' = .ok (.value (.int k (if j < i then j else i))) w' := by
  simp [execOp,ho,resolve,invoke,builtin,hc,toList_two ha,Builtin.min_,Builtin.min2,hx,hy]

theorem run_bounds {isS : Bool} {len cap : Nat} {lo hi : Option Value} {l : Int} {h : Option Int}
    (hlo : (lo = none ∧ l = 0) ∨ ∃ k,lo = some (.int k l)) (hhi : (hi = none ∧ h = none) ∨ ∃ k i,hi = some (.int k i) ∧ h = some i)
    (h0 : 0 ≤ l) (h1 : l ≤ h.getD len) (h2 : h.getD len ≤ len) (hc : len ≤ cap) (w' : World) : (Instr.sliceBounds isS len cap lo hi none).run P w' = .ok (l.toNat,(h.getD len).toNat,cap) w' := by
  rcases hhi with ⟨rfl,rfl⟩|⟨k,i,rfl,rfl⟩
  · simp only [Option.getD_none] at h1 h2
    rcases hlo with ⟨rfl,rfl⟩|⟨k,rfl⟩
    · simp [Instr.sliceBounds]
    · have : l ≤ (len : Int) := h1
      simp [Instr.sliceBounds,Instr.sliceBound,asIntOf,h0,this]
  · simp only [Option.getD_some] at h1 h2
    have h3 : 0 ≤ i := by omega
    have h4 : i ≤ (cap : Int) := by omega
    rcases hlo with ⟨rfl,rfl⟩|⟨k',rfl⟩
    · simp [Instr.sliceBounds,Instr.sliceBound,asIntOf,h3,h4]
    · have h5 : l ≤ ((i.toNat : Nat) : Int) := by omega
      have h6 : (0 ≤ l ∧ l ≤ max i 0) := ⟨h0,by omega⟩
      simp [Instr.sliceBounds,Instr.sliceBound,asIntOf,h3,h4,h6]

theorem run_slice_sl {t e s : Nat} (ht : P.underlying t = some (.slice e)) (hs : szOf P e = some s) (x : Option Addr) (len cap : Nat) (lo hi : Option Value) (l : Int) (h : Option Int)
    (hlo : (lo = none ∧ l = 0) ∨ ∃ k,lo = some (.int k l)) (hhi : (hi = none ∧ h = none) ∨ ∃ k i,hi = some (.int k i) ∧ h = some i)
    (h0 : 0 ≤ l) (h1 : l ≤ h.getD len) (h2 : h.getD len ≤ len) (hc : len ≤ cap) (w' : World) :
    (Instr.sliceAt t (.slice x len cap) lo hi none).run P w' =
      .ok (.slice (if cap = l.toNat then x else x.map (·.add (l.toNat * s))) ((h.getD len).toNat - l.toNat) (cap - l.toNat)) w' := by
  have key := run_bounds (P := P) (isS := true) hlo hhi h0 h1 h2 hc w'
  unfold Instr.sliceAt
  simp only [Sem.run_bind,run_underlying ht,Result.andThen_ok,Instr.slice,key,run_szOf hs,Sem.run_pure]

theorem run_slice_str {t : Nat} (ht : P.underlying t = some .string) (x : ByteArray) (lo hi : Option Value) (l : Int) (h : Option Int)
    (hlo : (lo = none ∧ l = 0) ∨ ∃ k,lo = some (.int k l)) (hhi : (hi = none ∧ h = none) ∨ ∃ k i,hi = some (.int k i) ∧ h = some i)
    (h0 : 0 ≤ l) (h1 : l ≤ h.getD x.size) (h2 : h.getD x.size ≤ x.size) (w' : World) :
    (Instr.sliceAt t (.string x) lo hi none).run P w' = .ok (.string (x.extract l.toNat (h.getD x.size).toNat)) w' := by
  have key := run_bounds (P := P) (isS := false) hlo hhi h0 h1 h2 (Nat.le_refl x.size) w'
  unfold Instr.sliceAt
  simp only [Sem.run_bind,run_underlying ht,Result.andThen_ok,Instr.slice,Option.isSome_none,Bool.false_eq_true,if_false,key,Sem.run_pure]

theorem strRows_ints : ∀ {es : List (List AC)} {l : List Int},strRows es = some l → es = l.map fun n => [AC.im (.int .u8 n)]
  | [],l,h => by simp [strRows] at h;subst h;rfl
  | e :: r,l,h => by
    unfold strRows at h
    split at h
    · rename_i heq;cases heq
    · rename_i n r' heq
      simp only [List.cons.injEq] at heq
      obtain ⟨rfl,rfl⟩ := heq
      simp only [Option.map_eq_some_iff] at h
      obtain ⟨l',h1,rfl⟩ := h
      rw [strRows_ints h1];rfl
    · cases h

theorem conv_lies {a0 : Addr} {nn cap : Nat} {es : List (List AC)} {l : List Int} (hl : Lies w p a0 1 es) (h : strRows es = some l) (hn : nn = es.length) (w' : World) (hw : Later w w') :
    (Conv.bytesToString (.slice (some a0) nn cap)).run P w' = .ok (.string (bytesS l)) w' := by
  have he := strRows_ints h
  have hlen : nn = (l.map (Value.int .u8)).length := by rw [hn,he];simp
  refine run_bytesToString w' a0 nn cap l ?_
  rw [hlen]
  refine run_loadCells_list w' a0 _ fun j v hj => ?_
  simp only [List.getElem?_map,Option.map_eq_some_iff] at hj
  obtain ⟨x,hx,rfl⟩ := hj
  obtain ⟨u,hu,hr⟩ := hl.2 j [AC.im (.int .u8 x)] 0 _ (by rw [he];simp [hx]) rfl
  have hr := hr 0 [] 0 0
  have : u = .int .u8 x := RdS_im (w := w) (p := p) hr
  subst this
  have := hw.cell hu
  simpa using this

theorem convSK_sound {g : Bool} {src dst : TypeId} {sz : Nat} {es : List (List AC)} {u1 : Value} {K : AV → Prop}
    (hx : g = true → (es = [] ∧ ∃ x cap,u1 = .slice x 0 cap) ∨ ∃ a0 nn cap,u1 = .slice (some a0) nn cap ∧ nn = es.length ∧ Lies w p a0 sz es) (h : convSK P src dst sz es K) :
    ∃ v,K v ∧ (g = true → ROK P w p (convert src dst u1) v) := by
  obtain ⟨rfl,hd,hs,h⟩ := h
  split at hs
  · rename_i e hse
    split at h
    · rename_i l hl
      refine ⟨_,h,fun hg => ⟨_,.im _ rfl,fun w' hw' => ?_⟩⟩
      rcases hx hg with ⟨rfl,x,cap,rfl⟩|⟨a0,nn,cap,rfl,hn,hli⟩
      · cases x with
        | none =>
          rw [run_convert_bytes_string w' src dst e _ _ _ hse hs hd]
          simp [strRows] at hl
          subst hl
          rfl
        | some a0 =>
          rw [run_convert_bytes_string w' src dst e _ _ _ hse hs hd]
          exact conv_lies (w := w) (p := p) ⟨by simp,by simp⟩ hl rfl w' hw'
      · rw [run_convert_bytes_string w' src dst e _ _ _ hse hs hd]
        exact conv_lies hli hl hn w' hw'
    · exact h.elim
  · exact hs.elim
end

section
variable {P : Program} {n : Nat} {p0 F : Nat → Prop} {w0 : World} {S : Env} {a : Act} {w : World} {p : Nat → Prop} {ow : Nat → List Nat}

theorem convK_sound (hR : Rel n p0 F w0 S a w p ow) {g : Bool} {src dst : TypeId} {vx : AV} {u1 : Value} {K : AV → Prop} (hx : g = true → RdS w p u1 vx) (h : convK P S g src dst vx K) :
    ∃ v,K v ∧ (g = true → ROK P w p (convert src dst u1) v) := by
  unfold convK at h
  split at h
  · split at h
    · rename_i s k hs hd
      refine ⟨_,h,fun hg => ⟨_,.im _ rfl,fun w' _ => ?_⟩⟩
      rw [RdS_im (hx hg)]
      simp [convert,run_underlying hs,run_underlying hd,Conv.intToInt]
    · exact h.elim
  · split at h
    · rename_i s hs hd
      refine ⟨_,h,fun hg => ⟨_,.im _ rfl,fun w' _ => ?_⟩⟩
      rw [RdS_im (hx hg)]
      simp [convert,run_underlying hs,run_underlying hd]
    · exact h.elim
  · exact convSK_sound (fun hg => .inl ⟨rfl,_,0,RdS_nil (hx hg)⟩) h
  · rename_i sz es
    refine convSK_sound (fun hg => ?_) h
    have hr : RdC w p u1 (.sl sz es) := hx hg
    cases hr with
    | nilS _ cap => exact .inl ⟨rfl,_,cap,rfl⟩
    | sl a0 nn cap _ _ us hn hcap hsz hp hc hrr =>
      exact .inr ⟨a0,nn,cap,rfl,hn,lies_ro (.sl a0 nn cap sz es us hn hcap hsz hp hc hrr)⟩
  · rename_i gg q b sz lo nn
    split at h
    · rename_i o ho
      obtain ⟨h1,h2,h3,h⟩ := h
      refine convSK_sound (fun hg => ?_) h
      obtain ⟨O,hO,_⟩ := hR.ob ho
      rcases lies_ref hO (hx hg) h1 h2 (h3 hg) with ⟨e1,e2,x,cap,hu⟩|⟨a0,cap,hu,hc,_,_,hl⟩
      · exact .inl ⟨e1,x,cap,hu⟩
      · exact .inr ⟨a0,_,cap,hu,by have := h3 hg;simp [List.extract_eq_take_drop];omega,hl⟩
    · exact h.elim
  · exact h.elim

theorem vop_load (hR : Rel n p0 F w0 S a w p ow) {g : Bool} {o : Oper} {K : AV → Prop} {t : TypeId} {x : Operand} (ho : o.op = .load t x) (h : vop P S g (.load t x) K) : ∃ v,K v ∧ (g = true → VOK P a w p o v) := by
  have fin : ∀ {v : AV},(g = true → ROK P w p (Instr.loadAt t (a.eval x)) v) → (g = true → VOK P a w p o v) := by
    intro v h hg
    obtain ⟨u,h1,h2⟩ := h hg
    exact ⟨u,h1,fun w' hw' => by simp [execOp,ho,h2 w' (hw' (by rw [ho];rfl))]⟩
  simp only [vop] at h
  obtain ⟨vx,h,hx⟩ := evK_sound hR h
  split at h
  · rename_i gg q k sz i j
    split at h
    · rename_i ob hob
      obtain ⟨h1,h2,h⟩ := h
      obtain ⟨O,hO,_⟩ := hR.ob hob
      obtain ⟨v,hv,hok⟩ := loadK_sound (w := w) (p := p) (a0 := ⟨blkNo ob.b,0,none⟩) (u1 := a.eval x) (fun hg => ⟨by rw [← h2];exact lies_ob hO,by rw [RdS_ptr (hx hg),addr_add_zero,h1]⟩) h
      exact ⟨v,hv,fin hok⟩
    · exact h.elim
  · rename_i sz es i j
    by_cases hgt : g = true
    · have hr : RdC w p (a.eval x) (.adr sz es i j) := hx hgt
      generalize hu : a.eval x = u at hr
      cases hr with
      | adr a0 cap _ _ _ _ hr =>
        obtain ⟨v,hv,hok⟩ := loadK_sound (u1 := a.eval x) (fun _ => ⟨lies_ro hr,hu⟩) h
        exact ⟨v,hv,fin hok⟩
    · obtain ⟨v,hv,_⟩ := loadK_sound (w := w) (p := p) (a0 := ⟨0,0,none⟩) (u1 := undef) (fun hg => absurd hg hgt) h
      exact ⟨v,hv,fun hg => absurd hg hgt⟩
  · exact h.elim

theorem rdC_adr {u : Value} {sz i j : Nat} {es : List (List AC)} (h : RdC w p u (.adr sz es i j)) : ∃ a0 cap,RdC w p (.slice (some a0) es.length cap) (.sl sz es) ∧ u = .pointer (some (a0.add (i * sz + j))) := by
  cases h with
  | adr a0 cap _ _ _ _ h => exact ⟨a0,cap,h,rfl⟩

theorem vop_fieldAddr (hR : Rel n p0 F w0 S a w p ow) {g : Bool} {o : Oper} {K : AV → Prop} {s f : Nat} {x : Operand} (ho : o.op = .fieldAddr s x f) (h : vop P S g (.fieldAddr s x f) K) : ∃ v,K v ∧ (g = true → VOK P a w p o v) := by
  simp only [vop] at h
  obtain ⟨vx,h,hx⟩ := evK_sound hR h
  split at h
  · rename_i fs hs
    split at h
    · rename_i fd hf
      split at h
      · rename_i s' hz
        obtain ⟨h0,h⟩ := h
        have fin : ∀ (a0 : Addr),a.eval x = .pointer (some a0) → ∀ w',(execOp a.eval o).run P w' = .ok (.value (.pointer (some (a0.add fd.offset)))) w' := by
          intro a0 ha w'
          simp [execOp,ho,ha,run_fieldAt hs hf hz h0]
        split at h
        · refine ⟨_,h,fun hg => ⟨_,RdC.ptr _ _ _ _ _ _,fun w' _ => ?_⟩⟩
          rw [fin _ (RdS_ptr (hx hg)),addr_add_off,Nat.add_assoc]
        · refine ⟨_,h,fun hg => ?_⟩
          obtain ⟨a0,cap,h1,h2⟩ := rdC_adr (hx hg)
          refine ⟨_,RdC.adr a0 cap _ _ _ _ h1,fun w' _ => ?_⟩
          rw [fin _ h2,addr_add_add,Nat.add_assoc]
        · exact h.elim
      · exact h.elim
    · exact h.elim
  · exact h.elim

theorem vop_indexAddr (hR : Rel n p0 F w0 S a w p ow) {g : Bool} {o : Oper} {K : AV → Prop} {t : TypeId} {x ix : Operand} (ho : o.op = .indexAddr t x ix) (h : vop P S g (.indexAddr t x ix) K) : ∃ v,K v ∧ (g = true → VOK P a w p o v) := by
  simp only [vop] at h
  obtain ⟨vi,h,hi⟩ := evK_sound hR h
  split at h
  · rename_i vi k i
    have ei : g = true → a.eval ix = .int k i := fun hg => RdS_im (hi hg)
    obtain ⟨vx,h,hx⟩ := evK_sound hR h
    split at h
    · rename_i e ht
      split at h
      · rename_i s hs
        have fin : g = true → ∀ (a0 : Addr) (len cap : Nat),a.eval x = .slice (some a0) len cap → 0 ≤ i ∧ i < len → ∀ w',(execOp a.eval o).run P w' = .ok (.value (.pointer (some (a0.add (i.toNat * s))))) w' := by
          intro hg a0 len cap ha hb w'
          simp only [execOp,ho,ha,ei hg,Sem.run_bind,run_indexAt_sl ht hs a0 len cap k i hb.1 hb.2,Result.andThen_ok,Sem.run_pure]
        split at h
        · rename_i sz es
          obtain ⟨rfl,hb,h⟩ := h
          refine ⟨_,h,fun hg => ?_⟩
          obtain ⟨h1,h2⟩ := hb hg
          have hr : RdC w p (a.eval x) (.sl sz es) := hx hg
          obtain ⟨a0,cap,hu⟩ := rdC_sl_form hr (by intro h;rw [h] at h2;simp at h2;omega)
          refine ⟨_,RdC.adr a0 cap _ _ _ _ (by rw [← hu];exact hr),fun w' _ => ?_⟩
          rw [fin hg a0 _ cap hu ⟨h1,h2⟩,Nat.add_zero]
        · rename_i gg q b sz lo nn
          obtain ⟨rfl,hb,h⟩ := h
          refine ⟨_,h,fun hg => ?_⟩
          obtain ⟨h1,h2⟩ := hb hg
          have hr : RdC w p (a.eval x) (.ref gg q b sz lo nn) := hx hg
          generalize hu : a.eval x = u at hr
          cases hr with
          | refN => omega
          | ref _ _ k cap _ _ _ oo hoo hc =>
            refine ⟨_,RdC.ptr _ _ _ _ _ _,fun w' _ => ?_⟩
            rw [fin hg _ _ _ hu ⟨h1,h2⟩,addr_add_off,hoo.1 (by omega),Nat.add_mul,Nat.add_zero]
            rfl
        · exact h.elim
      · exact h.elim
    · rename_i len e ht
      split at h
      · rename_i s hs
        have fin : g = true → ∀ (a0 : Addr),a.eval x = .pointer (some a0) → 0 ≤ i ∧ i < len → ∀ w',(execOp a.eval o).run P w' = .ok (.value (.pointer (some (a0.add (i.toNat * s))))) w' := by
          intro hg a0 ha hb w'
          simp only [execOp,ho,ha,ei hg,Sem.run_bind,run_indexAt_ar ht hs a0 k i hb.1 hb.2,Result.andThen_ok,Sem.run_pure]
        split at h
        · obtain ⟨hb,h⟩ := h
          refine ⟨_,h,fun hg => ⟨_,RdC.ptr _ _ _ _ _ _,fun w' _ => ?_⟩⟩
          rw [fin hg _ (RdS_ptr (hx hg)) (hb hg),addr_add_off,Nat.add_assoc]
        · obtain ⟨hb,h⟩ := h
          refine ⟨_,h,fun hg => ?_⟩
          obtain ⟨a0,cap,h1,h2⟩ := rdC_adr (hx hg)
          refine ⟨_,RdC.adr a0 cap _ _ _ _ h1,fun w' _ => ?_⟩
          rw [fin hg _ h2 (hb hg),addr_add_add,Nat.add_assoc]
        · exact h.elim
      · exact h.elim
    · exact h.elim
  · exact h.elim

theorem rdC_sl_extract {u : Value} {sz l h cap nn : Nat} {x : Option Addr} {es : List (List AC)} (hnn : nn = es.length) (hr : RdC w p (.slice x nn cap) (.sl sz es)) (h1 : l ≤ h) (h2 : h ≤ es.length) (hu : u = .slice (if cap = l then x else x.map (·.add (l * sz))) (h - l) (cap - l)) :
    RdC w p u (.sl sz (es.extract l h)) := by
  subst hu
  have hlen : (es.extract l h).length = h - l := by simp [List.extract_eq_take_drop];omega
  cases hr with
  | nilS =>
    have e1 : h - l = 0 := by simp at h2;omega
    have e2 : ([] : List (List AC)).extract l h = [] := by simp [List.extract_eq_take_drop]
    rw [e2,e1]
    split
    · exact .nilS sz _
    · exact .nilS sz _
  | sl a0 nn _ _ _ us hn hcap hsz hp hc hrr =>
    by_cases hcl : cap = l
    · have e1 : h - l = 0 := by omega
      have e2 : es.extract l h = [] := by apply List.eq_nil_of_length_eq_zero;omega
      rw [if_pos hcl,e2,e1]
      exact .sl a0 0 _ sz [] (fun _ _ => undef) rfl (by omega) (by simp) (by simp) (by simp) (by simp)
    · rw [if_neg hcl]
      have hget : ∀ i e,(es.extract l h)[i]? = some e → es[l + i]? = some e := by
        intro i e hi
        rw [List.extract_eq_take_drop,List.getElem?_take] at hi
        split at hi
        · rwa [List.getElem?_drop] at hi
        · cases hi
      refine .sl _ (h - l) (cap - l) sz _ (fun i j => us (l + i) j) hlen.symm (by omega) ?_ ?_ ?_ ?_
      · intro e he
        obtain ⟨i,hi⟩ := List.getElem?_of_mem he
        exact hsz e (List.mem_of_getElem? (hget i e hi))
      · intro hne
        rw [addr_add_block]
        exact hp (by intro h0;rw [h0] at hne;simp [List.extract_eq_take_drop] at hne)
      · intro i e j hi hj
        rw [addr_add_add,← Nat.add_assoc,← Nat.add_mul]
        exact hc (l + i) e j (hget i e hi) hj
      · intro i e j c hi hj
        exact hrr (l + i) e j c (hget i e hi) hj

theorem boundK_sound (hR : Rel n p0 F w0 S a w p ow) {g : Bool} {x : Option Operand} {K : Option Int → Prop} (h : boundK S g x K) :
    ∃ l,K l ∧ (g = true → (x = none ∧ l = none) ∨ ∃ k ox i,x = some ox ∧ a.eval ox = .int k i ∧ l = some i) := by
  unfold boundK at h
  cases x with
  | none => exact ⟨none,h,fun _ => .inl ⟨rfl,rfl⟩⟩
  | some ox =>
    simp only at h
    obtain ⟨vl,h,hl⟩ := evK_sound hR h
    split at h
    · rename_i k i
      exact ⟨some i,h,fun hg => .inr ⟨k,ox,i,rfl,RdS_im (hl hg),rfl⟩⟩
    · exact h.elim

theorem vop_slice (hR : Rel n p0 F w0 S a w p ow) {g : Bool} {o : Oper} {K : AV → Prop} {t : TypeId} {x : Operand} {lo hi : Option Operand} (ho : o.op = .slice t x lo hi none) (h : vop P S g (.slice t x lo hi none) K) : ∃ v,K v ∧ (g = true → VOK P a w p o v) := by
  simp only [vop] at h
  obtain ⟨vx,ha,hx⟩ := evK_sound hR h
  clear h
  obtain ⟨l0,hb,hlo⟩ := boundK_sound hR ha
  clear ha
  obtain ⟨h',h,hhi⟩ := boundK_sound hR hb
  clear hb
  unfold sliceK at h
  generalize hl0 : l0.getD 0 = l at h
  have h1 : g = true → (lo.map a.eval = none ∧ l = 0) ∨ ∃ k,lo.map a.eval = some (.int k l) := by
    intro hg
    rcases hlo hg with ⟨rfl,hq⟩|⟨k,ox,i,rfl,hq,hh⟩
    · exact .inl ⟨rfl,by rw [← hl0,hq];rfl⟩
    · exact .inr ⟨k,by rw [← hl0,hh];simp [hq]⟩
  have h2 : g = true → (hi.map a.eval = none ∧ h' = none) ∨ ∃ k i,hi.map a.eval = some (.int k i) ∧ h' = some i := by
    intro hg
    rcases hhi hg with ⟨rfl,hq⟩|⟨k,ox,i,rfl,hq,hh⟩
    · exact .inl ⟨rfl,hq⟩
    · exact .inr ⟨k,i,by simp [hq],hh⟩
  split at h
  · rename_i e ht
    split at h
    · rename_i s hs
      have fin : g = true → ∀ (x0 : Option Addr) (len cap : Nat),a.eval x = .slice x0 len cap → len ≤ cap → 0 ≤ l ∧ l ≤ h'.getD len ∧ h'.getD len ≤ len → ∀ w',(execOp a.eval o).run P w' = .ok (.value (.slice (if cap = l.toNat then x0 else x0.map (·.add (l.toNat * s))) ((h'.getD len).toNat - l.toNat) (cap - l.toNat))) w' := by
        intro hg x0 len cap ha hc hb w'
        have := run_slice_sl ht hs x0 len cap (lo.map a.eval) (hi.map a.eval) l h' (h1 hg) (h2 hg) hb.1 hb.2.1 hb.2.2 hc w'
        simp only [execOp,ho,ha,Option.map_none,Sem.run_bind,this,Result.andThen_ok,Sem.run_pure]
      split at h
      · rename_i sz es
        obtain ⟨rfl,hb,h⟩ := h
        refine ⟨_,h,fun hg => ?_⟩
        have hb' := hb hg
        have hr : RdC w p (a.eval x) (.sl sz es) := hx hg
        obtain ⟨x0,cap,hu,hcap⟩ := rdC_sl_len hr
        refine ⟨_,?_,fun w' _ => fin hg x0 _ cap hu hcap hb' w'⟩
        rw [hu] at hr
        exact rdC_sl_extract rfl hr (by omega) (by omega) rfl
      · rename_i gg q b sz lo' nn
        obtain ⟨rfl,hb,h⟩ := h
        refine ⟨_,h,fun hg => ?_⟩
        have hb' := hb hg
        have hr : RdC w p (a.eval x) (.ref gg q b sz lo' nn) := hx hg
        generalize hu : a.eval x = u at hr
        cases hr with
        | refN =>
          refine ⟨_,?_,fun w' _ => fin hg none 0 0 hu (Nat.le_refl _) hb' w'⟩
          have e0 : l = 0 := by omega
          have e1 : (h'.getD ((0 : Nat) : Int)) = 0 := by omega
          rw [e0,e1]
          exact .refN gg q sz
        | ref _ _ k cap _ _ _ oo hoo hc =>
          refine ⟨_,?_,fun w' _ => fin hg _ _ _ hu (by omega) hb' w'⟩
          have e2 : cap - lo' - l.toNat = cap - (lo' + l.toNat) := by omega
          have e3 : (h'.getD (nn : Int)).toNat ≤ nn := by omega
          by_cases hcl : cap - lo' = l.toNat
          · rw [if_pos hcl,e2]
            refine RdC.ref _ _ k cap sz (lo' + l.toNat) _ oo ⟨fun hlt => by omega,fun h0 => hoo.2 (by omega)⟩ (by omega)
          · rw [if_neg hcl,e2]
            simp only [Option.map_some,addr_add_off]
            refine RdC.ref _ _ k cap sz (lo' + l.toNat) _ _ ⟨fun hlt => ?_,fun h0 => ?_⟩ (by omega)
            · rw [hoo.1 (by omega),Nat.add_mul]
            · have e4 : lo' = 0 := by omega
              have e5 : l.toNat = 0 := by omega
              rw [hoo.2 e4,e5];simp
      · exact h.elim
    · exact h.elim
  · rename_i len e ht
    split at h
    · rename_i s hs
      split at h
      · rename_i gg q k sz i j
        obtain ⟨hl,hb,h⟩ := h
        subst hl
        refine ⟨_,h,fun hg => ?_⟩
        have hb' := hb hg
        refine ⟨_,RdC.view gg q k sz i j s _ len (by omega),fun w' _ => ?_⟩
        have key := run_bounds (P := P) (isS := false) (len := len) (cap := len) (h1 hg) (h2 hg) (Int.le_refl 0) hb'.1 hb'.2 (Nat.le_refl _) w'
        have hsa : (Instr.sliceAt t (.pointer (some ⟨k,i * sz + j,none⟩)) (lo.map a.eval) (hi.map a.eval) none).run P w' = .ok (.slice (some ⟨k,i * sz + j,none⟩) (h'.getD (len : Int)).toNat len) w' := by
          unfold Instr.sliceAt
          simp only [Sem.run_bind,run_underlying ht,Result.andThen_ok,Instr.sureAddr,key,run_szOf hs,Sem.run_pure]
          simp [Addr.add]
        simp only [execOp,ho,RdS_ptr (hx hg),Option.map_none,Sem.run_bind,hsa,Result.andThen_ok,Sem.run_pure]
      · exact h.elim
    · exact h.elim
  · rename_i ht
    split at h
    · rename_i s
      obtain ⟨hb,h⟩ := h
      refine ⟨_,h,fun hg => ⟨_,.im _ rfl,fun w' _ => ?_⟩⟩
      have hb' := hb hg
      have := run_slice_str (P := P) ht s (lo.map a.eval) (hi.map a.eval) l h' (h1 hg) (h2 hg) hb'.1 hb'.2.1 hb'.2.2 w'
      simp only [execOp,ho,RdS_im (hx hg),Option.map_none,Sem.run_bind,this,Result.andThen_ok,Sem.run_pure]
    · exact h.elim
  · exact h.elim

end
end Go.Hs
