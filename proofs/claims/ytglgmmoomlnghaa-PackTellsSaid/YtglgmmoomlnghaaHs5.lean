/-
  THE HEAP SEMANTICS, part 5: one law for all value operations.
-/
import Derived.Test.YtglgmmoomlnghaaHs4
namespace Go.Hs
open Go Go.RowKit

section
variable {P : Program} {w : World} {p : Nat → Prop}

theorem run_part_agg {t s off : Nat} (ht : ∀ w' : World,(isAgg t).run P w' = .ok true w') (hs : szOf P t = some s) (cs : Array Value) (w' : World) : (part t cs off).run P w' = .ok (.agg (cs.extract off (off + s))) w' := by
  simp [part,ht w',run_szOf hs]

theorem run_part_one {t off : Nat} (ht : ∀ w' : World,(isAgg t).run P w' = .ok false w') (cs : Array Value) (v : Value) (hv : cs[off]? = some v) (w' : World) : (part t cs off).run P w' = .ok v w' := by
  simp [part,ht w',hv]

theorem partK_sound {g : Bool} {t : TypeId} {cs : List AC} {off : Nat} {vs : Array Value} {K : AV → Prop} (hx : g = true → RdL w p vs.toList cs) (h : partK P t cs off K) : ∃ v,K v ∧ (g = true → ROKW P w p (part t vs off) v) := by
  have agg : ∀ s,szOf P t = some s → (∀ w' : World,(isAgg t).run P w' = .ok true w') → (g = true → ROKW P w p (part t vs off) (.agg ((cs.drop off).take s))) := by
    intro s hs ht hg
    refine ⟨_,⟨_,rfl,?_⟩,fun w' => run_part_agg ht hs vs w'⟩
    have := ((hx hg).drop off).take s
    simpa [Array.toList_extract,List.extract_eq_take_drop] using this
  unfold partK at h
  split at h
  · rename_i fs ht
    split at h
    · rename_i s hs
      exact ⟨_,h.2,agg s hs fun w' => by simp [isAgg,run_underlying ht]⟩
    · exact h.elim
  · rename_i fs ht
    split at h
    · rename_i s hs
      exact ⟨_,h.2,agg s hs fun w' => by simp [isAgg,run_underlying ht]⟩
    · exact h.elim
  · rename_i d h1 h2 ht
    obtain ⟨hlt,h⟩ := h
    refine ⟨_,h,fun hg => ?_⟩
    obtain ⟨v,hv,hr⟩ := (hx hg).get off cs[off] (List.getElem?_eq_getElem hlt)
    refine ⟨v,?_,fun w' => run_part_one (fun w' => ?_) vs v (by simpa using hv) w'⟩
    · rw [List.getElem?_eq_getElem hlt];exact hr
    · cases d <;> simp_all [isAgg,run_underlying ht]
  · exact h.elim

theorem findNow_ok : ∀ (l : List (ByteArray × Int)) (es : List MapEntry) (s : ByteArray) (i : Nat),(es.map fun x => (x.key,x.val)) = (l.map fun x => (Value.string x.1,Value.int .i64 x.2)) →
    ∃ r,Instr.findNow .string (.string s) es i = some r ∧ (match mFind l s with|some v => ∃ j,r = some (j,.int .i64 v)|none => r = none)
  | [],[],s,i,_ => ⟨none,rfl,rfl⟩
  | x :: l,e :: es,s,i,h => by
    simp only [List.map_cons,List.cons.injEq,Prod.mk.injEq] at h
    obtain ⟨⟨hk,hv⟩,ht⟩ := h
    obtain ⟨r,h1,h2⟩ := findNow_ok l es s (i + 1) ht
    cases hs : (s == x.1) with
    | true =>
      refine ⟨some (i,e.val),by simp [Instr.findNow,Instr.sameNow,hk,hs],?_⟩
      have hf : mFind (x :: l) s = some x.2 := by simp [mFind,hs]
      rw [hf]
      exact ⟨i,by rw [hv]⟩
    | false =>
      refine ⟨r,by simp [Instr.findNow,Instr.sameNow,hk,hs,h1],?_⟩
      have hf : mFind (x :: l) s = mFind l s := by simp [mFind,hs]
      rw [hf]
      exact h2
  | [],_ :: _,_,_,h => by simp at h
  | _ :: _,[],_,_,h => by simp at h

theorem run_getMap {r : Nat} {es : Array MapEntry} {clock : Nat} {w : World} (hb : w.heap[r]? = some (.map es clock)) : (getObj r).run P w = .ok (.map es clock) w := by
  simp [getObj,Sem.run,hb]

theorem run_key_str {kt : TypeId} (hkt : P.underlying kt = some .string) (e : Bool) (n : Nat) (s : ByteArray) (w' : World) : (Instr.checkKey e (n + 1) kt (.string s)).run P w' = .ok () w' := by
  unfold Instr.checkKey
  simp [run_underlying hkt]

theorem run_lookup_str {t kt et k : Nat} {l : List (ByteArray × Int)} {es : Array MapEntry} {cl : Nat} (ht : P.underlying t = some (.map kt et)) (hkt : P.underlying kt = some .string) (hz : ∀ w' : World,(zeroValue et).run P w' = .ok (.int .i64 0) w')
    (s : ByteArray) (w' : World) (hm : w'.heap[k]? = some (.map es cl)) (he : mEntries l es) :
    (Instr.lookup t (.map (some k)) (.string s) true).run P w' = .ok (.tuple #[.int .i64 ((mFind l s).getD 0),.bool (mFind l s).isSome]) w' := by
  obtain ⟨r,h1,h2⟩ := findNow_ok l es.toList s 0 he
  have hck : ∀ b,(Instr.checkKey b 10000 kt (.string s)).run P w' = .ok () w' := by
    intro b;exact run_key_str hkt b 9999 s w'
  have hfk : (Instr.findKey kt (.string s) es.toList).run P w' = .ok r w' := by
    simp [Instr.findKey,run_underlying hkt,h1]
  have hob : (getObj k).run P w' = .ok (.map es cl) w' := run_getMap hm
  unfold Instr.lookup
  simp only [Sem.run_bind,run_underlying ht,Result.andThen_ok,hob,Sem.run_pure,hck,hfk]
  cases hf : mFind l s with
  | some v =>
    rw [hf] at h2
    obtain ⟨j,rfl⟩ := h2
    simp
  | none =>
    rw [hf] at h2
    subst h2
    simp [hz w']
end

section
variable {P : Program} {n : Nat} {p0 F : Nat → Prop} {w0 : World} {S : Env} {a : Act} {w : World} {p : Nat → Prop} {ow : Nat → List Nat}

theorem capsK_sound (hR : Rel n p0 F w0 S a w p ow) {g : Bool} : ∀ (l : List Operand) {K : List AC → Prop},capsK S g l K → ∃ cs,K cs ∧ (g = true → RdL w p (l.map a.eval) cs)
  | [],K,h => ⟨[],h,fun _ => .nil⟩
  | x :: r,K,h => by
    unfold capsK at h
    obtain ⟨v,h1,hx⟩ := evK_sound hR h
    split at h1
    · obtain ⟨cs,h2,hr⟩ := capsK_sound hR r h1
      exact ⟨_,h2,fun hg => .cons (hx hg) (hr hg)⟩
    · exact h1.elim

theorem zInt_run {et : TypeId} (h : zInt P et = true) (w' : World) : (zeroValue et).run P w' = .ok (.int .i64 0) w' := by
  unfold zInt at h
  split at h
  · rename_i i hi
    split at h
    · rename_i n hz
      simp at h;subst h
      simp [zeroValue,typeInfo,hi,hz]
    · cases h
  · cases h

theorem vop_index (hR : Rel n p0 F w0 S a w p ow) {g : Bool} {o : Oper} {K : AV → Prop} {t : TypeId} {x ix : Operand} (ho : o.op = .index t x ix) (h : vop P S g (.index t x ix) K) : ∃ v,K v ∧ (g = true → VOK P a w p o v) := by
  simp only [vop] at h
  obtain ⟨vi,h,hi⟩ := evK_sound hR h
  split at h
  · rename_i vi k i
    obtain ⟨vx,h,hx⟩ := evK_sound hR h
    split at h
    · rename_i s ht
      obtain ⟨hb,h⟩ := h
      refine ⟨_,h,fun hg => ⟨_,.im _ rfl,fun w' _ => ?_⟩⟩
      obtain ⟨h0,h1⟩ := hb hg
      have hlt : i.toNat < s.size := by omega
      have e1 : s[i.toNat]? = some s[i.toNat] := by simp [hlt]
      simp only [execOp,ho,RdS_im (hi hg),RdS_im (hx hg),Instr.index,asIntOf,Sem.run_bind,Sem.run_pure,Result.andThen_ok,run_underlying ht,h0,if_true,e1,Option.getD_some]
    · rename_i len e cs ht
      split at h
      · rename_i s hs
        obtain ⟨hb,h⟩ := h
        by_cases hg : g = true
        · obtain ⟨vs,hu,hr⟩ := hx hg
          obtain ⟨v,hv,hok⟩ := partK_sound (g := true) (fun _ => hr) h
          refine ⟨v,hv,fun hg => ?_⟩
          obtain ⟨u,h1,h2⟩ := hok rfl
          refine ⟨u,h1,fun w' _ => ?_⟩
          have hb' := hb hg
          simp only [execOp,ho,RdS_im (hi hg),hu,Instr.index,asIntOf,Sem.run_bind,Sem.run_pure,Result.andThen_ok,run_underlying ht,hb',and_self,if_true,run_szOf hs,h2 w']
        · obtain ⟨v,hv,_⟩ := partK_sound (w := w) (p := p) (g := g) (vs := #[]) (fun h => absurd h hg) h
          exact ⟨v,hv,fun h => absurd h hg⟩
      · exact h.elim
    · exact h.elim
  · exact h.elim

theorem vop_field (hR : Rel n p0 F w0 S a w p ow) {g : Bool} {o : Oper} {K : AV → Prop} {t f : Nat} {x : Operand} (ho : o.op = .field t x f) (h : vop P S g (.field t x f) K) : ∃ v,K v ∧ (g = true → VOK P a w p o v) := by
  simp only [vop] at h
  obtain ⟨vx,h,hx⟩ := evK_sound hR h
  split at h
  · rename_i fs ht
    split at h
    · rename_i fd hf
      split at h
      · rename_i cs
        by_cases hg : g = true
        · obtain ⟨vs,hu,hr⟩ := hx hg
          obtain ⟨v,hv,hok⟩ := partK_sound (g := true) (fun _ => hr) h
          refine ⟨v,hv,fun hg => ?_⟩
          obtain ⟨u,h1,h2⟩ := hok rfl
          refine ⟨u,h1,fun w' _ => ?_⟩
          simp only [execOp,ho,hu,Instr.field,asAgg,Sem.run_bind,Sem.run_pure,Result.andThen_ok,run_underlying ht,hf,h2 w']
        · obtain ⟨v,hv,_⟩ := partK_sound (w := w) (p := p) (g := g) (vs := #[]) (fun h => absurd h hg) h
          exact ⟨v,hv,fun h => absurd h hg⟩
      · exact h.elim
    · exact h.elim
  · exact h.elim

theorem zAgg_ok {t : TypeId} {zs : List AC} (h : zAgg P t = some zs) : ∃ vs,(∀ w' : World,(zeroValue t).run P w' = .ok (.agg vs) w') ∧ ∀ (w : World) (p : Nat → Prop),RdL w p vs.toList zs := by
  unfold zAgg at h
  split at h
  · rename_i i hi
    split at h
    · rename_i vs hz
      exact ⟨vs,fun w' => by simp [zeroValue,typeInfo,hi,hz],fun w p => constACs_ok w p h⟩
    · cases h
  · cases h

theorem vop_call (hR : Rel n p0 F w0 S a w p ow) {g : Bool} {o : Oper} {K : AV → Prop} {cl : Call} (ho : o.op = .call cl) (h : callK P S g cl K) : ∃ v,K v ∧ (g = true → VOK P a w p o v) := by
  unfold callK at h
  split at h
  · -- len
    rename_i x t hc ha ht0
    obtain ⟨vx,h1,hx⟩ := evK_sound hR h
    clear h
    split at h1
    · rename_i s
      obtain ⟨ht,hK⟩ := h1
      refine ⟨_,hK,fun hg => ⟨_,.im _ rfl,fun w' _ => exec_len ho hc ha ht0 a.eval w' ?_⟩⟩
      rw [RdS_im (hx hg)]
      simp [Builtin.len_,run_underlying ht,goInt]
    · obtain ⟨⟨e,ht⟩,hK⟩ := h1
      refine ⟨_,hK,fun hg => ⟨_,.im _ rfl,fun w' _ => exec_len ho hc ha ht0 a.eval w' ?_⟩⟩
      rw [RdS_nil (hx hg)]
      exact run_len_slice ht _ _ _ _ _
    · rename_i sz es
      obtain ⟨⟨e,ht⟩,hK⟩ := h1
      refine ⟨_,hK,fun hg => ⟨_,.im _ rfl,fun w' _ => exec_len ho hc ha ht0 a.eval w' ?_⟩⟩
      obtain ⟨x0,cap,hu,_⟩ := rdC_sl_len (show RdC w p _ (.sl sz es) from hx hg)
      rw [hu]
      exact run_len_slice ht _ _ _ _ _
    · obtain ⟨⟨e,ht⟩,hK⟩ := h1
      refine ⟨_,hK,fun hg => ⟨_,.im _ rfl,fun w' _ => exec_len ho hc ha ht0 a.eval w' ?_⟩⟩
      obtain ⟨x0,cap,hu,_⟩ := RdS_ref (hx hg)
      rw [hu]
      exact run_len_slice ht _ _ _ _ _
    · exact h1.elim
  · -- max
    rename_i x y ts hc ha
    obtain ⟨vx,h1,hx⟩ := evK_sound hR h
    clear h
    split at h1
    · obtain ⟨vy,h2,hy⟩ := evK_sound hR h1
      clear h1
      split at h2
      · exact ⟨_,h2,fun hg => ⟨_,.im _ rfl,fun w' _ => exec_max ho hc ha a.eval w' (RdS_im (hx hg)) (RdS_im (hy hg))⟩⟩
      · exact h2.elim
    · exact h1.elim
  · -- min
    rename_i x y ts hc ha
    obtain ⟨vx,h1,hx⟩ := evK_sound hR h
    clear h
    split at h1
    · obtain ⟨vy,h2,hy⟩ := evK_sound hR h1
      clear h1
      split at h2
      · exact ⟨_,h2,fun hg => ⟨_,.im _ rfl,fun w' _ => exec_min ho hc ha a.eval w' (RdS_im (hx hg)) (RdS_im (hy hg))⟩⟩
      · exact h2.elim
    · exact h1.elim
  · exact h.elim

theorem vop_sound (hR : Rel n p0 F w0 S a w p ow) {g : Bool} {o : Oper} {K : AV → Prop} (h : vop P S g o.op K) : ∃ v,K v ∧ (g = true → VOK P a w p o v) := by
  generalize ho : o.op = op at h
  unfold vop at h
  split at h
  · -- move
    obtain ⟨v,hv,hx⟩ := evK_sound hR h
    exact ⟨v,hv,fun hg => ⟨_,hx hg,fun w' _ => by simp [execOp,ho]⟩⟩
  · -- assign
    obtain ⟨v,hv,hx⟩ := evK_sound hR h
    exact ⟨v,hv,fun hg => ⟨_,hx hg,fun w' _ => by simp [execOp,ho]⟩⟩
  · -- pick
    obtain ⟨vc,h1,hc⟩ := evK_sound hR h
    clear h
    split at h1
    · rename_i b
      obtain ⟨vx,h2,hx⟩ := evK_sound hR h1
      clear h1
      split at h2
      · rename_i pp
        obtain ⟨vy,h3,hy⟩ := evK_sound hR h2
        clear h2
        split at h3
        · rename_i q
          refine ⟨_,h3,fun hg => ⟨_,.im _ rfl,fun w' _ => ?_⟩⟩
          have ec := RdS_im (hc hg)
          cases b with
          | true =>
            have ex := RdS_im (hx (by simp [hg]))
            simp [execOp,ho,ec,ex,asBool]
          | false =>
            have ey := RdS_im (hy (by simp [hg]))
            simp [execOp,ho,ec,ey,asBool]
        · exact h3.elim
      · exact h2.elim
    · exact h1.elim
  · -- binOp
    obtain ⟨vx,h1,hx⟩ := evK_sound hR h
    obtain ⟨vy,h2,hy⟩ := evK_sound hR h1
    obtain ⟨v,hv,hok⟩ := binK_sound hx hy h2
    refine ⟨v,hv,fun hg => ?_⟩
    obtain ⟨u,hu,hr⟩ := hok hg
    refine ⟨u,hu,fun w' _ => ?_⟩
    have := hr w'
    simp only [execOp,ho]
    rw [Sem.run_bind,this]
    simp
  · -- unOp
    obtain ⟨vx,h1,hx⟩ := evK_sound hR h
    obtain ⟨v,hv,hok⟩ := unK_sound (P := P) hx h1
    refine ⟨v,hv,fun hg => ?_⟩
    obtain ⟨u,hu,hr⟩ := hok hg
    exact ⟨u,hu,fun w' _ => by simp [execOp,ho,hr w']⟩
  · -- convert
    obtain ⟨vx,h1,hx⟩ := evK_sound hR h
    obtain ⟨v,hv,hok⟩ := convK_sound (P := P) hR hx h1
    refine ⟨v,hv,fun hg => ?_⟩
    obtain ⟨u,hu,hr⟩ := hok hg
    exact ⟨u,hu,fun w' hw' => by simp [execOp,ho,hr w' (hw' (by rw [ho];rfl))]⟩
  · exact vop_load hR ho (by simp only [vop];exact h)
  · exact vop_fieldAddr hR ho (by simp only [vop];exact h)
  · exact vop_field hR ho (by simp only [vop];exact h)
  · exact vop_indexAddr hR ho (by simp only [vop];exact h)
  · exact vop_index hR ho (by simp only [vop];exact h)
  · -- extract
    rename_i x k
    obtain ⟨vx,h1,hx⟩ := evK_sound hR h
    clear h
    split at h1
    · rename_i vs
      have go : ∀ (c : TC),vs[k]? = some c → g = true → ∃ u,RdT w p u c ∧ ∀ w',(execOp a.eval o).run P w' = .ok (.value u) w' := by
        intro c hc hg
        obtain ⟨us,hu,hr⟩ := hx hg
        obtain ⟨u,hu2,hr2⟩ := hr.get _ _ hc
        refine ⟨u,hr2,fun w' => ?_⟩
        have : us[k]? = some u := by simpa using hu2
        simp [execOp,ho,hu,Instr.extract,this]
      split at h1
      · rename_i c hc
        refine ⟨_,h1,fun hg => ?_⟩
        obtain ⟨u,h2,h3⟩ := go _ hc hg
        exact ⟨u,h2,fun w' _ => h3 w'⟩
      · rename_i cs hc
        refine ⟨_,h1,fun hg => ?_⟩
        obtain ⟨u,h2,h3⟩ := go _ hc hg
        exact ⟨u,h2,fun w' _ => h3 w'⟩
      · exact h1.elim
    · exact h1.elim
  · -- nilCheck
    obtain ⟨vx,h1,hx⟩ := evK_sound hR h
    clear h
    split at h1
    · refine ⟨_,h1,fun hg => ⟨_,hx hg,fun w' _ => ?_⟩⟩
      simp [execOp,ho,RdS_ptr (hx hg)]
    · refine ⟨_,h1,fun hg => ⟨_,hx hg,fun w' _ => ?_⟩⟩
      obtain ⟨a0,cap,_,h2⟩ := rdC_adr (hx hg)
      simp [execOp,ho,h2]
    · refine ⟨_,h1,fun hg => ⟨_,hx hg,fun w' _ => ?_⟩⟩
      have h' : RdC w p (a.eval _) (.fn _ _) := hx hg
      generalize hu : a.eval _ = u at h'
      cases h'
      simp [execOp,ho,hu]
    · refine ⟨_,h1,fun hg => ⟨_,hx hg,fun w' _ => ?_⟩⟩
      have h' : RdC w p (a.eval _) (.ifc _ _) := hx hg
      generalize hu : a.eval _ = u at h'
      cases h'
      simp [execOp,ho,hu]
    · refine ⟨_,h1,fun hg => ⟨_,hx hg,fun w' _ => ?_⟩⟩
      have h' : RdC w p (a.eval _) (.ifa _ _) := hx hg
      generalize hu : a.eval _ = u at h'
      cases h'
      simp [execOp,ho,hu]
    · obtain ⟨hn,h1⟩ := h1
      refine ⟨_,h1,fun hg => ⟨_,hx hg,fun w' _ => ?_⟩⟩
      have h' : RdC w p (a.eval _) (.mfn _ _) := hx hg
      generalize hu : a.eval _ = u at h'
      cases h'
      simp [execOp,ho,hu,hn _ w']
    · exact h1.elim
  · exact vop_slice hR ho (by simp only [vop];exact h)
  · -- makeFunc
    rename_i fn first captured
    split at h
    · rename_i f hf
      obtain ⟨cs,h1,hr⟩ := capsK_sound hR _ h
      refine ⟨_,h1,fun hg => ?_⟩
      have hl := hr hg
      refine ⟨.func (.func f) #[] (captured.toList.map a.eval).toArray,RdC.fn f cs _ hl.length fun i u c hu hc => ?_,fun w' _ => ?_⟩
      · obtain ⟨v,hv,hr⟩ := hl.get i c hc
        rw [hv] at hu
        simp at hu;subst hu;exact hr
      · have e1 : (captured.map a.eval) = (captured.toList.map a.eval).toArray := by rw [← Array.toList_map,Array.toArray_toList]
        simp [execOp,ho,Instr.makeFunc,toList_nil hf,e1]
    · rename_i name x hf
      obtain ⟨v,h1,hx⟩ := evK_sound hR h
      split at h1
      · rename_i t cs
        refine ⟨_,h1,fun hg => ?_⟩
        have h' : RdC w p (a.eval x) (.ifa t cs) := hx hg
        generalize hu : a.eval x = u at h'
        cases h' with
        | ifa _ _ us hl hr =>
          refine ⟨_,RdC.mfn t name us.toArray (captured.map a.eval),fun w' _ => ?_⟩
          have e1 : first = #[x] := toList_one hf
          simp [execOp,ho,Instr.makeFunc,e1,hu]
      · exact h1.elim
    · exact h.elim
  · -- makeInterface
    rename_i t x
    obtain ⟨vx,h1,hx⟩ := evK_sound hR h
    clear h
    split at h1
    · exact h1.elim
    · rename_i d hd ht
      have run : ∀ u w',a.eval x = u → (execOp a.eval o).run P w' = .ok (.value (.iface t u)) w' := by
        intro u w' hu
        have : (Instr.makeInterface t u).run P w' = .ok (.iface t u) w' := by
          unfold Instr.makeInterface
          simp only [Sem.run_bind,run_underlying ht,Result.andThen_ok]
          rfl
        simp [execOp,ho,hu,this]
      split at h1
      · exact ⟨_,h1,fun hg => ⟨_,RdC.ifc t _ _ (hx hg),fun w' _ => run _ w' rfl⟩⟩
      · refine ⟨_,h1,fun hg => ?_⟩
        obtain ⟨vs,hu,hr⟩ := hx hg
        refine ⟨_,RdC.ifa t _ vs.toList hr.length fun i u c hu hc => ?_,fun w' _ => run _ w' (by rw [hu])⟩
        obtain ⟨v,hv,hr'⟩ := hr.get i c hc
        rw [hv] at hu
        simp at hu;subst hu;exact hr'
      · exact h1.elim
    · exact h1.elim
  · -- typeAssert
    rename_i x xt t
    obtain ⟨vx,h1,hx⟩ := evK_sound hR h
    clear h
    split at h1
    · exact h1.elim
    · rename_i d zs hd ht hi
      split at h1
      · rename_i t' cs
        obtain ⟨zv,hz1,hz2⟩ := zAgg_ok hi
        have form : g = true → ∃ vs : List Value,a.eval x = .iface t' (.agg vs.toArray) ∧ RdL w p vs cs := by
          intro hg
          have h' : RdC w p (a.eval x) (.ifa t' cs) := hx hg
          generalize a.eval x = u at h'
          cases h' with
          | ifa _ _ us hl hr => exact ⟨us,rfl,RdL.of_get hl fun j v c hv hc => hr j v c hv hc⟩
        have run : ∀ v w',a.eval x = .iface t' v → (execOp a.eval o).run P w' = .ok (.value (if t' = t then .tuple #[v,.bool true] else .tuple #[.agg zv,.bool false])) w' := by
          intro v w' hu
          have : (Instr.typeAssert (.iface t' v) xt t true).run P w' = .ok (if t' = t then .tuple #[v,.bool true] else .tuple #[.agg zv,.bool false]) w' := by
            unfold Instr.typeAssert
            simp only [Sem.run_bind,run_underlying ht,Result.andThen_ok]
            split
            · simp
            · simp [hz1 w']
          simp [execOp,ho,hu,this]
        split at h1
        · rename_i htt
          refine ⟨_,h1,fun hg => ?_⟩
          obtain ⟨vs,hu,hr⟩ := form hg
          refine ⟨_,⟨#[.agg vs.toArray,.bool true],rfl,.cons ⟨_,rfl,by simpa using hr⟩ (.cons (.im _ rfl) .nil)⟩,fun w' _ => ?_⟩
          rw [run _ w' hu,if_pos htt]
        · rename_i htt
          refine ⟨_,h1,fun hg => ?_⟩
          obtain ⟨vs,hu,hr⟩ := form hg
          refine ⟨_,⟨#[.agg zv,.bool false],rfl,.cons ⟨_,rfl,hz2 w p⟩ (.cons (.im _ rfl) .nil)⟩,fun w' _ => ?_⟩
          rw [run _ w' hu,if_neg htt]
      · exact h1.elim
    · exact h1.elim
  · -- lookup
    rename_i t x ix
    obtain ⟨vi,h,hi⟩ := evK_sound hR h
    split at h
    · rename_i s
      obtain ⟨vx,h,hx⟩ := evK_sound hR h
      split at h
      · rename_i gg k
        split at h
        · rename_i kt et k' l ht hm
          obtain ⟨rfl,hkt,het,h⟩ := h
          refine ⟨_,h,fun hg => ⟨_,⟨#[.int .i64 ((mFind l s).getD 0),.bool (mFind l s).isSome],rfl,.cons (.im _ rfl) (.cons (.im _ rfl) .nil)⟩,fun w' hw' => ?_⟩⟩
          obtain ⟨⟨es,cl,h1,h2⟩,_⟩ := hR.get hm
          have hv : a.eval x = .map (some k') := by
            have h' : RdC w p (a.eval x) (.mref gg k') := hx hg
            generalize a.eval x = u at h'
            cases h';rfl
          have h3 : w'.heap[k']? = some (.map es cl) := by rw [hw' (by rw [ho];rfl) k' (Array.getElem?_eq_some_iff.1 h1).1];exact h1
          simp only [execOp,ho,hv,RdS_im (hi hg),Sem.run_bind,run_lookup_str ht hkt (zInt_run het) s w' h3 h2,Result.andThen_ok,Sem.run_pure]
        · exact h.elim
      · exact h.elim
    · exact h.elim
  · exact vop_call hR ho h
  · exact h.elim

end
end Go.Hs
