/-
  THE HEAP SEMANTICS, part 9: append, copy, maps, bytes of a string.
-/
import Derived.Test.YtglgmmoomlnghaaHs8
namespace Go.Hs
open Go Go.RowKit

theorem ownsRow_slice {w : World} {B ty sz nn : Nat} {u : Value} {xs : List Value} (h : w.ownsRow B ty sz u nn xs) : (u = .slice none 0 0 ∧ nn = 0) ∨ ∃ g cap,u = .slice (some ⟨g,0,none⟩) nn cap ∧ nn ≤ cap ∧ B ≤ g ∧ g < w.heap.size := by
  rcases h.2 with hn|⟨g,cap,cur,hv,hb,hg,hc,_⟩
  · exact .inl hn
  · exact .inr ⟨g,cap,hv,hc,hb,(Array.getElem?_eq_some_iff.1 hg).1⟩

section
variable {P : Program} {w : World} {p : Nat → Prop}

theorem run_append_none (t ty e : TypeId) (i : TypeInfo) (ht : P.underlying t = some (.slice e)) (hi : P.info? e = some i) {B size nn c : Nat} {v : Value} {xs : List Value} (hown : w.ownsRow B e size v nn xs) :
    (Builtin.append_ #[t,t] ty #[v,.slice none 0 c]).run P w = .ok v w := by
  rcases hown.2 with ⟨rfl,rfl⟩|⟨g,cap,cur,rfl,_,_,hnc,_⟩
  · simp [Builtin.append_,run_underlying ht,sizeOf,typeInfo,hi,Builtin.lenOf,Builtin.firstCells]
  · simp [Builtin.append_,run_underlying ht,sizeOf,typeInfo,hi,Builtin.lenOf,Builtin.firstCells,hnc,storeCells]

theorem run_append_mine (t ty e : TypeId) (i : TypeInfo) (z : Value) {B size bytes : Nat} (ht : P.underlying t = some (.slice e)) (hi : P.info? e = some i) (hz : i.zero = some z)
    (hsize : i.size = size) (hby : i.bytes = bytes) (hzs : z.cells.size = size) (hsz : 0 < size) {v : Value} {nn : Nat} {xs : List Value} (hown : w.ownsRow B e size v nn xs)
    (ad : Addr) (m c : Nat) (news : List Value) (hl : news.length = m * size) (hnews : ∀ j u,news[j]? = some u → w.cell? (ad.add j) = some u) (h1 : ∀ u ∈ news,u.oneCell' = true)
    (h63 : nn + m ≤ 4611686018427387904) (hbytes : (nn + m) * bytes ≤ 140737488355328) (hbase : B ≤ w.heap.size) :
    ∃ v' w',(Builtin.append_ #[t,t] ty #[v,.slice (some ad) m c]).run P w = .ok v' w' ∧ w'.ownsRow B e size v' (nn + m) (xs ++ news) ∧ w.grownBy w' v.ownBlock ∧
      (v' = .slice none 0 0 ↔ v = .slice none 0 0 ∧ m = 0) ∧ (∀ g,v'.ownBlock = some g → v.ownBlock = some g ∨ w.heap.size ≤ g) := by
  have h63' : nn + m ≤ maxLen := by unfold maxLen;omega
  obtain ⟨v',w',hr,ho,hg,hnil⟩ := run_append_own w B t ty e i z size bytes ht hi hz hsize hby hzs hsz v nn xs hown ad m c news hl hnews h1 h63' hbytes hbase
  refine ⟨v',w',hr,ho,hg,hnil,?_⟩
  intro g hgb
  rcases ownsRow_slice hown with ⟨hv,hn0⟩|⟨g0,cap,hv,hnc,_,_⟩
  · by_cases hm : m = 0
    · rw [hnil.2 ⟨hv,hm⟩] at hgb;simp [Value.ownBlock] at hgb
    · subst hv hn0
      have hr2 := run_append_nil (P := P) w t ty e i z ht hi hz ad m c news (by rw [hsize];exact hl) hnews (by omega) (by omega) (by rw [hby];simp only [Nat.zero_add] at hbytes;omega)
      rw [hr] at hr2
      simp only [Result.ok.injEq] at hr2
      rw [hr2.1] at hgb
      simp [Value.ownBlock] at hgb
      exact .inr (by omega)
  · subst hv
    by_cases hroom : nn + m ≤ cap
    · obtain ⟨w2,hr2,_⟩ := run_append_fits (P := P) w B t ty e i size ht hi hsize g0 nn cap xs hown ad m c news hl hnews h1 hroom
      rw [hr] at hr2
      simp only [Result.ok.injEq] at hr2
      rw [hr2.1] at hgb
      exact .inl hgb
    · have holds : ∀ j u,xs[j]? = some u → w.cell? ((⟨g0,0,none⟩ : Addr).add j) = some u := hown.cells (g := g0) rfl
      have hr2 := run_append_grow (P := P) w t ty e i z ht hi hz ⟨g0,0,none⟩ nn cap xs (by rw [hsize];exact hown.1) holds ad m c news (by rw [hsize];exact hl) hnews (by omega) (by omega) (growslice_fits (by omega) (by rw [hby];exact hbytes))
      rw [hr] at hr2
      simp only [Result.ok.injEq] at hr2
      rw [hr2.1] at hgb
      simp [Value.ownBlock] at hgb
      exact .inr (by omega)

theorem lies_flat {sz : Nat} : ∀ {es : List (List AC)} {a0 : Addr},Lies w p a0 sz es → es.all (fun e => e.all AC.per) = true → ∃ xs,RdL w p xs es.flatten ∧ ∀ j u,xs[j]? = some u → w.cell? (a0.add j) = some u
  | [],_,_,_ => ⟨[],.nil,by simp⟩
  | e :: es,a0,h,hp => by
    simp only [List.all_cons,Bool.and_eq_true] at hp
    have he : e.length = sz := h.1 e (by simp)
    have hcell : ∀ j,∃ u,j < sz → w.cell? (a0.add j) = some u ∧ ∀ c,e[j]? = some c → RdC w p u c := by
      intro j
      by_cases hj : j < sz
      · obtain ⟨u,hu,hr⟩ := h.2 0 e j _ (by simp) (List.getElem?_eq_getElem (by omega : j < e.length))
        rw [Nat.zero_mul,Nat.zero_add] at hu
        refine ⟨u,fun _ => ⟨hu,fun c hc => ?_⟩⟩
        have hcp : c.per = true := List.all_eq_true.1 hp.1 c (List.mem_of_getElem? hc)
        rw [List.getElem?_eq_getElem (by omega : j < e.length)] at hc
        have hce := Option.some.inj hc
        have := hr 0 [] 0 0
        rw [hce] at this
        rwa [ldC_per hcp] at this
      · exact ⟨undef,fun h => absurd h hj⟩
    let f : Nat → Value := fun j => (hcell j).choose
    have hf : ∀ j,j < sz → w.cell? (a0.add j) = some (f j) ∧ ∀ c,e[j]? = some c → RdC w p (f j) c := fun j hj => (hcell j).choose_spec hj
    have hrest : Lies w p (a0.add sz) sz es := by
      refine ⟨fun x hx => h.1 x (by simp [hx]),fun i e' j c hi hj => ?_⟩
      obtain ⟨u,hu,hr⟩ := h.2 (i + 1) e' j c (by simpa using hi) hj
      refine ⟨u,?_,hr⟩
      rw [addr_add_add,show sz + (i * sz + j) = (i + 1) * sz + j by rw [Nat.add_mul];omega]
      exact hu
    obtain ⟨xs,h1,h2⟩ := lies_flat hrest hp.2
    refine ⟨(List.range sz).map f ++ xs,?_,?_⟩
    · simp only [List.flatten_cons]
      refine RdL.append (RdL.of_get (by simp [he]) ?_) h1
      intro j v c hv hc
      simp only [List.getElem?_map,Option.map_eq_some_iff] at hv
      obtain ⟨j',hj',rfl⟩ := hv
      obtain ⟨hk1,hk2⟩ := List.getElem?_eq_some_iff.1 hj'
      simp at hk1 hk2;subst hk2
      exact (hf j hk1).2 c hc
    · intro j u hj
      by_cases hlt : j < sz
      · rw [List.getElem?_append_left (by simpa using hlt)] at hj
        simp [hlt] at hj
        subst hj
        exact (hf j hlt).1
      · rw [List.getElem?_append_right (by simp;omega)] at hj
        simp at hj
        have := h2 _ _ hj
        rw [addr_add_add] at this
        rw [show sz + (j - sz) = j by omega] at this
        exact this

theorem all_extract {es : List (List AC)} {lo hi : Nat} (h : es.all (fun e => e.all AC.per) = true) : (es.extract lo hi).all (fun e => e.all AC.per) = true := by
  rw [List.all_eq_true] at h ⊢
  intro x hx
  rw [List.extract_eq_take_drop] at hx
  exact h x (List.mem_of_mem_drop (List.mem_of_mem_take hx))

theorem all_per_ro {u : Value} {sz : Nat} {es : List (List AC)} (h : RdC w p u (.sl sz es)) : es.all (fun e => e.all AC.per) = true := by
  rw [List.all_eq_true]
  intro e he
  rw [List.all_eq_true]
  intro c hc
  cases h with
  | nilS => cases he
  | sl a0 nn cap _ _ us hn hcap hsz hp hcell hr =>
    obtain ⟨i,hi⟩ := List.getElem?_of_mem he
    obtain ⟨j,hj⟩ := List.getElem?_of_mem hc
    have := hr i e j c hi hj
    generalize us i j = v at this
    cases c <;> first|rfl|cases this
end

section
variable {P : Program} {n : Nat} {p0 F : Nat → Prop} {w0 : World} {S : Env} {a : Act} {w : World} {p : Nat → Prop} {ow : Nat → List Nat} {Q : Exit → Act → World → Prop}

/-- Elements behind an operand. -/
def Src (w : World) (p : Nat → Prop) (u : Value) (sz : Nat) (ys : List (List AC)) (O : List Nat) : Prop :=
  (∀ e ∈ ys,e.length = sz) ∧ ((ys = [] ∧ O = [] ∧ ∃ c,u = .slice none 0 c) ∨ ∃ ad c news,u = .slice (some ad) ys.length c ∧ RdO w p news ys.flatten O ∧ ∀ j x,news[j]? = some x → w.cell? (ad.add j) = some x)

theorem chunk_length {s : Nat} : ∀ {n : Nat} {l : List AC},(chunk s n l).length = n
  | 0,_ => rfl
  | n + 1,l => by rw [chunk,List.length_cons,chunk_length]
theorem chunk_mem {s : Nat} : ∀ {n : Nat} {l : List AC},n * s ≤ l.length → ∀ e ∈ chunk s n l,e.length = s
  | 0,_,_,e,he => by cases he
  | n + 1,l,h,e,he => by
    rw [Nat.succ_mul] at h
    rw [chunk] at he
    rcases List.mem_cons.1 he with rfl|he
    · rw [List.length_take];omega
    · exact chunk_mem (by rw [List.length_drop];omega) e he
theorem chunk_flatten {s : Nat} : ∀ {n : Nat} {l : List AC},(chunk s n l).flatten = l.take (n * s)
  | 0,l => by simp [chunk]
  | n + 1,l => by
    rw [chunk,List.flatten_cons,chunk_flatten,Nat.succ_mul,Nat.add_comm (n * s) s,List.take_add]
/-- What some cells of a row hold. -/
theorem view_cells {o : Ob} {O : List Nat} (h : RdOb w p o O) {i j m : Nat} (hi : i < o.es.length) (hj : j + m ≤ o.sz) (hper : (o.es.getD i []).all AC.per = true) :
    ∃ xs,RdL w p xs (((o.es.getD i []).drop j).take m) ∧ ∀ t x,xs[t]? = some x → w.cell? ((⟨blkNo o.b,i * o.sz + j,none⟩ : Addr).add t) = some x := by
  have hl := lies_ob h
  have he : o.es[i]? = some (o.es.getD i []) := by rw [List.getD_eq_getElem?_getD,List.getElem?_eq_getElem hi];rfl
  have hlen : (o.es.getD i []).length = o.sz := hl.1 _ (List.mem_of_getElem? he)
  generalize o.es.getD i [] = row at *
  have hcell : ∀ t,∃ u,t < m → w.cell? ((⟨blkNo o.b,0,none⟩ : Addr).add (i * o.sz + (j + t))) = some u ∧ ∀ c,row[j + t]? = some c → RdC w p u c := by
    intro t
    by_cases ht : t < m
    · obtain ⟨u,hu,hr⟩ := hl.2 i row (j + t) _ he (List.getElem?_eq_getElem (by omega : j + t < row.length))
      refine ⟨u,fun _ => ⟨hu,fun c hc => ?_⟩⟩
      rw [List.getElem?_eq_getElem (by omega : j + t < row.length),Option.some.injEq] at hc
      have hp : c.per = true := List.all_eq_true.1 hper c (by rw [← hc];exact List.getElem_mem _)
      have := hr 0 [] 0 0
      rw [hc,ldC_per hp] at this
      exact this
    · exact ⟨undef,fun h => absurd h ht⟩
  let U : Nat → Value := fun t => Classical.choose (hcell t)
  have hU : ∀ t,t < m → w.cell? ((⟨blkNo o.b,0,none⟩ : Addr).add (i * o.sz + (j + t))) = some (U t) ∧ ∀ c,row[j + t]? = some c → RdC w p (U t) c := fun t => Classical.choose_spec (hcell t)
  refine ⟨(List.range m).map U,RdL.of_get (by rw [List.length_map,List.length_range,List.length_take,List.length_drop];omega) ?_,?_⟩
  · intro t v c hv hc
    rw [List.getElem?_map] at hv
    rw [List.getElem?_take] at hc
    split at hc
    · rename_i htm
      rw [List.getElem?_drop] at hc
      rw [List.getElem?_range htm] at hv
      simp only [Option.map_some,Option.some.injEq] at hv
      subst hv
      exact (hU t htm).2 c hc
    · cases hc
  · intro t x hx
    rw [List.getElem?_map] at hx
    by_cases htm : t < m
    · rw [List.getElem?_range htm] at hx
      simp only [Option.map_some,Option.some.injEq] at hx
      subst hx
      have := (hU t htm).1
      rw [addr_add_off] at this ⊢
      rw [show i * o.sz + j + t = 0 + (i * o.sz + (j + t)) by omega]
      exact this
    · rw [List.getElem?_eq_none (by simpa using htm)] at hx
      cases hx

theorem srcK_sound (hR : Rel n p0 F w0 S a w p ow) {v : AV} {sz : Nat} {u : Value} {K : Env → List (List AC) → Prop} (hv : RdS w p u v) (h : srcK S v sz K) :
    ∃ S' ys O,K S' ys ∧ Rel n p0 F w0 S' a w p ow ∧ (∀ d v,(d,v) ∈ S' → (d,v) ∈ S) ∧ Free F w0 S' w p ow O ∧ Src w p u sz ys O ∧ (ys.all (fun e => e.all AC.per) = true → O = []) := by
  unfold srcK at h
  split at h
  · exact ⟨S,[],[],h,hR,fun _ _ h => h,Free.nil,⟨by simp,.inl ⟨rfl,rfl,0,RdS_nil hv⟩⟩,fun _ => rfl⟩
  · rename_i sz' es
    obtain ⟨rfl,hK⟩ := h
    have hr : RdC w p u (.sl sz' es) := hv
    refine ⟨S,es,[],hK,hR,fun _ _ h => h,Free.nil,⟨?_,?_⟩,fun _ => rfl⟩
    · cases hr with
      | nilS => simp
      | sl _ _ _ _ _ _ _ _ hsz => exact hsz
    · obtain ⟨x0,cap,hu,hcap⟩ := rdC_sl_len hr
      cases x0 with
      | none =>
        have h0 := rdC_none hr hu
        rw [h0] at hu
        exact .inl ⟨h0,rfl,_,hu⟩
      | some ad =>
        have hper := all_per_ro hr
        rw [hu] at hr
        obtain ⟨xs,h1,h2⟩ := lies_flat (lies_ro hr) hper
        exact .inr ⟨ad,cap,xs,hu,h1.o,h2⟩
  · rename_i g q b sz' lo m
    split at h
    · rename_i o ho
      obtain ⟨hb,hsz,rfl,hm,h⟩ := h
      obtain ⟨O,hO,hsub⟩ := hR.ob ho
      have hrow : ∀ e ∈ o.es,e.length = sz' := fun e he => by
        have h2 := (lies_ob hO).1 e he
        rw [hsz] at h2
        exact h2
      have hex : ∀ e ∈ o.es.extract lo (lo + m),e.length = sz' := by
        intro e he
        rw [List.extract_eq_take_drop] at he
        exact hrow e (List.mem_of_mem_drop (List.mem_of_mem_take he))
      have hlen : (o.es.extract lo (lo + m)).length = m := by simp [List.extract_eq_take_drop];omega
      split at h
      · rename_i hper
        refine ⟨S,_,[],h,hR,fun _ _ h => h,Free.nil,⟨hex,?_⟩,fun _ => rfl⟩
        rcases lies_ref hO hv hb hsz hm with ⟨e1,e2,x,cap,hu⟩|⟨a0,cap,hu,hc,_,_,hl⟩
        · cases x with
          | none => exact .inl ⟨e1,rfl,cap,hu⟩
          | some ad => exact .inr ⟨ad,cap,[],by rw [hlen,e2];exact hu,by rw [e1];exact .nil,by simp⟩
        · obtain ⟨xs,h1,h2⟩ := lies_flat hl (all_extract hper)
          exact .inr ⟨a0,cap,xs,by rw [hlen];exact hu,h1.o,h2⟩
      · rename_i hper
        obtain ⟨rfl,rfl,rfl,h⟩ := h
        obtain ⟨v0,o0,h1,h2,h3⟩ := obAt_ob ho
        simp only [desc,Option.some.injEq] at h3
        subst h3
        obtain ⟨xs,O',k1,k2,k3,e⟩ := (hR.get h1).ob h2
        have hF' := free_take hR (Free.nil (S := S)) h1
        rw [List.nil_append,e] at hF'
        refine ⟨_,_,O',h,rel_drop hR g,fun d v hd => (Env.mem_drop hd).1,hF'.sub (List.sublist_append_right _ _),⟨hrow,?_⟩,fun hp => by rw [hp] at hper;cases hper⟩
        have hv' : RdC w p u (.ref g [] b sz' 0 o0.es.length) := hv
        generalize hmm : o0.es.length = mm at hv'
        cases hv' with
        | refN =>
          have h0 : o0.es = [] := List.eq_nil_of_length_eq_zero hmm
          refine .inl ⟨h0,?_,0,rfl⟩
          rw [h0] at k3
          cases k3;rfl
        | ref _ _ k cap _ _ _ oo hoo hc =>
          have := hoo.2 rfl
          subst this
          refine .inr ⟨⟨k,0,none⟩,cap,xs,rfl,k3,fun j x hx => ?_⟩
          rw [addr_add_zero]
          have := k1.cell hx
          rw [hb] at this
          exact this
    · exact h.elim
  · rename_i g q k sz' i j s m
    split at h
    · rename_i o ho
      obtain ⟨hb,hsz,rfl,hi,hj,hper,hK⟩ := h
      obtain ⟨O,hO,hsub⟩ := hR.ob ho
      have hrl : (o.es.getD i []).length = sz' := by
        have := (lies_ob hO).1 (o.es.getD i []) (by rw [List.getD_eq_getElem?_getD,List.getElem?_eq_getElem hi];exact List.getElem_mem _)
        rw [this,hsz]
      have hbig : m * s ≤ ((o.es.getD i []).drop j).length := by rw [List.length_drop,hrl];omega
      have hr : RdC w p u (.view g q k sz' i j s m) := hv
      obtain ⟨xs,x1,x2⟩ := view_cells hO hi (by rw [hsz];exact hj) hper
      refine ⟨S,_,[],hK,hR,fun _ _ h => h,Free.nil,⟨chunk_mem hbig,?_⟩,fun _ => rfl⟩
      cases hr with
      | view _ _ _ _ _ _ _ _ cap hc =>
        refine .inr ⟨_,cap,xs,by rw [chunk_length],by rw [chunk_flatten];exact x1.o,fun t x hx => ?_⟩
        have := x2 t x hx
        rw [hb,hsz] at this
        exact this
    · exact h.elim
  · exact h.elim

/-- **BEHIND AN APPEND**: what was owned, or nothing, and what is put behind it, all taken out of the frame, are owned under g. -/
theorem append_core (hR : Rel n p0 F w0 S a w p ow) {OF : List Nat} (hF : Free F w0 S w p ow OF) {T ty e by' sz : Nat} {i : TypeInfo} {z : Value} (hu : P.underlying T = some (.slice e)) (g1 : P.info? e = some i) (g2 : i.zero = some z) (g3 : i.size = sz) (g4 : i.bytes = by') (g5 : z.cells.size = sz) (hpos : 0 < sz)
    {b : Blk} {xs : List Value} {es ys : List (List AC)} {O1 O2 : List Nat} {u : Value} (k1 : OR w b e sz es.length xs) (k2 : ∀ x,x ∈ es → x.length = sz) (k3 : RdO w p xs es.flatten O1) (hsrc : Src w p u sz ys O2)
    (hO : (blks b ++ O1 ++ O2).Nodup) (hsub : ∀ x ∈ blks b ++ O1 ++ O2,x ∈ OF) (h63 : es.length + ys.length ≤ 4611686018427387904) (hbytes : (es.length + ys.length) * by' ≤ 140737488355328) (g : Nat) :
    ∃ b2 w' ow',(Builtin.append_ #[T,T] ty #[sliceV b es.length,u]).run P w = .ok (sliceV b2 (es.length + ys.length)) w' ∧ b2.isNone = (b.isNone && ys.isEmpty) ∧ Rel n p0 F w0 (S.set g (.row b2 e sz (es ++ ys))) a w' p ow' := by
  have hfl : ∀ x ∈ blks b ++ O1 ++ O2,x < w.heap.size ∧ ¬ p x := fun x hx => let h := hF.fresh x (hsub x hx);⟨h.1,h.2.1⟩
  have key : ∀ (v' : Value) (w' : World) (news : List Value),RdO w p news ys.flatten O2 → w'.ownsRow 0 e sz v' (es.length + ys.length) (xs ++ news) → w.grownBy w' (sliceV b es.length).ownBlock → (v' = .slice none 0 0 ↔ sliceV b es.length = .slice none 0 0 ∧ ys.length = 0) →
      (∀ g,v'.ownBlock = some g → (sliceV b es.length).ownBlock = some g ∨ w.heap.size ≤ g) → (Builtin.append_ #[T,T] ty #[sliceV b es.length,u]).run P w = .ok v' w' →
      ∃ b2 w' ow',(Builtin.append_ #[T,T] ty #[sliceV b es.length,u]).run P w = .ok (sliceV b2 (es.length + ys.length)) w' ∧ b2.isNone = (b.isNone && ys.isEmpty) ∧ Rel n p0 F w0 (S.set g (.row b2 e sz (es ++ ys))) a w' p ow' := by
    intro v' w' news hnews hown hg hnil hblk hrun
    obtain ⟨b2,rfl,hOR,hb2⟩ := OR.of_row hown
    have hbk : (sliceV b es.length).ownBlock.toList = blks b := by cases b <;> rfl
    have hbk' : ∀ k,(sliceV b es.length).ownBlock = some k ↔ k ∈ blks b := by intro k;rw [← hbk];simp [eq_comm]
    have hb2' : ∀ k,k ∈ blks b2 → k ∈ blks b ∨ w.heap.size ≤ k := by
      intro k hk
      rw [hb2] at hk
      have : (sliceV b2 (es.length + ys.length)).ownBlock = some k := by simpa using hk
      rcases hblk k this with h|h
      · exact .inl ((hbk' k).1 h)
      · exact .inr h
    have hkeep : ∀ x,x < w.heap.size → x ∉ blks b → w'.heap[x]? = w.heap[x]? := fun x hx hn => hg.block x hx (fun h => hn ((hbk' x).1 h.symm))
    simp only [List.nodup_append] at hO
    have hk : KeepsOn p w w' := fun x hx => hkeep x (hR.plt x hx) (fun h => (hfl x (by simp [h])).2 hx)
    have hch : Chg (fun x => x ∈ OF) w w' := ⟨hg.os,hg.tape,hg.output,hg.size,fun x hx hn => hkeep x hx (fun h => hn (hsub x (by simp [h])))⟩
    have hrd : RdO w' p (xs ++ news) (es ++ ys).flatten (O1 ++ O2) := by
      rw [List.flatten_append]
      refine RdO.append (k3.mono (fun _ h => h) hk fun x hx => hkeep x (hfl x (by simp [hx])).1 ?_) (hnews.mono (fun _ h => h) hk fun x hx => hkeep x (hfl x (by simp [hx])).1 ?_)
      · intro h;exact hO.1.2.2 x h x hx rfl
      · intro h;exact hO.2.2 x (by simp [h]) x hx rfl
    have hlen : (es ++ ys).length = es.length + ys.length := by simp
    refine ⟨b2,w',updF ow g (blks b2 ++ (O1 ++ O2)),hrun,?_,rel_putF hR (hF.subS fun d v h => (Env.mem_drop h).1) (fun d v h => Env.mem_drop h) (hR.self g) hch ?_ ?_ ⟨xs ++ news,O1 ++ O2,by rw [hlen];exact hOR,?_,hrd,rfl⟩⟩
    · have h1 : b2.isNone = true ↔ b.isNone = true ∧ ys.length = 0 := by
        have e1 : ∀ (b : Blk) (m : Nat),(sliceV b m = .slice none 0 0) ↔ b.isNone = true := by intro b m;cases b <;> simp [sliceV]
        rw [← e1 b2 (es.length + ys.length),← e1 b es.length];exact hnil
      cases hh : b2.isNone with
      | true =>
        obtain ⟨h2,h3⟩ := h1.1 hh
        have : ys = [] := List.eq_nil_of_length_eq_zero h3
        simp [h2,this]
      | false =>
        cases hb : b.isNone with
        | false => rfl
        | true =>
          cases ys with
          | nil => have := h1.2 ⟨hb,rfl⟩;rw [hh] at this;cases this
          | cons => rfl
    · simp only [List.nodup_append]
      refine ⟨?_,⟨hO.1.2.1,hO.2.1,fun x hx y hy => hO.2.2 x (by simp [hx]) y hy⟩,?_⟩
      · cases b2 with
        | none => exact .nil
        | some x => simp [blks]
      · intro x hx y hy he
        subst he
        rcases hb2' x hx with h|h
        · rcases List.mem_append.1 hy with hy|hy
          · exact hO.1.2.2 x h x hy rfl
          · exact hO.2.2 x (by simp [h]) x hy rfl
        · have := (hfl x (by simp only [List.mem_append] at hy ⊢;rcases hy with h|h;exact .inl (.inr h);exact .inr h)).1
          omega
    · intro x hx
      have hlt : x < w'.heap.size := by
        rcases List.mem_append.1 hx with hx|hx
        · exact hOR.lt x hx
        · exact Nat.lt_of_lt_of_le (hfl x (by simp only [List.mem_append] at hx ⊢;rcases hx with h|h;exact .inl (.inr h);exact .inr h)).1 hg.size
      refine ⟨?_,hlt⟩
      rcases List.mem_append.1 hx with hx|hx
      · rcases hb2' x hx with h|h
        · exact .inl (hsub x (by simp [h]))
        · exact .inr h
      · exact .inl (hsub x (by simp only [List.mem_append] at hx ⊢;rcases hx with h|h;exact .inl (.inr h);exact .inr h))
    · intro x hx
      rcases List.mem_append.1 hx with h|h
      · exact k2 x h
      · exact hsrc.1 x h
  rcases hsrc.2 with ⟨rfl,rfl,c,rfl⟩|⟨ad,c,news,rfl,hnews,hcell⟩
  · refine key (sliceV b es.length) w [] .nil (by simpa using k1.row) ⟨rfl,rfl,rfl,Nat.le_refl _,fun _ _ _ => rfl⟩ (by simp) (fun g hg => .inl hg) (run_append_none (P := P) T ty e i hu g1 k1.row)
  · have hnl : news.length = ys.length * sz := by rw [hnews.length,flatten_length hsrc.1]
    obtain ⟨v',w',hr,ho',hg,hnil,hblk⟩ := run_append_mine (P := P) T ty e i z hu g1 g2 g3 g4 g5 hpos k1.row ad ys.length c news hnl hcell hnews.oneCell h63 hbytes (Nat.zero_le _)
    exact key v' w' news hnews ho' hg hnil hblk hr

theorem exec_append {o : Oper} {c : Call} {x y : Operand} {t1 t2 : TypeId} (ho : o.op = .call c) (hc : c.callee = .builtin .append) (ha : c.args.toList = [x,y]) (ht : c.argTypes.toList = [t1,t2]) (ρ : Operand → Value) {v : Value} {w' : World} (h : (Builtin.append_ #[t1,t2] o.type #[ρ x,ρ y]).run P w = .ok v w') :
    (execOp ρ o).run P w = .ok (.value v) w' := by
  simp [execOp,ho,resolve,invoke,builtin,hc,toList_two ha,toList_two ht,h]

theorem sliceV_ref {b : Blk} {sz m : Nat} {u : Value} {g : Nat} {q : List (Nat × Nat)} (hu : RdC w p u (.ref g q b sz 0 m)) : u = sliceV b m := by
  cases hu with
  | refN => rfl
  | ref _ _ k cap _ _ _ o ho hc => rw [ho.2 rfl];rfl

end
end Go.Hs
