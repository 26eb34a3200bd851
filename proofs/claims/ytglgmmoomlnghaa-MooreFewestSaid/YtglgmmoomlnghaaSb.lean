/-
  strings.Builder: WriteByte, String; what a builder holds.
-/
import Derived.Test.YtglgmmoomlnghaaHty
import Derived.Test.YtglgmmoomlnghaaHs18
import Derived.Lib.Builder
import Derived.Lib.UnsafeStr
import Derived.Laws.Externs
set_option linter.unusedSimpArgs false
namespace Go.Proofs.Ytglgmmoomlnghaa
open Go Go.Hs
def L89 (r : Nat) : Option (List Nat) := kl r [(0,[0,1]),(1,[0,1]),(2,[]),(3,[4])]
def O89 (r : Nat) : List Nat × OT := ordl r []
open Go.RowKit

theorem sbSize : (Try.prog.info? 137).map (·.size) = some 2 := by kernel_rfl
theorem sbLies : liesAt Try.prog Try.prog.depth 137 (2 / Try.prog.cellsOf 137) 0 137 1 = true := by kernel_rfl

set_option maxHeartbeats 1000000 in
set_option maxRecDepth 100000 in
theorem copyCheck_fresh_w (b : Nat) (w : World) (h0 : w.cell? ⟨b,0,none⟩ = some (.pointer none)) (hsh : w.shape? b = some (137,2)) (hfz : w.frozen? ⟨b,0,none⟩ = false) :
    Calls Try.prog 91 #[.pointer (some ⟨b,0,none⟩)] w fun e w' => e = .returned (.tuple #[]) ∧ w' = w.setCell ⟨b,0,none⟩ (.pointer (some ⟨b,0,none⟩)) := by
  obtain ⟨j,hj,hjs⟩ := Option.map_eq_some_iff.1 sbSize
  go_enter Try.func91,Try.ntmps91
  go_wp2
  rw [Lib.run_to_unsafe w ⟨b,0,none⟩ Try.underlying135 Try.underlying150 hj (by rw [hjs];decide) hsh (Nat.zero_lt_succ 1)]
  simp only [Result.andThen]
  rw [Oper.upon_value]
  go_wp2
  rw [run_callFunc_extern Try.func92 (by kernel_rfl) (by kernel_rfl) (by kernel_rfl) (e := Extern.AbiNoEscape.same) (by kernel_rfl)]
  rw [Lib.run_noEscape]
  simp only [Result.andThen]
  rw [Oper.upon_value]
  go_wp2
  rw [Lib.run_from_unsafe w ⟨b,0,none⟩ Try.underlying150 Try.underlying135 hj hsh sbLies]
  simp only [Result.andThen]
  rw [Oper.upon_value]
  go_wp2
  go_end0
  exact ⟨rfl,rfl⟩

set_option maxHeartbeats 1000000 in
set_option maxRecDepth 100000 in
theorem copyCheck_used_w (b : Nat) (w : World) (h0 : w.cell? ⟨b,0,none⟩ = some (.pointer (some ⟨b,0,none⟩))) :
    Calls Try.prog 91 #[.pointer (some ⟨b,0,none⟩)] w fun e w' => e = .returned (.tuple #[]) ∧ w' = w := by
  obtain ⟨j,hj,_⟩ := Option.map_eq_some_iff.1 sbSize
  go_enter Try.func91,Try.ntmps91
  go_wp2
  rw [Lib.run_neq_ptr_same w _ Try.underlying135 hj]
  go_wp2
  go_end0
  exact ⟨rfl,rfl⟩

set_option maxHeartbeats 2000000 in
set_option maxRecDepth 100000 in
/-- String of a builder whose buffer lies in block g: its bytes there are frozen, nothing else turns. -/
theorem String_some_w (b g cap : Nat) (l : List UInt8) (p : Value) (cur : Array Value) (w : World) (hb : w.heap[b]? = some (.cells #[p,.slice (some ⟨g,0,none⟩) l.length cap] 137 (0,0)))
    (hg : w.heap[g]? = some (.cells cur 5 (0,0))) (hnc : l.length ≤ cap) (hcm : cap ≤ maxLen) (hcs : cur.size = cap) (htake : ∀ (j : Nat) (x : UInt8),l[j]? = some x → cur[j]? = some (Value.int .u8 x.toNat)) (h0 : l ≠ []) :
    Calls Try.prog 83 #[.pointer (some ⟨b,0,none⟩)] w fun e w' => e = .returned (.string ⟨l.toArray⟩) ∧ w' = w.drew.freeze ⟨g,0,none⟩ l.length := by
  have hl0 : l.length ≠ 0 := by simpa using h0
  have c1 : w.drew.cell? ⟨b,1,none⟩ = some (.slice (some ⟨g,0,none⟩) l.length cap) := by
    have : w.drew.heap[b]? = some (.cells #[p,.slice (some ⟨g,0,none⟩) l.length cap] 137 (0,0)) := hb
    rw [Lib.cell_of_heap this];rfl
  have hSD : (Builtin.unsafeSliceData_ #[37] 148 #[.slice (some ⟨g,0,none⟩) l.length cap]).run Try.prog w.drew = .ok (.pointer (some ⟨g,0,none⟩)) w.drew :=
    Lib.run_unsafeSliceData_row _ _ _ _ _ _ (by omega)
  have hUS : (Builtin.unsafeString_ #[148,3] 9 #[.pointer (some ⟨g,0,none⟩),.int .i64 l.length]).run Try.prog w.drew = .ok (.string ⟨l.toArray⟩) (w.drew.freeze ⟨g,0,none⟩ l.length) := by
    have hg' : w.drew.heap[g]? = some (.cells cur 5 (0,0)) := hg
    refine Lib.run_unsafeString_row w.drew 148 3 9 5 Try.underlying148 (by kernel_rfl) g cur.size (by simp [World.shape?,hg']) l h0 (by omega) (by unfold maxLen at hcm;omega) ?_
    intro j x hx
    have e : (⟨g,0,none⟩ : Addr).add j = ⟨g,j,none⟩ := by simp [Addr.add];omega
    rw [e,Lib.cell_of_heap hg']
    exact htake j x hx
  go_enter Try.func83,Try.ntmps83
  go_wp2
  go_region
  all_goals (go_wp2;go_ret;exact ⟨rfl,rfl⟩)

set_option maxHeartbeats 2000000 in
set_option maxRecDepth 100000 in
theorem String_nil_w (b : Nat) (p : Value) (w : World) (hb : w.heap[b]? = some (.cells #[p,.slice none 0 0] 137 (0,0))) :
    Calls Try.prog 83 #[.pointer (some ⟨b,0,none⟩)] w fun e w' => e = .returned (.string .empty) ∧ w' = w.drew := by
  have hUS := Lib.run_unsafeString_none (P := Try.prog) w.drew 148 3 9 none
  have c1 : w.drew.cell? ⟨b,1,none⟩ = some (.slice none 0 0) := by
    have : w.drew.heap[b]? = some (.cells #[p,.slice none 0 0] 137 (0,0)) := hb
    rw [Lib.cell_of_heap this];rfl
  have hSD : (Builtin.unsafeSliceData_ #[37] 148 #[.slice none 0 0]).run Try.prog w.drew = .ok (.pointer none) w.drew := rfl
  go_enter Try.func83,Try.ntmps83
  go_wp2
  go_region
  all_goals (go_wp2;go_ret;exact ⟨rfl,rfl⟩)

theorem ptr_val {w : World} {p : Nat → Prop} {u : Value} {g k sz : Nat} (h : RdS w p u (.c (.ptr g [] k sz 0 0))) : u = .pointer (some ⟨k,0,none⟩) := by
  have := RdS_ptr h
  simpa using this

/-- A variable of two cells that is handed over: where it lies. -/
theorem box2 {w : World} {p : Nat → Prop} {ow : Nat → List Nat} {k T : Nat} {c d : AC} (hO : Owns [(5000,AV.box k T [c,d])] w p ow) :
    ∃ v0 v1 O0 O1,w.heap[k]? = some (.cells #[v0,v1] T (0,0)) ∧ RdO w p [v0] [c] O0 ∧ RdO w p [v1] [d] O1 ∧ ow 5000 = k :: (O0 ++ O1) ∧ (ow 5000).Nodup ∧ ∀ b ∈ ow 5000,b < w.heap.size ∧ ¬ p b := by
  have hm : (5000,AV.box k T [c,d]) ∈ [(5000,AV.box k T [c,d])] := List.mem_singleton.2 rfl
  obtain ⟨xs,O',⟨_,cur,c1,c2,c3,c4,c5⟩,h2,h3,h4⟩ := ((hO.vals 5000 _ hm).2 undef : RdOb w p ⟨some (k,1),T,2,[[c,d]]⟩ (ow 5000))
  obtain ⟨v0,v1,rfl⟩ : ∃ v0 v1,cur = #[v0,v1] := by
    have h2 : cur.size = 2 := by simpa using c4
    refine ⟨cur[0],cur[1],?_⟩
    apply Array.ext (by simp [h2])
    intro i h3 h4
    simp at h4
    match i,h4 with
    | 0,_ => rfl
    | 1,_ => rfl
  have hxs : xs = [v0,v1] := by rw [← c5];rfl
  subst hxs
  obtain ⟨O0,O1,e,k1,k2⟩ := h3.split 1
  refine ⟨v0,v1,O0,O1,c1,by simpa using k1,by simpa using k2,?_,hO.nod _ _ hm,hO.fresh _ _ hm⟩
  rw [h4,e];rfl

theorem box2_mk {w : World} {p : Nat → Prop} {ow : Nat → List Nat} {k T : Nat} {c d : AC} {v0 v1 : Value} {O0 O1 : List Nat} (h1 : w.heap[k]? = some (.cells #[v0,v1] T (0,0))) (h2 : RdO w p [v0] [c] O0) (h3 : RdO w p [v1] [d] O1) (h4 : ow 5000 = k :: (O0 ++ O1)) (h5 : (ow 5000).Nodup) (h6 : ∀ b ∈ ow 5000,b < w.heap.size ∧ ¬ p b) :
    Owns [(5000,AV.box k T [c,d])] w p ow := by
  refine ⟨?_,?_,?_,?_⟩
  · intro g v hm
    simp at hm
    obtain ⟨rfl,rfl⟩ := hm
    refine ⟨rfl,fun u => ?_⟩
    refine ⟨[v0,v1],O0 ++ O1,⟨rfl,#[v0,v1],h1,Nat.le_refl _,by decide,rfl,rfl⟩,by simp,?_,h4⟩
    exact h2.append h3
  · intro d d' v v' b h1 h2 hne
    simp at h1 h2
    omega
  · intro d v hm
    simp at hm
    obtain ⟨rfl,rfl⟩ := hm
    exact h5
  · intro d v hm
    simp at hm
    obtain ⟨rfl,rfl⟩ := hm
    exact h6

theorem copyCheck_ok (k : Nat) (c d : AC) (hc : c = .im (.pointer none) ∨ c = .ptr 5000 [] k 2 0 0) :
    ContractH Try.prog 91 [.c (.ptr 5000 [] k 2 0 0)] [(5000,.box k 137 [c,d])] (fun r H => r = .tup [] ∧ H = [(5000,.box k 137 [.ptr 5000 [] k 2 0 0,d])]) := by
  refine ⟨⟨Try.f91,Try.func91,by first|rfl|decide,by first|rfl|kernel_rfl⟩,?_⟩
  intro w p vs ow hp ha hO
  cases ha with
  | cons ha t =>
    cases t
    have hv := ptr_val ha
    subst hv
    obtain ⟨v0,v1,O0,O1,h1,h2,h3,h4,h5,h6⟩ := box2 hO
    have hkl : k < w.heap.size := (Array.getElem?_eq_some_iff.1 h1).1
    have hpk : ∀ (w : World),RdO w p [Value.pointer (some ⟨k,0,none⟩)] [.ptr 5000 [] k 2 0 0] [] := fun w => .per (by have := RdC.ptr (w := w) (p := p) 5000 [] k 2 0 0;simpa using this) .nil
    rcases hc with rfl|rfl
    · obtain ⟨hc,rfl⟩ := h2.one rfl
      have e0 : v0 = .pointer none := by cases hc;rfl
      subst e0
      refine (copyCheck_fresh_w k w (by rw [Lib.cell_of_heap h1];rfl) (by simp [World.shape?,h1]) (Lib.frozen_of_heap h1 0)).mono ?_
      rintro e w' ⟨rfl,rfl⟩
      rw [List.nil_append] at h4
      have hnk : k ∉ O1 := by rw [h4] at h5;exact (List.nodup_cons.1 h5).1
      have hoth : ∀ b,b ≠ k → (w.setCell ⟨k,0,none⟩ (.pointer (some ⟨k,0,none⟩))).heap[b]? = w.heap[b]? := by
        intro b hb
        simp only [World.setCell,Array.getElem?_modify]
        rw [if_neg (fun e => hb e.symm)]
      have hsz : (w.setCell ⟨k,0,none⟩ (.pointer (some ⟨k,0,none⟩))).heap.size = w.heap.size := by simp [World.setCell]
      have hnew : (w.setCell ⟨k,0,none⟩ (.pointer (some ⟨k,0,none⟩))).heap[k]? = some (.cells #[.pointer (some ⟨k,0,none⟩),v1] 137 (0,0)) := by
        simp only [World.setCell,Array.getElem?_modify,h1]
        simp
      have hkp : KeepsOn p w (w.setCell ⟨k,0,none⟩ (.pointer (some ⟨k,0,none⟩))) := fun b hb => hoth b (fun e => (h6 k (by rw [h4];simp)).2 (e ▸ hb))
      refine ⟨_,p,.tup [],[(5000,.box k 137 [.ptr 5000 [] k 2 0 0,d])],ow,[],⟨rfl,rfl⟩,rfl,rfl,?_,fun _ h => h,fun b hb => ⟨by rw [hsz];exact hp b hb,.inl hb⟩,⟨#[],rfl,.nil⟩,?_,.nil,by simp,?_⟩
      · refine ⟨rfl,rfl,rfl,by rw [hsz];exact Nat.le_refl _,fun b _ hF => hoth b fun e => hF ⟨5000,_,List.mem_singleton.2 rfl,by rw [h4,e];simp⟩⟩
      · exact box2_mk hnew (hpk _) (h3.mono (fun _ h => h) hkp fun b hb => hoth b fun e => hnk (e ▸ hb)) h4 h5 (fun b hb => by rw [hsz];exact h6 b hb)
      · rintro b ⟨g,v,hm,hb⟩
        simp at hm
        obtain ⟨rfl,rfl⟩ := hm
        exact .inl ⟨5000,_,List.mem_singleton.2 rfl,hb⟩
    · obtain ⟨hc,rfl⟩ := h2.one rfl
      have e0 : v0 = .pointer (some ⟨k,0,none⟩) := by
        have := RdS_ptr (u := v0) (p := p) (w := w) hc
        simpa using this
      subst e0
      refine (copyCheck_used_w k w (by rw [Lib.cell_of_heap h1];rfl)).mono ?_
      rintro e w' ⟨rfl,rfl⟩
      refine ⟨_,p,.tup [],[(5000,.box k 137 [.ptr 5000 [] k 2 0 0,d])],ow,[],⟨rfl,rfl⟩,rfl,rfl,Chg.refl _ _,fun _ h => h,fun b hb => ⟨hp b hb,.inl hb⟩,⟨#[],rfl,.nil⟩,hO,.nil,by simp,?_⟩
      rintro b ⟨g,v,hm,hb⟩
      exact .inl ⟨g,v,hm,hb⟩

theorem bytesS_data : ∀ (l : List Int),(bytesS l).data.toList = l.map fun n => UInt8.ofNat n.toNat := by
  intro l
  have key : ∀ (l : List Int) (r : ByteArray),(l.foldl (fun r n => r.push (UInt8.ofNat n.toNat)) r).data.toList = r.data.toList ++ l.map fun n => UInt8.ofNat n.toNat := by
    intro l
    induction l with
    | nil => intro r;simp
    | cons x l ih => intro r;rw [List.foldl_cons,ih];simp [ByteArray.push]
  have := key l ByteArray.empty
  simpa [bytesS] using this
theorem bytesS_mk (l : List Int) : (⟨(l.map fun n => UInt8.ofNat n.toNat).toArray⟩ : ByteArray) = bytesS l := by
  have h := bytesS_data l
  generalize bytesS l = x at h
  obtain ⟨d⟩ := x
  simp only at h
  rw [← h]

theorem String_ok (k : Nat) (c : AC) (b : Blk) (l : List Int) (hl : ∀ n ∈ l,0 ≤ n ∧ n ≤ 255) (hb : l = [] → b = none) (hcp : c.per = true) :
    ContractH Try.prog 83 [.c (.ptr 5000 [] k 2 0 0)] [(5000,.box k 137 [c,.own b 5 1 (kRows .u8 l)])] (fun r H => r = .c (.im (.string (bytesS l))) ∧ H = [(5000,.box k 137 [c,.dead])]) := by
  refine ⟨⟨Try.f83,Try.func83,by first|rfl|decide,by first|rfl|kernel_rfl⟩,?_⟩
  intro w p vs ow hp ha hO
  cases ha with
  | cons ha t =>
    cases t
    have hv := ptr_val ha
    subst hv
    obtain ⟨v0,v1,O0,O1,h1,h2,h3,h4,h5,h6⟩ := box2 hO
    obtain ⟨hc0,rfl⟩ := h2.one hcp
    rw [List.nil_append] at h4
    have hnk : k ∉ O1 := by rw [h4] at h5;exact (List.nodup_cons.1 h5).1
    have hmk : k ∈ ow 5000 := by rw [h4];simp
    -- behind it the buffer is nobody's
    have fin : ∀ (w' : World) (s : ByteArray),s = bytesS l → Chg (InH [(5000,.box k 137 [c,.own b 5 1 (kRows .u8 l)])] ow) w w' → w'.heap[k]? = w.heap[k]? →
        ∃ v p' r H' ow' O,(r = AV.c (.im (.string (bytesS l))) ∧ H' = [(5000,AV.box k 137 [c,.dead])]) ∧ Env.keys H' = Env.keys [(5000,AV.box k 137 [c,.own b 5 1 (kRows .u8 l)])] ∧ Ending.returned (.string s) = .returned v ∧ Chg (InH [(5000,.box k 137 [c,.own b 5 1 (kRows .u8 l)])] ow) w w' ∧ (∀ b,p b → p' b) ∧
          (∀ b',p' b' → b' < w'.heap.size ∧ (p b' ∨ InH [(5000,.box k 137 [c,.own b 5 1 (kRows .u8 l)])] ow b' ∨ w.heap.size ≤ b')) ∧ RdR w' p' v O r ∧ Owns H' w' p' ow' ∧ O.Nodup ∧
          (∀ b' ∈ O,b' < w'.heap.size ∧ ¬ p' b' ∧ (InH [(5000,.box k 137 [c,.own b 5 1 (kRows .u8 l)])] ow b' ∨ w.heap.size ≤ b') ∧ ¬ InH H' ow' b') ∧ (∀ b',InH H' ow' b' → InH [(5000,.box k 137 [c,.own b 5 1 (kRows .u8 l)])] ow b' ∨ w.heap.size ≤ b') := by
      intro w' s hs hch hk
      subst hs
      have hkp : KeepsOn p w w' := fun b hb => hch.block b (hp b hb) (by
        rintro ⟨g,v,hm,hb'⟩
        simp at hm
        obtain ⟨rfl,_⟩ := hm
        exact (h6 b hb').2 hb)
      refine ⟨_,p,_,[(5000,AV.box k 137 [c,.dead])],fun _ => [k],[],⟨rfl,rfl⟩,rfl,rfl,hch,fun _ h => h,fun b hb => ⟨Nat.lt_of_lt_of_le (hp b hb) hch.size,.inl hb⟩,RdO.per (.im _ rfl) .nil,?_,.nil,by simp,?_⟩
      · refine box2_mk (O0 := []) (O1 := []) (by rw [hk];exact h1) (.per (hc0.mono (fun _ h => h) hkp) .nil) (.per (.dead _ (h3.oneCell _ (by simp))) .nil) rfl (by simp) ?_
        intro b hb
        simp at hb;subst hb
        exact ⟨Nat.lt_of_lt_of_le (h6 b hmk).1 hch.size,(h6 b hmk).2⟩
      · rintro b' ⟨g,v,hm,hb'⟩
        simp at hb';subst hb'
        exact .inl ⟨5000,_,List.mem_singleton.2 rfl,hmk⟩
    generalize hk : kRows .u8 l = rows at h3
    cases h3 with
    | per h t => cases h
    | own ho hs hr t =>
      rename_i xs O2 O3
      cases t
      subst hk
      have hlen : (kRows .u8 l).length = l.length := length_kRows
      obtain ⟨hrl,rfl⟩ := hr.toL (by simp [kRows,AC.per])
      have hxs := rdL_ints hrl
      cases b with
      | none =>
        have h0 : l.length = 0 := by have := ho.2;simp only [hlen] at this;exact this
        have hl0 : l = [] := List.eq_nil_of_length_eq_zero h0
        refine (String_nil_w k v0 w h1).mono ?_
        rintro e w' ⟨rfl,rfl⟩
        exact fin _ _ (by rw [hl0];rfl) ⟨rfl,rfl,rfl,Nat.le_refl _,fun _ _ _ => rfl⟩ rfl
      | some gc =>
        obtain ⟨g,cap⟩ := gc
        have hne : l ≠ [] := fun h => by have := hb h;cases this
        obtain ⟨_,cur,c1,c2,c3,c4,c5⟩ := ho
        rw [hlen] at c2 c5
        have hln : (l.map fun n => UInt8.ofNat n.toNat).length = l.length := by simp
        have h1' : w.heap[k]? = some (.cells #[v0,.slice (some ⟨g,0,none⟩) (l.map fun n => UInt8.ofNat n.toNat).length cap] 137 (0,0)) := by rw [hln];rw [h1];simp [sliceV,hlen]
        refine (String_some_w k g cap (l.map fun n => UInt8.ofNat n.toNat) v0 cur w h1' c1 (by rw [hln];exact c2) c3 (by simpa using c4) ?_ (by simpa using hne)).mono ?_
        · intro j x hx
          have hj : j < l.length := by have := (List.getElem?_eq_some_iff.1 hx).1;simpa using this
          have e1 : xs[j]? = some (.int .u8 l[j]) := by rw [hxs];simp [hj]
          rw [← c5] at e1
          have e2 : cur[j]? = some (.int .u8 l[j]) := by
            rw [List.getElem?_take] at e1
            split at e1
            · simpa using e1
            · cases e1
          rw [e2]
          simp [hj] at hx
          subst hx
          have := hl l[j] (List.getElem_mem hj)
          have e3 : ((UInt8.ofNat l[j].toNat).toNat : Int) = l[j] := by
            rw [UInt8.toNat_ofNat']
            omega
          rw [e3]
        · rintro e w' ⟨rfl,rfl⟩
          have hgm : g ∈ ow 5000 := by rw [h4];simp [blks]
          have hgk : g ≠ k := fun e => hnk (by rw [← e];simp [blks])
          have hoth : ∀ b,b ≠ g → (w.drew.freeze ⟨g,0,none⟩ (l.map fun n => UInt8.ofNat n.toNat).length).heap[b]? = w.heap[b]? := by
            intro b hb
            unfold World.freeze
            split
            · rfl
            · simp only [Array.getElem?_modify]
              rw [if_neg (fun e => hb e.symm)]
              rfl
          refine fin _ _ (bytesS_mk l) ⟨?_,?_,?_,?_,fun b _ hF => hoth b fun e => hF ⟨5000,_,List.mem_singleton.2 rfl,e ▸ hgm⟩⟩ (hoth k (Ne.symm hgk))
          all_goals unfold World.freeze;split <;> first|rfl|exact Nat.le_refl _|(simp only [Array.size_modify];exact Nat.le_refl _)

theorem WriteByte_ok (k : Nat) (c : AC) (b : Blk) (l : List Int) (x : Int) (hc : c = .im (.pointer none) ∨ c = .ptr 5000 [] k 2 0 0) (hl : l.length ≤ 1000000000000) :
    ContractH Try.prog 89 [.c (.ptr 5000 [] k 2 0 0),.c (.im (.int .u8 x))] [(5000,.box k 137 [c,.own b 5 1 (kRows .u8 l)])] (fun r H => r = .c (.im .nilIface) ∧ ∃ b2 : Nat × Nat,H = [(5000,.box k 137 [.ptr 5000 [] k 2 0 0,.own (some b2) 5 1 (kRows .u8 (l ++ [x]))])]) := by
  (refine contract_of_awp (L := L89) Try.func89 rfl (by kernel_rfl) (by first|rfl|decide) (by first|rfl|kernel_rfl) ?_;simp only [Try.ntmps89,initEnv,Env.keys,List.map_nil,List.map_cons,List.append_nil,List.cons_append,List.nil_append])
  (repeat (first|(with_reducible (first|refine Aq ?_|(refine Ar ?_;intro KR kR)|refine Ab ?_|refine As ?_|refine Ae ?_|refine Atq ?_|refine Al ?_|refine Ag ?_|(refine Ad O89 (by kernel_rfl) (by kernel_rfl) ?_;intro KR kR;simp only [O89,ordl,↓reduceIte,reduceCtorEq,Nat.reduceEqDiff])))|((with_reducible first|refine Oz ?_|refine Rv ?_|refine Rl ?_|refine Rg ?_|refine Re ?_|refine Nz ?_);intro K hK;simp (disch := omega) only [go_sem,↓reduceIte,reduceCtorEq,Int.reduceToNat,Nat.reduceEqDiff,Nat.reduceLT,Nat.reduceLeDiff,Nat.reduceMul,Nat.reduceAdd];(try ((with_reducible first|refine Gt ?_|refine Gv rfl ?_);simp (disch := omega) only [go_sem,↓reduceIte,reduceCtorEq,Int.reduceToNat,Nat.reduceEqDiff,Nat.reduceLT,Nat.reduceLeDiff,Nat.reduceMul,Nat.reduceAdd]));((repeat (first|(intro (xb : Blk))|(intro (xk : Nat))|(intro hx)|(refine ⟨by (first|omega|(intro hg;simp only [qF,reduceCtorEq] at hg;omega)|assumption|decide),?_⟩)));refine hK _ ?_;clear K hK))|((with_reducible first|refine Onq ?_|refine Rn ?_);simp only [go_sem,↓reduceIte,reduceCtorEq,Int.reduceToNat,Nat.reduceEqDiff,Nat.reduceLT,Nat.reduceLeDiff,Nat.reduceMul,Nat.reduceAdd,L89,O89];refine kR _ ?_;clear KR kR)|(simp only [thenE,inB,↓reduceIte,reduceCtorEq,Nat.reduceEqDiff])))
  ((with_reducible (first|refine Oz ?_|refine Rg ?_|refine Re ?_|refine Nz ?_));intro K hK;simp (disch := omega) only [go_sem,↓reduceIte,reduceCtorEq,Int.reduceToNat,Nat.reduceEqDiff,Nat.reduceLT,Nat.reduceLeDiff,Nat.reduceMul,Nat.reduceAdd];(try ((with_reducible refine Gt ?_);simp (disch := omega) only [go_sem,↓reduceIte,reduceCtorEq,Int.reduceToNat,Nat.reduceEqDiff,Nat.reduceLT,Nat.reduceLeDiff,Nat.reduceMul,Nat.reduceAdd]));refine ⟨[5000],by simp,by simp [Env.sel,Env.get,Env.keys,AV.isS],?_⟩;simp (disch := omega) only [go_sem,↓reduceIte,reduceCtorEq,Int.reduceToNat,Nat.reduceEqDiff,Nat.reduceLT,Nat.reduceLeDiff,Nat.reduceMul,Nat.reduceAdd];refine ⟨_,_,ContractH.n (copyCheck_ok k c _ hc),?_⟩;intro r H' hr hk;(try obtain rfl := keys_nil hk);(obtain ⟨rfl,rfl⟩ := hr);(try simp (disch := omega) only [AV.flat,AC.flat,AC.flat.flatL,AC.flat.flatLL,go_sem,↓reduceIte,reduceCtorEq,Int.reduceToNat,Nat.reduceEqDiff,Nat.reduceLT,Nat.reduceLeDiff,Nat.reduceMul,Nat.reduceAdd]);((repeat (first|(intro (xb : Blk))|(intro (xk : Nat))|(intro hx)|(refine ⟨by (first|omega|(intro hg;simp only [qF,reduceCtorEq] at hg;omega)|assumption|decide),?_⟩)));refine hK _ ?_;clear K hK))
  (repeat (first|(with_reducible (first|refine Aq ?_|(refine Ar ?_;intro KR kR)|refine Ab ?_|refine As ?_|refine Ae ?_|refine Atq ?_|refine Al ?_|refine Ag ?_|(refine Ad O89 (by kernel_rfl) (by kernel_rfl) ?_;intro KR kR;simp only [O89,ordl,↓reduceIte,reduceCtorEq,Nat.reduceEqDiff])))|((with_reducible first|refine Oz ?_|refine Rv ?_|refine Rl ?_|refine Rg ?_|refine Re ?_|refine Nz ?_);intro K hK;simp (disch := omega) only [go_sem,↓reduceIte,reduceCtorEq,Int.reduceToNat,Nat.reduceEqDiff,Nat.reduceLT,Nat.reduceLeDiff,Nat.reduceMul,Nat.reduceAdd];(try ((with_reducible first|refine Gt ?_|refine Gv rfl ?_);simp (disch := omega) only [go_sem,↓reduceIte,reduceCtorEq,Int.reduceToNat,Nat.reduceEqDiff,Nat.reduceLT,Nat.reduceLeDiff,Nat.reduceMul,Nat.reduceAdd]));((repeat (first|(intro (xb : Blk))|(intro (xk : Nat))|(intro hx)|(refine ⟨by (first|omega|(intro hg;simp only [qF,reduceCtorEq] at hg;omega)|assumption|decide),?_⟩)));refine hK _ ?_;clear K hK))|((with_reducible first|refine Onq ?_|refine Rn ?_);simp only [go_sem,↓reduceIte,reduceCtorEq,Int.reduceToNat,Nat.reduceEqDiff,Nat.reduceLT,Nat.reduceLeDiff,Nat.reduceMul,Nat.reduceAdd,L89,O89];refine kR _ ?_;clear KR kR)|(simp only [thenE,inB,↓reduceIte,reduceCtorEq,Nat.reduceEqDiff])))
  cases xb with
  | none => simp at hx
  | some b2 =>
    (simp only [retQ,Try.results89];simp (disch := omega) only [resK,resT,resAV,Env.sel,Env.keys,List.map_nil,List.map_cons,List.all_nil,List.all_cons,AV.isS,Bool.not_false,Bool.and_self,Option.map_some,List.length_cons,List.length_nil,Nat.zero_add,Nat.reduceAdd,not_false_eq_true,true_and,and_true,ne_eq,go_sem,↓reduceIte,reduceCtorEq,Int.reduceToNat,Nat.reduceEqDiff,Nat.reduceLT,Nat.reduceLeDiff,Nat.reduceMul,Nat.reduceAdd,ne_eq])
    exact ⟨b2,by rw [List.take_of_length_le (by simp)]⟩

end Go.Proofs.Ytglgmmoomlnghaa
