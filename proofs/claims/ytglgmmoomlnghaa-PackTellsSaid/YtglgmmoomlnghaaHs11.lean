/-
  THE HEAP SEMANTICS, part 11: what is owned, lent to be read; many entries anew at once; contracts; calls.
-/
import Derived.Test.YtglgmmoomlnghaaHs10
namespace Go.Hs
open Go Go.RowKit

/-- What a cell's value reads as where it is only read. -/
def AC.frz : AC → AC
  | .own _ _ sz es => .sl sz (frzLL es)
  | c => c
where
  frzL : List AC → List AC
    | [] => []
    | c :: r => c.frz :: frzL r
  frzLL : List (List AC) → List (List AC)
    | [] => []
    | c :: r => frzL c :: frzLL r

abbrev frzL := AC.frz.frzL
abbrev frzLL := AC.frz.frzLL

theorem frzL_eq : ∀ (l : List AC),frzL l = l.map AC.frz
  | [] => rfl
  | c :: r => by show c.frz :: frzL r = _;rw [frzL_eq r];rfl

theorem frzLL_eq : ∀ (l : List (List AC)),frzLL l = l.map frzL
  | [] => rfl
  | c :: r => by show frzL c :: frzLL r = _;rw [frzLL_eq r];rfl

theorem frzL_flatten (es : List (List AC)) : (frzLL es).flatten = frzL es.flatten := by
  rw [frzLL_eq,frzL_eq,List.map_flatten]
  congr 1
  exact List.map_congr_left fun a _ => frzL_eq a

theorem frzLL_length (es : List (List AC)) : (frzLL es).length = es.length := by rw [frzLL_eq];simp
theorem frzL_length (es : List AC) : (frzL es).length = es.length := by rw [frzL_eq];simp

section
variable {w : World} {p : Nat → Prop}

theorem frz_row {p' : Nat → Prop} {b : Blk} {e sz : Nat} {es : List (List AC)} {xs : List Value} (ho : OR w b e sz es.length xs) (hs : ∀ x,x ∈ es → x.length = sz) (hr : RdL w p' xs (frzL es.flatten)) (hb : ∀ k ∈ blks b,p' k) : RdC w p' (sliceV b es.length) (.sl sz (frzLL es)) := by
  have hl := frzLL_length es
  have hrow : ∀ x,x ∈ frzLL es → x.length = sz := by
    intro x hx
    rw [frzLL_eq] at hx
    simp only [List.mem_map] at hx
    obtain ⟨y,hy,rfl⟩ := hx
    rw [frzL_length];exact hs y hy
  rw [← frzL_flatten] at hr
  cases hbb : b with
  | none =>
    rw [hbb] at ho
    have h0 : frzLL es = [] := List.eq_nil_of_length_eq_zero (by rw [hl];exact ho.2)
    rw [h0]
    exact .nilS sz 0
  | some x =>
    obtain ⟨k,cap⟩ := x
    have hcells := ho
    rw [hbb] at ho
    obtain ⟨hxl,cur,c1,c2,c3,c4,c5⟩ := ho
    let f : Nat → Nat → Value := fun i j => xs.getD (i * sz + j) undef
    have hf : ∀ i y j,(frzLL es)[i]? = some y → j < sz → xs[i * sz + j]? = some (f i j) ∧ ∀ c,y[j]? = some c → RdC w p' (f i j) c := by
      intro i y j hi hj
      have hyl := hrow y (List.mem_of_getElem? hi)
      have hc : (frzLL es).flatten[i * sz + j]? = some y[j] := by rw [flatten_get hrow i y j hi hj];exact List.getElem?_eq_getElem (by omega)
      obtain ⟨u,hu,hr'⟩ := hr.get _ _ hc
      have : f i j = u := by show xs.getD _ _ = u;rw [List.getD_eq_getElem?_getD,hu];rfl
      rw [this]
      exact ⟨hu,fun c hc' => by rw [List.getElem?_eq_getElem (by omega : j < y.length)] at hc';simp at hc';subst hc';exact hr'⟩
    show RdC w p' (.slice (some ⟨k,0,none⟩) es.length cap) _
    refine .sl ⟨k,0,none⟩ es.length cap sz (frzLL es) f hl.symm c2 hrow (fun _ => hb k (by rw [hbb];simp [blks])) ?_ ?_
    · intro i y j hi hj
      rw [addr_add_zero]
      have := hcells.cell (hf i y j hi hj).1
      rw [hbb] at this
      exact this
    · intro i y j c hi hc
      have hyl := hrow y (List.mem_of_getElem? hi)
      exact (hf i y j hi (by have := (List.getElem?_eq_some_iff.1 hc).1;omega)).2 c hc

theorem RdO.frz {p' : Nat → Prop} (hpp : ∀ b,p b → p' b) {vs : List Value} {cs : List AC} {O : List Nat} (h : RdO w p vs cs O) : (∀ b ∈ O,p' b) → RdL w p' vs (frzL cs) := by
  induction h with
  | nil => intro _;exact .nil
  | per h _ ih =>
    intro hO
    refine .cons ?_ (ih hO)
    have hm := h.mono hpp (KeepsOn.refl _ _)
    rename_i c _ _ _ _
    cases c <;> first|exact hm|cases h
  | own ho hs _ _ ih1 ih2 =>
    intro hO
    refine .cons ?_ (ih2 fun b hb => hO b (by simp [hb]))
    exact frz_row ho hs (ih1 fun b hb => hO b (by simp [hb])) fun k hk => hO k (by simp [hk])

/-- What is owned, only read. -/
theorem RdOb.frzRow {p' : Nat → Prop} (hpp : ∀ b,p b → p' b) {o : Ob} {O : List Nat} (h : RdOb w p o O) (hO : ∀ b ∈ O,p' b) : RdC w p' (sliceV o.b o.es.length) (.sl o.sz (frzLL o.es)) := by
  obtain ⟨xs,O',h1,h2,h3,rfl⟩ := h
  exact frz_row h1 h2 (h3.frz hpp fun b hb => hO b (by simp [hb])) fun k hk => hO k (by simp [hk])

theorem sliceV_extract {b : Blk} {sz N lo m : Nat} {es : List (List AC)} {u : Value} {g : Nat} {q : List (Nat × Nat)} (h : RdC w p (sliceV b N) (.sl sz es)) (hN : es.length = N) (hu : RdC w p u (.ref g q b sz lo m)) (hm : lo + m ≤ N) : RdC w p u (.sl sz (es.extract lo (lo + m))) := by
  cases hu with
  | refN =>
    have : es.extract 0 (0 + 0) = [] := by simp [List.extract_eq_take_drop]
    rw [this];exact .nilS sz 0
  | ref _ _ k cap _ _ _ o ho hc =>
    have hsl : RdC w p (.slice (some ⟨k,0,none⟩) N cap) (.sl sz es) := h
    rcases Nat.eq_zero_or_pos m with h0|h0
    · subst h0
      have : es.extract lo (lo + 0) = [] := by simp [List.extract_eq_take_drop]
      rw [this]
      exact .sl _ _ _ sz [] (fun _ _ => undef) rfl (by omega) (by simp) (by simp) (by simp) (by simp)
    · refine rdC_sl_extract hN.symm hsl (by omega) (by omega) ?_
      rw [if_neg (by omega),ho.1 (by omega)]
      have : lo + m - lo = m := by omega
      rw [this]
      simp [addr_add_zero]
end

def Env.keys (S : Env) : List Nat := S.map (·.1)

/-- These entries anew. -/
def Env.puts (S : Env) : Env → Env
  | [] => S
  | (g,v) :: r => (S.puts r).set g v

theorem Env.mem_puts {S : Env} : ∀ {H : Env} {d : Nat} {v : AV},(d,v) ∈ S.puts H → (d,v) ∈ H ∨ ((d,v) ∈ S ∧ d ∉ H.keys)
  | [],d,v,h => .inr ⟨h,by simp [Env.keys]⟩
  | (g,u) :: r,d,v,h => by
    simp only [Env.puts,Env.set] at h
    cases h with
    | head => exact .inl (by simp)
    | tail _ h =>
      obtain ⟨h1,h2⟩ := Env.mem_drop h
      rcases Env.mem_puts h1 with h|⟨h3,h4⟩
      · exact .inl (by simp [h])
      · exact .inr ⟨h3,by simp only [Env.keys,List.map_cons,List.mem_cons,not_or] at h4 ⊢;exact ⟨h2,h4⟩⟩

/-- What stands under names: whose it is. -/
structure Owns (H : Env) (w : World) (p : Nat → Prop) (ow : Nat → List Nat) : Prop where
  vals : ∀ g v,(g,v) ∈ H → v.isS = false ∧ ∀ u,RdV w p u (ow g) v
  sep : ∀ d d' v v' b,(d,v) ∈ H → (d',v') ∈ H → d ≠ d' → b ∈ ow d → b ∉ ow d'
  nod : ∀ d v,(d,v) ∈ H → (ow d).Nodup
  fresh : ∀ d v,(d,v) ∈ H → ∀ b ∈ ow d,b < w.heap.size ∧ ¬ p b

def InH (H : Env) (ow : Nat → List Nat) (b : Nat) : Prop := ∃ d v,(d,v) ∈ H ∧ b ∈ ow d

/-- What a function hands back reads as r; O: the blocks that it alone leads to. -/
def RdTO (w : World) (p : Nat → Prop) (u : Value) (O : List Nat) : TC → Prop
  | .c c => RdO w p [u] [c] O
  | .ag cs => ∃ vs,u = .agg vs ∧ RdO w p vs.toList cs O

inductive RdTOs (w : World) (p : Nat → Prop) : List Value → List TC → List Nat → Prop where
  | nil : RdTOs w p [] [] []
  | cons {v : Value} {c : TC} {vs : List Value} {cs : List TC} {O O' : List Nat} (h : RdTO w p v O c) (t : RdTOs w p vs cs O') : RdTOs w p (v :: vs) (c :: cs) (O ++ O')

def RdR (w : World) (p : Nat → Prop) (u : Value) (O : List Nat) : AV → Prop
  | .c c => RdO w p [u] [c] O
  | .agg cs => ∃ vs,u = .agg vs ∧ RdO w p vs.toList cs O
  | .tup vs => ∃ us,u = .tuple us ∧ RdTOs w p us.toList vs O
  | _ => False

inductive RdAs (w : World) (p : Nat → Prop) : List Value → List AV → Prop where
  | nil : RdAs w p [] []
  | cons {v : Value} {c : AV} {vs : List Value} {cs : List AV} (h : RdS w p v c) (t : RdAs w p vs cs) : RdAs w p (v :: vs) (c :: cs)

/-- **WHAT A FUNCTION IS GOOD FOR**: called with values that read as args, and with H handed over, it hands back some r, and H turned to H', such that R holds of them; nothing else that was there has turned. -/
structure ContractH (P : Program) (f : FuncId) (args : List AV) (H : Env) (R : AV → Env → Prop) : Prop where
  callable : ∃ fn, P.funcs[f]? = some fn ∧ (fn.name == "runtime.NumGoroutine") = false ∧ fn.body.isNone = false
  calls : ∀ (w : World) (p : Nat → Prop) (vs : List Value) (ow : Nat → List Nat),(∀ b,p b → b < w.heap.size) → RdAs w p vs args → Owns H w p ow → Calls P f vs.toArray w fun e w' =>
    ∃ v p' r H' ow' O,R r H' ∧ H'.keys = H.keys ∧ e = .returned v ∧ Chg (InH H ow) w w' ∧ (∀ b,p b → p' b) ∧ (∀ b,p' b → b < w'.heap.size ∧ (p b ∨ InH H ow b ∨ w.heap.size ≤ b)) ∧
      RdR w' p' v O r ∧ Owns H' w' p' ow' ∧ O.Nodup ∧ (∀ b ∈ O,b < w'.heap.size ∧ ¬ p' b ∧ (InH H ow b ∨ w.heap.size ≤ b) ∧ ¬ InH H' ow' b) ∧ (∀ b,InH H' ow' b → InH H ow b ∨ w.heap.size ≤ b)

/-- The same for a function that hands out objects of its own, under the names N. -/
structure ContractN (P : Program) (f : FuncId) (args : List AV) (H : Env) (N : List Nat) (R : AV → Env → Prop) : Prop where
  callable : ∃ fn, P.funcs[f]? = some fn ∧ (fn.name == "runtime.NumGoroutine") = false ∧ fn.body.isNone = false
  calls : ∀ (w : World) (p : Nat → Prop) (vs : List Value) (ow : Nat → List Nat),(∀ b,p b → b < w.heap.size) → RdAs w p vs args → Owns H w p ow → Calls P f vs.toArray w fun e w' =>
    ∃ v p' r H' ow' O,R r H' ∧ H'.keys = H.keys ++ N ∧ e = .returned v ∧ Chg (InH H ow) w w' ∧ (∀ b,p b → p' b) ∧ (∀ b,p' b → b < w'.heap.size ∧ (p b ∨ InH H ow b ∨ w.heap.size ≤ b)) ∧
      RdR w' p' v O r ∧ Owns H' w' p' ow' ∧ O.Nodup ∧ (∀ b ∈ O,b < w'.heap.size ∧ ¬ p' b ∧ (InH H ow b ∨ w.heap.size ≤ b) ∧ ¬ InH H' ow' b) ∧ (∀ b,InH H' ow' b → InH H ow b ∨ w.heap.size ≤ b)
theorem ContractH.n {P : Program} {f : FuncId} {args : List AV} {H : Env} {R : AV → Env → Prop} (h : ContractH P f args H R) : ContractN P f args H [] R :=
  ⟨h.callable,fun w p vs ow h1 h2 h3 => (h.calls w p vs ow h1 h2 h3).mono fun _ _ ⟨v,p',r,H',ow',O,a,b,c⟩ => ⟨v,p',r,H',ow',O,a,by rw [b,List.append_nil],c⟩⟩
theorem ContractN.h {P : Program} {f : FuncId} {args : List AV} {H : Env} {R : AV → Env → Prop} (h : ContractN P f args H [] R) : ContractH P f args H R :=
  ⟨h.callable,fun w p vs ow h1 h2 h3 => (h.calls w p vs ow h1 h2 h3).mono fun _ _ ⟨v,p',r,H',ow',O,a,b,c⟩ => ⟨v,p',r,H',ow',O,a,by rw [b,List.append_nil],c⟩⟩

abbrev ContractR (P : Program) (f : FuncId) (args : List AV) (R : AV → Prop) : Prop := ContractH P f args [] (fun r _ => R r)
abbrev Contract (P : Program) (f : FuncId) (args : List AV) (r : AV) : Prop := ContractR P f args (fun x => x = r)

section
variable {P : Program} {n : Nat} {p0 F : Nat → Prop} {w0 : World} {S : Env} {a : Act} {w : World} {p : Nat → Prop} {ow : Nat → List Nat} {Q : Exit → Act → World → Prop}

theorem RdAs.mono {w' : World} {p' : Nat → Prop} (hpp : ∀ b,p b → p' b) (hk : KeepsOn p w w') {vs : List Value} {cs : List AV} (h : RdAs w p vs cs) : RdAs w' p' vs cs := by
  induction h with
  | nil => exact .nil
  | cons h _ ih => exact .cons (h.mono hpp hk) ih

/-- **MANY ENTRIES ANEW**, out of what stood under these names. -/
theorem rel_puts (hR : Rel n p0 F w0 S a w p ow) {H' : Env} {ow' : Nat → List Nat} {w' : World} {p' : Nat → Prop} {gs : List Nat} (hgs : H'.keys = gs) (hO' : Owns H' w' p' ow')
    (hch : Chg (fun b => ∃ d v,(d,v) ∈ S ∧ d ∈ gs ∧ b ∈ ow d) w w') (hpp : ∀ b,p b → p' b) (hp' : ∀ b,p' b → b < w'.heap.size ∧ (p b ∨ (∃ d v,(d,v) ∈ S ∧ d ∈ gs ∧ b ∈ ow d) ∨ w.heap.size ≤ b))
    (hfrom : ∀ b,InH H' ow' b → (∃ d v,(d,v) ∈ S ∧ d ∈ gs ∧ b ∈ ow d) ∨ w.heap.size ≤ b) :
    Rel n p0 F w0 (S.puts H') a w' p' (fun d => if d ∈ gs then ow' d else ow d) := by
  have hsz := hR.chg.size
  have old : ∀ d v,(d,v) ∈ S → d ∉ gs → ∀ b ∈ ow d,w'.heap[b]? = w.heap[b]? ∧ ¬ p' b ∧ (¬ InH H' ow' b) := by
    intro d v hm hd b hb
    have h1 := hR.fresh _ _ hm b hb
    have hno : ¬ ∃ d v,(d,v) ∈ S ∧ d ∈ gs ∧ b ∈ ow d := by
      rintro ⟨d2,v2,hm2,hd2,hb2⟩
      exact hR.sep _ _ _ _ b hm hm2 (fun h => hd (h ▸ hd2)) hb hb2
    refine ⟨hch.block b h1.1 hno,fun h => ?_,fun h => ?_⟩
    · rcases (hp' b h).2 with h|h|h
      · exact h1.2.1 h
      · exact hno h
      · omega
    · rcases hfrom b h with h|h
      · exact hno h
      · omega
  have hk : KeepsOn p w w' := fun b hb => hch.block b (hR.plt b hb) (by rintro ⟨d,v,hm,_,hb'⟩;exact (hR.fresh _ _ hm b hb').2.1 hb)
  have hin : ∀ d v,(d,v) ∈ H' → d ∈ gs := fun d v hm => by rw [← hgs];exact List.mem_map.2 ⟨(d,v),hm,rfl⟩
  have cases2 : ∀ d v,(d,v) ∈ S.puts H' → ((d,v) ∈ H' ∧ d ∈ gs) ∨ ((d,v) ∈ S ∧ d ∉ gs) := by
    intro d v hm
    rcases Env.mem_puts hm with h|⟨h1,h2⟩
    · exact .inl ⟨h,hin d v h⟩
    · exact .inr ⟨h1,by rw [← hgs];exact h2⟩
  have frR : ∀ b,(∃ d v,(d,v) ∈ S ∧ d ∈ gs ∧ b ∈ ow d) → F b ∨ w0.heap.size ≤ b := by
    rintro b ⟨d,v,hm,_,hb⟩
    exact (hR.fresh _ _ hm b hb).2.2
  refine ⟨hR.defers,hR.size,hR.chg.trans' hch (fun b hb => frR b hb),fun b hb => (hp' b hb).1,?_,?_,?_,?_,?_⟩
  · intro b hb
    rcases (hp' b hb).2 with h|h|h
    · exact hR.pnew b h
    · exact .inr (frR b h)
    · exact .inr (.inr (by omega))
  · intro d v hm
    rcases cases2 d v hm with ⟨h1,h2⟩|⟨h1,h2⟩
    · rw [if_pos h2];exact (hO'.vals d v h1).2 _
    · rw [if_neg h2]
      exact (hR.vals _ _ h1).mono hpp hk fun b hb => (old d v h1 h2 b hb).1
  · intro d d' v v' b hm hm' hne hb
    rcases cases2 d v hm with ⟨h1,h2⟩|⟨h1,h2⟩
    · rw [if_pos h2] at hb
      rcases cases2 d' v' hm' with ⟨h3,h4⟩|⟨h3,h4⟩
      · rw [if_pos h4];exact hO'.sep _ _ _ _ b h1 h3 hne hb
      · rw [if_neg h4]
        intro hb'
        exact (old d' v' h3 h4 b hb').2.2 ⟨d,v,h1,hb⟩
    · rw [if_neg h2] at hb
      rcases cases2 d' v' hm' with ⟨h3,h4⟩|⟨h3,h4⟩
      · rw [if_pos h4]
        intro hb'
        exact (old d v h1 h2 b hb).2.2 ⟨d',v',h3,hb'⟩
      · rw [if_neg h4];exact hR.sep _ _ _ _ b h1 h3 hne hb
  · intro d v hm
    rcases cases2 d v hm with ⟨h1,h2⟩|⟨h1,h2⟩
    · rw [if_pos h2];exact hO'.nod d v h1
    · rw [if_neg h2];exact hR.nod d v h1
  · intro d v hm b hb
    rcases cases2 d v hm with ⟨h1,h2⟩|⟨h1,h2⟩
    · rw [if_pos h2] at hb
      have h3 := hO'.fresh d v h1 b hb
      refine ⟨h3.1,h3.2,?_⟩
      rcases hfrom b ⟨d,v,h1,hb⟩ with h|h
      · exact frR b h
      · exact .inr (by omega)
    · rw [if_neg h2] at hb
      have h3 := hR.fresh d v h1 b hb
      exact ⟨Nat.lt_of_lt_of_le h3.1 hch.size,(old d v h1 h2 b hb).2.1,h3.2.2⟩

/-! What is handed back, in the frame. -/

def openL : Env → Nat → List AC → (Env → List AC → Prop) → Prop
  | S,_,[],K => K S []
  | S,g,.own b e sz es :: r,K => openL (S.set g (.row b e sz es)) (g + 1) r fun S l => K S (.ref g [] b sz 0 es.length :: l)
  | S,g,c :: r,K => openL S (g + 1) r fun S l => K S (c :: l)

def openT : Env → Nat → List TC → (Env → List TC → Prop) → Prop
  | S,_,[],K => K S []
  | S,g,.c (.own b e sz es) :: r,K => openT (S.set g (.row b e sz es)) (g + 100) r fun S l => K S (.c (.ref g [] b sz 0 es.length) :: l)
  | S,g,.c c :: r,K => openT S (g + 100) r fun S l => K S (.c c :: l)
  | S,g,.ag cs :: r,K => openL S g cs fun S cs => openT S (g + 100) r fun S l => K S (.ag cs :: l)

/-- The name of what a call's result, part j, leads to. -/
def nmr (d : Nat) : Nat := 100000 + 1000 * d

def openR (S : Env) (d : Nat) (r : AV) (K : Env → Prop) : Prop :=
  match r with
  | .c (.own b e sz es) => K ((S.set (nm d) (.row b e sz es)).set d (.c (.ref (nm d) [] b sz 0 es.length)))
  | .c c => K (S.set d (.c c))
  | .agg cs => openL S (nmr d) cs fun S cs => K (S.set d (.agg cs))
  | .tup vs => openT S (nmr d) vs fun S vs => K (S.set d (.tup vs))
  | _ => False

theorem Free.put {g : Nat} {v : AV} {O1 O2 : List Nat} (h : Free F w0 S w p ow (O1 ++ O2)) : Free F w0 (S.set g v) w p (updF ow g O1) O2 := by
  have hn := h.nod
  rw [List.nodup_append] at hn
  refine ⟨hn.2.1,fun b hb => h.fresh b (by simp [hb]),?_⟩
  intro d v' hm b hb hb'
  cases hm with
  | head => simp only [updF,if_true] at hb;exact hn.2.2 b hb b hb' rfl
  | tail _ hm =>
    obtain ⟨h1,h2⟩ := Env.mem_drop hm
    simp only [updF,h2,if_false] at hb
    exact h.apart _ _ h1 b hb (by simp [hb'])

theorem rel_own (hR : Rel n p0 F w0 S a w p ow) {b : Blk} {e sz : Nat} {es : List (List AC)} {xs : List Value} {O1 O2 : List Nat} (ho : OR w b e sz es.length xs) (hs : ∀ x,x ∈ es → x.length = sz) (hr : RdO w p xs es.flatten O1)
    (hF : Free F w0 S w p ow (blks b ++ O1 ++ O2)) (g : Nat) : Rel n p0 F w0 (S.set g (.row b e sz es)) a w p (updF ow g (blks b ++ O1)) ∧ Free F w0 (S.set g (.row b e sz es)) w p (updF ow g (blks b ++ O1)) O2 := by
  have h1 := hF.sub (List.sublist_append_left (blks b ++ O1) O2)
  refine ⟨rel_putF hR (h1.subS fun d v h => (Env.mem_drop h).1) (fun d v h => Env.mem_drop h) (hR.self g) (Chg.refl _ _) h1.nod (fun x hx => ⟨.inl hx,(h1.fresh x hx).1⟩) ⟨xs,O1,ho,hs,hr,rfl⟩,hF.put⟩

theorem openL_sound : ∀ (cs : List AC) {S : Env} {ow : Nat → List Nat} {g : Nat} {us : List Value} {O O0 : List Nat} {K : Env → List AC → Prop},Rel n p0 F w0 S a w p ow → Free F w0 S w p ow (O ++ O0) → RdO w p us cs O → openL S g cs K →
    ∃ S' cs' ow',K S' cs' ∧ Rel n p0 F w0 S' a w p ow' ∧ Free F w0 S' w p ow' O0 ∧ RdL w p us cs'
  | [],S,ow,g,us,O,O0,K,hR,hF,hu,h => by
    cases hu
    exact ⟨S,[],ow,by simpa [openL] using h,hR,by simpa using hF,.nil⟩
  | c :: r,S,ow,g,us,O,O0,K,hR,hF,hu,h => by
    cases hu with
    | per h1 t =>
      have h' : openL S (g + 1) r fun S l => K S (c :: l) := by
        cases c <;> first|exact h|cases h1
      obtain ⟨S',cs',ow',h2,hR',hF',hr⟩ := openL_sound r hR hF t h'
      exact ⟨S',_,ow',h2,hR',hF',.cons h1 hr⟩
    | own ho hs h1 t =>
      rename_i b e sz es xs vs O1 O2
      simp only [openL] at h
      rw [List.append_assoc (blks b ++ O1)] at hF
      obtain ⟨hR1,hF1⟩ := rel_own hR ho hs h1 hF g
      obtain ⟨S',cs',ow',h2,hR',hF',hr⟩ := openL_sound r hR1 hF1 t h
      exact ⟨S',_,ow',h2,hR',hF',.cons (rdC_whole ho g []) hr⟩

theorem openT_sound : ∀ (cs : List TC) {S : Env} {ow : Nat → List Nat} {g : Nat} {us : List Value} {O O0 : List Nat} {K : Env → List TC → Prop},Rel n p0 F w0 S a w p ow → Free F w0 S w p ow (O ++ O0) → RdTOs w p us cs O → openT S g cs K →
    ∃ S' cs' ow',K S' cs' ∧ Rel n p0 F w0 S' a w p ow' ∧ Free F w0 S' w p ow' O0 ∧ RdTs w p us cs'
  | [],S,ow,g,us,O,O0,K,hR,hF,hu,h => by
    cases hu
    exact ⟨S,[],ow,by simpa [openT] using h,hR,by simpa using hF,.nil⟩
  | .ag cs :: r,S,ow,g,us,O,O0,K,hR,hF,hu,h => by
    cases hu with
    | cons h1 t =>
      rename_i u vs O1 O2
      simp only [openT] at h
      obtain ⟨ws,rfl,hr⟩ := h1
      rw [List.append_assoc] at hF
      obtain ⟨S1,cs',ow1,h2,hR1,hF1,hr1⟩ := openL_sound cs hR hF hr h
      obtain ⟨S',r',ow',h3,hR',hF',hr2⟩ := openT_sound r hR1 hF1 t h2
      exact ⟨S',_,ow',h3,hR',hF',.cons ⟨ws,rfl,hr1⟩ hr2⟩
  | .c c :: r,S,ow,g,us,O,O0,K,hR,hF,hu,h => by
    cases hu with
    | cons h1 t =>
      rename_i u vs O1 O2
      have hone : RdO w p [u] [c] O1 := h1
      clear h1
      rw [List.append_assoc] at hF
      cases hone with
      | per hc t1 =>
        cases t1
        have h' : openT S (g + 100) r fun S l => K S (.c c :: l) := by
          cases c <;> first|exact h|(exfalso;cases hc;done)
        obtain ⟨S',cs',ow',h2,hR',hF',hr⟩ := openT_sound r hR (by simpa using hF) t h'
        exact ⟨S',_,ow',h2,hR',hF',.cons hc hr⟩
      | own ho hs h1 t1 =>
        cases t1
        rename_i b e sz es xs O3
        simp only [openT] at h
        rw [List.append_nil] at hF
        obtain ⟨hR1,hF1⟩ := rel_own hR ho hs h1 hF g
        obtain ⟨S',cs',ow',h2,hR',hF',hr⟩ := openT_sound r hR1 hF1 t h
        exact ⟨S',_,ow',h2,hR',hF',.cons (show RdC w p _ _ from rdC_whole ho g []) hr⟩

theorem openR_sound (hR : Rel n p0 F w0 S a w p ow) {O : List Nat} (hF : Free F w0 S w p ow O) {d : Nat} (hd : d < n) {u : Value} {r : AV} (hr : RdR w p u O r) {K : Env → Prop} (h : openR S d r K) : ∃ S' ow',K S' ∧ Rel n p0 F w0 S' (a.put (some d) u) w p ow' := by
  unfold openR at h
  split at h
  · rename_i b e sz es
    have hr : RdO w p [u] [.own b e sz es] O := hr
    cases hr with
    | per h1 => cases h1
    | own ho hs h1 t =>
      cases t
      obtain ⟨hR1,_⟩ := rel_own hR ho hs h1 hF (nm d)
      exact ⟨_,_,h,rel_set hR1 hd (rdC_whole ho _ _)⟩
  · rename_i c hc
    have hr : RdO w p [u] [c] O := hr
    cases hr with
    | per h1 t => exact ⟨_,_,h,rel_set hR hd h1⟩
    | own => exact absurd rfl (hc _ _ _ _)
  · rename_i cs
    obtain ⟨vs,rfl,hr⟩ := hr
    obtain ⟨S',cs',ow',h1,hR',_,hl⟩ := openL_sound cs hR (O0 := []) (by simpa using hF) hr h
    exact ⟨_,_,h1,rel_set hR' hd ⟨vs,rfl,hl⟩⟩
  · rename_i cs
    obtain ⟨us,rfl,hr⟩ := hr
    obtain ⟨S',cs',ow',h1,hR',_,hl⟩ := openT_sound cs hR (O0 := []) (by simpa using hF) hr h
    exact ⟨_,_,h1,rel_set hR' hd ⟨us,rfl,hl⟩⟩
  · exact h.elim

/-! Arguments. -/

/-- Arguments: a slice of what is owned is lent, but of what is handed over. -/
theorem chunk_get {s : Nat} : ∀ {n t : Nat} {l : List AC},t < n → (chunk s n l)[t]? = some ((l.drop (t * s)).take s)
  | 0,t,l,h => by omega
  | n + 1,0,l,h => by rw [chunk];simp
  | n + 1,t + 1,l,h => by
    rw [chunk,List.getElem?_cons_succ,chunk_get (by omega),List.drop_drop]
    congr 2;rw [Nat.succ_mul];rw [Nat.add_comm]
theorem addrAdd {k o u : Nat} : (⟨k,o,none⟩ : Addr).add u = ⟨k,o + u,none⟩ := by
  unfold Addr.add
  split
  · rename_i h;rw [h];rfl
  · rfl
theorem RdC.chunkOf {w : World} {p : Nat → Prop} {k o n cap sz i j s m cap' : Nat} {es : List (List AC)} (h : RdC w p (.slice (some ⟨k,o,none⟩) n cap) (.sl sz es)) (hi : i < es.length) (hj : j + m * s ≤ sz) (hc : m ≤ cap') :
    RdC w p (.slice (some ⟨k,o + (i * sz + j),none⟩) m cap') (.sl s (chunk s m ((es.getD i []).drop j))) := by
  cases h with
  | sl _ _ _ _ _ us h0 h1 hsz hp hcl hr =>
    have hg : es[i]? = some (es.getD i []) := by rw [List.getD_eq_getElem?_getD,List.getElem?_eq_getElem hi];rfl
    have hl : (es.getD i []).length = sz := hsz _ (List.mem_of_getElem? hg)
    have hb : ∀ t x,t < m → x < s → j + t * s + x < sz := fun t x ht hx => by
      have : t * s + s ≤ m * s := by rw [← Nat.succ_mul];exact Nat.mul_le_mul_right s ht
      omega
    refine .sl ⟨k,o + (i * sz + j),none⟩ m cap' s _ (fun t x => us i (j + t * s + x)) (chunk_length).symm hc (chunk_mem (by rw [List.length_drop];omega)) (fun _ => hp (by intro e;rw [e] at hi;simp at hi)) (fun t e x ht hx => ?_) (fun t e x c ht hx => ?_)
    · have ht2 : t < m := by
        have := (List.getElem?_eq_some_iff.1 ht).1
        rwa [chunk_length] at this
      have := hcl i _ (j + t * s + x) hg (hb t x ht2 hx)
      rw [← this,addrAdd,addrAdd,show o + (i * sz + j) + (t * s + x) = o + (i * sz + (j + t * s + x)) by omega]
    · have ht2 : t < m := by
        have := (List.getElem?_eq_some_iff.1 ht).1
        rwa [chunk_length] at this
      rw [chunk_get ht2,Option.some.injEq] at ht
      subst ht
      rw [List.getElem?_take] at hx
      split at hx
      · rename_i hxs
        rw [List.getElem?_drop,List.getElem?_drop] at hx
        refine hr i _ (j + t * s + x) c hg ?_
        rw [← hx];congr 1;omega
      · cases hx

def argsK (S : Env) (gs : List Nat) (g : Bool) : List Operand → (List AV → Bool → Prop) → Prop
  | [],K => K [] false
  | x :: r,K => evK S g x fun
    | .c (.ref gg q b sz lo m) => match gs.elem gg with
      | true => argsK S gs g r fun l t => K (.c (.ref gg q b sz lo m) :: l) t
      | false => match obAt (S.get gg) q with
        | some o => o.b = b ∧ o.sz = sz ∧ (g = true → lo + m ≤ o.es.length) ∧ argsK S gs g r fun l _ => K (.c (.sl sz ((frzLL o.es).extract lo (lo + m))) :: l) true
        | none => False
    | .c (.view gg q k sz i j s m) => match gs.elem gg with
      | true => argsK S gs g r fun l t => K (.c (.view gg q k sz i j s m) :: l) t
      | false => match obAt (S.get gg) q with
        | some o => blkNo o.b = k ∧ o.b.isNone = false ∧ o.sz = sz ∧ i < o.es.length ∧ j + m * s ≤ sz ∧ argsK S gs g r fun l _ => K (.c (.sl s (chunk s m (((frzLL o.es).getD i []).drop j))) :: l) true
        | none => False
    | v => argsK S gs g r fun l t => K (v :: l) t

/-- All that may be read while a callee runs. -/
def lentP (S : Env) (gs : List Nat) (ow : Nat → List Nat) (p : Nat → Prop) : Nat → Prop := fun b => p b ∨ ∃ d v,(d,v) ∈ S ∧ d ∉ gs ∧ b ∈ ow d

theorem lent_lt (hR : Rel n p0 F w0 S a w p ow) {gs : List Nat} : ∀ b,lentP S gs ow p b → b < w.heap.size := by
  rintro b (h|⟨d,v,hm,_,hb⟩)
  · exact hR.plt b h
  · exact (hR.fresh _ _ hm b hb).1

theorem argsK_sound (hR : Rel n p0 F w0 S a w p ow) {gs : List Nat} {g : Bool} : ∀ (l : List Operand) {K : List AV → Bool → Prop},argsK S gs g l K →
    ∃ avs lent,K avs lent ∧ (g = true → RdAs w (lentP S gs ow p) (l.map a.eval) avs ∧ (lent = false → RdAs w p (l.map a.eval) avs))
  | [],K,h => ⟨[],false,h,fun _ => ⟨.nil,fun _ => .nil⟩⟩
  | x :: r,K,h => by
    unfold argsK at h
    obtain ⟨v,hv,hx⟩ := evK_sound hR h
    clear h
    have plain : (g = true → RdS w p (a.eval x) v) → (argsK S gs g r fun l t => K (v :: l) t) → ∃ avs lent,K avs lent ∧ (g = true → RdAs w (lentP S gs ow p) ((x :: r).map a.eval) avs ∧ (lent = false → RdAs w p ((x :: r).map a.eval) avs)) := by
      intro hx hv
      obtain ⟨avs,lent,h1,h2⟩ := argsK_sound hR r hv
      refine ⟨_,_,h1,fun hg => ⟨.cons ((hx hg).mono (fun _ h => .inl h) (KeepsOn.refl _ _)) (h2 hg).1,fun hl => .cons (hx hg) ((h2 hg).2 hl)⟩⟩
    split at hv
    · rename_i gg q b sz lo m
      split at hv
      · exact plain hx hv
      · rename_i hgs
        split at hv
        · rename_i o ho
          obtain ⟨hb,hsz,hm,hv⟩ := hv
          obtain ⟨avs,lent,h1,h2⟩ := argsK_sound hR r hv
          refine ⟨_,_,h1,fun hg => ⟨.cons ?_ (h2 hg).1,fun h => by cases h⟩⟩
          obtain ⟨v0,o0,p1,p2,p3⟩ := obAt_ob ho
          obtain ⟨O,hO,hsub⟩ := hR.ob ho
          have hmem := Env.mem_of_get p1
          have hng : gg ∉ gs := by simpa using hgs
          have hrow := hO.frzRow (p' := lentP S gs ow p) (fun _ h => .inl h) (fun b hb => .inr ⟨gg,v0,hmem,hng,hsub b hb⟩)
          rw [hb,hsz] at hrow
          have hxr : RdC w (lentP S gs ow p) (a.eval x) (.ref gg q b sz lo m) := RdS.mono (v := .c (.ref gg q b sz lo m)) (fun _ h => .inl h) (KeepsOn.refl _ _) (hx hg)
          exact sliceV_extract hrow (frzLL_length _) hxr (hm hg)
        · exact hv.elim
    · rename_i gg q k sz i j s m
      split at hv
      · exact plain hx hv
      · rename_i hgs
        split at hv
        · rename_i o ho
          obtain ⟨hb,hbn,hsz,hi,hj,hv⟩ := hv
          obtain ⟨avs,lent,h1,h2⟩ := argsK_sound hR r hv
          refine ⟨_,_,h1,fun hg => ⟨.cons ?_ (h2 hg).1,fun h => by cases h⟩⟩
          obtain ⟨v0,o0,p1,p2,p3⟩ := obAt_ob ho
          obtain ⟨O,hO,hsub⟩ := hR.ob ho
          have hmem := Env.mem_of_get p1
          have hng : gg ∉ gs := by simpa using hgs
          have hrow := hO.frzRow (p' := lentP S gs ow p) (fun _ h => .inl h) (fun b hb => .inr ⟨gg,v0,hmem,hng,hsub b hb⟩)
          have hxr : RdC w p (a.eval x) (.view gg q k sz i j s m) := hx hg
          generalize a.eval x = vx at hxr
          cases hxr with
          | view _ _ _ _ _ _ _ _ cap hc =>
            rw [hsz] at hrow
            cases hob : o.b with
            | none => rw [hob] at hbn;cases hbn
            | some kb =>
              rw [hob] at hrow hb
              obtain ⟨kk,nn⟩ := kb
              have hk : kk = k := hb
              subst hk
              have := RdC.chunkOf hrow (i := i) (j := j) (s := s) (m := m) (cap' := cap) (by rw [frzLL_length];exact hi) hj hc
              rw [Nat.zero_add] at this
              exact this
        · exact hv.elim
    · exact plain hx hv

def AV.flat : AV → Bool
  | .c x => x.flat
  | .agg xs => AC.flat.flatL xs
  | .row _ _ _ es => AC.flat.flatLL es
  | .box _ _ cs => AC.flat.flatL cs
  | .mapo .. => true
  | .tup vs => vs.all fun
    | .c x => x.flat
    | .ag xs => AC.flat.flatL xs
  | _ => false

theorem flatLL_flatten : ∀ {es : List (List AC)},AC.flat.flatLL es = true → AC.flat.flatL es.flatten = true
  | [],_ => rfl
  | e :: es,h => by
    simp only [AC.flat.flatLL,Bool.and_eq_true] at h
    have happ : ∀ {a b : List AC},AC.flat.flatL a = true → AC.flat.flatL b = true → AC.flat.flatL (a ++ b) = true := by
      intro a b ha hb
      induction a with
      | nil => exact hb
      | cons c r ih =>
        simp only [AC.flat.flatL,Bool.and_eq_true] at ha
        simp only [List.cons_append,AC.flat.flatL,Bool.and_eq_true]
        exact ⟨ha.1,ih ha.2⟩
    exact happ h.1 (flatLL_flatten h.2)

theorem RdO.flat {w : World} {p p' : Nat → Prop} {vs : List Value} {cs : List AC} {O : List Nat} (h : RdO w p vs cs O) : AC.flat.flatL cs = true → RdO w p' vs cs O := by
  induction h with
  | nil => intro _;exact .nil
  | per h _ ih =>
    intro hf
    simp only [AC.flat.flatL,Bool.and_eq_true] at hf
    exact .per (h.flat hf.1) (ih hf.2)
  | own ho hs _ _ ih1 ih2 =>
    intro hf
    simp only [AC.flat.flatL,AC.flat,Bool.and_eq_true] at hf
    exact .own ho hs (ih1 (flatLL_flatten hf.1)) (ih2 hf.2)

theorem RdTOs.flat {p' : Nat → Prop} {vs : List Value} {cs : List TC} {O : List Nat} (h : RdTOs w p vs cs O) : (cs.all fun|.c x => x.flat|.ag xs => AC.flat.flatL xs) = true → RdTOs w p' vs cs O := by
  induction h with
  | nil => intro _;exact .nil
  | @cons v c vs cs O O' h _ ih =>
    intro hf
    simp only [List.all_cons,Bool.and_eq_true] at hf
    refine .cons ?_ (ih hf.2)
    cases c with
    | c c =>
      have h' : RdO w p [v] [c] O := h
      exact h'.flat (by simp only [AC.flat.flatL,Bool.and_true];exact hf.1)
    | ag cs => obtain ⟨us,h1,h2⟩ := h;exact ⟨us,h1,h2.flat hf.1⟩

theorem RdR.flat {p' : Nat → Prop} {u : Value} {r : AV} {O : List Nat} (h : RdR w p u O r) (hf : r.flat = true) : RdR w p' u O r := by
  cases r with
  | c c =>
    have h' : RdO w p [u] [c] O := h
    exact h'.flat (by simp only [AC.flat.flatL,Bool.and_true];exact hf)
  | agg cs => obtain ⟨us,h1,h2⟩ := h;exact ⟨us,h1,h2.flat hf⟩
  | tup vs => obtain ⟨us,h1,h2⟩ := h;exact ⟨us,h1,h2.flat hf⟩
  | _ => exact h.elim

theorem RdV.flat {p' : Nat → Prop} {u : Value} {v : AV} {O : List Nat} (h : RdV w p u O v) (hs : v.isS = false) (hf : v.flat = true) : RdV w p' u O v := by
  cases v with
  | row b e sz es => obtain ⟨xs,O',h1,h2,h3,h4⟩ := h;exact ⟨xs,O',h1,h2,h3.flat (flatLL_flatten hf),h4⟩
  | box k ty cs => obtain ⟨xs,O',h1,h2,h3,h4⟩ := h;exact ⟨xs,O',h1,h2,h3.flat (by simp only [List.flatten_cons,List.flatten_nil,List.append_nil];exact hf),h4⟩
  | mapo k l => exact h
  | opt b v => simp [AV.flat] at hf
  | _ => simp [AV.isS] at hs

theorem Owns.flat {H : Env} {p' : Nat → Prop} {ow : Nat → List Nat} (h : Owns H w p ow) (hf : ∀ g v,(g,v) ∈ H → v.flat = true) (hp : ∀ g v,(g,v) ∈ H → ∀ b ∈ ow g,¬ p' b) : Owns H w p' ow :=
  ⟨fun g v hm => ⟨(h.vals g v hm).1,fun u => ((h.vals g v hm).2 u).flat (h.vals g v hm).1 (hf g v hm)⟩,h.sep,h.nod,fun g v hm b hb => ⟨(h.fresh g v hm b hb).1,hp g v hm b hb⟩⟩

end
end Go.Hs
