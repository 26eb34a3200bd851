/-
  THE HEAP SEMANTICS, part 13: calls; each operation; regions, in order and in whatever order is drawn.
-/
import Derived.Test.YtglgmmoomlnghaaHs12
namespace Go.Hs
open Go Go.RowKit

def Env.sel (S : Env) : List Nat → Env
  | [] => []
  | g :: r => match S.get g with
    | some v => (g,v) :: Env.sel S r
    | none => Env.sel S r

/-- A call: of what stands under names, gs are handed over; all else is lent. -/
def callGK (P : Program) (n : Nat) (pu : Bool) (S : Env) (f : FuncId) (l : List Operand) (extra : List AV) (d : Nat) (K : Env → Prop) : Prop :=
  ∃ gs : List Nat,(pu = true → gs = []) ∧ (gs.Nodup ∧ (S.sel gs).keys = gs ∧ ((S.sel gs).all fun x => !x.2.isS) = true) ∧ argsK S gs true l fun avs lent =>
    ∃ N R,ContractN P f (avs ++ extra) (S.sel gs) N R ∧ d < n ∧ ∀ r H',R r H' → H'.keys = gs ++ N → (lent = true → r.flat = true ∧ (H'.all fun x => x.2.flat) = true) ∧ openR (S.puts H') d r K

/-- A method called through an interface value of type ty is function f, on the value as it is. -/
def MethOf (P : Program) (ty : TypeId) (name : String) (f : FuncId) : Prop := ∀ (vs : Array Value) (w : World),(method (P.types.size + Made.depth) ty (.agg vs) name).run P w = .ok (f,.agg vs) w

/-- The same as callGK with arguments ahead of the others. -/
def callGKp (P : Program) (n : Nat) (pu : Bool) (S : Env) (f : FuncId) (l : List Operand) (pre extra : List AV) (d : Nat) (K : Env → Prop) : Prop :=
  ∃ gs : List Nat,(pu = true → gs = []) ∧ (gs.Nodup ∧ (S.sel gs).keys = gs ∧ ((S.sel gs).all fun x => !x.2.isS) = true) ∧ argsK S gs true l fun avs lent =>
    ∃ N R,ContractN P f (pre ++ avs ++ extra) (S.sel gs) N R ∧ d < n ∧ ∀ r H',R r H' → H'.keys = gs ++ N → (lent = true → r.flat = true ∧ (H'.all fun x => x.2.flat) = true) ∧ openR (S.puts H') d r K

/-- A value, or a literal. -/
def vbop (P : Program) (S : Env) (g : Bool) (op : Op) (K : AV → Prop) : Prop :=
  match op with
  | .build T parts => buildV P S g T parts.toList K
  | op => vop P S g op K

/-- A value, or a call that hands back a plain value. -/
def vcop (P : Program) (S : Env) (g : Bool) (op : Op) (K : AV → Prop) : Prop :=
  match op with
  | .call c => match c.callee with
    | .value (.func f) => argsK S [] g c.args.toList fun l _ => ∃ v,(g = true → Contract P f l (.c (.im v))) ∧ K (.c (.im v))
    | _ => vbop P S g (.call c) K
  | op => vbop P S g op K

def plainK (P : Program) (n : Nat) (S : Env) (op : Op) (d : Nat) (K : Env → Prop) : Prop :=
  vbop P S true op fun v => d < n ∧ K (S.set d v)

def callEK (P : Program) (n : Nat) (pu : Bool) (S : Env) (c : Call) (d : Nat) (K : Env → Prop) : Prop :=
  match c.callee,c.args.toList,c.argTypes.toList with
  | .value (.func f),l,_ => callGK P n pu S f l [] d K
  | .value (.tmp t),l,_ => evK S true (.tmp t) fun
    | .c (.fn f caps) => callGK P n pu S f l (caps.map .c) d K
    | _ => False
  | .invoke (.tmp t) name,l,_ => evK S true (.tmp t) fun
    | .c (.ifa ty cs) => ∃ f,MethOf P ty name f ∧ callGKp P n pu S f l [.agg cs] [] d K
    | _ => False
  | .builtin .append,[s,x],[t1,t2] => pu = false ∧ t1 = t2 ∧ appendK P n S t1 s x d K
  | .builtin .copy,[s,x],[t1,_] => pu = false ∧ copyK P n S t1 s x d K
  | .builtin .len,[x],[t] => evK S true x fun
    | .c (.mref gg k) => (match P.underlying t,S.get gg with
      | some (.map _ _),some (.mapo k' l) => k' = k ∧ d < n ∧ K (S.set d (.c (.im (.int .i64 l.length))))
      | _,_ => False)
    | _ => plainK P n S (.call c) d K
  | _,_,_ => plainK P n S (.call c) d K

/-- A slice of bytes, owned, that a conversion to its own type marks: only read from now on. -/
def markK (P : Program) (n : Nat) (S : Env) (src dst : TypeId) (g : Nat) (b : Blk) (sz lo m d : Nat) (K : Env → Prop) : Prop :=
  src = dst ∧ (match P.underlying dst with
    | some (.slice e) => P.underlying e = some (.int .u8)
    | _ => False) ∧ d < n ∧ lo = 0 ∧ b.isSome = true ∧ match S.get g with
    | some (.row b' _ sz' es) => b' = b ∧ sz' = sz ∧ m = es.length ∧ K ((S.drop g).set d (.c (.sl sz (frzLL es))))
    | _ => False

/-- An operation; pu: only such as let memory grow. -/
def eop (P : Program) (n : Nat) (pu : Bool) (S : Env) (o : Oper) (K : Env → Prop) : Prop :=
  match o.dst with
  | none => pu = false ∧ match o.op with
    | .store T ad x => storeK P S T ad x K
    | .mapUpdate T m kx x => mapUpdK P S T m kx x K
    | _ => False
  | some d => match o.op with
    | .assign x => asgK P n S o.type x d K
    | .alloc T => allocK P n S T d K
    | .box T x => boxK n S T x d K
    | .buildSlice T len parts => buildSliceK P n S T len parts.toList d K
    | .makeSlice T l c => makeSliceK P n S T l c d K
    | .makeMap _ none => makeMapK n S d K
    | .convert src dst x => evK S true x fun
      | .c (.im (.string s)) => (match P.underlying dst with
        | some (.slice _) => bytesK P n S src dst s d K
        | _ => plainK P n S (.convert src dst x) d K)
      | .c (.ref g [] b sz lo m) => (match P.underlying dst with
        | some (.slice _) => pu = false ∧ markK P n S src dst g b sz lo m d K
        | _ => plainK P n S (.convert src dst x) d K)
      | _ => plainK P n S (.convert src dst x) d K
    | .call c => callEK P n pu S c d K
    | op => plainK P n S op d K

def guardK (ops : Array Oper) (S : Env) (j : Nat) (want : Bool) (K : Bool → Prop) : Prop :=
  match (ops[j]?).bind (·.dst) with
  | some dj => match S.get dj with
    | some (.c (.im (.bool b))) => K (b == want)
    | some (.opt b0 (.c (.im (.bool b)))) => K (b0 && (b == want))
    | _ => False
  | none => False

/-- A guarded operation: as a value, if there is one; or the ways part. -/
def gopO (P : Program) (n : Nat) (pu : Bool) (S : Env) (o : Oper) (g : Bool) (K : Env → Prop) : Prop :=
  (∃ d,o.dst = some d ∧ vcop P S g o.op fun v => d < n ∧ K (S.set d (.opt g v))) ∨
  ((g = true → eop P n pu S o K) ∧ (g = false → match o.dst with
    | some d => d < n ∧ ∃ v : AV,v.isS = true ∧ K (S.set d (.opt false v))
    | none => K S))

def aop (P : Program) (n : Nat) (pu : Bool) (ops : Array Oper) (S : Env) (o : Oper) (K : Env → Prop) : Prop :=
  match o.guard with
  | none => eop P n pu S o K
  | some (j,want) => guardK ops S j want fun g => gopO P n pu S o g K

def aops (P : Program) (n : Nat) (ops : Array Oper) : List Oper → Env → (Env → Prop) → Prop
  | [],S,K => K S
  | o :: r,S,K => aop P n false ops S o fun S' => aops P n ops r S' K

/-- An operation that may be taken first in a region that draws its order. -/
def qop (P : Program) (n : Nat) (ops : Array Oper) (S : Env) (o : Oper) (K : Env → Prop) : Prop :=
  match o.dst with
  | some d => match o.guard with
    | none => vbop P S true o.op fun v => d < n ∧ K (S.set d v)
    | some (j,want) => guardK ops S j want fun g => vbop P S g o.op fun v => d < n ∧ K (S.set d (.opt g v))
  | none => False

/-- An order of ours. val: yields in any world; load: reads memory, and all that turn it wait for it; grow, eff: the only one that may come up, letting memory grow, or turning it; alt: whichever comes up. -/
inductive OT where
  | done
  | val (i : Nat) (r : OT)
  | load (i : Nat) (r : OT)
  | grow (i : Nat) (r : OT)
  | eff (i : Nat) (r : OT)
  | alt (rs : List Nat) (m : Nat) (f : Nat → OT)

def wlessAt (ops : Array Oper) (i : Nat) : Bool := ((ops[i]?).map fun o => wless o.op).getD false

def ordB (ops : Array Oper) (E : List Nat) : OT → Array Bool → Bool
  | .done,listed => (Region.ready .any ops listed).isEmpty
  | .val i r,listed => (Region.ready .any ops listed).contains i && Region.free .any ops listed i && !E.contains i && wlessAt ops i && ordB ops E r (listed.setIfInBounds i true)
  | .load i r,listed => (Region.ready .any ops listed).contains i && Region.free .any ops listed i && !E.contains i && (E.all fun e => listed.getD e true || waits .any ops i ops.size e) && ordB ops E r (listed.setIfInBounds i true)
  | .grow i r,listed => (Region.ready .any ops listed == [i]) && !E.contains i && ordB ops E r (listed.setIfInBounds i true)
  | .eff i r,listed => (Region.ready .any ops listed == [i]) && E.contains i && ordB ops E r (listed.setIfInBounds i true)
  | .alt rs _ f,listed => (Region.ready .any ops listed == rs) && !rs.isEmpty && rs.all fun i => ordB ops E (f i) (listed.setIfInBounds i true)

def rops (P : Program) (n : Nat) (ops : Array Oper) (E : List Nat) : OT → Env → (Env → Prop) → Prop
  | .done,S,K => K S
  | .val i r,S,K => match ops[i]? with
    | some o => qop P n ops S o fun S' => rops P n ops E r S' K
    | none => False
  | .load i r,S,K => match ops[i]? with
    | some o => qop P n ops S o fun S' => rops P n ops E r S' K
    | none => False
  | .grow i r,S,K => match ops[i]? with
    | some o => aop P n true ops S o fun S' => rops P n ops E r S' K
    | none => False
  | .eff i r,S,K => match ops[i]? with
    | some o => aop P n false ops S o fun S' => rops P n ops E r S' K
    | none => False
  | .alt rs _ f,S,K => ∀ i ∈ rs,match ops[i]? with
    | some o => aop P n (!E.elem i) ops S o fun S' => rops P n ops E (f i) S' K
    | none => False

def OT.size : OT → Nat
  | .done => 0
  | .val _ r|.load _ r|.grow _ r|.eff _ r => r.size + 1
  | .alt _ m _ => m + 1

def OT.ok : OT → Bool
  | .done => true
  | .val _ r|.load _ r|.grow _ r|.eff _ r => r.ok
  | .alt rs m f => rs.all fun i => (f i).ok && (f i).size == m

section
variable {P : Program} {n : Nat} {p0 F : Nat → Prop} {w0 : World} {S : Env} {a : Act} {w : World} {p : Nat → Prop} {ow : Nat → List Nat} {Q : Exit → Act → World → Prop}

theorem exec_callf {o : Oper} {c : Call} {f : FuncId} {x : Operand} {us : Array Value} (ho : o.op = .call c) (hc : c.callee = .value x) (ρ : Operand → Value) (hρ : ρ x = .func (.func f) #[] us) (hcal : ∃ fn, P.funcs[f]? = some fn ∧ (fn.name == "runtime.NumGoroutine") = false ∧ fn.body.isNone = false) (w' : World) :
    (execOp ρ o).run P w' = .ok (.enter f (c.args.toList.map ρ ++ us.toList).toArray) w' := by
  obtain ⟨fn,h1,h2,h3⟩ := hcal
  have h4 : (c.args.map ρ) = (c.args.toList.map ρ).toArray := by rw [← Array.toList_map,Array.toArray_toList]
  have h5 : (callFunc f (c.args.map ρ ++ us)).run P w' = .ok (.enter f (c.args.map ρ ++ us)) w' := by
    unfold callFunc
    simp only [Sem.run_bind,run_program,Result.andThen_ok,h1]
    rw [if_neg (by rw [h2];decide)]
    rw [if_neg (by rw [h3];decide)]
    rfl
  have h6 : (c.args.map ρ ++ us) = (c.args.toList.map ρ ++ us.toList).toArray := by
    rw [h4]
    apply Array.ext'
    simp
  simp only [execOp,ho,resolve,hc,hρ,Deferred.ofValue,Sem.run_bind,Sem.run_pure,Result.andThen_ok,invoke,Array.empty_append,h5]
  rw [h6]

theorem sel_mem : ∀ {gs : List Nat} {g : Nat} {v : AV},(g,v) ∈ S.sel gs → S.get g = some v ∧ g ∈ gs
  | [],g,v,h => by simp [Env.sel] at h
  | x :: r,g,v,h => by
    simp only [Env.sel] at h
    split at h
    · rename_i u hu
      cases h with
      | head => exact ⟨hu,by simp⟩
      | tail _ h => obtain ⟨h1,h2⟩ := sel_mem h;exact ⟨h1,by simp [h2]⟩
    · obtain ⟨h1,h2⟩ := sel_mem h;exact ⟨h1,by simp [h2]⟩

theorem RdAs.append {vs us : List Value} {cs ds : List AV} (h : RdAs w p vs cs) (k : RdAs w p us ds) : RdAs w p (vs ++ us) (cs ++ ds) := by
  induction h with
  | nil => exact k
  | cons h _ ih => exact .cons h ih

theorem RdL.as {us : List Value} {cs : List AC} (h : RdL w p us cs) : RdAs w p us (cs.map .c) := by
  induction h with
  | nil => exact .nil
  | cons h _ ih => exact .cons h ih

theorem exec_inv {o : Oper} {c : Call} {f : FuncId} {x : Operand} {name : String} {ty : TypeId} {vs : Array Value} (ho : o.op = .call c) (hc : c.callee = .invoke x name) (ρ : Operand → Value) (hρ : ρ x = .iface ty (.agg vs)) (hm : MethOf P ty name f) (hcal : ∃ fn, P.funcs[f]? = some fn ∧ (fn.name == "runtime.NumGoroutine") = false ∧ fn.body.isNone = false) (w' : World) :
    (execOp ρ o).run P w' = .ok (.enter f (.agg vs :: c.args.toList.map ρ).toArray) w' := by
  obtain ⟨fn,h1,h2,h3⟩ := hcal
  have h5 : ∀ us : Array Value,(callFunc f us).run P w' = .ok (.enter f us) w' := by
    intro us
    unfold callFunc
    simp only [Sem.run_bind,run_program,Result.andThen_ok,h1]
    rw [if_neg (by rw [h2];decide)]
    rw [if_neg (by rw [h3];decide)]
    rfl
  have h6 : #[Value.iface ty (.agg vs)] ++ c.args.map ρ = (Value.iface ty (.agg vs) :: c.args.toList.map ρ).toArray := by
    apply Array.ext'
    simp
  have h7 : (#[Value.agg vs] ++ ((Value.iface ty (.agg vs) :: c.args.toList.map ρ).toArray.extract 1 (Value.iface ty (.agg vs) :: c.args.toList.map ρ).toArray.size)) = (Value.agg vs :: c.args.toList.map ρ).toArray := by
    apply Array.ext'
    simp
    exact List.take_of_length_le (by simp)
  simp only [execOp,ho,resolve,hc,hρ,Sem.run_bind,Sem.run_pure,Result.andThen_ok,invoke,h6]
  rw [show (Value.iface ty (.agg vs) :: c.args.toList.map ρ).toArray[0]? = some (.iface ty (.agg vs)) from rfl]
  simp only [callMethod,Sem.run_bind,run_program,Result.andThen_ok,hm vs w',h5]
  rw [h7]

theorem callGp_sound (hR : Rel n p0 F w0 S a w p ow) {o : Oper} {c : Call} {pu : Bool} {f d : Nat} {pvs us : List Value} {pre extra : List AV} (hrunE : (∃ fn, P.funcs[f]? = some fn ∧ (fn.name == "runtime.NumGoroutine") = false ∧ fn.body.isNone = false) → (execOp a.eval o).run P w = .ok (.enter f (pvs ++ c.args.toList.map a.eval ++ us).toArray) w) (hpre : RdAs w p pvs pre) (hus : RdAs w p us extra) (hd : o.dst = some d)
    {K : Env → Prop} (h : callGKp P n pu S f c.args.toList pre extra d K) {next : Act → World → Prop} (hn : ∀ S' a' w' p' ow',(pu = true → Below w.heap.size w w') → K S' → Rel n p0 F w0 S' a' w' p' ow' → next a' w') : o.wp P a w next Q := by
  obtain ⟨gs,hpu,⟨hnd,hkeys,hobj⟩,h⟩ := h
  obtain ⟨avs,lent,⟨N,R,hC,hdn,kR⟩,hargs⟩ := argsK_sound hR _ h
  obtain ⟨ha1,ha2⟩ := hargs rfl
  have hrun := hrunE hC.callable
  unfold Oper.wp
  rw [hrun]
  simp only [Oper.upon]
  have hBw := hR.chg.size
  have hmem : ∀ g v,(g,v) ∈ S.sel gs → (g,v) ∈ S ∧ g ∈ gs ∧ v.isS = false := fun g v hm => by
    obtain ⟨h1,h2⟩ := sel_mem hm
    have := List.all_eq_true.1 hobj _ hm
    exact ⟨Env.mem_of_get h1,h2,by simpa using this⟩
  have hback : ∀ d' v',(d',v') ∈ S → d' ∈ gs → ∃ v'',(d',v'') ∈ S.sel gs := by
    intro d' v' _ hd'
    rw [← hkeys] at hd'
    simp only [Env.keys,List.mem_map] at hd'
    obtain ⟨⟨g,v⟩,hm,rfl⟩ := hd'
    exact ⟨v,hm⟩
  have hin : ∀ b,InH (S.sel gs) ow b → ∃ d v,(d,v) ∈ S ∧ d ∈ gs ∧ b ∈ ow d := by
    rintro b ⟨g,v,hm,hb⟩
    obtain ⟨h1,h2,_⟩ := hmem g v hm
    exact ⟨g,v,h1,h2,hb⟩
  have hnotp : ∀ g v,(g,v) ∈ S.sel gs → ∀ b ∈ ow g,¬ lentP S gs ow p b := by
    intro g v hm b hb
    obtain ⟨h1,h2,_⟩ := hmem g v hm
    rintro (h|⟨d',v',hm',hd',hb'⟩)
    · exact (hR.fresh _ _ h1 b hb).2.1 h
    · exact hR.sep _ _ _ _ b h1 hm' (fun h => hd' (h ▸ h2)) hb hb'
  have owns : ∀ pp : Nat → Prop,(∀ b,p b → pp b) → (∀ g v,(g,v) ∈ S.sel gs → ∀ b ∈ ow g,¬ pp b) → Owns (S.sel gs) w pp ow := by
    intro pp hpp hno
    refine ⟨fun g v hm => ?_,fun d d' v v' b h1 h2 => hR.sep _ _ _ _ b (hmem _ _ h1).1 (hmem _ _ h2).1,fun d v h1 => hR.nod _ _ (hmem _ _ h1).1,fun d v h1 b hb => ⟨(hR.fresh _ _ (hmem _ _ h1).1 b hb).1,hno d v h1 b hb⟩⟩
    obtain ⟨h1,h2,h3⟩ := hmem g v hm
    refine ⟨h3,fun u => ?_⟩
    have := (hR.vals _ _ h1).mono hpp (KeepsOn.refl _ _) (fun _ _ => rfl)
    cases v <;> first|exact this|simp [AV.isS] at h3|exact (this : False).elim|skip
    all_goals exact this
  -- behind the call
  have fin : ∀ (v : Value) (w' : World) (p1 : Nat → Prop) (r : AV) (H' : Env) (ow' : Nat → List Nat) (O : List Nat),R r H' → H'.keys = (S.sel gs).keys ++ N → Chg (InH (S.sel gs) ow) w w' → (∀ b,p b → p1 b) → (∀ b,p1 b → b < w'.heap.size ∧ (p b ∨ InH (S.sel gs) ow b ∨ w.heap.size ≤ b)) →
      RdR w' p1 v O r → Owns H' w' p1 ow' → O.Nodup → (∀ b ∈ O,b < w'.heap.size ∧ ¬ p1 b ∧ (InH (S.sel gs) ow b ∨ w.heap.size ≤ b) ∧ ¬ InH H' ow' b) → (∀ b,InH H' ow' b → InH (S.sel gs) ow b ∨ w.heap.size ≤ b) → next (a.put o.dst v) w' := by
    intro v w' p1 r H' ow' O hRr hk hch hpp hp1 hr hO' hnod hO hfrom
    have hkN : H'.keys = gs ++ N := by rw [hk,hkeys]
    obtain ⟨_,hK⟩ := kR r H' hRr hkN
    have hinN : ∀ b,InH (S.sel gs) ow b → ∃ d v,(d,v) ∈ S ∧ d ∈ gs ++ N ∧ b ∈ ow d := fun b hb => by
      obtain ⟨d,v,h1,h2,h3⟩ := hin b hb
      exact ⟨d,v,h1,List.mem_append_left _ h2,h3⟩
    rw [hd]
    have hR1 := rel_puts hR (gs := gs ++ N) hkN hO' (hch.mono hinN) hpp (fun b hb => ⟨(hp1 b hb).1,(hp1 b hb).2.imp id fun h => h.imp (hinN b) id⟩) (fun b hb => (hfrom b hb).imp (hinN b) id)
    have hF1 : Free F w0 (S.puts H') w' p1 (fun d => if d ∈ gs ++ N then ow' d else ow d) O := by
      refine ⟨hnod,fun b hb => ?_,?_⟩
      · obtain ⟨h1,h2,h3,_⟩ := hO b hb
        refine ⟨h1,h2,?_⟩
        rcases h3 with h|h
        · obtain ⟨d',v',hm',_,hb'⟩ := hin b h
          exact (hR.fresh _ _ hm' b hb').2.2
        · exact .inr (by omega)
      · intro d' v' hm b hb hb'
        obtain ⟨_,_,h3,h4⟩ := hO b hb'
        rcases Env.mem_puts hm with h|⟨h1,h2⟩
        · have hg : d' ∈ gs ++ N := by rw [← hkN];exact List.mem_map.2 ⟨(d',v'),h,rfl⟩
          rw [if_pos hg] at hb
          exact h4 ⟨d',v',h,hb⟩
        · have hg : d' ∉ gs ++ N := by rw [← hkN];exact h2
          rw [if_neg hg] at hb
          rcases h3 with h|h
          · obtain ⟨d2,v2,hm2,hg2,hb2⟩ := hin b h
            exact hR.sep _ _ _ _ b h1 hm2 (fun h => hg (List.mem_append_left _ (h ▸ hg2))) hb hb2
          · have := (hR.fresh _ _ h1 b hb).1;omega
    obtain ⟨S',ow2,h1,h2⟩ := openR_sound hR1 hF1 hdn hr hK
    refine hn _ _ _ p1 _ (fun hp => ?_) h1 h2
    have hg0 := hpu hp
    subst hg0
    exact (hch.mono (G := fun _ => False) (by rintro b ⟨g,v,hm,_⟩;simp [Env.sel] at hm)).below
  cases lent with
  | false =>
    refine (hC.calls w p _ ow hR.plt ((hpre.append (ha2 rfl)).append hus) (owns p (fun _ h => h) fun g v hm b hb => (hR.fresh _ _ (hmem _ _ hm).1 b hb).2.1)).mono fun e w' ⟨v,p',r,H',ow',O,hRr,hk,he,hch,hpp,hp',hr,hO',hnod,hO,hfrom⟩ => ?_
    subst he
    exact fin v w' p' r H' ow' O hRr hk hch hpp hp' hr hO' hnod hO hfrom
  | true =>
    refine (hC.calls w (lentP S gs ow p) _ ow (lent_lt hR) (((hpre.mono (fun _ h => .inl h) (KeepsOn.refl _ _)).append ha1).append (hus.mono (fun _ h => .inl h) (KeepsOn.refl _ _))) (owns _ (fun _ h => .inl h) hnotp)).mono fun e w' ⟨v,p',r,H',ow',O,hRr,hk,he,hch,hpp,hp',hr,hO',hnod,hO,hfrom⟩ => ?_
    subst he
    obtain ⟨hfl1,hfl2⟩ := (kR r H' hRr (by rw [hk,hkeys])).1 rfl
    have hnp : ∀ b,InH (S.sel gs) ow b ∨ w.heap.size ≤ b → ¬ p b := by
      rintro b (h|h)
      · obtain ⟨d',v',hm',_,hb'⟩ := hin b h
        exact (hR.fresh _ _ hm' b hb').2.1
      · intro hp;have := hR.plt b hp;omega
    refine fin v w' p r H' ow' O hRr hk hch (fun _ h => h) (fun b hb => ⟨Nat.lt_of_lt_of_le (hR.plt b hb) hch.size,.inl hb⟩) (hr.flat hfl1) (hO'.flat (fun g v hm => List.all_eq_true.1 hfl2 _ hm) fun g v hm b hb => hnp b (hfrom b ⟨g,v,hm,hb⟩)) hnod ?_ hfrom
    intro b hb
    obtain ⟨h1,h2,h3,h4⟩ := hO b hb
    exact ⟨h1,hnp b h3,h3,h4⟩

theorem callG_sound (hR : Rel n p0 F w0 S a w p ow) {o : Oper} {c : Call} {pu : Bool} {f d : Nat} {x : Operand} {us : Array Value} {extra : List AV} (ho : o.op = .call c) (hc : c.callee = .value x) (hρ : a.eval x = .func (.func f) #[] us) (hus : RdAs w p us.toList extra) (hd : o.dst = some d)
    {K : Env → Prop} (h : callGK P n pu S f c.args.toList extra d K) {next : Act → World → Prop} (hn : ∀ S' a' w' p' ow',(pu = true → Below w.heap.size w w') → K S' → Rel n p0 F w0 S' a' w' p' ow' → next a' w') : o.wp P a w next Q :=
  callGp_sound hR (pvs := []) (pre := []) (us := us.toList) (fun hcal => exec_callf ho hc a.eval hρ hcal w) .nil hus hd h hn

theorem vbop_sound (hR : Rel n p0 F w0 S a w p ow) {g : Bool} {o : Oper} {K : AV → Prop} (h : vbop P S g o.op K) : ∃ v,K v ∧ (g = true → VOK P a w p o v) := by
  generalize ho : o.op = op at h
  unfold vbop at h
  split at h
  · exact buildV_sound hR ho h
  · exact vop_sound hR (by rw [ho];exact h)

/-- A value operation or a plain call, in every later world. -/
def QOK (P : Program) (a : Act) (w : World) (p : Nat → Prop) (o : Oper) (v : AV) : Prop :=
  ∃ u,RdS w p u v ∧ ∀ w',Below w.heap.size w w' → ((execOp a.eval o).run P w' = .ok (.value u) w' ∨
    ∃ f args,(execOp a.eval o).run P w' = .ok (.enter f args) w' ∧ Calls P f args w' fun e w'' => e = .returned u ∧ Below w'.heap.size w' w'')

theorem vcop_sound (hR : Rel n p0 F w0 S a w p ow) {g : Bool} {o : Oper} {K : AV → Prop} (h : vcop P S g o.op K) : ∃ v,K v ∧ (g = true → QOK P a w p o v) := by
  have plain : vbop P S g o.op K → ∃ v,K v ∧ (g = true → QOK P a w p o v) := by
    intro h
    obtain ⟨v,hv,hok⟩ := vbop_sound hR h
    refine ⟨v,hv,fun hg => ?_⟩
    obtain ⟨u,hu,hr⟩ := hok hg
    exact ⟨u,hu,fun w' hw' => .inl (hr w' fun _ => Later.of_below hw')⟩
  generalize ho : o.op = op at h
  unfold vcop at h
  split at h
  · rename_i c
    split at h
    · rename_i f hc
      obtain ⟨avs,lent,⟨v,hC,hK⟩,hargs⟩ := argsK_sound hR _ h
      refine ⟨_,hK,fun hg => ?_⟩
      have hC := hC hg
      obtain ⟨ha1,_⟩ := hargs hg
      have calls : ∀ w',Below w.heap.size w w' → Calls P f (c.args.toList.map a.eval).toArray w' fun e w'' => (e = .returned v ∧ scal v = true) ∧ Below w'.heap.size w' w'' := by
        intro w' hw'
        have hk : KeepsOn (lentP S [] ow p) w w' := fun b hb => hw'.block b (lent_lt hR b hb)
        refine (hC.calls w' (lentP S [] ow p) _ (fun _ => []) (fun b hb => Nat.lt_of_lt_of_le (lent_lt hR b hb) hw'.size) (ha1.mono (fun _ h => h) hk) ⟨by simp,by simp,by simp,by simp⟩).mono fun e w'' ⟨u,p',r,H',ow',O,hRr,_,he,hch,_,_,hr,_⟩ => ?_
        subst hRr
        have hr' : RdO w'' p' [u] [.im v] O := hr
        obtain ⟨h1,_⟩ := hr'.one rfl
        have hs : scal v = true := by cases h1;assumption
        have hu : u = v := RdS_im (w := w'') (p := p') h1
        subst hu
        refine ⟨⟨he,hs⟩,(hch.mono (G := fun _ => False) (by rintro b ⟨g,v,hm,_⟩;cases hm)).below⟩
      have hsc : scal v = true := by
        obtain ⟨e,w',fr,⟨⟨_,h⟩,_⟩,_⟩ := calls w (Below.refl _ _) []
        exact h
      refine ⟨v,.im _ hsc,fun w' hw' => .inr ⟨f,_,?_,(calls w' hw').mono fun e w'' h => ⟨h.1.1,h.2⟩⟩⟩
      have := exec_callf (us := #[]) ho hc a.eval rfl hC.callable w'
      simpa using this
    · exact plain (by rw [ho];exact h)
  · exact plain (by rw [ho];exact h)

theorem wp_of_qok {o : Oper} {u : Value} {next : Act → World → Prop}
    (hr : (execOp a.eval o).run P w = .ok (.value u) w ∨ ∃ f args,(execOp a.eval o).run P w = .ok (.enter f args) w ∧ Calls P f args w fun e w'' => e = .returned u ∧ Below w.heap.size w w'')
    (hn : ∀ w',Below w.heap.size w w' → next (a.put o.dst u) w') : o.wp P a w next Q := by
  rcases hr with h|⟨f,args,h,hc⟩
  · exact wp_value h (hn w (Below.refl _ _))
  · unfold Oper.wp
    rw [h]
    simp only [Oper.upon]
    refine hc.mono fun e w' ⟨he,hb⟩ => ?_
    subst he
    exact hn w' hb

theorem plain_sound (hR : Rel n p0 F w0 S a w p ow) {o : Oper} {op : Op} {d : Nat} (ho : o.op = op) (hd : o.dst = some d) {K : Env → Prop} (h : plainK P n S op d K) {next : Act → World → Prop} (hn : GoesG n p0 F w0 w K next) : o.wp P a w next Q := by
  subst ho
  obtain ⟨v,⟨h1,h4⟩,hok⟩ := vbop_sound hR h
  obtain ⟨u,hu,hr⟩ := hok rfl
  refine wp_value (hr w fun _ => Later.refl w) ?_
  rw [hd]
  exact hn _ _ _ p _ (Below.refl _ _) h4 (rel_set hR h1 hu)

theorem RdC.cells {w w' : World} {p : Nat → Prop} (hk : ∀ a,w'.cell? a = w.cell? a) {v : Value} {c : AC} (h : RdC w p v c) : RdC w' p v c := by
  induction h with
  | im v h => exact .im v h
  | nil => exact .nil
  | nilS sz cap => exact .nilS sz cap
  | sl a n cap sz es us hn hcap hsz hp hc hr ih => exact .sl a n cap sz es us hn hcap hsz hp (fun i e j hi hj => by rw [hk];exact hc i e j hi hj) ih
  | adr a cap sz i j es h ih => exact .adr a cap sz i j es ih
  | refN g q sz => exact .refN g q sz
  | ref g q k cap sz lo n o ho h => exact .ref g q k cap sz lo n o ho h
  | ptr g q k sz i j => exact .ptr g q k sz i j
  | fn f caps us hl hr ih => exact .fn f caps us hl ih
  | ifc t v c h ih => exact .ifc t v c ih
  | ifa t cs us hl hr ih => exact .ifa t cs us hl ih
  | mref g k => exact .mref g k
  | mfn t name vs ys => exact .mfn t name vs ys
  | view g q k sz i j s n cap h => exact .view g q k sz i j s n cap h
  | dead v h => exact .dead v h

theorem mark_sound (hR : Rel n p0 F w0 S a w p ow) {o : Oper} {src dst : TypeId} {x : Operand} {d g sz lo m : Nat} {b : Blk} (ho : o.op = .convert src dst x) (hd : o.dst = some d) (hx : RdS w p (a.eval x) (.c (.ref g [] b sz lo m))) {K : Env → Prop} (h : markK P n S src dst g b sz lo m d K) {next : Act → World → Prop} (hn : Goes n p0 F w0 K next) : o.wp P a w next Q := by
  obtain ⟨rfl,hdt,hdn,rfl,hb,h⟩ := h
  split at hdt
  · rename_i e hde
    split at h
    · rename_i b' e' sz' es hg
      obtain ⟨rfl,rfl,rfl,hK⟩ := h
      have hmem := Env.mem_of_get hg
      have hob : RdOb w p ⟨b',e',sz',es⟩ (ow g) := hR.get hg
      obtain ⟨⟨k,cap⟩,rfl⟩ := Option.isSome_iff_exists.1 hb
      have hval : a.eval x = .slice (some ⟨k,0,none⟩) es.length cap := by
        have hx' : RdC w p (a.eval x) (.ref g [] (some (k,cap)) sz' 0 es.length) := hx
        generalize a.eval x = u at hx'
        cases hx' with
        | ref _ _ _ _ _ _ _ o2 ho2 hc2 =>
          have := ho2.2 rfl
          subst this
          rfl
      obtain ⟨xs,O',⟨hxl,cur,c1,c2,c3,c4,c5⟩,h2,h3,h4⟩ := hob
      have hob : RdOb w p ⟨some (k,cap),e',sz',es⟩ (ow g) := hR.get hg
      simp only at c1 h4
      have hkg : k ∈ ow g := by rw [h4];simp [blks]
      have hlt := (Array.getElem?_eq_some_iff.1 c1).1
      have hsh : w.shape? k = some (e',cur.size) := by unfold World.shape?;rw [c1]
      let w' := w.freeze ⟨k,cur.size,none⟩ 1
      have hrun : (execOp a.eval o).run P w = .ok (.value (.slice (some ⟨k,0,none⟩) es.length cap)) w' := by
        simp [execOp,ho,hval,convert,run_underlying hde,run_underlying hdt,markStringish,hsh,w']
      have hheap : ∀ i,w'.heap[i]? = if k = i then some (.cells cur e' (cur.size,cur.size + 1)) else w.heap[i]? := by
        intro i
        show (World.freeze w _ 1).heap[i]? = _
        unfold World.freeze
        rw [if_neg (by decide)]
        simp only [Array.getElem?_modify]
        by_cases hik : k = i
        · subst hik
          rw [if_pos rfl,if_pos rfl,c1]
          rfl
        · rw [if_neg hik,if_neg hik]
      have hcell : ∀ ad,w'.cell? ad = w.cell? ad := by
        intro ad
        unfold World.cell?
        rw [hheap]
        by_cases hik : k = ad.block
        · rw [if_pos hik,← hik,c1]
        · rw [if_neg hik]
      have hsz : w'.heap.size = w.heap.size := by
        show (World.freeze w _ 1).heap.size = _
        unfold World.freeze
        rw [if_neg (by decide)]
        simp
      have hch : Chg (fun b => b ∈ ow g) w w' := ⟨rfl,rfl,rfl,by rw [hsz];exact Nat.le_refl _,fun i _ hi => by
        rw [hheap,if_neg (fun h => hi (by rw [← h];exact hkg))]⟩
      refine wp_value hrun ?_
      rw [hd]
      have hR1 := rel_put hR (S0 := (S.drop g).drop d) (g := d) (v := .c (.ref g [] (some (k,cap)) sz' 0 es.length)) (O := []) (a' := a.put (some d) (.slice (some ⟨k,0,none⟩) es.length cap)) (w' := w') (fun b => b ∈ ow g)
        (fun d' v' h => ⟨(Env.mem_drop (Env.mem_drop h).1).1,(Env.mem_drop h).2⟩) (hR.act d _) (fun b hb => let h := hR.fresh _ _ hmem b hb;⟨h.2.2,h.2.1⟩)
        (fun d' v1 hm b hb hb' => hR.sep _ _ _ _ b (Env.mem_drop (Env.mem_drop hm).1).1 hmem (Env.mem_drop (Env.mem_drop hm).1).2 hb hb') hch .nil (by simp) (by
          rw [slotOf_put_same (Nat.lt_of_lt_of_le hdn hR.size)]
          have h0 : RdC w' p (.slice (some ⟨k,0,none⟩) es.length cap) (.ref g [] (some (k,cap)) sz' 0 es.length) := by
            have := RdC.ref (w := w') (p := p) g [] k cap sz' 0 es.length 0 ⟨fun _ => by simp,fun _ => rfl⟩ (by simpa using c2)
            simpa using this
          have h1 : RdS w' p (.slice (some ⟨k,0,none⟩) es.length cap) (.c (.ref g [] (some (k,cap)) sz' 0 es.length)) := h0
          exact h1.v)
      let p' : Nat → Prop := fun b => p b ∨ b ∈ ow g
      have hR2 : Rel n p0 F w0 ((d,.c (.ref g [] (some (k,cap)) sz' 0 es.length)) :: (S.drop g).drop d) (a.put (some d) (.slice (some ⟨k,0,none⟩) es.length cap)) w' p' (updF ow d []) := by
        refine rel_more hR1 (fun _ h => .inl h) ?_ ?_ ?_
        · rintro b (h|h)
          · exact hR1.plt b h
          · rw [hsz];exact (hR.fresh _ _ hmem b h).1
        · rintro b (h|h)
          · exact hR1.pnew b h
          · exact .inr (hR.fresh _ _ hmem b h).2.2
        · intro d' v' hm b hb hp
          cases hm with
          | head => simp [updF] at hb
          | tail _ hm =>
            have hne := (Env.mem_drop hm).2
            have h1 := Env.mem_drop (Env.mem_drop hm).1
            simp only [updF,hne,if_false] at hb
            rcases hp with hp|hp
            · exact (hR.fresh _ _ h1.1 b hb).2.1 hp
            · exact hR.sep _ _ _ _ b h1.1 hmem h1.2 hb hp
      have key : ∀ d' v',(d',v') ∈ ((S.drop g).set d (.c (.sl sz' (frzLL es)))) → ∃ v'',(d',v'') ∈ ((d,AV.c (.ref g [] (some (k,cap)) sz' 0 es.length)) :: (S.drop g).drop d) := by
        intro d' v' hm
        have hm : (d',v') ∈ (d,AV.c (.sl sz' (frzLL es))) :: (S.drop g).drop d := hm
        cases hm with
        | head => exact ⟨_,List.mem_cons_self ..⟩
        | tail _ hm => exact ⟨_,List.mem_cons_of_mem _ hm⟩
      refine hn _ _ _ p' (updF ow d []) hK ⟨hR2.defers,hR2.size,hR2.chg,hR2.plt,hR2.pnew,?_,?_,?_,?_⟩
      · intro d' v' hm
        have hm : (d',v') ∈ (d,AV.c (.sl sz' (frzLL es))) :: (S.drop g).drop d := hm
        cases hm with
        | head =>
          rw [slotOf_put_same (Nat.lt_of_lt_of_le hdn hR.size)]
          have hr : RdC w p' (.slice (some ⟨k,0,none⟩) es.length cap) (.sl sz' (frzLL es)) := hob.frzRow (fun _ h => .inl h) (fun b hb => .inr hb)
          have hr2 : RdS w' p' (.slice (some ⟨k,0,none⟩) es.length cap) (.c (.sl sz' (frzLL es))) := RdC.cells hcell hr
          exact hr2.v
        | tail _ hm => exact hR2.vals _ _ (List.mem_cons_of_mem _ hm)
      · intro d1 d2 v1 v2 b h1 h2
        obtain ⟨_,g1⟩ := key _ _ h1
        obtain ⟨_,g2⟩ := key _ _ h2
        exact hR2.sep _ _ _ _ b g1 g2
      · intro d1 v1 h1
        obtain ⟨_,g1⟩ := key _ _ h1
        exact hR2.nod _ _ g1
      · intro d1 v1 h1
        obtain ⟨_,g1⟩ := key _ _ h1
        exact hR2.fresh _ _ g1
    · exact h.elim
  · exact hdt.elim

/-- Growing, or going on. -/
abbrev GoesP (n : Nat) (p0 F : Nat → Prop) (w0 w : World) (pu : Bool) (K : Env → Prop) (next : Act → World → Prop) : Prop :=
  ∀ S' a' w' p' ow',(pu = true → Below w.heap.size w w') → K S' → Rel n p0 F w0 S' a' w' p' ow' → next a' w'

theorem lenMap_sound (hR : Rel n p0 F w0 S a w p ow) {o : Oper} {cl : Call} {x : Operand} {t kt et : TypeId} {gg k d : Nat} {l : List (ByteArray × Int)} (ho : o.op = .call cl) (hc : cl.callee = .builtin .len) (ha : cl.args.toList = [x]) (ht0 : cl.argTypes.toList = [t]) (hd : o.dst = some d) (hdn : d < n)
    (ht : P.underlying t = some (.map kt et)) (hm : S.get gg = some (.mapo k l)) (hx : RdS w p (a.eval x) (.c (.mref gg k))) {K : Env → Prop} (hK : K (S.set d (.c (.im (.int .i64 l.length))))) {next : Act → World → Prop} (hn : GoesG n p0 F w0 w K next) : o.wp P a w next Q := by
  obtain ⟨⟨es,cl',h1,h2⟩,_⟩ := hR.get hm
  have hv : a.eval x = .map (some k) := by
    have h' : RdC w p (a.eval x) (.mref gg k) := hx
    generalize a.eval x = u at h'
    cases h';rfl
  have h4 : es.size = l.length := by have := congrArg List.length h2;simpa using this
  refine wp_value (exec_len ho hc ha ht0 a.eval w (v := .int .i64 l.length) ?_) ?_
  · rw [hv]
    simp [Builtin.len_,run_underlying ht,run_getMap h1,goInt,h4]
  · rw [hd]
    exact hn _ _ _ p _ (Below.refl _ _) hK (rel_set hR hdn (RdC.im _ rfl))

theorem eop_sound (hR : Rel n p0 F w0 S a w p ow) {pu : Bool} {o : Oper} {K : Env → Prop} (h : eop P n pu S o K) {next : Act → World → Prop} (hn : GoesP n p0 F w0 w pu K next) : o.wp P a w next Q := by
  have hng : GoesG n p0 F w0 w K next := fun S' a' w' p' ow' hb => hn S' a' w' p' ow' (fun _ => hb)
  have hnn : pu = false → Goes n p0 F w0 K next := fun hp S' a' w' p' ow' => hn S' a' w' p' ow' (fun h => by rw [hp] at h;cases h)
  unfold eop at h
  split at h
  · rename_i hd
    obtain ⟨hp,h⟩ := h
    split at h
    · rename_i T ad x ho
      exact store_sound hR ho hd h (hnn hp)
    · rename_i T m kx x ho
      exact mapUpd_sound hR ho hd h (hnn hp)
    · exact h.elim
  · rename_i d hd
    split at h
    · rename_i x ho;exact asg_sound hR ho hd h hng
    · rename_i T ho;exact alloc_sound hR ho hd h hng
    · rename_i T x ho;exact box_sound hR ho hd h hng
    · rename_i T len parts ho;exact buildSlice_sound hR ho hd h hng
    · rename_i T l c ho;exact makeSlice_sound hR ho hd h hng
    · rename_i T ho;exact makeMap_sound hR ho hd h hng
    · rename_i src dst x ho
      obtain ⟨v,h1,hx⟩ := evK_sound hR h
      split at h1
      · rename_i s
        split at h1
        · exact bytes_sound hR ho hd (RdS_im (hx rfl)) h1 hng
        · exact plain_sound hR ho hd h1 hng
      · split at h1
        · exact mark_sound hR ho hd (hx rfl) h1.2 (hnn h1.1)
        · exact plain_sound hR ho hd h1 hng
      · exact plain_sound hR ho hd h1 hng
    · rename_i c ho
      unfold callEK at h
      split at h
      · rename_i f l ts hc
        exact callG_sound hR ho hc (us := #[]) rfl .nil hd h hn
      · rename_i l ts t hc
        obtain ⟨v,h1,hx⟩ := evK_sound hR h
        split at h1
        · rename_i f caps
          have hr : RdC w p (a.eval (.tmp t)) (.fn f caps) := hx rfl
          generalize hu : a.eval (.tmp t) = u at hr
          cases hr with
          | fn _ _ us hl hr =>
            exact callG_sound hR ho hc (us := us.toArray) hu (RdL.as (RdL.of_get hl fun j v c hv hc => hr j v c hv hc)) hd h1 hn
        · exact h1.elim
      · rename_i l ts t name hc
        obtain ⟨v,h1,hx⟩ := evK_sound hR h
        split at h1
        · rename_i ty cs
          obtain ⟨f,hm,h1⟩ := h1
          have hr : RdC w p (a.eval (.tmp t)) (.ifa ty cs) := hx rfl
          generalize hu : a.eval (.tmp t) = u at hr
          cases hr with
          | ifa _ _ us hl hr =>
            exact callGp_sound hR (pvs := [.agg us.toArray]) (pre := [.agg cs]) (us := []) (extra := []) (fun hcal => by simpa using exec_inv ho hc a.eval hu hm hcal w) (.cons ⟨_,rfl,by simpa using RdL.of_get hl fun j v c hv hc => hr j v c hv hc⟩ .nil) .nil hd h1 hn
        · exact h1.elim
      · rename_i s x t1 t2 hc ha ht
        obtain ⟨hp,rfl,h⟩ := h
        exact append_sound hR ho hc ha ht hd h (hnn hp)
      · rename_i s x t1 t2 hc ha ht
        obtain ⟨hp,h⟩ := h
        exact copy_sound hR ho hc ha ht hd h (hnn hp)
      · rename_i x t hc ha ht
        obtain ⟨v,h1,hx⟩ := evK_sound hR h
        split at h1
        · split at h1
          · rename_i htt hmm
            obtain ⟨rfl,hdn,hK⟩ := h1
            exact lenMap_sound hR ho hc ha ht hd hdn htt hmm (hx rfl) hK hng
          · exact h1.elim
        · exact plain_sound hR ho hd h1 hng
      · exact plain_sound hR ho hd h hng
    · exact plain_sound hR rfl hd h hng

theorem guardK_sound (hR : Rel n p0 F w0 S a w p ow) {ops : Array Oper} {o : Oper} {j : Nat} {want : Bool} (hg : o.guard = some (j,want)) {K : Bool → Prop} (h : guardK ops S j want K) : ∃ g,K g ∧ Region.wanted o (yielded ops a.tmps) = g := by
  unfold guardK at h
  split at h
  · rename_i dj hj
    have hy : ∀ b,slotOf a dj = .bool b → yielded ops a.tmps j = some b := by
      intro b hb
      unfold yielded
      rw [hj]
      simp only [Option.bind_some]
      cases ht : a.tmps[dj]? with
      | none => simp [slotOf,ht,undef] at hb
      | some v => simp [slotOf,ht] at hb;rw [hb]
    split at h
    · rename_i b hs
      refine ⟨_,h,?_⟩
      have := hy b (RdS_im (hR.getS hs rfl))
      simp only [Region.wanted,hg,this]
      cases b <;> cases want <;> rfl
    · rename_i b0 b hs
      refine ⟨_,h,?_⟩
      obtain ⟨h1,h2⟩ := hR.getS hs rfl
      cases b0 with
      | true =>
        have := hy b (RdS_im (h1 rfl))
        simp only [Region.wanted,hg,this]
        cases b <;> cases want <;> rfl
      | false =>
        have hu := h2 rfl
        have : yielded ops a.tmps j = none := by
          unfold yielded
          rw [hj]
          simp only [Option.bind_some]
          cases ht : a.tmps[dj]? with
          | none => rfl
          | some v => simp [slotOf,ht] at hu;rw [hu];rfl
        simp only [Region.wanted,hg,this]
        rfl
    · exact h.elim
  · exact h.elim

theorem aop_sound {ops : Array Oper} (hR : Rel n p0 F w0 S a w p ow) {pu : Bool} {o : Oper} {K : Env → Prop} (h : aop P n pu ops S o K) {next : Act → World → Prop} (hn : GoesP n p0 F w0 w pu K next) :
    (Region.wanted o (yielded ops a.tmps) = true ∧ o.wp P a w next Q) ∨ (Region.wanted o (yielded ops a.tmps) = false ∧ next (a.put o.dst undef) w) := by
  unfold aop at h
  split at h
  · rename_i hg
    exact .inl ⟨by simp [Region.wanted,hg],eop_sound hR h hn⟩
  · rename_i j want hg
    obtain ⟨g,h,hw⟩ := guardK_sound hR hg h
    rcases h with ⟨d,hd,h⟩|⟨h1,h2⟩
    · obtain ⟨v,⟨h1,h4⟩,hok⟩ := vcop_sound hR h
      cases g with
      | true =>
        obtain ⟨u,hu,hr⟩ := hok rfl
        refine .inl ⟨hw,wp_of_qok (hr w (Below.refl _ _)) ?_⟩
        intro w' hb
        rw [hd]
        exact hn _ _ _ _ _ (fun _ => hb) h4 (rel_world (rel_set (v := .opt true v) hR h1 ⟨fun _ => hu,fun h => by cases h⟩) (Chg.of_below hb))
      | false =>
        refine .inr ⟨hw,?_⟩
        rw [hd]
        exact hn _ _ _ _ _ (fun _ => Below.refl _ _) h4 (rel_set (v := .opt false v) hR h1 ⟨(fun h => by cases h),fun _ => rfl⟩)
    · cases g with
      | true => exact .inl ⟨hw,eop_sound hR (h1 rfl) hn⟩
      | false =>
        refine .inr ⟨hw,?_⟩
        have h2 := h2 rfl
        split at h2
        · rename_i d hd
          rw [hd]
          obtain ⟨h3,v,_,h4⟩ := h2
          exact hn _ _ _ _ _ (fun _ => Below.refl _ _) h4 (rel_set (v := .opt false v) hR h3 ⟨(fun h => by cases h),fun _ => rfl⟩)
        · rename_i hd
          rw [hd]
          exact hn _ _ _ _ _ (fun _ => Below.refl _ _) h2 hR

theorem aops_sound {ops : Array Oper} : ∀ (l : List Oper) {S : Env} {a : Act} {w : World} {p : Nat → Prop} {ow : Nat → List Nat} {K : Env → Prop},Rel n p0 F w0 S a w p ow → aops P n ops l S K → (∀ S' a' w' p' ow',K S' → Rel n p0 F w0 S' a' w' p' ow' → Q .normal a' w') → wpList P ops Q l a w
  | [],S,a,w,p,ow,K,hR,h,hK => hK _ _ _ _ _ h hR
  | o :: r,S,a,w,p,ow,K,hR,h,hK => by
    simp only [aops] at h
    unfold wpList
    rcases aop_sound (Q := Q) hR h (next := wpList P ops Q r) (fun S' a' w' p' ow' _ hK' hR' => aops_sound r hR' hK' hK) with ⟨hw,h⟩|⟨hw,h⟩
    · rw [if_pos hw];exact .inl h
    · rw [if_neg (by rw [hw];simp)];exact h

theorem qop_sound {ops : Array Oper} (hR : Rel n p0 F w0 S a w p ow) {o : Oper} {K : Env → Prop} (h : qop P n ops S o K) :
    ∃ u S' ow',YieldsIf P ops (fun w' => Below w.heap.size w w') o u a ∧ (wless o.op = true → Yields P ops o u a) ∧ K S' ∧ Rel n p0 F w0 S' (a.put o.dst u) w p ow' := by
  unfold qop at h
  split at h
  · rename_i d hd
    split at h
    · rename_i hg
      obtain ⟨v,⟨h1,h4⟩,hok⟩ := vbop_sound hR h
      obtain ⟨u,hu,hr⟩ := hok rfl
      exact ⟨u,_,_,.inl ⟨by simp [Region.wanted,hg],fun w' hw' => hr w' fun _ => Later.of_below hw'⟩,fun hwl => .inl ⟨by simp [Region.wanted,hg],fun w' => hr w' fun h => by rw [hwl] at h;cases h⟩,h4,by rw [hd];exact rel_set hR h1 hu⟩
    · rename_i j want hg
      obtain ⟨g,h,hw⟩ := guardK_sound hR hg h
      obtain ⟨v,⟨h1,h4⟩,hok⟩ := vbop_sound hR h
      cases g with
      | true =>
        obtain ⟨u,hu,hr⟩ := hok rfl
        exact ⟨u,_,_,.inl ⟨hw,fun w' hw' => hr w' fun _ => Later.of_below hw'⟩,fun hwl => .inl ⟨hw,fun w' => hr w' fun h => by rw [hwl] at h;cases h⟩,h4,by rw [hd];exact rel_set (v := .opt true v) hR h1 ⟨fun _ => hu,fun h => by cases h⟩⟩
      | false =>
        exact ⟨undef,_,_,.inr ⟨hw,rfl⟩,fun _ => .inr ⟨hw,rfl⟩,h4,by rw [hd];exact rel_set (v := .opt false v) hR h1 ⟨(fun h => by cases h),fun _ => rfl⟩⟩
  · exact h.elim

theorem wpAnyG_weaken {ops : Array Oper} {md : Region.Mode} {E : List Nat} {T T' : World → Prop} (hT : ∀ w,T w → T' w) : ∀ (fuel : Nat) (listed : Array Bool) (a : Act) (w : World),wpAnyG P md ops Q E T fuel listed a w → wpAnyG P md ops Q E T' fuel listed a w
  | 0,_,_,_,h => h
  | fuel + 1,_,_,_,h => ⟨h.1,fun i hi => wpOp_mono (fun a' w' h' => ⟨h'.1,fun hE => ⟨hT _ (h'.2 hE).1,wpAnyG_weaken hT fuel _ a' w' (h'.2 hE).2⟩⟩) (h.2 i hi)⟩

theorem rops_sound {ops : Array Oper} {E : List Nat} (hs : Region.noSelect ops = true) (hQ : ∀ c a w,¬ Q (.panic c) a w) : ∀ (t : OT) (listed : Array Bool) {S : Env} {a : Act} {w : World} {p : Nat → Prop} {ow : Nat → List Nat} {K : Env → Prop},ordB ops E t listed = true → t.ok = true → Closed .any ops listed → Rel n p0 F w0 S a w p ow → rops P n ops E t S K →
    (∀ S' a' w' p' ow',K S' → Rel n p0 F w0 S' a' w' p' ow' → Q .normal a' w') → wpAnyG P .any ops Q E (fun w' => Below w.heap.size w w') t.size listed a w := by
  have step : ∀ {pu : Bool} {i : Nat} {o : Oper} {m : Nat} {listed : Array Bool} {S : Env} {a : Act} {w : World} {p : Nat → Prop} {ow : Nat → List Nat} {K K2 : Env → Prop},ops[i]? = some o → Rel n p0 F w0 S a w p ow → aop P n pu ops S o K2 → (pu = true → i ∉ E) → (pu = false → i ∈ E) →
      (∀ S' a' w' p' ow',K2 S' → Rel n p0 F w0 S' a' w' p' ow' → wpAnyG P .any ops Q E (fun w2 => Below w'.heap.size w' w2) m (listed.setIfInBounds i true) a' w') →
      wpOp P ops Q i (fun a' w' => (i ∈ E → wpAny P .any ops Q m (listed.setIfInBounds i true) a' w') ∧ (i ∉ E → Below w.heap.size w w' ∧ wpAnyG P .any ops Q E (fun w' => Below w.heap.size w w') m (listed.setIfInBounds i true) a' w')) a w := by
    intro pu i o m listed S a w p ow K K2 hi hR h hp1 hp2 hrest
    have key := aop_sound (Q := Q) hR h (next := fun a' w' => (i ∈ E → wpAny P .any ops Q m (listed.setIfInBounds i true) a' w') ∧ (i ∉ E → Below w.heap.size w w' ∧ wpAnyG P .any ops Q E (fun w' => Below w.heap.size w w') m (listed.setIfInBounds i true) a' w')) (by
      intro S' a' w' p' ow' hb hK' hR'
      have hr := hrest S' a' w' p' ow' hK' hR'
      refine ⟨fun _ => wpAny_of_G _ _ _ _ hr,fun hE => ?_⟩
      have hpt : pu = true := by cases pu with|true => rfl|false => exact absurd (hp2 rfl) hE
      have hb := hb hpt
      exact ⟨hb,wpAnyG_weaken (fun w2 h2 => hb.trans (h2.mono hb.size)) _ _ _ _ hr⟩)
    unfold wpOp
    simp only [hi]
    rcases key with ⟨hw,h⟩|⟨hw,h⟩
    · rw [if_pos hw];exact .inl h
    · rw [if_neg (by rw [hw];simp)];exact h
  intro t
  induction t with
  | done =>
    intro listed S a w p ow K hB _ _ hR h hK
    simp only [ordB] at hB
    exact ⟨by simpa using hB,hK _ _ _ _ _ h hR⟩
  | val i r ih =>
    intro listed S a w p ow K hB hok hc hR h hK
    simp only [ordB,Bool.and_eq_true,Bool.not_eq_true'] at hB
    obtain ⟨⟨⟨⟨hr,hf⟩,hE⟩,hwl⟩,hB⟩ := hB
    simp only [rops] at h
    split at h
    · rename_i o hi
      obtain ⟨u,S',ow',_,hy,h4,hR'⟩ := qop_sound hR h
      have hwl' : wless o.op = true := by simpa [wlessAt,hi] using hwl
      have hmem : i ∈ Region.ready .any ops listed := by simpa using hr
      exact wpAnyG_any hi (Region.noSelect_spec hs) (fun c a w h => absurd h (hQ _ _ _)) _ listed a w (Region.free_spec hi hf) (by simpa using hE) hmem (hy hwl') (Below.refl _ _) (ih _ hB hok (closed_step hc hmem) hR' h4 hK)
    · exact h.elim
  | load i r ih =>
    intro listed S a w p ow K hB hok hc hR h hK
    simp only [ordB,Bool.and_eq_true,Bool.not_eq_true'] at hB
    obtain ⟨⟨⟨⟨hr,hf⟩,hE⟩,hwt⟩,hB⟩ := hB
    simp only [rops] at h
    split at h
    · rename_i o hi
      obtain ⟨u,S',ow',hy,_,h4,hR'⟩ := qop_sound hR h
      have hmem : i ∈ Region.ready .any ops listed := by simpa using hr
      refine wpAnyG_first hi (Region.noSelect_spec hs) (fun c a w h => absurd h (hQ _ _ _)) _ listed a w (Region.free_spec hi hf) hc (by simpa using hE) ?_ hmem hy (Below.refl _ _) (ih _ hB hok (closed_step hc hmem) hR' h4 hK)
      intro e he hl
      have := List.all_eq_true.1 hwt e he
      rw [hl] at this
      exact ⟨_,by simpa using this⟩
    · exact h.elim
  | grow i r ih =>
    intro listed S a w p ow K hB hok hc hR h hK
    simp only [ordB,Bool.and_eq_true,Bool.not_eq_true',beq_iff_eq] at hB
    obtain ⟨⟨hr,hE⟩,hB⟩ := hB
    simp only [rops] at h
    split at h
    · rename_i o hi
      have hmem : i ∈ Region.ready .any ops listed := by rw [hr];simp
      refine wpAnyG_all (by rw [hr];simp) fun i' hi' => ?_
      rw [hr] at hi'
      simp only [List.mem_singleton] at hi'
      subst hi'
      exact step (K := K) hi hR h (fun _ => by simpa using hE) (fun h => by cases h) fun S' a' w' p' ow' hK' hR' => ih _ hB hok (closed_step hc hmem) hR' hK' hK
    · exact h.elim
  | eff i r ih =>
    intro listed S a w p ow K hB hok hc hR h hK
    simp only [ordB,Bool.and_eq_true,beq_iff_eq] at hB
    obtain ⟨⟨hr,hE⟩,hB⟩ := hB
    simp only [rops] at h
    split at h
    · rename_i o hi
      have hmem : i ∈ Region.ready .any ops listed := by rw [hr];simp
      refine wpAnyG_all (by rw [hr];simp) fun i' hi' => ?_
      rw [hr] at hi'
      simp only [List.mem_singleton] at hi'
      subst hi'
      exact step (K := K) hi hR h (fun h => by cases h) (fun _ => by simpa using hE) fun S' a' w' p' ow' hK' hR' => ih _ hB hok (closed_step hc hmem) hR' hK' hK
    · exact h.elim
  | alt rs m f ih =>
    intro listed S a w p ow K hB hok hc hR h hK
    simp only [ordB,Bool.and_eq_true,Bool.not_eq_true',beq_iff_eq] at hB
    obtain ⟨⟨hr,hne⟩,hB⟩ := hB
    simp only [OT.ok] at hok
    simp only [rops] at h
    simp only [OT.size]
    have hne' : Region.ready .any ops listed ≠ [] := by rw [hr];intro h;rw [h] at hne;simp at hne
    refine wpAnyG_all hne' fun i hi => ?_
    have hi' : i ∈ rs := by rw [← hr];exact hi
    have h1 := h i hi'
    have hok1 := List.all_eq_true.1 hok i hi'
    simp only [Bool.and_eq_true,beq_iff_eq] at hok1
    have hB1 := List.all_eq_true.1 hB i hi'
    split at h1
    · rename_i o ho
      rw [← hok1.2]
      refine step (K := K) ho hR h1 (fun h => ?_) (fun h => ?_) fun S' a' w' p' ow' hK' hR' => ih i _ hB1 hok1.1 (closed_step hc hi) hR' hK' hK
      · simpa using h
      · simpa using h
    · exact h1.elim

end
end Go.Hs
