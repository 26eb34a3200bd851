/-
  THE HEAP SEMANTICS, part 14: what may be said anew of a frame without a step; the code of a function; a function's contract from its code.
-/
import Derived.Test.YtglgmmoomlnghaaHs13
namespace Go.Hs
open Go Go.RowKit

/-- What may be said anew. pub d: what slot d's slice leads to is only read from now on. pubIn g: what is owned within g is only read. matS d e sz: slot d's nil slice is an empty row that is owned. matC: the same of a cell. ren g g': another name. drp: forgotten. mov g i j g': what cell (i, j) of g owns goes under g'. -/
inductive Gh where
  | pub (d : Nat)
  | pubIn (g : Nat)
  | matS (d e sz : Nat)
  | matC (g i j e sz : Nat)
  | ren (g g' : Nat)
  | drp (g : Nat)
  | mov (g i j g' : Nat)

def reC (g g' : Nat) : AC → AC
  | .ref x q b sz lo n => .ref (if x = g then g' else x) q b sz lo n
  | .ptr x q k sz i j => .ptr (if x = g then g' else x) q k sz i j
  | .mref x k => .mref (if x = g then g' else x) k
  | .view x q k sz i j s n => .view (if x = g then g' else x) q k sz i j s n
  | c => c

def reV (g g' : Nat) : AV → AV
  | .c c => .c (reC g g' c)
  | .agg cs => .agg (cs.map (reC g g'))
  | .box k ty cs => .box k ty (cs.map (reC g g'))
  | v => v

def Env.reAll (S : Env) (g g' : Nat) : Env :=
  match S with
  | [] => []
  | (d,v) :: r => (d,reV g g' v) :: Env.reAll r g g'

def AV.frzIn : AV → AV
  | .row b e sz es => .row b e sz (frzLL es)
  | .box k ty cs => .box k ty (frzL cs)
  | v => v

def ghK (S : Env) (x : Gh) (K : Env → Prop) : Prop :=
  match x with
  | .pub d => match S.get d with
    | some (.c (.ref g [] b sz lo m)) => match S.get g with
      | some (.row b' _ sz' es) => b' = b ∧ sz' = sz ∧ lo + m ≤ es.length ∧ K ((S.drop g).set d (.c (.sl sz ((frzLL es).extract lo (lo + m)))))
      | _ => False
    | _ => False
  | .pubIn g => match S.get g with
    | some v => v.isS = false ∧ K (S.upd g v.frzIn)
    | none => False
  | .matS d e sz => match S.get d with
    | some (.c .nil) => K ((S.set (nm d) (.row none e sz [])).set d (.c (.ref (nm d) [] none sz 0 0)))
    | _ => False
  | .matC g i j e sz => match obAt (S.get g) [] with
    | some o => match getC .dead o.es i j with
      | .nil => K (S.updAt g [] (o.es.set i ((o.es.getD i []).set j (.own none e sz []))))
      | _ => False
    | none => False
  | .ren g g' => match S.get g with
    | some v => v.isS = false ∧ S.get g' = none ∧ g ≠ g' ∧ K ((g',reV g g' v) :: (S.drop g).reAll g g')
    | none => False
  | .drp g => K (S.drop g)
  | .mov g i j g' => match obAt (S.get g) [] with
    | some o => match getC .nil o.es i j with
      | .own b e sz es => S.get g' = none ∧ g ≠ g' ∧ K ((g',.row b e sz es) :: S.updAt g [] (o.es.set i ((o.es.getD i []).set j (.ref g' [] b sz 0 es.length))))
      | _ => False
    | none => False

def ghs : List Gh → Env → (Env → Prop) → Prop
  | [],S,K => K S
  | x :: r,S,K => ghK S x fun S => ghs r S K

def Env.live (S : Env) (ks : List Nat) : Env :=
  match S with
  | [] => []
  | (d,v) :: r => if 1000 ≤ d ∨ d ∈ ks then (d,v) :: Env.live r ks else Env.live r ks

def keepS (S : Env) : Option (List Nat) → Env
  | none => S
  | some ks => S.live ks

def keepR (S : Env) : Option (List Nat) → Env
  | none => S
  | some ks => S.restr ks

def thenE (next : Env → Prop) (Q : Exit → Env → Prop) : Exit → Env → Prop
  | .normal,S => next S
  | e,S => Q e S

def inB (id : Nat) (Q : Exit → Env → Prop) : Exit → Env → Prop
  | .exit id',S => if id' = id then Q .normal S else Q (.exit id') S
  | e,S => Q e S

def condK (S : Env) (c : Operand) (K : Bool → Prop) : Prop :=
  evK S true c fun
    | .c (.im (.bool b)) => K b
    | _ => False

abbrev After (n : Nat) (p0 F : Nat → Prop) (w0 : World) (Q : Exit → Env → Prop) : Exit → Act → World → Prop := fun e a' w' => ∃ S' p' ow',Q e S' ∧ Rel n p0 F w0 S' a' w' p' ow'

/-- A code does what Q says, wherever S tells of the machine. -/
def Snd (P : Program) (n : Nat) (c : Code) (Q : Exit → Env → Prop) (S : Env) : Prop :=
  ∀ (p0 F : Nat → Prop) (w0 : World) (a : Act) (w : World) (p : Nat → Prop) (ow : Nat → List Nat),Rel n p0 F w0 S a w p ow → c.wp P (After n p0 F w0 Q) a w

def awpReg (P : Program) (n : Nat) (L : Nat → Option (List Nat)) (id : Nat) (ops : Array Oper) (draw : Bool) (Q : Exit → Env → Prop) (S : Env) : Prop :=
  match draw with
  | false => aops P n ops ops.toList S fun S' => Q .normal (keepS S' (L id))
  | true => P.follows .mixedOrders = true ∧ ∃ E t,(Region.noSelect ops && t.ok && t.size == ops.size && ordB ops E t (Array.replicate ops.size false)) = true ∧
      rops P n ops E t S fun S' => Q .normal (keepS S' (L id))

def awp (P : Program) (n : Nat) (L : Nat → Option (List Nat)) : Code → (Exit → Env → Prop) → Env → Prop
  | .skip,Q,S => Q .normal S
  | .region id ops draw,Q,S => ∃ gh,ghs gh S (awpReg P n L id ops draw Q)
  | .seq x y,Q,S => ∃ (ks : Option (List Nat)) (M : Env → Prop),awp P n L x (thenE (fun S => M (keepR S ks)) Q) S ∧ ∀ S',M S' → awp P n L y Q S'
  | .cond c x y,Q,S => condK S c fun b => (b = true → awp P n L x Q S) ∧ (b = false → awp P n L y Q S)
  | .block id c,Q,S => awp P n L c (inB id Q) S
  | .loop c,Q,S => ∃ (gh : List Gh) (ks : Option (List Nat)) (I : Nat → Env → Prop),(ghs gh S fun S => ∃ k,I k (keepR S ks)) ∧ ∀ k S',I k S' → awp P n L c (thenE (fun S'' => ∃ gh',ghs gh' S'' fun S'' => ∃ k',k' < k ∧ I k' (keepR S'' ks)) Q) S'
  | .exit id,Q,S => Q (.exit id) S
  | .ret,Q,S => Q .ret S
  | .label _,Q,S => Q .normal S
  | .goto l,Q,S => Q (.goto l) S
  | c,Q,S => Snd P n c Q S

def initEnv : Nat → List AV → Env
  | _,[] => []
  | i,v :: r => (i,v) :: initEnv (i + 1) r

def isAggT (P : Program) (T : TypeId) : Bool :=
  match P.underlying T with
  | some (.struct _) => true
  | some (.array _ _) => true
  | _ => false

/-- A cell's value that is handed back: of what was handed over (Hk) a slice may be told, its rows stay under their name. -/
def absH (Hk : List Nat) (S : Env) (c : AC) (K : Env → AC → Prop) : Prop :=
  match c with
  | .ref g [] b sz lo m => match Hk.elem g with
    | true => K S (.ref g [] b sz lo m)
    | false => absC S (.ref g [] b sz lo m) K
  | c => absC S c K

def resT (P : Program) (Hk : List Nat) : Env → List ResultVar → (Env → List TC → Prop) → Prop
  | S,[],K => K S []
  | S,.tmp t :: r,K => match S.get t with
    | some (.c c) => absH Hk S c fun S c => resT P Hk S r fun S l => K S (.c c :: l)
    | some (.agg cs) => absL S cs fun S cs => resT P Hk S r fun S l => K S (.ag cs :: l)
    | _ => False
  | S,.cell t T :: r,K => match S.get t with
    | some (.c (.ptr g [] k _sz 0 0)) => match S.get g with
      | some (.box k' _ cs) => k' = k ∧ szOf P T = some cs.length ∧ (match isAggT P T with
        | true => resT P Hk (S.drop g) r fun S l => K S (.ag cs :: l)
        | false => match cs with
          | [c] => resT P Hk (S.drop g) r fun S l => K S (.c c :: l)
          | _ => False)
      | _ => False
    | _ => False

def resAV : List TC → AV
  | [.c c] => .c c
  | [.ag cs] => .agg cs
  | l => .tup l

def resK (P : Program) (Hk : List Nat) (S : Env) (rs : List ResultVar) (R : AV → Env → Prop) : Prop :=
  resT P Hk S rs fun S l => (S.sel Hk).keys = Hk ∧ ((S.sel Hk).all fun x => !x.2.isS) = true ∧ R (resAV l) (S.sel Hk)

def retQ (P : Program) (fn : Func) (Hk : List Nat) (R : AV → Env → Prop) : Exit → Env → Prop
  | .ret,S => resK P Hk S fn.results.toList R
  | .normal,S => resK P Hk S fn.results.toList R
  | _,_ => False

section
variable {P : Program} {n : Nat} {p0 F : Nat → Prop} {w0 : World} {S : Env} {a : Act} {w : World} {p : Nat → Prop} {ow : Nat → List Nat} {Q : Exit → Act → World → Prop}

theorem reC_ok {g g' : Nat} {u : Value} {c : AC} (h : RdC w p u c) : RdC w p u (reC g g' c) := by
  cases h with
  | im _ h => exact .im _ h
  | nil => exact .nil
  | nilS sz cap => exact .nilS sz cap
  | sl a n cap sz es us hn hcap hsz hp hc hr => exact .sl a n cap sz es us hn hcap hsz hp hc hr
  | adr a cap sz i j es h => exact .adr a cap sz i j es h
  | refN g q sz => exact .refN _ q sz
  | ref g q k cap sz lo n o ho h => exact .ref _ q k cap sz lo n o ho h
  | ptr g q k sz i j => exact .ptr _ q k sz i j
  | fn f caps us hl hr => exact .fn f caps us hl hr
  | ifc t v c h => exact .ifc t v c h
  | ifa t cs us hl hr => exact .ifa t cs us hl hr
  | mref g k => exact .mref _ k
  | mfn t name vs ys => exact .mfn t name vs ys
  | view g q k sz i j s n cap h => exact .view _ q k sz i j s n cap h
  | dead _ h => exact .dead _ h

theorem reL_ok {g g' : Nat} {us : List Value} {cs : List AC} (h : RdL w p us cs) : RdL w p us (cs.map (reC g g')) := by
  induction h with
  | nil => exact .nil
  | cons h _ ih => exact .cons (reC_ok h) ih

theorem reO_ok {g g' : Nat} {us : List Value} {cs : List AC} {O : List Nat} (h : RdO w p us cs O) : RdO w p us (cs.map (reC g g')) O := by
  induction h with
  | nil => exact .nil
  | per h _ ih => exact .per (reC_ok h) ih
  | own ho hs h _ _ ih => exact .own ho hs h ih

theorem reV_ok {g g' : Nat} {u : Value} {v : AV} {O : List Nat} (h : RdV w p u O v) : RdV w p u O (reV g g' v) := by
  cases v with
  | c c => exact reC_ok (h : RdC w p u c)
  | agg cs => obtain ⟨vs,h1,h2⟩ := h;exact ⟨vs,h1,reL_ok h2⟩
  | box k ty cs =>
    obtain ⟨xs,O',h1,h2,h3,h4⟩ := h
    refine ⟨xs,O',?_,by simp,?_,h4⟩
    · show OR w (some (k,1)) ty (cs.map _).length 1 xs
      simpa using h1
    · have : [cs].flatten = cs := by simp
      rw [this] at h3
      simpa using reO_ok h3
  | _ => exact h

theorem get_none {S : Env} {g : Nat} (h : S.get g = none) (v : AV) : (g,v) ∉ S := by
  intro hm
  induction S with
  | nil => cases hm
  | cons x r ih =>
    obtain ⟨k,u⟩ := x
    simp only [Env.get] at h
    split at h
    · cases h
    · rename_i hk
      cases hm with
      | head => exact hk rfl
      | tail _ hm => exact ih h hm

theorem mem_reAll {g g' : Nat} : ∀ {S : Env} {d : Nat} {v : AV},(d,v) ∈ S.reAll g g' → ∃ v0,(d,v0) ∈ S ∧ v = reV g g' v0
  | [],d,v,h => by simp [Env.reAll] at h
  | (k,u) :: r,d,v,h => by
    simp only [Env.reAll] at h
    cases h with
    | head => exact ⟨u,by simp,rfl⟩
    | tail _ h => obtain ⟨v0,h1,h2⟩ := mem_reAll h;exact ⟨v0,by simp [h1],h2⟩

theorem ren_sound (hR : Rel n p0 F w0 S a w p ow) {g g' : Nat} {v : AV} (hg : S.get g = some v) (hs : v.isS = false) (hg' : S.get g' = none) : Rel n p0 F w0 ((g',reV g g' v) :: (S.drop g).reAll g g') a w p (updF ow g' (ow g)) := by
  have hm := Env.mem_of_get hg
  have hmem : ∀ d u,(d,u) ∈ (g',reV g g' v) :: (S.drop g).reAll g g' → (d = g' ∧ u = reV g g' v) ∨ (d ≠ g' ∧ d ≠ g ∧ ∃ u0,(d,u0) ∈ S ∧ u = reV g g' u0) := by
    intro d u hd
    cases hd with
    | head => exact .inl ⟨rfl,rfl⟩
    | tail _ hd =>
      obtain ⟨u0,h1,h2⟩ := mem_reAll hd
      obtain ⟨h3,h4⟩ := Env.mem_drop h1
      exact .inr ⟨fun h => get_none hg' u0 (h ▸ h3),h4,u0,h3,h2⟩
  refine ⟨hR.defers,hR.size,hR.chg,hR.plt,hR.pnew,?_,?_,?_,?_⟩
  · intro d u hd
    rcases hmem d u hd with ⟨rfl,rfl⟩|⟨h1,h2,u0,h3,rfl⟩
    · simp only [updF,if_true]
      have := reV_ok (g := g) (g' := d) (hR.vals _ _ hm)
      have hs' : (reV g d v).isS = false := by cases v <;> first|exact hs|rfl
      revert this
      generalize reV g d v = vv at hs'
      intro this
      cases vv <;> first|exact this|simp [AV.isS] at hs'
    · simp only [updF,h1,if_false]
      exact reV_ok (hR.vals _ _ h3)
  · intro d d' u u' b hd hd' hne hb
    rcases hmem d u hd with ⟨rfl,rfl⟩|⟨h1,h2,u0,h3,rfl⟩
    · rcases hmem d' u' hd' with ⟨rfl,rfl⟩|⟨h1',h2',u0',h3',rfl⟩
      · exact absurd rfl hne
      · simp only [updF,if_true,h1',if_false] at hb ⊢
        exact hR.sep _ _ _ _ b hm h3' (Ne.symm h2') hb
    · rcases hmem d' u' hd' with ⟨rfl,rfl⟩|⟨h1',h2',u0',h3',rfl⟩
      · simp only [updF,if_true,h1,if_false] at hb ⊢
        exact hR.sep _ _ _ _ b h3 hm h2 hb
      · simp only [updF,h1,h1',if_false] at hb ⊢
        exact hR.sep _ _ _ _ b h3 h3' hne hb
  · intro d u hd
    rcases hmem d u hd with ⟨rfl,rfl⟩|⟨h1,h2,u0,h3,rfl⟩
    · simp only [updF,if_true];exact hR.nod _ _ hm
    · simp only [updF,h1,if_false];exact hR.nod _ _ h3
  · intro d u hd b hb
    rcases hmem d u hd with ⟨rfl,rfl⟩|⟨h1,h2,u0,h3,rfl⟩
    · simp only [updF,if_true] at hb;exact hR.fresh _ _ hm b hb
    · simp only [updF,h1,if_false] at hb;exact hR.fresh _ _ h3 b hb

/-- What free blocks hold is only read from now on. -/
theorem rel_publish (hR : Rel n p0 F w0 S a w p ow) {O : List Nat} (hF : Free F w0 S w p ow O) : Rel n p0 F w0 S a w (fun b => p b ∨ b ∈ O) ow := by
  refine rel_more hR (fun _ h => .inl h) ?_ ?_ ?_
  · rintro b (h|h)
    · exact hR.plt b h
    · exact (hF.fresh b h).1
  · rintro b (h|h)
    · exact hR.pnew b h
    · exact .inr (hF.fresh b h).2.2
  · rintro d v hm b hb (h|h)
    · exact (hR.fresh _ _ hm b hb).2.1 h
    · exact hF.apart _ _ hm b hb h

theorem rel_setS (hR : Rel n p0 F w0 S a w p ow) {d : Nat} {v : AV} (hv : RdS w p (slotOf a d) v) : Rel n p0 F w0 (S.set d v) a w p (updF ow d []) := by
  refine rel_put hR (fun _ => False) (fun d' v' h => Env.mem_drop h) (hR.self d) (fun _ h => h.elim) (fun _ _ _ _ _ h => h) (Chg.refl _ _) .nil (by simp) hv.v

theorem mov_sound (hR : Rel n p0 F w0 S a w p ow) {g ii jj g' : Nat} {o0 : Ob} {b' : Blk} {e' sz'' : Nat} {es : List (List AC)} (ho0 : obAt (S.get g) [] = some o0) (hcell : getC .nil o0.es ii jj = .own b' e' sz'' es) (hg' : S.get g' = none) (hne' : g ≠ g') :
    ∃ ow',Rel n p0 F w0 ((g',.row b' e' sz'' es) :: S.updAt g [] (o0.es.set ii ((o0.es.getD ii []).set jj (.ref g' [] b' sz'' 0 es.length)))) a w p ow' := by
  obtain ⟨Oq,pre,post,eow,hOq,hupd⟩ := rel_updAt hR Free.nil ho0
  obtain ⟨v0,o00,p1,p2,p3⟩ := obAt_ob ho0
  have hmem := Env.mem_of_get p1
  obtain ⟨xs0,O0,c1,c2,c3,rfl⟩ := hOq
  obtain ⟨ee,l1,l2⟩ := getC_some hcell (by simp)
  have hel := c2 ee (List.mem_of_getElem? l1)
  have hjj : jj < o0.sz := by have := (List.getElem?_eq_some_iff.1 l2).1;omega
  have hmm : o0.es.flatten[ii * o0.sz + jj]? = some (.own b' e' sz'' es) := by rw [flatten_get c2 ii ee jj l1 hjj];exact l2
  obtain ⟨ys0,A,On,C,hv0,n1,n2,n3,n4,n5,n6⟩ := c3.getOwn hmm
  have hee : o0.es.getD ii [] = ee := by rw [List.getD_eq_getElem?_getD,l1];rfl
  have hdead : RdO w p xs0 (o0.es.set ii (ee.set jj (.ref g' [] b' sz'' 0 es.length))).flatten (A ++ C) := by
    rw [flatten_set c2 ii ee jj _ l1 hjj,List.set_eq_take_append_cons_drop,if_pos (List.getElem?_eq_some_iff.1 hmm).1]
    have hvs0 : xs0 = xs0.take (ii * o0.sz + jj) ++ (sliceV b' es.length :: xs0.drop (ii * o0.sz + jj + 1)) := by
      conv => lhs;rw [← List.take_append_drop (ii * o0.sz + jj) xs0]
      congr 1
      have hlt := (List.getElem?_eq_some_iff.1 hv0).1
      rw [List.drop_eq_getElem_cons hlt,(List.getElem?_eq_some_iff.1 hv0).2]
    rw [hvs0]
    exact n5.append (.per (rdC_whole n1 g' []) n6)
  have hob' : RdOb w p { o0 with es := o0.es.set ii (ee.set jj (.ref g' [] b' sz'' 0 es.length)) } (blks o0.b ++ (A ++ C)) := by
    refine ⟨xs0,A ++ C,by simpa using c1,?_,hdead,rfl⟩
    intro x hx
    rcases List.mem_or_eq_of_mem_set hx with hx|hx
    · exact c2 x hx
    · rw [hx,List.length_set];exact hel
  have hnodg := hR.nod _ _ hmem
  rw [eow,n4] at hnodg
  have hR2 := hupd w _ _ (Chg.refl _ _) (by simp) hob' (by
    have h1 := (List.nodup_append.1 (List.nodup_append.1 hnodg).1).2.1
    refine h1.sublist ?_
    refine (List.Sublist.refl _).append ?_
    rw [List.append_assoc]
    exact (List.Sublist.refl _).append (List.sublist_append_right _ _)) (by
    intro b hb
    have : b ∈ blks o0.b ++ O0 := by
      rw [n4]
      simp only [List.mem_append] at hb ⊢
      rcases hb with hb|hb|hb
      · exact .inl hb
      · exact .inr (.inl (.inl hb))
      · exact .inr (.inr hb)
    exact ⟨.inl this,(hR.fresh _ _ hmem b (by rw [eow];exact List.mem_append_left _ (List.mem_append_right _ this))).1⟩)
  rw [← hee] at hR2
  have hin : ∀ b ∈ blks b' ++ On,b ∈ ow g := fun b hb => by
    rw [eow,n4]
    simp only [List.mem_append] at hb ⊢
    exact .inl (.inr (.inr (.inl (.inr hb))))
  have hmd : ∀ d' v',(d',v') ∈ S.updAt g [] (o0.es.set ii ((o0.es.getD ii []).set jj (.ref g' [] b' sz'' 0 es.length))) → d' = g ∨ (d' ≠ g ∧ (d',v') ∈ S) := by
    intro d' v' hd'
    unfold Env.updAt at hd'
    rw [p1] at hd'
    rcases Env.mem_upd hd' with ⟨h,_⟩|⟨h1,h2⟩
    · exact .inl h
    · exact .inr ⟨h2,h1⟩
  have hFn : Free F w0 (S.updAt g [] (o0.es.set ii ((o0.es.getD ii []).set jj (.ref g' [] b' sz'' 0 es.length)))) w p (updF ow g (pre ++ (blks o0.b ++ (A ++ C)) ++ post)) (blks b' ++ On) := by
    refine ⟨?_,?_,?_⟩
    · refine hnodg.sublist ?_
      refine List.Sublist.trans ?_ (List.sublist_append_left _ _)
      refine List.Sublist.trans ?_ (List.sublist_append_right _ _)
      refine List.Sublist.trans ?_ (List.sublist_append_right _ _)
      refine List.Sublist.trans ?_ (List.sublist_append_left _ _)
      exact List.sublist_append_right _ _
    · intro b hb
      exact hR.fresh _ _ hmem b (hin b hb)
    · intro d' v' hd' b hb hb'
      rcases hmd d' v' hd' with rfl|⟨hne,hmd⟩
      · simp only [updF,if_true] at hb
        simp only [List.nodup_append] at hnodg
        simp only [List.mem_append] at hb hb'
        obtain ⟨⟨_,⟨_,⟨⟨_,_,q3⟩,_,q4⟩,q2⟩,q1⟩,_,q0'⟩ := hnodg
        rcases hb with (hb|hb|hb|hb)|hb
        · exact q1 b hb b (List.mem_append_right _ (List.mem_append_left _ (List.mem_append_right _ (List.mem_append.2 hb')))) rfl
        · exact q2 b hb b (List.mem_append_left _ (List.mem_append_right _ (List.mem_append.2 hb'))) rfl
        · exact q3 b hb b (List.mem_append.2 hb') rfl
        · exact q4 b (List.mem_append_right _ (List.mem_append.2 hb')) b hb rfl
        · exact q0' b (List.mem_append_right _ (List.mem_append_right _ (List.mem_append_left _ (List.mem_append_right _ (List.mem_append.2 hb'))))) b hb rfl
      · simp only [updF,hne,if_false] at hb
        exact hR.sep _ _ _ _ b hmd hmem hne hb (hin b hb')
  have hput := rel_putF hR2 (S0 := S.updAt g [] (o0.es.set ii ((o0.es.getD ii []).set jj (.ref g' [] b' sz'' 0 es.length)))) (g := g') (v := .row b' e' sz'' es) hFn (fun d v h => ⟨h,fun he => by
    subst he
    rcases hmd _ _ h with h1|⟨_,h1⟩
    · exact hne' h1.symm
    · exact get_none hg' _ h1⟩) (hR.self g') (Chg.refl _ _) hFn.nod (fun b hb => ⟨.inl hb,(hFn.fresh b hb).1⟩) ⟨ys0,On,n1,n2,n3,rfl⟩
  exact ⟨_,hput⟩

theorem gh_sound (hR : Rel n p0 F w0 S a w p ow) {x : Gh} {K : Env → Prop} (h : ghK S x K) : ∃ S' p' ow',K S' ∧ Rel n p0 F w0 S' a w p' ow' := by
  unfold ghK at h
  split at h
  · rename_i d
    split at h
    · rename_i g b sz lo m hd
      split at h
      · rename_i b' e sz' es hg
        obtain ⟨rfl,rfl,hm,h⟩ := h
        have hF := free_take hR (Free.nil (S := S)) hg
        rw [List.nil_append] at hF
        have hR1 := rel_publish (rel_drop hR g) hF
        refine ⟨_,_,_,h,rel_setS hR1 ?_⟩
        have hob : RdOb w p ⟨b',e,sz',es⟩ (ow g) := hR.get hg
        have hrow := hob.frzRow (p' := fun b => p b ∨ b ∈ ow g) (fun _ h => .inl h) (fun b hb => .inr hb)
        have hsl : RdC w p (slotOf a d) (.ref g [] b' sz' lo m) := hR.getS hd rfl
        exact sliceV_extract hrow (frzLL_length _) (hsl.mono (fun _ h => .inl h) (KeepsOn.refl _ _)) hm
      · exact h.elim
    · exact h.elim
  · rename_i g
    split at h
    · rename_i v hg
      obtain ⟨hs,h⟩ := h
      -- what is owned within is free
      have hm := Env.mem_of_get hg
      have key : ∀ (o : Ob),v.ob = some o → ∃ p' ow',Rel n p0 F w0 (S.upd g v.frzIn) a w p' ow' := by
        intro o ho
        obtain ⟨xs,O',h1,h2,h3,h4⟩ := (hR.get hg).ob ho
        have hF := free_take hR (Free.nil (S := S)) hg
        rw [List.nil_append,h4] at hF
        have hFin := hF.sub (List.sublist_append_right (blks o.b) O')
        let p' : Nat → Prop := fun b => p b ∨ b ∈ O'
        have hR1 : Rel n p0 F w0 (S.drop g) a w p' ow := rel_publish (rel_drop hR g) hFin
        have hnod := hR.nod _ _ hm
        rw [h4] at hnod
        have hFb : Free F w0 (S.drop g) w p' ow (blks o.b) := by
          have := hF.sub (List.sublist_append_left (blks o.b) O')
          refine ⟨this.nod,fun b hb => ⟨(this.fresh b hb).1,?_,(this.fresh b hb).2.2⟩,this.apart⟩
          rintro (h|h)
          · exact (this.fresh b hb).2.1 h
          · exact (List.nodup_append.1 hnod).2.2 b hb b h rfl
        have hfr : RdL w p' xs (frzL o.es.flatten) := h3.frz (fun _ h => .inl h) (fun b hb => .inr hb)
        have hnew : RdOb w p' ⟨o.b,o.e,o.sz,frzLL o.es⟩ (blks o.b) := by
          refine ⟨xs,[],?_,?_,?_,by simp⟩
          · show OR w o.b o.e o.sz (frzLL o.es).length xs
            rw [frzLL_length];exact h1
          · intro x hx
            simp only [frzLL_eq,List.mem_map] at hx
            obtain ⟨y,hy,rfl⟩ := hx
            rw [frzL_length];exact h2 y hy
          · show RdO w p' xs (frzLL o.es).flatten []
            rw [frzL_flatten];exact hfr.o
        have hv : RdV w p' (slotOf a g) (blks o.b) v.frzIn := by
          cases v with
          | row b e sz es => simp [AV.ob] at ho;subst ho;exact hnew
          | box k ty cs =>
            simp [AV.ob] at ho;subst ho
            have h5 : frzLL [cs] = [frzL cs] := rfl
            simp only [h5] at hnew
            show RdOb w p' ⟨some (k,1),ty,(frzL cs).length,[frzL cs]⟩ _
            rw [frzL_length];exact hnew
          | _ => simp [AV.ob] at ho
        have hput := rel_putF hR1 (S0 := S.drop g) (g := g) hFb (fun d v h => ⟨h,(Env.mem_drop h).2⟩) (hR.self g) (Chg.refl _ _) hFb.nod (fun b hb => ⟨.inl hb,(hFb.fresh b hb).1⟩) hv
        refine ⟨p',_,rel_sub hput ?_⟩
        intro d v' hd
        rcases Env.mem_upd hd with ⟨rfl,rfl⟩|⟨k1,k2⟩
        · simp
        · refine List.mem_cons_of_mem _ ?_
          revert k1
          generalize S = T
          intro k1
          induction T with
          | nil => cases k1
          | cons x r ih =>
            obtain ⟨k,u⟩ := x
            simp only [Env.drop]
            cases k1 with
            | head => rw [if_neg k2];simp
            | tail _ k1 =>
              split
              · exact ih k1
              · exact List.mem_cons_of_mem _ (ih k1)
      cases v with
      | row b e sz es => obtain ⟨p',ow',h1⟩ := key _ rfl;exact ⟨_,p',ow',h,h1⟩
      | box k ty cs => obtain ⟨p',ow',h1⟩ := key _ rfl;exact ⟨_,p',ow',h,h1⟩
      | mapo k l =>
        refine ⟨_,p,ow,h,rel_sub hR ?_⟩
        intro d v' hd
        rcases Env.mem_upd hd with ⟨rfl,rfl⟩|⟨k1,k2⟩
        · exact hm
        · exact k1
      | _ => simp [AV.isS] at hs
    · exact h.elim
  · rename_i d e sz
    split at h
    · rename_i hd
      have hnil : slotOf a d = .slice none 0 0 := RdS_nil (hR.getS hd rfl)
      have hR1 := rel_new hR (g := nm d) (v := .row none e sz []) (O := []) (w' := w) (Chg.refl _ _) .nil (by simp) ⟨[],[],⟨by simp,rfl⟩,by simp,.nil,rfl⟩
      exact ⟨_,p,_,h,rel_setS hR1 (show RdC w p (slotOf a d) _ by rw [hnil];exact .refN _ _ _)⟩
    · exact h.elim
  · rename_i g i j e sz
    split at h
    · rename_i o ho
      split at h
      · rename_i hc
        obtain ⟨ee,h1,h2⟩ := getC_some hc (by simp)
        obtain ⟨O1,pre,post,eow,⟨xs,O',k1,k2,k3,rfl⟩,hupd⟩ := rel_updAt hR Free.nil ho
        obtain ⟨v0,o0,p1,_,_⟩ := obAt_ob ho
        have hm := Env.mem_of_get p1
        have hnod := hR.nod _ _ hm
        rw [eow] at hnod
        have hel := k2 ee (List.mem_of_getElem? h1)
        have hj : j < o.sz := by have := (List.getElem?_eq_some_iff.1 h2).1;omega
        have hmm : o.es.flatten[i * o.sz + j]? = some .nil := by rw [flatten_get k2 i ee j h1 hj];exact h2
        obtain ⟨u,A,B,C,hv,e1,hB,hA,hC⟩ := k3.at hmm
        obtain ⟨hu,hB0⟩ := hB.one rfl
        subst hB0
        have hu' : u = .slice none 0 0 := by cases hu;rfl
        subst hu'
        have hee : o.es.getD i [] = ee := by rw [List.getD_eq_getElem?_getD,h1];rfl
        have hnew : RdOb w p { o with es := o.es.set i (ee.set j (.own none e sz [])) } (blks o.b ++ O') := by
          refine ⟨xs,O',by simpa using k1,?_,?_,rfl⟩
          · intro x hx
            rcases List.mem_or_eq_of_mem_set hx with hx|hx
            · exact k2 x hx
            · rw [hx,List.length_set];exact hel
          · show RdO w p xs (o.es.set i _).flatten O'
            rw [flatten_set k2 i ee j _ h1 hj,List.set_eq_take_append_cons_drop,if_pos (List.getElem?_eq_some_iff.1 hmm).1]
            have hvs : xs = xs.take (i * o.sz + j) ++ (sliceV none 0 :: xs.drop (i * o.sz + j + 1)) := by
              conv => lhs;rw [← List.take_append_drop (i * o.sz + j) xs]
              congr 1
              have hlt := (List.getElem?_eq_some_iff.1 hv).1
              rw [List.drop_eq_getElem_cons hlt,(List.getElem?_eq_some_iff.1 hv).2]
              rfl
            rw [hvs,e1,List.append_nil]
            have hown := RdO.own (b := none) (e := e) (sz := sz) (es := []) (xs := []) (w := w) (p := p) ⟨by simp,rfl⟩ (by simp) .nil hC
            exact hA.append hown
        rw [← hee] at hnew
        have hR' := hupd w _ _ (Chg.refl _ _) (by simp) hnew ((List.nodup_append.1 (List.nodup_append.1 hnod).1).2.1) (fun b hb => ⟨.inl hb,(hR.fresh _ _ hm b (by rw [eow];exact List.mem_append_left _ (List.mem_append_right _ hb))).1⟩)
        exact ⟨_,p,_,h,hR'⟩
      · exact h.elim
    · exact h.elim
  · rename_i g g'
    split at h
    · rename_i v hg
      obtain ⟨h1,h2,_,h⟩ := h
      exact ⟨_,p,_,h,ren_sound hR hg h1 h2⟩
    · exact h.elim
  · exact ⟨_,p,ow,h,rel_drop hR _⟩
  · split at h
    · rename_i o ho
      split at h
      · rename_i hc
        obtain ⟨h1,h2,h⟩ := h
        obtain ⟨ow',hR'⟩ := mov_sound hR ho hc h1 h2
        exact ⟨_,p,ow',h,hR'⟩
      · exact h.elim
    · exact h.elim

end
end Go.Hs
