/-
  THE HEAP SEMANTICS, part 6: what is owned is taken out of the frame, put into other things, turned in place: the laws on the relation.
-/
import Derived.Test.YtglgmmoomlnghaaHs5
namespace Go.Hs
open Go Go.RowKit

theorem flatten_set {sz : Nat} : ∀ {es : List (List AC)},(∀ e,e ∈ es → e.length = sz) → ∀ (i : Nat) (e : List AC) (j : Nat) (c : AC),es[i]? = some e → j < sz → (es.set i (e.set j c)).flatten = es.flatten.set (i * sz + j) c
  | [],_,i,e,j,c,hi,_ => by simp at hi
  | e0 :: es,h,i,e,j,c,hi,hj => by
    have h1 := h e0 (by simp)
    cases i with
    | zero => simp at hi;subst hi;simp only [List.set_cons_zero,List.flatten_cons,Nat.zero_mul,Nat.zero_add];rw [List.set_append_left _ _ (by omega)]
    | succ i =>
      simp at hi
      have h2 := flatten_set (es := es) (fun e he => h e (by simp [he])) i e j c hi hj
      simp only [List.set_cons_succ,List.flatten_cons,h2]
      rw [List.set_append_right _ _ (by rw [h1,Nat.add_mul];omega)]
      rw [show (i + 1) * sz + j - e0.length = i * sz + j from by rw [h1,Nat.add_mul];omega]

def splice (e : List AC) (j : Nat) (cs : List AC) : List AC := e.take j ++ cs ++ e.drop (j + cs.length)

theorem splice_all {e cs : List AC} (h : cs.length = e.length) : splice e 0 cs = cs := by
  unfold splice
  simp [h]

theorem splice_length {e cs : List AC} {j : Nat} (h : j + cs.length ≤ e.length) : (splice e j cs).length = e.length := by
  simp only [splice,List.length_append,List.length_take,List.length_drop]
  omega

theorem flatten_splice {sz : Nat} : ∀ {es : List (List AC)},(∀ e,e ∈ es → e.length = sz) → ∀ (i : Nat) (e : List AC) (j : Nat) (cs : List AC),es[i]? = some e → j + cs.length ≤ sz → (es.set i (splice e j cs)).flatten = splice es.flatten (i * sz + j) cs
  | [],_,i,e,j,cs,hi,_ => by simp at hi
  | e0 :: es,h,i,e,j,cs,hi,hj => by
    have h1 := h e0 (by simp)
    cases i with
    | zero =>
      simp at hi;subst hi
      simp only [List.set_cons_zero,List.flatten_cons,Nat.zero_mul,Nat.zero_add,splice]
      rw [List.take_append_of_le_length (by omega),List.drop_append_of_le_length (by omega)]
      simp [List.append_assoc]
    | succ i =>
      simp at hi
      have h2 := flatten_splice (es := es) (fun e he => h e (by simp [he])) i e j cs hi hj
      simp only [List.set_cons_succ,List.flatten_cons,h2]
      simp only [splice]
      have e1 : (i + 1) * sz + j = e0.length + (i * sz + j) := by rw [h1,Nat.add_mul];omega
      have e2 : (i + 1) * sz + j + cs.length = e0.length + (i * sz + j + cs.length) := by omega
      rw [e2,e1,List.take_length_add_append,List.drop_length_add_append]
      simp [List.append_assoc]

theorem flatten_take {sz : Nat} {es : List (List AC)} (h : ∀ e,e ∈ es → e.length = sz) (n : Nat) (hn : n ≤ es.length) : (es.take n).flatten = es.flatten.take (n * sz) := by
  have h5 : es.flatten = (es.take n).flatten ++ (es.drop n).flatten := by rw [← List.flatten_append,List.take_append_drop]
  have h6 : (es.take n).flatten.length = n * sz := by rw [flatten_length (sz := sz) (fun e he => h e (List.mem_of_mem_take he)),List.length_take,Nat.min_eq_left hn]
  rw [h5,← h6,List.take_left]

/-- What is put in at path q, in the place of the rows that are there. -/
def updL : List (List AC) → List (Nat × Nat) → List (List AC) → List (List AC)
  | _,[],es' => es'
  | es,(i,j) :: r,es' => match getC .nil es i j with
    | .own b e sz es1 => es.set i ((es.getD i []).set j (.own b e sz (updL es1 r es')))
    | _ => es

def AV.updAt (v : AV) (q : List (Nat × Nat)) (es' : List (List AC)) : AV :=
  match v with
  | .row b e sz es => .row b e sz (updL es q es')
  | .box k ty cs => .box k ty ((updL [cs] q es').headD [])
  | v => v

def Env.updAt (S : Env) (g : Nat) (q : List (Nat × Nat)) (es' : List (List AC)) : Env :=
  match S.get g with
  | some v => S.upd g (v.updAt q es')
  | none => S

theorem updL_length : ∀ {q : List (Nat × Nat)} {o o1 : Ob} {es' : List (List AC)},desc o q = some o1 → es'.length = o1.es.length → (updL o.es q es').length = o.es.length
  | [],o,o1,es',h,hl => by simp [desc] at h;subst h;exact hl
  | (i,j) :: r,o,o1,es',h,_ => by
    simp only [updL]
    split
    · simp
    · rfl

section
variable {w : World} {p : Nat → Prop}

theorem OR.len {b : Blk} {e sz n : Nat} {xs : List Value} (h : OR w b e sz n xs) : xs.length = n * sz := h.1

theorem OR.take {b : Blk} {e sz n m : Nat} {xs : List Value} (h : OR w b e sz n xs) (hm : m ≤ n) : OR w b e sz m (xs.take (m * sz)) := by
  have hml : m * sz ≤ n * sz := Nat.mul_le_mul_right _ hm
  refine ⟨by rw [List.length_take,h.1];omega,?_⟩
  cases b with
  | none => have := h.2;simp only at this ⊢;omega
  | some x =>
    obtain ⟨cur,h1,h2,h3,h4,h5⟩ := h.2
    exact ⟨cur,h1,by omega,h3,h4,by rw [← h5,List.take_take,Nat.min_eq_left hml]⟩

theorem RdOb.take {o : Ob} {O : List Nat} (h : RdOb w p o O) {n : Nat} (hn : n ≤ o.es.length) : ∃ O',RdOb w p ⟨o.b,o.e,o.sz,o.es.take n⟩ O' ∧ List.Sublist O' O := by
  obtain ⟨xs,O',h1,h2,h3,rfl⟩ := h
  obtain ⟨O1,O2,e,g1,g2⟩ := h3.split (n * o.sz)
  refine ⟨blks o.b ++ O1,⟨xs.take (n * o.sz),O1,?_,fun x hx => h2 x (List.mem_of_mem_take hx),?_,rfl⟩,?_⟩
  · have := h1.take hn
    simpa [Nat.min_eq_left hn] using this
  · show RdO w p _ (o.es.take n).flatten _
    rw [flatten_take h2 n hn];exact g1
  · rw [e]
    exact (List.Sublist.refl _).append (List.sublist_append_left _ _)

/-- **WHAT IS OWNED WITHIN WHAT IS OWNED, TURNED**: its blocks stand side by side among the whole's; where they turn, and no other, the whole turns so. -/
theorem upd_ok : ∀ {q : List (Nat × Nat)} {o o1 : Ob} {O : List Nat},RdOb w p o O → desc o q = some o1 → ∃ O1 pre post,O = pre ++ O1 ++ post ∧ RdOb w p o1 O1 ∧
    ∀ (w' : World) (p' : Nat → Prop) (es' : List (List AC)) (O1' : List Nat),(∀ b,p b → p' b) → KeepsOn p w w' → (∀ b ∈ pre ++ post,w'.heap[b]? = w.heap[b]?) → es'.length = o1.es.length → RdOb w' p' { o1 with es := es' } O1' → RdOb w' p' { o with es := updL o.es q es' } (pre ++ O1' ++ post)
  | [],o,o1,O,h,hd => by
    simp [desc] at hd;subst hd
    refine ⟨O,[],[],by simp,h,fun w' p' es' O1' _ _ _ _ h' => ?_⟩
    simpa [updL] using h'
  | (i,j) :: r,o,o1,O,h,hd => by
    simp only [desc] at hd
    split at hd
    · rename_i b e sz es hc
      obtain ⟨ee,h1,h2⟩ := getC_some hc (by simp)
      obtain ⟨xs,O',k1,k2,k3,rfl⟩ := h
      have hel := k2 ee (List.mem_of_getElem? h1)
      have hj : j < o.sz := by have := (List.getElem?_eq_some_iff.1 h2).1;omega
      have hm : o.es.flatten[i * o.sz + j]? = some (.own b e sz es) := by rw [flatten_get k2 i ee j h1 hj];exact h2
      obtain ⟨ys,A,O2,C,hv,g2,g3,g4,g5,g6,g7⟩ := k3.getOwn hm
      obtain ⟨O1,pre,post,e1,hO1,hupd⟩ := upd_ok (o := ⟨b,e,sz,es⟩) ⟨ys,O2,g2,g3,g4,rfl⟩ hd
      refine ⟨O1,blks o.b ++ A ++ pre,post ++ C,by rw [g5,e1];simp,hO1,fun w' p' es' O1' hpp hk hkeep hl h' => ?_⟩
      obtain ⟨zs,O3,n1,n2,n3,n4⟩ := hupd w' p' es' O1' hpp hk (fun x hx => hkeep x (by
        simp only [List.mem_append] at hx ⊢
        rcases hx with hx|hx
        · exact .inl (.inr hx)
        · exact .inr (.inl hx))) hl h'
      have hlen : (updL es r es').length = es.length := updL_length (o := ⟨b,e,sz,es⟩) hd hl
      have hee : o.es.getD i [] = ee := by rw [List.getD_eq_getElem?_getD,h1];rfl
      have hset : updL o.es ((i,j) :: r) es' = o.es.set i (ee.set j (.own b e sz (updL es r es'))) := by
        simp only [updL,hc,hee]
      rw [hset]
      have hmono : ∀ {vs : List Value} {cs : List AC} {Q : List Nat},RdO w p vs cs Q → (∀ x ∈ Q,w'.heap[x]? = w.heap[x]?) → RdO w' p' vs cs Q := fun h hq => h.mono hpp hk hq
      have hA := hmono g6 (fun x hx => hkeep x (by simp [hx]))
      have hC := hmono g7 (fun x hx => hkeep x (by simp [hx]))
      have hvs : xs = xs.take (i * o.sz + j) ++ (sliceV b es.length :: xs.drop (i * o.sz + j + 1)) := by
        conv => lhs;rw [← List.take_append_drop (i * o.sz + j) xs]
        congr 1
        have hlt := (List.getElem?_eq_some_iff.1 hv).1
        rw [List.drop_eq_getElem_cons hlt,(List.getElem?_eq_some_iff.1 hv).2]
      refine ⟨xs,A ++ (pre ++ O1' ++ post ++ C),?_,?_,?_,by simp⟩
      · show OR w' o.b o.e o.sz (o.es.set i _).length xs
        rw [List.length_set]
        exact k1.keep fun x hx => hkeep x (by simp [hx])
      · intro x hx
        rcases List.mem_or_eq_of_mem_set hx with hx|hx
        · exact k2 x hx
        · rw [hx,List.length_set];exact hel
      · show RdO w' p' xs (o.es.set i _).flatten _
        rw [flatten_set k2 i ee j _ h1 hj,List.set_eq_take_append_cons_drop,if_pos (List.getElem?_eq_some_iff.1 hm).1]
        rw [hvs]
        refine RdO.append hA ?_
        have hown := RdO.own (w := w') (p := p') n1 n2 n3 hC
        have hn4 : pre ++ O1' ++ post = blks b ++ O3 := n4
        rw [hn4]
        rw [← hlen]
        exact hown
    · cases hd

theorem ob_updAt {v : AV} {o : Ob} {q : List (Nat × Nat)} {es' : List (List AC)} {O : List Nat} (ho : v.ob = some o) (h : RdOb w p { o with es := updL o.es q es' } O) (hl : (updL o.es q es').length = o.es.length) (u : Value) : RdV w p u O (v.updAt q es') := by
  cases v with
  | row b e sz es => simp [AV.ob] at ho;subst ho;exact h
  | box k ty cs =>
    simp [AV.ob] at ho;subst ho
    have hl1 : (updL [cs] q es').length = 1 := by simpa using hl
    obtain ⟨x,hx⟩ := List.length_eq_one_iff.1 hl1
    have hcs : x.length = cs.length := by
      obtain ⟨_,_,_,h2,_⟩ := h
      exact h2 x (by show x ∈ updL [cs] q es';rw [hx];simp)
    show RdOb w p ⟨some (k,1),ty,((updL [cs] q es').headD []).length,[(updL [cs] q es').headD []]⟩ O
    have h' : RdOb w p ⟨some (k,1),ty,cs.length,updL [cs] q es'⟩ O := h
    rw [hx] at h' ⊢
    simpa [hcs] using h'
  | _ => simp [AV.ob] at ho
end

section
variable {P : Program} {n : Nat} {p0 F : Nat → Prop} {w0 : World} {S : Env} {a : Act} {w : World} {p : Nat → Prop} {ow : Nat → List Nat}

/-- Blocks of ours that no entry leads to any more. -/
structure Free (F : Nat → Prop) (w0 : World) (S : Env) (w : World) (p : Nat → Prop) (ow : Nat → List Nat) (O : List Nat) : Prop where
  nod : O.Nodup
  fresh : ∀ b ∈ O,b < w.heap.size ∧ ¬ p b ∧ (F b ∨ w0.heap.size ≤ b)
  apart : ∀ d v,(d,v) ∈ S → ∀ b ∈ ow d,b ∉ O

theorem Free.nil : Free F w0 S w p ow [] := ⟨.nil,by simp,by simp⟩

theorem Free.sub {O O' : List Nat} (h : Free F w0 S w p ow O) (hs : List.Sublist O' O) : Free F w0 S w p ow O' :=
  ⟨h.nod.sublist hs,fun b hb => h.fresh b (hs.subset hb),fun d v hm b hb hb' => h.apart d v hm b hb (hs.subset hb')⟩

theorem Free.subS {S' : Env} {O : List Nat} (h : Free F w0 S w p ow O) (hs : ∀ d v,(d,v) ∈ S' → (d,v) ∈ S) : Free F w0 S' w p ow O := ⟨h.nod,h.fresh,fun d v hm => h.apart d v (hs d v hm)⟩

/-- What is owned under g, taken out. -/
theorem free_take (hR : Rel n p0 F w0 S a w p ow) {O0 : List Nat} (hF : Free F w0 S w p ow O0) {g : Nat} {v : AV} (hg : S.get g = some v) : Free F w0 (S.drop g) w p ow (O0 ++ ow g) := by
  have hm := Env.mem_of_get hg
  refine ⟨?_,?_,?_⟩
  · rw [List.nodup_append]
    exact ⟨hF.nod,hR.nod _ _ hm,fun x hx y hy => by intro he;subst he;exact hF.apart _ _ hm x hy hx⟩
  · intro b hb
    rcases List.mem_append.1 hb with hb|hb
    · exact hF.fresh b hb
    · exact hR.fresh _ _ hm b hb
  · intro d v' hd b hb hb'
    obtain ⟨h1,h2⟩ := Env.mem_drop hd
    rcases List.mem_append.1 hb' with hb'|hb'
    · exact hF.apart _ _ h1 b hb hb'
    · exact hR.sep _ _ _ _ b h1 hm h2 hb hb'

/-- A slot's value, or what is owned, anew, out of free blocks. -/
theorem rel_putF (hR : Rel n p0 F w0 S a w p ow) {S0 : Env} {g : Nat} {v : AV} {O OF : List Nat} {a' : Act} {w' : World} (hF : Free F w0 S0 w p ow OF)
    (hsub : ∀ d v,(d,v) ∈ S0 → (d,v) ∈ S ∧ d ≠ g) (hact : a'.defers = [] ∧ n ≤ a'.tmps.size ∧ ∀ d,d ≠ g → slotOf a' d = slotOf a d)
    (hch : Chg (fun b => b ∈ OF) w w') (hO : O.Nodup) (hOr : ∀ b ∈ O,(b ∈ OF ∨ w.heap.size ≤ b) ∧ b < w'.heap.size) (hv : RdV w' p (slotOf a' g) O v) :
    Rel n p0 F w0 ((g,v) :: S0) a' w' p (updF ow g O) :=
  rel_put hR (fun b => b ∈ OF) hsub hact (fun b hb => let h := hF.fresh b hb;⟨h.2.2,h.2.1⟩) (fun d v hm b hb hb' => hF.apart d v hm b hb hb') hch hO hOr hv

/-! What goes into memory. -/

/-- A cell's value that goes into memory: a slice of what is owned under a name goes with all that it leads to. -/
def absC (S : Env) (c : AC) (K : Env → AC → Prop) : Prop :=
  match c with
  | .ref g [] b sz lo m => match S.get g with
    | some (.row b' e sz' es) => b' = b ∧ sz' = sz ∧ lo = 0 ∧ m ≤ es.length ∧ K (S.drop g) (.own b e sz (es.take m))
    | _ => K S (.ref g [] b sz lo m)
  | c => K S c

def absL : Env → List AC → (Env → List AC → Prop) → Prop
  | S,[],K => K S []
  | S,c :: r,K => absC S c fun S c => absL S r fun S r => K S (c :: r)

/-- An operand's cells that go into memory. -/
def evS (S : Env) (x : Operand) (K : Env → List AC → Prop) : Prop :=
  evK S true x fun
    | .c c => absC S c fun S c => K S [c]
    | .agg cs => absL S cs K
    | _ => False

theorem absC_sound (hR : Rel n p0 F w0 S a w p ow) {O0 : List Nat} (hF : Free F w0 S w p ow O0) {u : Value} {c : AC} {K : Env → AC → Prop} (hu : RdC w p u c) (h : absC S c K) :
    ∃ S' c' O,K S' c' ∧ Rel n p0 F w0 S' a w p ow ∧ (∀ d v,(d,v) ∈ S' → (d,v) ∈ S) ∧ Free F w0 S' w p ow (O0 ++ O) ∧ RdO w p [u] [c'] O := by
  unfold absC at h
  split at h
  · rename_i g b sz lo m
    split at h
    · rename_i b' e sz' es hg
      obtain ⟨rfl,rfl,rfl,hm,h⟩ := h
      obtain ⟨O',hO',hsub⟩ := (show RdOb w p ⟨b',e,sz',es⟩ (ow g) from hR.get hg).take (n := m) hm
      obtain ⟨xs,Ox,k1,k2,k3,rfl⟩ := hO'
      have hF' := (free_take hR hF hg).sub ((List.Sublist.refl O0).append hsub)
      refine ⟨_,_,blks b' ++ Ox,h,rel_drop hR g,fun d v hd => (Env.mem_drop hd).1,hF',?_⟩
      have hl : (es.take m).length = m := by simp;omega
      have hval : u = sliceV b' (es.take m).length := by
        rw [hl]
        cases hu with
        | refN => rfl
        | ref _ _ k cap _ _ _ o ho hc =>
          have := ho.2 rfl
          subst this
          rfl
      rw [hval]
      have := RdO.own k1 k2 k3 (RdO.nil (w := w) (p := p))
      simpa using this
    · exact ⟨_,_,[],h,hR,fun _ _ h => h,by simpa using hF,.per hu .nil⟩
  · exact ⟨_,_,[],h,hR,fun _ _ h => h,by simpa using hF,.per hu .nil⟩

theorem absL_sound : ∀ (cs : List AC) {us : List Value} {S : Env} {O0 : List Nat} {K : Env → List AC → Prop},Rel n p0 F w0 S a w p ow → Free F w0 S w p ow O0 → RdL w p us cs → absL S cs K →
    ∃ S' cs' O,K S' cs' ∧ Rel n p0 F w0 S' a w p ow ∧ (∀ d v,(d,v) ∈ S' → (d,v) ∈ S) ∧ Free F w0 S' w p ow (O0 ++ O) ∧ RdO w p us cs' O
  | [],us,S,O0,K,hR,hF,hu,h => by cases hu;exact ⟨S,[],[],h,hR,fun _ _ h => h,by simpa using hF,.nil⟩
  | c :: r,us,S,O0,K,hR,hF,hu,h => by
    cases hu with
    | cons h1 t =>
      unfold absL at h
      obtain ⟨S1,c',O1,h,hR1,hs1,hF1,ho1⟩ := absC_sound hR hF h1 h
      obtain ⟨S2,r',O2,h,hR2,hs2,hF2,ho2⟩ := absL_sound r hR1 hF1 t h
      refine ⟨S2,_,O1 ++ O2,h,hR2,fun d v hd => hs1 d v (hs2 d v hd),by rw [← List.append_assoc];exact hF2,?_⟩
      exact ho1.append ho2

theorem RdC.cells1 {u : Value} {c : AC} (h : RdC w p u c) : u.cells = #[u] := by
  have := h.oneCell
  cases u <;> first|rfl|simp [Value.oneCell'] at this

theorem evS_sound (hR : Rel n p0 F w0 S a w p ow) {O0 : List Nat} (hF : Free F w0 S w p ow O0) {x : Operand} {K : Env → List AC → Prop} (h : evS S x K) :
    ∃ S' cs O,K S' cs ∧ Rel n p0 F w0 S' a w p ow ∧ (∀ d v,(d,v) ∈ S' → (d,v) ∈ S) ∧ Free F w0 S' w p ow (O0 ++ O) ∧ RdO w p (a.eval x).cells.toList cs O := by
  unfold evS at h
  obtain ⟨v,h,hx⟩ := evK_sound hR h
  replace hx := hx rfl
  split at h
  · have hx : RdC w p (a.eval x) _ := hx
    obtain ⟨S',c',O,h1,h2,h3,h4,h5⟩ := absC_sound hR hF hx h
    refine ⟨S',[c'],O,h1,h2,h3,h4,?_⟩
    rw [hx.cells1]
    exact h5
  · obtain ⟨vs,hu,hr⟩ := hx
    obtain ⟨S',c',O,h1,h2,h3,h4,h5⟩ := absL_sound _ hR hF hr h
    refine ⟨S',c',O,h1,h2,h3,h4,?_⟩
    rw [hu]
    exact h5
  · exact h.elim

/-- A part of what is owned under g, turned: the world has turned only in that part's blocks and in free ones. -/
theorem rel_updAt (hR : Rel n p0 F w0 S a w p ow) {OF : List Nat} (hF : Free F w0 S w p ow OF) {g : Nat} {q : List (Nat × Nat)} {o1 : Ob} (ho : obAt (S.get g) q = some o1) :
    ∃ O1 pre post,ow g = pre ++ O1 ++ post ∧ RdOb w p o1 O1 ∧ ∀ (w' : World) (es' : List (List AC)) (O1' : List Nat),Chg (fun b => b ∈ O1 ∨ b ∈ OF) w w' → es'.length = o1.es.length → RdOb w' p { o1 with es := es' } O1' → O1'.Nodup →
      (∀ b ∈ O1',(b ∈ O1 ∨ b ∈ OF ∨ w.heap.size ≤ b) ∧ b < w'.heap.size) → Rel n p0 F w0 (S.updAt g q es') a w' p (updF ow g (pre ++ O1' ++ post)) := by
  obtain ⟨v,o,h1,h2,h3⟩ := obAt_ob ho
  have hob := (hR.get h1).ob h2
  obtain ⟨O1,pre,post,e,hO1,hupd⟩ := upd_ok hob h3
  have hm := Env.mem_of_get h1
  have hnod := hR.nod _ _ hm
  have hfr := hR.fresh _ _ hm
  refine ⟨O1,pre,post,e,hO1,fun w' es' O1' hch hl ho' hn hr => ?_⟩
  rw [e] at hnod
  have hpp : ∀ b ∈ pre ++ post,b ∈ ow g ∧ b ∉ O1 := by
    intro b hb
    refine ⟨by rw [e];simp only [List.mem_append] at hb ⊢;rcases hb with hb|hb;exact .inl (.inl hb);exact .inr hb,?_⟩
    simp only [List.nodup_append] at hnod
    intro hb1
    rcases List.mem_append.1 hb with hb|hb
    · exact hnod.1.2.2 b hb b hb1 rfl
    · exact hnod.2.2 b (by simp [hb1]) b hb rfl
  have hoff : ∀ b,b ∈ ow g → b ∉ OF := fun b hb => hF.apart _ _ hm b hb
  have hk : KeepsOn p w w' := fun b hb => hch.block b (hR.plt b hb) (by
    rintro (h|h)
    · exact (hfr b (by rw [e];simp [h])).2.1 hb
    · exact (hF.fresh b h).2.1 hb)
  have hnew := hupd w' p es' O1' (fun _ h => h) hk (fun b hb => hch.block b (hfr b (hpp b hb).1).1 (by
    rintro (h|h)
    · exact (hpp b hb).2 h
    · exact hoff b (hpp b hb).1 h)) hl ho'
  have hlu : (updL o.es q es').length = o.es.length := updL_length h3 hl
  have hv : RdV w' p (slotOf a g) (pre ++ O1' ++ post) (v.updAt q es') := ob_updAt h2 hnew hlu _
  -- put it
  have hfree : Free F w0 (S.drop g) w p ow (OF ++ ow g) := free_take hR hF h1
  have hput := rel_putF hR (S0 := S.drop g) (g := g) (v := v.updAt q es') (O := pre ++ O1' ++ post) (a' := a) hfree (fun d v h => Env.mem_drop h) (hR.self g)
    (hch.mono fun b hb => by
      rcases hb with hb|hb
      · simp [e,hb]
      · simp [hb]) ?_ ?_ hv
  · unfold Env.updAt
    rw [h1]
    refine rel_sub hput ?_
    intro d v' hd
    rcases Env.mem_upd hd with ⟨rfl,rfl⟩|⟨k1,k2⟩
    · simp
    · refine List.mem_cons_of_mem _ ?_
      revert k1
      generalize S = T
      intro k1
      induction T with
      | nil => cases k1
      | cons x r ih =>
        obtain ⟨k,u⟩ := x
        simp only [Env.drop]
        cases k1 with
        | head => rw [if_neg k2];simp
        | tail _ k1 =>
          split
          · exact ih k1
          · exact List.mem_cons_of_mem _ (ih k1)
  · -- nodup
    have hd1 : ∀ b ∈ O1',b ∉ pre ++ post := by
      intro b hb hb'
      obtain ⟨k1,k2⟩ := hpp b hb'
      rcases (hr b hb).1 with h|h|h
      · exact k2 h
      · exact hoff b k1 h
      · have := (hfr b k1).1;omega
    simp only [List.nodup_append] at hnod ⊢
    refine ⟨⟨hnod.1.1,hn,fun x hx y hy => by intro he;subst he;exact hd1 x hy (by simp [hx])⟩,hnod.2.1,fun x hx y hy => ?_⟩
    intro he;subst he
    rcases List.mem_append.1 hx with hx|hx
    · exact hnod.2.2 x (by simp [hx]) x hy rfl
    · exact hd1 x hx (by simp [hy])
  · intro b hb
    simp only [List.mem_append] at hb
    rcases hb with (hb|hb)|hb
    · have := hpp b (by simp [hb])
      exact ⟨.inl (by simp [this.1]),Nat.lt_of_lt_of_le (hfr b this.1).1 hch.size⟩
    · obtain ⟨h4,h5⟩ := hr b hb
      refine ⟨?_,h5⟩
      rcases h4 with h|h|h
      · exact .inl (by simp [e,h])
      · exact .inl (by simp [h])
      · exact .inr h
    · have := hpp b (by simp [hb])
      exact ⟨.inl (by simp [this.1]),Nat.lt_of_lt_of_le (hfr b this.1).1 hch.size⟩
end

end Go.Hs
