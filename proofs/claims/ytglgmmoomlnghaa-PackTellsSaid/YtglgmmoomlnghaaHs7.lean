/-
  THE HEAP SEMANTICS, part 7: the operations that turn memory: what is owed and what comes out.
-/
import Derived.Test.YtglgmmoomlnghaaHs6
namespace Go.Hs
open Go Go.RowKit

/-- The name under which what slot d's operation makes is owned. -/
def nm (d : Nat) : Nat := 1000 + d

def asgK (P : Program) (n : Nat) (S : Env) (ty : TypeId) (x : Operand) (d : Nat) (K : Env → Prop) : Prop :=
  match x with
  | .const (.slice none 0 0) => match P.underlying ty with
    | some (.slice e) => match szOf P e with
      | some s => d < n ∧ K ((S.set (nm d) (.row none e s [])).set d (.c (.ref (nm d) [] none s 0 0)))
      | none => False
    | _ => False
  | _ => evK S true x fun v => d < n ∧ K (S.set d v)

/-- A new variable. -/
def allocK (P : Program) (n : Nat) (S : Env) (T d : Nat) (K : Env → Prop) : Prop :=
  match eInfo P T with
  | some (_,_,cs) => d < n ∧ ∀ k,K ((S.set (nm d) (.box k T cs)).set d (.c (.ptr (nm d) [] k cs.length 0 0)))
  | none => False

def boxK (n : Nat) (S : Env) (T : Nat) (x : Operand) (d : Nat) (K : Env → Prop) : Prop :=
  evS S x fun S cs => d < n ∧ ∀ k,K ((S.set (nm d) (.box k T cs)).set d (.c (.ptr (nm d) [] k cs.length 0 0)))

/-- A store. -/
def storeK (P : Program) (S : Env) (T : Nat) (ad x : Operand) (K : Env → Prop) : Prop :=
  evS S x fun S cs => match szOf P T with
    | some s => s = cs.length ∧ evK S true ad fun
      | .c (.ptr g q k sz i j) => match obAt (S.get g) q with
        | some o => blkNo o.b = k ∧ o.sz = sz ∧ i < o.es.length ∧ j + cs.length ≤ sz ∧ K (S.updAt g q (o.es.set i (splice (o.es.getD i []) j cs)))
        | none => False
      | _ => False
    | none => False

/-- Where the parts of a literal lie: of an array (an element's size), of a struct (offset and size of each field). -/
inductive BP where
  | arr (s : Nat)
  | str (l : List (Nat × Nat))

def BP.place : BP → Nat → Option (Nat × Nat)
  | .arr s,i => some (i * s,s)
  | .str l,i => l[i]?

def bInfo (P : Program) (T : TypeId) : Option (List AC × BP) :=
  match eInfo P T with
  | some (_,_,cs) => match P.underlying T with
    | some (.array _ e) => (szOf P e).map fun s => (cs,.arr s)
    | some (.struct fs) => (fs.toList.mapM (fun f => (P.info? f.type).map fun i => (f.offset,i.size))).map fun l => (cs,.str l)
    | _ => none
  | none => none

def fillA (place : Nat → Option (Nat × Nat)) (cs : List AC) : List (Nat × List AC) → Option (List AC)
  | [] => some cs
  | (i,e) :: r => match place i with
    | some (off,size) => if e.length = size ∧ off + size ≤ cs.length then fillA place (splice cs off e) r else none
    | none => none

def cellsOf : AV → Option (List AC)
  | .c c => some [c]
  | .agg cs => some cs
  | _ => none

def partsV (S : Env) (g : Bool) : List (Nat × Operand) → (List (Nat × List AC) → Prop) → Prop
  | [],K => K []
  | (i,x) :: r,K => evK S g x fun v => match cellsOf v with
    | some cs => partsV S g r fun l => K ((i,cs) :: l)
    | none => False

def buildV (P : Program) (S : Env) (g : Bool) (T : TypeId) (parts : List (Nat × Operand)) (K : AV → Prop) : Prop :=
  partsV S g parts fun l => match bInfo P T with
    | some (zs,bp) => match fillA bp.place zs l with
      | some cs => K (.agg cs)
      | none => False
    | none => False

def partsS (S : Env) : List (Nat × Operand) → (Env → List (Nat × List AC) → Prop) → Prop
  | [],K => K S []
  | (i,x) :: r,K => evS S x fun S cs => partsS S r fun S l => K S ((i,cs) :: l)

def buildSliceK (P : Program) (n : Nat) (S : Env) (T : TypeId) (len : Nat) (parts : List (Nat × Operand)) (d : Nat) (K : Env → Prop) : Prop :=
  partsS S parts fun S l => match P.underlying T with
    | some (.slice e) => match eInfo P e with
      | some (sz,_,_) => 0 < sz ∧ l.map (·.1) = List.range len ∧ (∀ x ∈ l,x.2.length = sz) ∧ len * sz ≤ 16777216 ∧ d < n ∧
          ∀ k,K ((S.set (nm d) (.row (some (k,len)) e sz (l.map (·.2)))).set d (.c (.ref (nm d) [] (some (k,len)) sz 0 len)))
      | none => False
    | _ => False

def makeSliceK (P : Program) (n : Nat) (S : Env) (T : TypeId) (lo co : Operand) (d : Nat) (K : Env → Prop) : Prop :=
  evK S true lo fun
    | .c (.im (.int _ a)) => evK S true co fun
      | .c (.im (.int _ b)) => match P.underlying T with
        | some (.slice e) => match eInfo P e with
          | some (sz,by',zs) => 0 ≤ a ∧ a ≤ b ∧ by' * b ≤ 281474976710656 ∧ b ≤ 4611686018427387904 ∧ d < n ∧
              ∀ k,K ((S.set (nm d) (.row (some (k,b.toNat)) e sz (List.replicate a.toNat zs))).set d (.c (.ref (nm d) [] (some (k,b.toNat)) sz 0 a.toNat)))
          | none => False
        | _ => False
      | _ => False
    | _ => False

/-- n rows of s cells. -/
def chunk (s : Nat) : Nat → List AC → List (List AC)
  | 0,_ => []
  | n + 1,l => l.take s :: chunk s n (l.drop s)
/-- The elements behind an operand of append, of copy: what cannot be copied goes with them. -/
def srcK (S : Env) (v : AV) (sz : Nat) (K : Env → List (List AC) → Prop) : Prop :=
  match v with
  | .c .nil => K S []
  | .c (.sl sz' es) => sz' = sz ∧ K S es
  | .c (.ref g q b sz' lo m) => match obAt (S.get g) q with
    | some o => o.b = b ∧ o.sz = sz ∧ sz' = sz ∧ lo + m ≤ o.es.length ∧ (match o.es.all (fun e => e.all AC.per) with
      | true => K S (o.es.extract lo (lo + m))
      | false => q = [] ∧ lo = 0 ∧ m = o.es.length ∧ K (S.drop g) o.es)
    | none => False
  | .c (.view g q k sz' i j s n) => match obAt (S.get g) q with
    | some o => blkNo o.b = k ∧ o.sz = sz' ∧ s = sz ∧ i < o.es.length ∧ j + n * s ≤ sz' ∧ (o.es.getD i []).all AC.per = true ∧ K S (chunk s n ((o.es.getD i []).drop j))
    | none => False
  | _ => False

/-- A path's last step. -/
def lastQ : List (Nat × Nat) → Option (List (Nat × Nat) × Nat × Nat)
  | [] => none
  | [x] => some ([],x.1,x.2)
  | x :: y :: r => (lastQ (y :: r)).map fun z => (x :: z.1,z.2)

def appendK (P : Program) (n : Nat) (S : Env) (T : TypeId) (s x : Operand) (d : Nat) (K : Env → Prop) : Prop :=
  match P.underlying T with
  | some (.slice e) => match eInfo P e with
    | some (sz,by',_) => 0 < sz ∧ d < n ∧ evK S true x fun vx => srcK S vx sz fun S ys => evK S true s fun
      | .c .nil => ys.length ≤ 4611686018427387904 ∧ ys.length * by' ≤ 140737488355328 ∧
          ∀ b : Blk,b.isNone = ys.isEmpty → K ((S.set (nm d) (.row b e sz ys)).set d (.c (.ref (nm d) [] b sz 0 ys.length)))
      | .c (.ref g q b sz' lo m) => sz' = sz ∧ lo = 0 ∧ m + ys.length ≤ 4611686018427387904 ∧ (m + ys.length) * by' ≤ 140737488355328 ∧ (match q with
        | [] => match S.get g with
          | some (.row b' e' sz'' es) => b' = b ∧ e' = e ∧ sz'' = sz ∧ m ≤ es.length ∧
              ∀ b2 : Blk,b2.isNone = (b.isNone && ys.isEmpty) → K ((S.set g (.row b2 e sz (es.take m ++ ys))).set d (.c (.ref g [] b2 sz 0 (m + ys.length))))
          | _ => False
        | x :: r => match lastQ (x :: r) with
          | some (q0,i,j) => match obAt (S.get g) q0 with
            | some o0 => match getC .nil o0.es i j with
              | .own b' e' sz'' es => b' = b ∧ e' = e ∧ sz'' = sz ∧ m ≤ es.length ∧
                  ∀ b2 : Blk,b2.isNone = (b.isNone && ys.isEmpty) → K (((S.updAt g q0 (o0.es.set i ((o0.es.getD i []).set j .dead))).set (nm d) (.row b2 e sz (es.take m ++ ys))).set d (.c (.ref (nm d) [] b2 sz 0 (m + ys.length))))
              | _ => False
            | none => False
          | none => False)
      | _ => False
    | none => False
  | _ => False

def copyK (P : Program) (n : Nat) (S : Env) (T : TypeId) (s x : Operand) (d : Nat) (K : Env → Prop) : Prop :=
  match P.underlying T with
  | some (.slice e) => match szOf P e with
    | some sz => d < n ∧ evK S true x fun vx => srcK S vx sz fun S ys => ys.all (fun e => e.all AC.per) = true ∧ evK S true s fun
      | .c (.ref g q b sz' lo m) => sz' = sz ∧ (match obAt (S.get g) q with
        | some o => o.b = b ∧ o.sz = sz ∧ lo + m ≤ o.es.length ∧ K ((S.updAt g q (o.es.take lo ++ ys.take m ++ o.es.drop (lo + min m ys.length))).set d (.c (.im (.int .i64 ((min m ys.length : Nat) : Int)))))
        | none => False)
      | .c (.view g q k sz' i j s m) => s = sz ∧ (match obAt (S.get g) q with
        | some o => blkNo o.b = k ∧ o.sz = sz' ∧ i < o.es.length ∧ j + m * s ≤ sz' ∧ ys.length = m ∧ 0 < m ∧ K ((S.updAt g q (o.es.set i (splice (o.es.getD i []) j ys.flatten))).set d (.c (.im (.int .i64 ((m : Nat) : Int)))))
        | none => False)
      | _ => False
    | none => False
  | _ => False

def makeMapK (n : Nat) (S : Env) (d : Nat) (K : Env → Prop) : Prop :=
  d < n ∧ ∀ k,K ((S.set (nm d) (.mapo k [])).set d (.c (.mref (nm d) k)))

def mapUpdK (P : Program) (S : Env) (T : TypeId) (m kx x : Operand) (K : Env → Prop) : Prop :=
  evK S true kx fun
    | .c (.im (.string s)) => evK S true x fun
      | .c (.im (.int .i64 v)) => evK S true m fun
        | .c (.mref g k) => match P.underlying T,S.get g with
          | some (.map kt _),some (.mapo k' l) => k' = k ∧ P.underlying kt = some .string ∧ mFind l s = none ∧ K (S.upd g (.mapo k' (l ++ [(s,v)])))
          | _,_ => False
        | _ => False
      | _ => False
    | _ => False

/-- The bytes of a string, as rows. -/
def byteRows (s : ByteArray) : List (List AC) := s.data.toList.map fun b => [.im (.int .u8 b.toNat)]

def bytesK (P : Program) (n : Nat) (S : Env) (src dst : TypeId) (s : ByteArray) (d : Nat) (K : Env → Prop) : Prop :=
  P.underlying src = some .string ∧ (match P.underlying dst with
    | some (.slice e) => P.underlying e = some (.int .u8)
    | _ => False) ∧ d < n ∧ K (S.set d (.c (.sl 1 (byteRows s))))

section
variable {P : Program} {n : Nat} {p0 F : Nat → Prop} {w0 : World} {S : Env} {a : Act} {w : World} {p : Nat → Prop} {ow : Nat → List Nat} {Q : Exit → Act → World → Prop}

abbrev Goes (n : Nat) (p0 F : Nat → Prop) (w0 : World) (K : Env → Prop) (next : Act → World → Prop) : Prop :=
  ∀ S' a' w' p' ow',K S' → Rel n p0 F w0 S' a' w' p' ow' → next a' w'

/-- The same for what only lets memory grow. -/
abbrev GoesG (n : Nat) (p0 F : Nat → Prop) (w0 w : World) (K : Env → Prop) (next : Act → World → Prop) : Prop :=
  ∀ S' a' w' p' ow',Below w.heap.size w w' → K S' → Rel n p0 F w0 S' a' w' p' ow' → next a' w'

theorem Goes.g {K : Env → Prop} {next : Act → World → Prop} (h : Goes n p0 F w0 K next) : GoesG n p0 F w0 w K next := fun _ _ _ _ _ _ h1 h2 => h _ _ _ _ _ h1 h2

theorem below_new (w : World) (o : Obj) : Below w.heap.size w (w.alloc o) := (Below.refl _ _).alloc (Nat.le_refl _) o
theorem chg_new (w : World) (o : Obj) {F : Nat → Prop} : Chg F w (w.alloc o) := (Chg.of_below (below_new w o)).mono fun _ h => h.elim

theorem wp_value {o : Oper} {u : Value} {w' : World} {next : Act → World → Prop} (h : (execOp a.eval o).run P w = .ok (.value u) w') (hn : next (a.put o.dst u) w') : o.wp P a w next Q := by
  unfold Oper.wp;rw [h];exact hn

/-- A new block in which free things may go. -/
theorem rel_new1 (hR : Rel n p0 F w0 S a w p ow) {OF : List Nat} (hF : Free F w0 S w p ow OF) {g : Nat} {v : AV} (ob : Obj) (hv : RdV (w.alloc ob) p (slotOf a g) (w.heap.size :: OF) v) :
    ∃ ow',Rel n p0 F w0 (S.set g v) a (w.alloc ob) p ow' := by
  refine ⟨_,rel_putF hR (hF.subS fun d v h => (Env.mem_drop h).1) (fun d v h => Env.mem_drop h) (hR.self g) (chg_new w ob) ?_ ?_ hv⟩
  · refine List.nodup_cons.2 ⟨fun h => ?_,hF.nod⟩
    have := (hF.fresh _ h).1;omega
  · intro b hb
    simp only [List.mem_cons] at hb
    rcases hb with rfl|hb
    · exact ⟨.inr (Nat.le_refl _),by simp⟩
    · exact ⟨.inl hb,by have := (hF.fresh b hb).1;simp;omega⟩

theorem keeps_new (hR : Rel n p0 F w0 S a w p ow) (ob : Obj) : KeepsOn p w (w.alloc ob) := fun b hb => Below.heap_alloc w ob b (hR.plt b hb)

theorem asg_sound (hR : Rel n p0 F w0 S a w p ow) {o : Oper} {x : Operand} {d : Nat} (ho : o.op = .assign x) (hd : o.dst = some d) {K : Env → Prop} (h : asgK P n S o.type x d K) {next : Act → World → Prop} (hn : GoesG n p0 F w0 w K next) : o.wp P a w next Q := by
  have hrun : (execOp a.eval o).run P w = .ok (.value (a.eval x)) w := by simp [execOp,ho]
  unfold asgK at h
  split at h
  · split at h
    · rename_i e hu
      split at h
      · rename_i s hs
        obtain ⟨h1,h2⟩ := h
        refine wp_value hrun ?_
        rw [hd]
        have hR1 := rel_new hR (g := nm d) (v := .row none e s []) (O := []) (w' := w) (Chg.refl _ _) .nil (by simp) ⟨[],[],⟨by simp,rfl⟩,by simp,.nil,rfl⟩
        exact hn _ _ _ p _ (Below.refl _ _) h2 (rel_set hR1 h1 (RdC.refN (nm d) [] s))
      · exact h.elim
    · exact h.elim
  · obtain ⟨v,⟨h1,h4⟩,hx⟩ := evK_sound hR h
    refine wp_value hrun ?_
    rw [hd]
    exact hn _ _ _ p _ (Below.refl _ _) h4 (rel_set hR h1 (hx rfl))

theorem or_box {T : Nat} {v : Value} {m : Nat} (hl : v.cells.size = m) : OR (w.alloc (.cells v.cells T)) (some (w.heap.size,1)) T m 1 v.cells.toList := by
  refine ⟨by simp [hl],v.cells,heap_alloc_new w _,Nat.le_refl _,by decide,by simp [hl],?_⟩
  rw [List.take_of_length_le (by simp [hl])]

theorem rel_box (hR : Rel n p0 F w0 S a w p ow) {OF : List Nat} (hF : Free F w0 S w p ow OF) {T d : Nat} {v : Value} {cs : List AC} (hd : d < n) (hv : RdO w p v.cells.toList cs OF) :
    ∃ ow',Rel n p0 F w0 ((S.set (nm d) (.box w.heap.size T cs)).set d (.c (.ptr (nm d) [] w.heap.size cs.length 0 0))) (a.put (some d) (.pointer (some ⟨w.heap.size,0,none⟩))) (w.alloc (.cells v.cells T)) p ow' := by
  have hl : v.cells.size = cs.length := by rw [← hv.length,Array.length_toList]
  obtain ⟨ow1,hR1⟩ := rel_new1 hR hF (g := nm d) (v := .box w.heap.size T cs) (.cells v.cells T) (by
    refine ⟨v.cells.toList,OF,or_box hl,by simp,?_,rfl⟩
    simp only [List.flatten_cons,List.flatten_nil,List.append_nil]
    exact hv.mono (fun _ h => h) (keeps_new hR _) fun b hb => Below.heap_alloc w _ b (hF.fresh b hb).1)
  exact ⟨_,rel_set hR1 hd (show RdC _ p _ _ by simpa using RdC.ptr (nm d) [] w.heap.size cs.length 0 0)⟩

theorem run_newVar (T : TypeId) (v : Value) : (newVar T v).run P w = .ok ⟨w.heap.size,0,none⟩ (w.alloc (.cells v.cells T)) := by
  simp [newVar,newRow]

theorem alloc_sound (hR : Rel n p0 F w0 S a w p ow) {o : Oper} {T d : Nat} (ho : o.op = .alloc T) (hd : o.dst = some d) {K : Env → Prop} (h : allocK P n S T d K) {next : Act → World → Prop} (hn : GoesG n p0 F w0 w K next) : o.wp P a w next Q := by
  unfold allocK at h
  split at h
  · rename_i s b cs hi
    obtain ⟨i,z,h1,h2,h3,h4,h5,h6⟩ := eInfo_ok hi
    have hrun : (execOp a.eval o).run P w = .ok (.value (.pointer (some ⟨w.heap.size,0,none⟩))) (w.alloc (.cells z.cells T)) := by
      simp [execOp,ho,Instr.alloc,zeroValue,typeInfo,h1,h2,run_newVar]
    refine wp_value hrun ?_
    rw [hd]
    obtain ⟨ow',hR'⟩ := rel_box (T := T) (v := z) hR Free.nil h.1 (constACs_ok w p h6).o
    exact hn _ _ _ p _ (below_new _ _) (h.2 _) hR'
  · exact h.elim

theorem box_sound (hR : Rel n p0 F w0 S a w p ow) {o : Oper} {T d : Nat} {x : Operand} (ho : o.op = .box T x) (hd : o.dst = some d) {K : Env → Prop} (h : boxK n S T x d K) {next : Act → World → Prop} (hn : GoesG n p0 F w0 w K next) : o.wp P a w next Q := by
  obtain ⟨S',cs,O,⟨hdn,h⟩,hR',_,hF,hv⟩ := evS_sound hR Free.nil h
  have hrun : (execOp a.eval o).run P w = .ok (.value (.pointer (some ⟨w.heap.size,0,none⟩))) (w.alloc (.cells (a.eval x).cells T)) := by
    simp [execOp,ho,Instr.box,run_newVar]
  refine wp_value hrun ?_
  rw [hd]
  obtain ⟨ow',hR2⟩ := rel_box (T := T) hR' hF hdn (by simpa using hv)
  exact hn _ _ _ p _ (below_new _ _) (h _) hR2

theorem setRow_same (g : Nat) (old cs : Array Value) (t : TypeId) (fr : Nat × Nat) (hg : w.heap[g]? = some (.cells old t fr)) : (w.setRow g cs).heap[g]? = some (.cells cs t fr) := setRow_heap w g old cs t fr hg

theorem take_splice {α : Type} {C V : List α} {m o X : Nat} (hV : V.length = m) (h : o + m ≤ X) (hc : X ≤ C.length) : (C.take o ++ V ++ C.drop (o + m)).take X = (C.take X).take o ++ V ++ (C.take X).drop (o + m) := by
  have hA : (C.take o ++ V).length = o + m := by rw [List.length_append,List.length_take,hV];omega
  rw [List.take_append,hA,List.take_of_length_le (by omega),List.drop_take,List.take_take,Nat.min_eq_left (by omega)]

theorem run_storeVar {T s g off ty : Nat} {v : Value} {cur : Array Value} (hs : szOf P T = some s) (hv : v.cells.size = s) (hg : w.heap[g]? = some (.cells cur ty (0,0))) (hl : off + s ≤ cur.size) (h1 : ∀ u ∈ v.cells.toList,u.oneCell' = true) :
    (storeVar T ⟨g,off,none⟩ v).run P w = .ok () (w.setRow g (cur.toList.take off ++ v.cells.toList ++ cur.toList.drop (off + v.cells.toList.length)).toArray) := by
  have h := run_storeCells_at P g off ty v.cells.toList 0 cur w hg (by simp;omega) h1
  simp only [Nat.add_zero] at h
  simp [storeVar,run_szOf hs,hv,h]

theorem chg_setRow {g : Nat} {cs : Array Value} {F : Nat → Prop} (hB : F g) : Chg F w (w.setRow g cs) :=
  ⟨rfl,rfl,rfl,by simp,fun k _ hk => setRow_other w g k cs (fun h => hk (h ▸ hB))⟩

/-- **A WRITE** of some cells into what is owned. -/
theorem rel_write (hR : Rel n p0 F w0 S a w p ow) {OF : List Nat} (hF : Free F w0 S w p ow OF) {g : Nat} {q : List (Nat × Nat)} {o : Ob} (ho : obAt (S.get g) q = some o) {off : Nat} {vals : List Value} {cs : List AC} {es' : List (List AC)}
    (hv : RdO w p vals cs OF) (hoff : off + cs.length ≤ o.es.length * o.sz) (hne : o.es ≠ []) (hl : es'.length = o.es.length) (hsz : ∀ x,x ∈ es' → x.length = o.sz) (hfl : es'.flatten = splice o.es.flatten off cs) :
    ∃ cur ow',w.heap[blkNo o.b]? = some (.cells cur o.e (0,0)) ∧ off + cs.length ≤ cur.size ∧ Rel n p0 F w0 (S.updAt g q es') a (w.setRow (blkNo o.b) (cur.toList.take off ++ vals ++ cur.toList.drop (off + vals.length)).toArray) p ow' := by
  obtain ⟨O1,pre,post,e,hO1,hupd⟩ := rel_updAt hR hF ho
  obtain ⟨xs,O',k1,k2,k3,rfl⟩ := hO1
  have hvl := hv.length
  cases hb : o.b with
  | none =>
    rw [hb] at k1
    exact absurd (List.eq_nil_of_length_eq_zero k1.2) hne
  | some x =>
    obtain ⟨k,cap⟩ := x
    rw [hb] at k1
    obtain ⟨hxl,cur,c1,c2,c3,c4,c5⟩ := k1
    have hcs : o.es.length * o.sz ≤ cur.size := by rw [c4];exact Nat.mul_le_mul_right _ c2
    have hmem : ∀ b ∈ blks o.b ++ O',b ∈ ow g := fun b hb' => by rw [e];exact List.mem_append_left _ (List.mem_append_right _ hb')
    obtain ⟨v0,o0,g1,g2,g3⟩ := obAt_ob ho
    have hm := Env.mem_of_get g1
    have hnod := hR.nod _ _ hm
    rw [e] at hnod
    have hnod2 : (blks o.b ++ O').Nodup := ((List.nodup_append.1 (List.nodup_append.1 hnod).1).2.1)
    have hkO : k ∉ O' := by
      rw [hb] at hnod2
      simp only [blks,List.cons_append,List.nil_append,List.nodup_cons] at hnod2
      exact hnod2.1
    have hkp : ¬ p k := (hR.fresh _ _ hm k (hmem k (by rw [hb];simp [blks]))).2.1
    have hkF : k ∉ OF := fun h => hF.apart _ _ hm k (hmem k (by rw [hb];simp [blks])) h
    -- the three parts
    obtain ⟨Oa,Orest,e1,s1,s2⟩ := k3.split off
    obtain ⟨Ob',Oc,e2,s3,s4⟩ := s2.split cs.length
    rw [List.drop_drop,List.drop_drop] at s4
    let w' : World := w.setRow k (cur.toList.take off ++ vals ++ cur.toList.drop (off + vals.length)).toArray
    have hk : KeepsOn p w w' := fun b' hb' => setRow_other w k b' _ (by intro h;subst h;exact hkp hb')
    have mono : ∀ {vs : List Value} {ds : List AC} {Q : List Nat},RdO w p vs ds Q → (∀ b ∈ Q,b ≠ k) → RdO w' p vs ds Q := fun h hq => h.mono (fun _ h => h) hk fun b' hb' => setRow_other w k b' _ (hq b' hb')
    have hOa : ∀ b ∈ Oa,b ≠ k := fun b hb' h => hkO (by rw [e1,← h];simp [hb'])
    have hOc : ∀ b ∈ Oc,b ≠ k := fun b hb' h => hkO (by rw [e1,e2,← h];simp [hb'])
    have hOv : ∀ b ∈ OF,b ≠ k := fun b hb' h => hkF (by rw [← h];exact hb')
    have hnew : RdO w' p (xs.take off ++ vals ++ xs.drop (off + vals.length)) es'.flatten (Oa ++ OF ++ Oc) := by
      rw [hfl,hvl]
      unfold splice
      exact ((mono s1 hOa).append (mono hv hOv)).append (mono s4 hOc)
    have hob : RdOb w' p { o with es := es' } (blks o.b ++ (Oa ++ OF ++ Oc)) := by
      refine ⟨_,_,?_,hsz,hnew,rfl⟩
      show OR w' o.b o.e o.sz es'.length _
      rw [hb,hl]
      refine ⟨?_,_,setRow_same k cur _ o.e _ c1,c2,c3,?_,?_⟩
      · simp only [List.length_append,List.length_take,List.length_drop,hxl];omega
      · simp only [List.size_toArray,List.length_append,List.length_take,List.length_drop,Array.length_toList];omega
      · rw [← c5]
        exact take_splice rfl (by omega) (by rw [Array.length_toList];omega)
    have hR' := hupd w' es' _ (chg_setRow (F := fun b => b ∈ blks o.b ++ O' ∨ b ∈ OF) (.inl (by rw [hb];simp [blks]))) hl hob ?_ ?_
    · refine ⟨cur,_,c1,by omega,hR'⟩
    · -- nodup
      have hO'n : O'.Nodup := (List.nodup_append.1 hnod2).2.1
      rw [e1,e2] at hO'n
      simp only [List.nodup_append] at hO'n
      rw [hb]
      simp only [blks,List.cons_append,List.nil_append,List.nodup_cons,List.mem_append,List.nodup_append]
      have hx : ∀ b,b ∈ O' → b ∉ OF := fun b hb' => hF.apart _ _ hm b (hmem b (by simp [hb']))
      refine ⟨?_,⟨hO'n.1,hF.nod,fun x hx1 y hy => ?_⟩,hO'n.2.1.2.1,fun x hx1 y hy => ?_⟩
      · rintro ((h|h)|h)
        · exact hOa _ h rfl
        · exact hkF h
        · exact hOc _ h rfl
      · intro he;subst he;exact hx x (by rw [e1];simp [hx1]) hy
      · intro he;subst he
        rcases hx1 with h|h
        · exact hO'n.2.2 x h x (by simp [hy]) rfl
        · exact hx x (by rw [e1,e2];simp [hy]) h
    · intro b' hb'
      simp only [List.mem_append] at hb'
      have hlt : ∀ c,c ∈ blks o.b ++ O' → c < w'.heap.size := fun c hc => by
        have := (hR.fresh _ _ hm c (hmem c hc)).1
        simpa [w'] using this
      rcases hb' with hb'|(hb'|hb')|hb'
      · exact ⟨.inl (by simp [hb']),hlt _ (by simp [hb'])⟩
      · have : b' ∈ blks o.b ++ O' := by rw [e1];simp [hb']
        exact ⟨.inl this,hlt _ this⟩
      · exact ⟨.inr (.inl hb'),by have := (hF.fresh b' hb').1;simpa [w'] using this⟩
      · have : b' ∈ blks o.b ++ O' := by rw [e1,e2];simp [hb']
        exact ⟨.inl this,hlt _ this⟩

theorem store_sound (hR : Rel n p0 F w0 S a w p ow) {o : Oper} {T : Nat} {ad x : Operand} (ho : o.op = .store T ad x) (hd : o.dst = none) {K : Env → Prop} (h : storeK P S T ad x K) {next : Act → World → Prop} (hn : Goes n p0 F w0 K next) : o.wp P a w next Q := by
  obtain ⟨S',cs,O,h1,hR1,_,hF,hv⟩ := evS_sound hR Free.nil h
  clear h
  split at h1
  · rename_i s hs
    obtain ⟨hsl,h⟩ := h1
    obtain ⟨va,h,hva⟩ := evK_sound hR1 h
    replace hva := hva rfl
    split at h
    · rename_i g q k sz i j
      split at h
      · rename_i ob hob
        obtain ⟨hk,hsz,hi,hj,hK⟩ := h
        have hrows := (hR1.ob hob).choose_spec.1
        obtain ⟨_,_,_,hrl,_⟩ := hrows
        have hei : ob.es[i]? = some (ob.es.getD i []) := by rw [List.getD_eq_getElem?_getD,List.getElem?_eq_getElem hi];rfl
        have hel := hrl _ (List.mem_of_getElem? hei)
        have hbig : i * ob.sz + j + cs.length ≤ ob.es.length * ob.sz := by
          have : (i + 1) * ob.sz ≤ ob.es.length * ob.sz := Nat.mul_le_mul_right _ hi
          rw [Nat.add_mul] at this;omega
        rw [List.nil_append] at hF
        obtain ⟨cur,ow',c1,c2,hR2⟩ := rel_write hR1 hF hob (off := i * ob.sz + j) (es' := ob.es.set i (splice (ob.es.getD i []) j cs)) hv hbig (by intro h;rw [h] at hi;simp at hi) (by simp)
          (by
            intro e he
            rcases List.mem_or_eq_of_mem_set he with he|he
            · exact hrl e he
            · rw [he,splice_length (by omega)];exact hel)
          (flatten_splice hrl i _ j cs hei (by omega))
        have hlen : (a.eval x).cells.size = s := by rw [hsl,← hv.length,Array.length_toList]
        have hst := run_storeVar (P := P) hs hlen c1 (by omega : (i * ob.sz + j) + s ≤ cur.size) hv.oneCell
        have hu := RdS_ptr hva
        rw [← hsz,← hk] at hu
        have hrun : (execOp a.eval o).run P w = .ok .skip (w.setRow (blkNo ob.b) (cur.toList.take (i * ob.sz + j) ++ (a.eval x).cells.toList ++ cur.toList.drop (i * ob.sz + j + (a.eval x).cells.toList.length)).toArray) := by
          simp only [execOp,ho,Instr.storeAt,hu,Instr.sureAddr,Sem.run_bind,Sem.run_pure,Result.andThen_ok,hst]
        unfold Oper.wp
        rw [hrun]
        simp only [Oper.upon,hd,Act.put]
        exact hn _ _ _ p _ hK hR2
      · exact h.elim
    · exact h.elim
  · exact h1.elim

end
end Go.Hs
