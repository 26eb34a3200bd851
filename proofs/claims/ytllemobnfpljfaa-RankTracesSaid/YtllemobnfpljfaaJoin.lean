import Derived.Test.YtllemobnfpljfaaJoinW
import Derived.Test.YtllemobnfpljfaaNextP
import Derived.Test.YtllemobnfpljfaaTerm5
import Derived.RegionIn
set_option linter.unusedSimpArgs false
set_option maxRecDepth 100000
set_option maxHeartbeats 8000000
namespace Go.Proofs.Ytllemobnfpljfaa
open Go Go.Hs
open Go.RowKit
attribute [local go_sem] Oper.semAt_some
theorem joinN_all {l : List Tm} {a b : Int} : ∀ n,(∀ q,q < n → (isIn l q a && isIn l q b) = false) → joinN l a b n = -1
  | 0,_ => rfl
  | n + 1,h => by
    have := joinN_all n (fun q hq => h q (by omega))
    simp only [joinN,this,h n (by omega)]
    rfl
def Way (l : List Tm) (a b q : Int) : Prop :=
  (0 ≤ q → q < l.length ∧ isIn l q.toNat a = true ∧ ∀ q' : Nat,(q' : Int) < q → (isIn l q' a && isIn l q' b) = false) ∧ (q < 0 → ∀ q' : Nat,q' < l.length → (isIn l q' a && isIn l q' b) = false)
theorem way_start {l : List Tm} (hr : rightF l = true) {a b : Int} (h0 : 0 ≤ a) (hl : a < l.length) : Way l a b a := by
  have ht := term_of_right hr
  refine ⟨fun _ => ⟨hl,?_,fun q' hq' => ?_⟩,fun h => by omega⟩
  · have := ht.low a.toNat
    simp only [isIn,Bool.and_eq_true,decide_eq_true_eq]
    omega
  · have : isIn l q' a = false := by
      simp only [isIn,Bool.and_eq_false_iff,decide_eq_false_iff_not]
      omega
    rw [this];rfl
theorem way_next {l : List Tm} (hr : rightF l = true) {a b q : Int} (hw : Way l a b q) (h0 : 0 ≤ q) (hn : isIn l q.toNat b = false) : Way l a b ((upF l).getD q.toNat 0) ∧ (q < (upF l).getD q.toNat 0 ∨ (upF l).getD q.toNat 0 < 0) := by
  have ht := term_of_right hr
  obtain ⟨h1,h2,h3⟩ := hw.1 h0
  have hql : q.toNat < l.length := by omega
  have here : (isIn l q.toNat a && isIn l q.toNat b) = false := by rw [hn];simp
  rcases upF_get hr hql with ⟨g1,g2⟩|⟨p,g1,g2,g3,g4⟩
  ·
    refine ⟨⟨fun h => by omega,fun _ q' hq' => ?_⟩,by omega⟩
    by_cases e : q' = q.toNat
    · rw [e];exact here
    · exact h3 q' (by omega)
  · obtain ⟨k1,k2,k3⟩ := up_in hr h2 hql g4
    refine ⟨⟨fun _ => ⟨by omega,by rw [g4];simpa using k3,fun q' hq' => ?_⟩,fun h => by omega⟩,by omega⟩
    by_cases e : q' = q.toNat
    · rw [e];exact here
    · by_cases hlt : (q' : Int) < q
      · exact h3 q' hlt
      · cases ha : isIn l q' a with
        | false => rfl
        | true =>
          have := up_next hr h2 ha (by omega) (by omega) g4
          omega
theorem way_hit {l : List Tm} {a b q : Int} (hw : Way l a b q) (h0 : 0 ≤ q) (hb : isIn l q.toNat b = true) : joinN l a b l.length = q := by
  obtain ⟨h1,h2,h3⟩ := hw.1 h0
  have := joinN_some (l := l) (a := a) (b := b) l.length q.toNat (by omega) (by rw [h2,hb];rfl) (fun q' hq' => h3 q' (by omega))
  omega
theorem way_end {l : List Tm} {a b q : Int} (hw : Way l a b q) (h0 : q < 0) : joinN l a b l.length = -1 := joinN_all _ (hw.2 h0)
structure JInv (w0 : World) (b : Int) (k5 k6 k8 gl gu ku kq kD kL nl capl nu capu : Nat) (curl curu : Array Value) (lo : Obj) (q r : Int) (W : World) : Prop where
  b5 : W.heap[k5]? = some (.cells #[.int .i64 b] 3 (0,0))
  b6 : W.heap[k6]? = some (.cells #[.int .i64 r] 3 (0,0))
  b8 : W.heap[k8]? = some (.cells #[.slice (some ⟨gl,0,none⟩) nl capl] 25 (0,0))
  rl : W.heap[gl]? = some (.cells curl 3 (0,0))
  ru : W.heap[gu]? = some (.cells curu 3 (0,0))
  bu : W.heap[ku]? = some (.cells #[.slice (some ⟨gu,0,none⟩) nu capu] 25 (0,0))
  bq : W.heap[kq]? = some (.cells #[.int .i64 q] 3 (0,0))
  bL : W.heap[kL]? = some lo
  bD : W.heap[kD]? = some (.deferred (some []))
  below : Below w0.heap.size w0 W
structure JDis (w0 : World) (k5 k6 k8 gl gu ku kq kD kL : Nat) : Prop where
  h0 : w0.heap.size ≤ k5
  h5 : k5 < k6
  h6 : k6 < gu
  hu : gu < gl
  hl : gl < k8
  h8 : k8 < ku
  hk : ku < kq
  hq : kq < kD
  hD : kD < kL
section
variable {w0 : World} {b : Int} {k5 k6 k8 gl gu ku kq kD kL nl capl nu capu : Nat} {curl curu : Array Value} {lo : Obj} {q r : Int} {W : World}
theorem JInv.setQ (hd : JDis w0 k5 k6 k8 gl gu ku kq kD kL) (h : JInv w0 b k5 k6 k8 gl gu ku kq kD kL nl capl nu capu curl curu lo q r W) (q' : Int) : JInv w0 b k5 k6 k8 gl gu ku kq kD kL nl capl nu capu curl curu lo q' r (W.setCell ⟨kq,0,none⟩ (.int .i64 q')) := by
  obtain ⟨d0,d5,d6,du,dl,d8,dk,dq,dD⟩ := hd
  have o : ∀ j,j ≠ kq → (W.setCell ⟨kq,0,none⟩ (.int .i64 q')).heap[j]? = W.heap[j]? := fun j hj => Below.heap_setCell W ⟨kq,0,none⟩ _ j hj
  refine ⟨(o _ (by omega)).trans h.b5,(o _ (by omega)).trans h.b6,(o _ (by omega)).trans h.b8,(o _ (by omega)).trans h.rl,(o _ (by omega)).trans h.ru,(o _ (by omega)).trans h.bu,Boxed.set _ h.bq,(o _ (by omega)).trans h.bL,(o _ (by omega)).trans h.bD,h.below.setCell (p := ⟨kq,0,none⟩) (by show _ ≤ kq;omega) _⟩
theorem JInv.setR (hd : JDis w0 k5 k6 k8 gl gu ku kq kD kL) (h : JInv w0 b k5 k6 k8 gl gu ku kq kD kL nl capl nu capu curl curu lo q r W) (r' : Int) : JInv w0 b k5 k6 k8 gl gu ku kq kD kL nl capl nu capu curl curu lo q r' (W.setCell ⟨k6,0,none⟩ (.int .i64 r')) := by
  obtain ⟨d0,d5,d6,du,dl,d8,dk,dq,dD⟩ := hd
  have o : ∀ j,j ≠ k6 → (W.setCell ⟨k6,0,none⟩ (.int .i64 r')).heap[j]? = W.heap[j]? := fun j hj => Below.heap_setCell W ⟨k6,0,none⟩ _ j hj
  refine ⟨(o _ (by omega)).trans h.b5,Boxed.set _ h.b6,(o _ (by omega)).trans h.b8,(o _ (by omega)).trans h.rl,(o _ (by omega)).trans h.ru,(o _ (by omega)).trans h.bu,(o _ (by omega)).trans h.bq,(o _ (by omega)).trans h.bL,(o _ (by omega)).trans h.bD,h.below.setCell (p := ⟨k6,0,none⟩) (by show _ ≤ k6;omega) _⟩
theorem JInv.putL (hd : JDis w0 k5 k6 k8 gl gu ku kq kD kL) (h : JInv w0 b k5 k6 k8 gl gu ku kq kD kL nl capl nu capu curl curu lo q r W) (lo' : Obj) : JInv w0 b k5 k6 k8 gl gu ku kq kD kL nl capl nu capu curl curu lo' q r (W.putObj kL lo') := by
  obtain ⟨d0,d5,d6,du,dl,d8,dk,dq,dD⟩ := hd
  have o : ∀ j,j ≠ kL → (W.putObj kL lo').heap[j]? = W.heap[j]? := fun j hj => World.putObj_heap_other hj
  refine ⟨(o _ (by omega)).trans h.b5,(o _ (by omega)).trans h.b6,(o _ (by omega)).trans h.b8,(o _ (by omega)).trans h.rl,(o _ (by omega)).trans h.ru,(o _ (by omega)).trans h.bu,(o _ (by omega)).trans h.bq,World.putObj_heap_same (Array.getElem?_eq_some_iff.1 h.bL).1,(o _ (by omega)).trans h.bD,h.below.grown (grownBy_putObj' W kL lo') (by have := h.below.size;omega) (fun k e => by cases e;omega)⟩
theorem JInv.drew (h : JInv w0 b k5 k6 k8 gl gu ku kq kD kL nl capl nu capu curl curu lo q r W) : JInv w0 b k5 k6 k8 gl gu ku kq kD kL nl capl nu capu curl curu lo q r W.drew :=
  ⟨h.b5,h.b6,h.b8,h.rl,h.ru,h.bu,h.bq,h.bL,h.bD,h.below.drew⟩
theorem JInv.putD (hd : JDis w0 k5 k6 k8 gl gu ku kq kD kL) (h : JInv w0 b k5 k6 k8 gl gu ku kq kD kL nl capl nu capu curl curu lo q r W) (o' : Obj) : (W.putObj kD o').heap[k6]? = some (.cells #[.int .i64 r] 3 (0,0)) ∧ Below w0.heap.size w0 (W.putObj kD o') := by
  obtain ⟨d0,d5,d6,du,dl,d8,dk,dq,dD⟩ := hd
  exact ⟨(World.putObj_heap_other (by omega)).trans h.b6,h.below.grown (grownBy_putObj' W kD o') (by have := h.below.size;omega) (fun k e => by cases e;omega)⟩
end
set_option maxHeartbeats 1000000 in
theorem above_w (gu nu capu : Nat) (q : Int) (w : World) :
    Calls Try.prog 136 #[.slice (some ⟨gu,0,none⟩) nu capu,.int .i64 q] w fun e w' => e = .returned (.func (.func 157) #[] #[.pointer (some ⟨w.heap.size + 1,0,none⟩),.pointer (some ⟨w.heap.size,0,none⟩)]) ∧ w' = (w.alloc (.cells #[.slice (some ⟨gu,0,none⟩) nu capu] 25)).alloc (.cells #[.int .i64 q] 3) := by
  go_enter Try.func136,Try.ntmps136
  go_wp2
  go_ret
  exact ⟨rfl,rfl⟩
theorem row_w {f : FuncId} {c : AC} {xs : List Int} (hC : ContractR Try.prog f [.c c] (fun r => ∃ b,r = .c (.own b 3 1 (kRows .i64 xs)))) (w : World) (p : Nat → Prop) (v0 : Value) (hv0 : RdC w p v0 c) (hp : ∀ b,p b → b < w.heap.size) :
    Calls Try.prog f #[v0] w fun e w' => Below w.heap.size w w' ∧ ((e = .returned (.slice none 0 0) ∧ xs = []) ∨
      ∃ g cap cur,e = .returned (.slice (some ⟨g,0,none⟩) xs.length cap) ∧ w'.heap[g]? = some (.cells cur 3 (0,0)) ∧ w.heap.size ≤ g ∧ ∀ i,i < xs.length → cur[i]? = some (.int .i64 (xs.getD i 0))) := by
  refine (hC.calls w p [v0] (fun _ => []) hp (.cons hv0 .nil) ⟨by simp,by simp,by simp,by simp⟩).mono ?_
  rintro e w' ⟨v,p',r,H',ow',O,⟨b,rfl⟩,hk,rfl,hch,_,_,hrd,_,_,hfr,_⟩
  have hno : ∀ x,¬ InH [] (fun _ => []) x := by rintro x ⟨d,v,h,_⟩;cases h
  refine ⟨(hch.mono (G := fun _ => False) fun x hx => hno x hx).below,?_⟩
  have hrd' : RdO w' p' [v] [.own b 3 1 (kRows .i64 xs)] O := hrd
  generalize hrow : kRows .i64 xs = rows at hrd'
  cases hrd' with
  | per h _ => cases h
  | own ho hs hr t =>
    cases t
    subst hrow
    have hlen : (kRows .i64 xs).length = xs.length := length_kRows
    obtain ⟨hrl,rfl⟩ := hr.toL (by simp [kRows,AC.per])
    have hx := rdL_ints hrl
    rw [hlen] at ho ⊢
    cases b with
    | none =>
      have h0 : xs.length = 0 := ho.2
      exact .inl ⟨by rw [h0];rfl,List.eq_nil_of_length_eq_zero h0⟩
    | some gc =>
      obtain ⟨g,cap⟩ := gc
      obtain ⟨_,cur,c1,c2,c3,c4,c5⟩ := ho
      have hg := hfr g (by simp [blks])
      refine .inr ⟨g,cap,cur,rfl,c1,hg.2.2.1.elim (fun h => (hno g h).elim) id,fun i hi => ?_⟩
      rw [hx] at c5
      have e1 := congrArg (fun l : List Value => l[i]?) c5
      simp only [List.getElem?_take,Nat.mul_one,if_pos hi,List.getElem?_map] at e1
      rw [← Array.getElem?_toList,e1]
      simp [hi]
def upPost (l : List Tm) (w0 : World) (b : Int) (k5 k6 k8 gl gu ku kq kD kL nl capl nu capu : Nat) (curl curu : Array Value) (lo : Obj) (q : Int) : Exit → Act → World → Prop
  | .normal,_,W => isIn l q.toNat b = false ∧ ∃ r,JInv w0 b k5 k6 k8 gl gu ku kq kD kL nl capl nu capu curl curu lo q r W
  | .ret,_,W => isIn l q.toNat b = true ∧ JInv w0 b k5 k6 k8 gl gu ku kq kD kL nl capl nu capu curl curu lo q q W
  | _,_,_ => False
theorem range_up {l : List Tm} (hr : rightF l = true) {a b : Int} {w0 : World} {k5 k6 k8 gl gu ku kq capl capu : Nat} {curl curu : Array Value} {g : Operand} {assign body : Code} {Q : Exit → Act → World → Prop} {act : Act} {w : World} {par : Tmp}
    (hd : JDis w0 k5 k6 k8 gl gu ku kq w.heap.size (w.heap.size + 1))
    (hg : act.eval g = .func (.func 157) #[] #[.pointer (some ⟨kq,0,none⟩),.pointer (some ⟨ku,0,none⟩)])
    (ha : 0 ≤ a ∧ a < l.length) (hcu : ∀ i,i < l.length → curu[i]? = some (.int .i64 ((upF l).getD i 0)))
    (h0 : ∀ lo : Obj,JInv w0 b k5 k6 k8 gl gu ku kq w.heap.size (w.heap.size + 1) l.length capl l.length capu curl curu lo a 0 ((w.alloc (.deferred (some []))).alloc lo)) (dst : Nat)
    (hassign : ∀ (q : Int) (W : World) (K : Act → World → Prop),K { tmps := (act.tmps.setIfInBounds par (.int .i64 q)).setIfInBounds dst (.int .i64 q),defers := [] } W → assign.wpIn (Fence.wide.inRound (w.heap.size + 1)) 3 Try.prog (Exit.then K (fun _ _ _ => False)) { tmps := act.tmps.setIfInBounds par (.int .i64 q),defers := [] } W)
    (hbody : ∀ (q r : Int) (W : World) (lo : Obj),0 ≤ q → q < l.length → JInv w0 b k5 k6 k8 gl gu ku kq w.heap.size (w.heap.size + 1) l.length capl l.length capu curl curu lo q r W →
      body.wpIn (Fence.wide.inRound (w.heap.size + 1)) 3 Try.prog (upPost l w0 b k5 k6 k8 gl gu ku kq w.heap.size (w.heap.size + 1) l.length capl l.length capu curl curu lo q) { tmps := (act.tmps.setIfInBounds par (.int .i64 q)).setIfInBounds dst (.int .i64 q),defers := [] } W)
    (hdone : ∀ (q r : Int) (W : World) (lo : Obj),joinN l a b l.length = -1 → JInv w0 b k5 k6 k8 gl gu ku kq w.heap.size (w.heap.size + 1) l.length capl l.length capu curl curu lo q r W → Q .normal { act with defers := { target := .collected w.heap.size,args := #[] } :: act.defers } W)
    (hstop : ∀ (q : Int) (W : World) (lo : Obj),joinN l a b l.length = q → JInv w0 b k5 k6 k8 gl gu ku kq w.heap.size (w.heap.size + 1) l.length capl l.length capu curl curu lo q q W → Code.ret.wpIn Fence.wide 5 Try.prog Q { act with defers := { target := .collected w.heap.size,args := #[] } :: act.defers } W) :
    (Code.rangeFunc g #[par] assign body).wpIn Fence.wide 5 Try.prog Q act w := by
  refine wpIn_rangeFunc ?_
  intro fn _
  obtain ⟨rec,hrec⟩ : ∃ rec : LoopState → Option Code → Loop,rec = fun st pe => { state := st,pending := pe,fn,tmps := act.tmps,params := #[par],assign,body,defers := w.heap.size } := ⟨_,rfl⟩
  refine ⟨w.heap.size + 1,[{ target := .collected w.heap.size,args := #[] }],(w.alloc (.deferred (some []))).alloc (.loop (rec .ready none)),{ target := .fn (.func 157) #[.pointer (some ⟨kq,0,none⟩),.pointer (some ⟨ku,0,none⟩)],args := #[.func (.yield (w.heap.size + 1)) #[] #[]] },(w.alloc (.deferred (some []))).alloc (.loop (rec .ready none)),157,
    #[.func (.yield (w.heap.size + 1)) #[] #[],.pointer (some ⟨kq,0,none⟩),.pointer (some ⟨ku,0,none⟩)],(w.alloc (.deferred (some []))).alloc (.loop (rec .ready none)),?_,?_,fun _ _ => trivial,?_,fun _ => by omega,?_⟩
  · rw [hrec];exact run_enterLoop_outer _ _ _ _ _
  · simp only [resolve,hg]
    simp [go_sem]
  · have eg := enters_of (P := Try.prog) Try.func157 (by kernel_rfl) rfl
    simp [invoke,go_sem,eg]
  · have hJ0 := h0 (.loop (rec .ready none))
    generalize (w.alloc (.deferred (some []))).alloc (.loop (rec .ready none)) = W1 at hJ0
    refine (above1_in 4 (by omega) (w.heap.size + 1) kq ku (l.length : Int)
      (fun q W => Way l a b q ∧ q < l.length ∧ ∃ r,JInv w0 b k5 k6 k8 gl gu ku kq w.heap.size (w.heap.size + 1) l.length capl l.length capu curl curu (.loop (rec .ready none)) q r W)
      (fun q W => (Way l a b q ∧ q < l.length ∧ isIn l q.toNat b = false) ∧ ∃ r,JInv w0 b k5 k6 k8 gl gu ku kq w.heap.size (w.heap.size + 1) l.length capl l.length capu curl curu (.loop (rec .ready none)) q r W)
      (fun W => ∃ q,joinN l a b l.length = q ∧ JInv w0 b k5 k6 k8 gl gu ku kq w.heap.size (w.heap.size + 1) l.length capl l.length capu curl curu (.loop (rec .done (some .ret))) q q W)
      (fun q W h => h.2.1) (fun q W ⟨_,_,r,h⟩ => Boxed.cell h.bq) ?_ ?_ a W1 ⟨way_start hr ha.1 ha.2,ha.2,0,hJ0⟩).mono ?_
    ·
      rintro q W ⟨hw,hql,r,hJ⟩ hq0
      have hy := run_yield (P := Try.prog) (args := #[.int .i64 q]) hJ.bL (by rw [hrec];rfl)
      have hy' : (Instr.yield (w.heap.size + 1) #[.int .i64 q]).run Try.prog W = .ok (.round (w.heap.size + 1) fn (act.tmps.setIfInBounds par (.int .i64 q)) assign body) W := by
        rw [hy,hrec]
        simp
      refine ⟨fn,_,assign,body,hy',roundIn_of_wpIn trivial ?_⟩
      refine hassign q W _ ?_
      refine ⟨_,run_beginRound hJ.bL (by rw [hrec]),?_⟩
      have hJ1 := hJ.putL hd (.loop { rec .ready none with state := .busy })
      refine wpIn_mono (hbody q r _ _ hq0 hql hJ1) ?_
      rintro e a3 W3 hp
      cases e with
      | normal =>
        obtain ⟨hb,r',hJ3⟩ := hp
        have hre := run_endRound (P := Try.prog) none hJ3.bL
        have hJ4 := hJ3.putL hd (.loop (rec .ready none))
        rw [hrec] at hre hJ4
        exact ⟨_,_,hre,.inl ⟨rfl,⟨hw,hql,hb⟩,r',by rw [hrec];exact hJ4⟩⟩
      | ret =>
        obtain ⟨hb,hJ3⟩ := hp
        have hre := run_endRound (P := Try.prog) (some .ret) hJ3.bL
        have hJ4 := hJ3.putL hd (.loop (rec .done (some .ret)))
        rw [hrec] at hre hJ4
        exact ⟨_,_,hre,.inr ⟨rfl,q,way_hit hw hq0 hb,by rw [hrec];exact hJ4⟩⟩
      | _ => exact hp.elim
    ·
      rintro q W ⟨⟨hw,hql,hb⟩,r,hJ⟩ hq0
      obtain ⟨hn1,hn2⟩ := way_next hr hw hq0 hb
      refine ⟨(upF l).getD q.toNat 0,gu,l.length,capu,hn2,Boxed.cell hJ.bu,by omega,?_,Boxed.cell hJ.bq,Boxed.frozen hJ.bq,hn1,?_,r,hJ.setQ hd _⟩
      · have := hcu q.toNat (by omega)
        simp [World.cell?,hJ.ru,this]
      · by_cases h : 0 ≤ (upF l).getD q.toNat 0
        · exact (hn1.1 h).1
        · omega
    · rintro e W2 ⟨⟨v,rfl⟩,(⟨q,hq0,hw,_,r,hJ⟩|⟨q,hj,hJ⟩)⟩
      · have he := run_endLoop (P := Try.prog) hJ.bL (by rw [hrec];simp)
        rw [hrec] at he
        exact ⟨none,_,he,hdone q r _ _ (way_end hw hq0) (by have := hJ.putL hd (.loop { rec .ready none with state := .exhausted });rw [hrec] at this;exact this)⟩
      · have he := run_endLoop (P := Try.prog) hJ.bL (by rw [hrec];simp)
        rw [hrec] at he
        exact ⟨some .ret,_,he,hstop q _ _ hj (by have := hJ.putL hd (.loop { rec .done (some .ret) with state := .exhausted });rw [hrec] at this;exact this)⟩
theorem join_res (tmps : Array Value) (k6 : Nat) (r : Int) (W : World) (h6 : tmps.getD 6 undef = .pointer (some ⟨k6,0,none⟩)) (hc : W.heap[k6]? = some (.cells #[.int .i64 r] 3 (0,0))) : (results Try.f95 tmps).run Try.prog W = .ok (.int .i64 r) W := by
  have hc5 : W.cell? ⟨k6,0,none⟩ = some (.int .i64 r) := Boxed.cell hc
  rw [results_eq]
  simp only [Try.f95]
  simp [resOne,h6,asAddr,loadVar,isAgg,run_underlying Try.underlying3,hc5]
set_option maxRecDepth 100000 in
set_option maxHeartbeats 4000000 in
theorem Join_w (l : List Tm) (a b : Int) (hl : l.length ≤ 1000) (w : World) (p : Nat → Prop) (v0 : Value) (hv0 : RdC w p v0 (.sl 8 (tRows l))) (hp : ∀ b,p b → b < w.heap.size) :
    Calls Try.prog 95 #[v0,.int .i64 a,.int .i64 b] w fun e w' => e = .returned (.int .i64 (joinF2 l a b)) ∧ Below w.heap.size w w' := by
  rw [← callsIn_wide (n := 5)]
  obtain ⟨a0,cap0,hv,_⟩ := rdC_sl_len hv0
  refine callsIn_of_wp_marks Try.func95 rfl trivial ?_ rfl
  simp only [Try.ntmps95,List.size_toArray,List.length_cons,List.length_nil,Nat.reduceAdd,Nat.reduceSub,Array.replicate_succ,Array.replicate_zero,List.push_toArray,List.append_toArray,List.nil_append,List.cons_append]
  subst hv
  obtain ⟨w2,hw2⟩ : ∃ w2,(w.alloc (.cells #[.int .i64 b] 3)).alloc (.cells #[.int .i64 0] 3) = w2 := ⟨_,rfl⟩
  have hb2 : Below w.heap.size w w2 := by rw [← hw2];exact ((Below.refl _ w).alloc (Nat.le_refl _) _).alloc (by simp) _
  have hs2 : w2.heap.size = w.heap.size + 2 := by rw [← hw2];simp
  have b5 : w2.heap[w.heap.size]? = some (.cells #[.int .i64 b] 3 (0,0)) := by rw [← hw2];exact (Below.heap_alloc _ _ _ (by simp)).trans (World.alloc_heap_new w _)
  have b6 : w2.heap[w.heap.size + 1]? = some (.cells #[.int .i64 0] 3 (0,0)) := by
    rw [← hw2];have := World.alloc_heap_new (w.alloc (.cells #[.int .i64 b] 3)) (.cells #[.int .i64 0] 3);rwa [World.size_alloc] at this
  have hk2 : KeepsOn p w w2 := fun x hx => hb2.block x (hp x hx)
  have hp2 : ∀ x,p x → x < w2.heap.size := fun x hx => Nat.lt_of_lt_of_le (hp x hx) hb2.size
  have hv2 := hv0.mono (fun _ h => h) hk2
  gi_wp2
  refine ⟨trivial,(callsIn_wide.2 (row_w (Up_ok l hl) _ p _ hv2 hp2)).mono ?_⟩
  rintro e w3 ⟨hb3,hres⟩
  have hup := upF_length (l := l)
  have hup1 : (upF l).length ≤ 1000 := by rw [hup];split <;> omega
  have hs3 := hb3.size
  have b5' : w3.heap[w.heap.size]? = _ := (hb3.block _ (by omega)).trans b5
  have b6' : w3.heap[w.heap.size + 1]? = _ := (hb3.block _ (by omega)).trans b6
  have c5 : w3.cell? ⟨w.heap.size,0,none⟩ = some (.int .i64 b) := Boxed.cell b5'
  have c6 : w3.cell? ⟨w.heap.size + 1,0,none⟩ = some (.int .i64 0) := Boxed.cell b6'
  have f6 : w3.frozen? ⟨w.heap.size + 1,0,none⟩ = false := Boxed.frozen b6'
  have hll := lowsF_len (l := l)
  obtain ⟨n,hn⟩ : ∃ n,n = (upF l).length := ⟨_,rfl⟩
  have hnl : (lowsF l).length = n := by rw [hn,hup];exact hll
  rw [← hn] at hres hup hup1
  by_cases hin : 0 ≤ a ∧ 0 ≤ b ∧ a < n ∧ b < n
  · have hr : rightF l = true := by
      cases hr : rightF l with
      | true => rfl
      | false => rw [hr] at hup;simp at hup;omega
    have hnl' : n = l.length := by rw [hup,if_pos hr]
    have hjo : joinF2 l a b = joinN l a b l.length := by rw [joinF2,hnl,if_pos (by omega)]
    clear hup hll
    rcases hres with ⟨_,h0⟩|⟨gu,capu,curu,rfl,hgu,hgs,hcu⟩
    · rw [h0] at hn;simp at hn;omega
    clear hn
    subst hnl'
    have hguL : gu < w3.heap.size := (Array.getElem?_eq_some_iff.1 hgu).1
    have hk3 : KeepsOn p w2 w3 := fun x hx => hb3.block x (hp2 x hx)
    have hp3 : ∀ x,p x → x < w3.heap.size := fun x hx => Nat.lt_of_lt_of_le (hp2 x hx) hb3.size
    have hv3 := hv2.mono (fun _ h => h) hk3
    have hna : ¬ (a < 0) := by omega
    have hnb : ¬ (b < 0) := by omega
    have hna2 : ¬ ((l.length : Int) ≤ a) := by omega
    have hnb2 : ¬ ((l.length : Int) ≤ b) := by omega
    gi_wp2
    refine ⟨trivial,(callsIn_wide.2 (row_w (Low_ok l) _ p _ hv3 hp3)).mono ?_⟩
    rintro e w4 ⟨hb4,hres4⟩
    rw [hnl] at hres4
    rcases hres4 with ⟨_,h0⟩|⟨gl,capl,curl,rfl,hgl,hgls,hcl⟩
    · rw [h0] at hnl;simp at hnl;omega
    clear hnl
    have hglL : gl < w4.heap.size := (Array.getElem?_eq_some_iff.1 hgl).1
    have hs4 := hb4.size
    obtain ⟨w5,hw5⟩ : ∃ w5,w4.alloc (.cells #[.slice (some ⟨gl,0,none⟩) l.length capl] 25) = w5 := ⟨_,rfl⟩
    have hs5 : w5.heap.size = w4.heap.size + 1 := by rw [← hw5];simp
    have hb5 : Below w4.heap.size w4 w5 := by rw [← hw5];exact (Below.refl _ w4).alloc (Nat.le_refl _) _
    have b8 : w5.heap[w4.heap.size]? = some (.cells #[.slice (some ⟨gl,0,none⟩) l.length capl] 25 (0,0)) := by rw [← hw5];exact World.alloc_heap_new w4 _
    gi_wp2
    refine ⟨trivial,(callsIn_wide.2 (above_w gu l.length capu a _)).mono ?_⟩
    rintro e w6' ⟨rfl,hw6⟩
    have hs6 : w6'.heap.size = w5.heap.size + 2 := by rw [hw6];simp
    have hb6 : Below w5.heap.size w5 w6' := by rw [hw6];exact ((Below.refl _ w5).alloc (Nat.le_refl _) _).alloc (by simp) _
    have bu6 : w6'.heap[w5.heap.size]? = some (.cells #[.slice (some ⟨gu,0,none⟩) l.length capu] 25 (0,0)) := by rw [hw6];exact (Below.heap_alloc _ _ _ (by simp)).trans (World.alloc_heap_new w5 _)
    have bq6 : w6'.heap[w5.heap.size + 1]? = some (.cells #[.int .i64 a] 3 (0,0)) := by
      rw [hw6];have := World.alloc_heap_new (w5.alloc (.cells #[.slice (some ⟨gu,0,none⟩) l.length capu] 25)) (.cells #[.int .i64 a] 3);rwa [World.size_alloc] at this
    clear hw6 hw5 hw2
    have old : ∀ j,j < w4.heap.size → w6'.heap[j]? = w4.heap[j]? := fun j hj => (hb6.block _ (by omega)).trans (hb5.block _ hj)
    have old3 : ∀ j,j < w3.heap.size → w6'.heap[j]? = w3.heap[j]? := fun j hj => (old j (by omega)).trans (hb4.block _ hj)
    have hd : JDis w w.heap.size (w.heap.size + 1) w4.heap.size gl gu w5.heap.size (w5.heap.size + 1) w6'.heap.size (w6'.heap.size + 1) := by
      refine ⟨Nat.le_refl _,by omega,by omega,by omega,by omega,by omega,by omega,by omega,by omega⟩
    have hJ : ∀ lo : Obj,JInv w b w.heap.size (w.heap.size + 1) w4.heap.size gl gu w5.heap.size (w5.heap.size + 1) w6'.heap.size (w6'.heap.size + 1) l.length capl l.length capu curl curu lo a 0 ((w6'.alloc (.deferred (some []))).alloc lo) := by
      intro lo
      have o : ∀ j,j < w6'.heap.size → ((w6'.alloc (.deferred (some []))).alloc lo).heap[j]? = w6'.heap[j]? := fun j hj => (Below.heap_alloc _ _ _ (by simp;omega)).trans (Below.heap_alloc _ _ _ hj)
      refine ⟨(o _ (by omega)).trans ((old3 _ (by omega)).trans b5'),(o _ (by omega)).trans ((old3 _ (by omega)).trans b6'),(o _ (by omega)).trans ((hb6.block _ (by omega)).trans b8),(o _ (by omega)).trans ((old _ hglL).trans hgl),(o _ (by omega)).trans ((old3 _ hguL).trans hgu),(o _ (by omega)).trans bu6,(o _ (by omega)).trans bq6,?_,?_,?_⟩
      · have := World.alloc_heap_new (w6'.alloc (.deferred (some []))) lo;rwa [World.size_alloc] at this
      · exact (Below.heap_alloc _ _ _ (by simp)).trans (World.alloc_heap_new w6' _)
      · exact (((((hb2.trans (hb3.mono (by omega))).trans (hb4.mono (by omega))).trans (hb5.mono (by omega))).trans (hb6.mono (by omega))).alloc (by omega) _).alloc (by simp;omega) _
    clear old old3 bu6 bq6 b8 b5' b6' c5 c6 f6
    gi_wp2
    refine range_up (a := a) (b := b) hr hd (by simp [Act.eval]) ⟨hin.1,hin.2.2.1⟩ hcu hJ 9 ?_ ?_ ?_ ?_
    · intro q W K hK
      simp only [List.setIfInBounds_toArray,List.set_cons_succ,List.set_cons_zero] at hK ⊢
      gi_wp2
      exact hK
    · intro q r W lo hq0 hql hJ
      have c5 := Boxed.cell hJ.b5
      have c8 := Boxed.cell hJ.b8
      have cl : W.cell? ⟨gl,q.toNat,none⟩ = some (.int .i64 ((lowsF l).getD q.toNat 0)) := by
        simp [World.cell?,hJ.rl,hcl q.toNat (by omega)]
      have c6 := Boxed.cell hJ.b6
      have f6 := Boxed.frozen hJ.b6
      simp only [List.setIfInBounds_toArray,List.set_cons_succ,List.set_cons_zero]
      obtain ⟨v,hv⟩ : ∃ v,v = (lowsF l).getD q.toNat 0 := ⟨_,rfl⟩
      rw [← hv] at cl
      have hin' : isIn l q.toNat b = (decide (v ≤ b) && decide (b ≤ (q.toNat : Int))) := by rw [isIn,hv]
      clear hv hcl hcu
      have hret : isIn l q.toNat b = true → upPost l w b w.heap.size (w.heap.size + 1) w4.heap.size gl gu w5.heap.size (w5.heap.size + 1) w6'.heap.size (w6'.heap.size + 1) l.length capl l.length capu curl curu lo q .ret ⟨#[],[]⟩ (W.drew.setCell ⟨w.heap.size + 1,0,none⟩ (.int .i64 q)) := fun h => ⟨h,hJ.drew.setR hd q⟩
      have hnor : isIn l q.toNat b = false → upPost l w b w.heap.size (w.heap.size + 1) w4.heap.size gl gu w5.heap.size (w5.heap.size + 1) w6'.heap.size (w6'.heap.size + 1) l.length capl l.length capu curl curu lo q .normal ⟨#[],[]⟩ W.drew := fun h => ⟨h,r,hJ.drew⟩
      rw [hin'] at hret hnor
      clear hin'
      by_cases hm : v ≤ b
      · by_cases hm2 : b ≤ q
        · have h2 := hret (by simp;omega)
          clear hret hnor
          gi_wp2
          gi_region
          all_goals gi_wp2
          all_goals exact h2
        · have h2 := hnor (by simp;omega)
          clear hret hnor
          gi_wp2
          gi_region
          all_goals gi_wp2
          all_goals exact h2
      · have h2 := hnor (by simp;omega)
        clear hret hnor
        gi_wp2
        gi_region
        all_goals gi_wp2
        all_goals exact h2
    · intro q r W lo hj hJ
      have hJ2 := hJ.setR hd (-1)
      have c6 := Boxed.cell hJ.b6
      have f6 := Boxed.frozen hJ.b6
      obtain ⟨h1,h2⟩ := hJ2.putD hd (.deferred none)
      dsimp only
      gi_wp2
      refine ⟨by simp,.inl ⟨_,_,rfl,run_takeDeferred hJ2.bD,?_⟩⟩
      exact ⟨_,join_res _ _ _ _ rfl h1,by rw [hjo,hj],h2⟩
    · intro q W lo hj hJ
      obtain ⟨h1,h2⟩ := hJ.putD hd (.deferred none)
      dsimp only
      gi_wp2
      refine ⟨by simp,.inl ⟨_,_,rfl,run_takeDeferred hJ.bD,?_⟩⟩
      exact ⟨_,join_res _ _ _ _ rfl h1,by rw [hjo,hj],h2⟩
  · obtain ⟨vu,ee,hnone⟩ : ∃ vu : Option Addr,∃ capu,e = .returned (.slice vu n capu) := by
      rcases hres with ⟨rfl,h0⟩|⟨g,cap,cur,rfl,_⟩
      · exact ⟨none,0,by rw [h0] at hn;rw [hn];rfl⟩
      · exact ⟨_,_,rfl⟩
    clear hup hll hres
    subst hnone
    have hj : joinF2 l a b = -1 := by rw [joinF2,hnl,if_neg (by omega)]
    have hbs : Below w.heap.size w (w3.setCell ⟨w.heap.size + 1,0,none⟩ (.int .i64 (-1))) := (hb2.trans (hb3.mono (by omega))).setCell (p := ⟨w.heap.size + 1,0,none⟩) (by show _ ≤ w.heap.size + 1;omega) _
    have hr := fun tmps h6 => join_res tmps (w.heap.size + 1) (-1) (w3.setCell ⟨w.heap.size + 1,0,none⟩ (.int .i64 (-1))) h6 (Boxed.set _ b6')
    clear hn hnl
    gi_wp2
    all_goals first
      | (exfalso;omega)
      | (simp only [bodyPostM,LeavesInM,LeavesIn];exact ⟨_,hr _ rfl,by first|rfl|rw [hj],hbs⟩)
end Go.Proofs.Ytllemobnfpljfaa
set_option linter.unusedSimpArgs false
namespace Go.Proofs.Ytllemobnfpljfaa
open Go Go.Hs
theorem Join_ok (l : List Tm) (a b : Int) (hl : l.length ≤ 1000) : Contract Try.prog 95 [.c (.sl 8 (tRows l)),.c (.im (.int .i64 a)),.c (.im (.int .i64 b))] (.c (.im (.int .i64 (joinF2 l a b)))) := by
  refine ⟨⟨Try.f95,Try.func95,by first|rfl|decide,by first|rfl|kernel_rfl⟩,?_⟩
  intro w p vs ow hp ha hO
  cases ha with
  | cons h0 ha =>
    cases ha with
    | cons h1 ha =>
      cases ha with
      | cons h2 ha =>
        cases ha
        have e1 := RdS_im h1
        have e2 := RdS_im h2
        subst e1 e2
        refine (Join_w l a b hl w p _ h0 hp).mono ?_
        rintro e w' ⟨rfl,hb⟩
        have hno : ∀ (ow : Nat → List Nat) x,¬ InH [] ow x := by rintro ow x ⟨d,v,h,_⟩;cases h
        refine ⟨_,p,_,[],fun _ => [],[],rfl,rfl,rfl,(Chg.of_below hb).mono fun _ h => h.elim,fun _ h => h,fun x hx => ⟨Nat.lt_of_lt_of_le (hp x hx) hb.size,.inl hx⟩,RdO.per (.im _ rfl) .nil,⟨by simp,by simp,by simp,by simp⟩,.nil,by simp,fun x hx => (hno _ x hx).elim⟩
end Go.Proofs.Ytllemobnfpljfaa
