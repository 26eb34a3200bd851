import Derived.Test.YtllemobnfpljfaaTerm5
import Derived.Test.YtllemobnfpljfaaTerm
set_option linter.unusedSimpArgs false
set_option maxRecDepth 100000
set_option maxHeartbeats 8000000
namespace Go.Proofs.Ytllemobnfpljfaa
open Go Go.Hs
theorem deepS_done {up : List Int} (hup : ∀ j,j < up.length → up.getD j 0 = -1 ∨ ((j : Int) < up.getD j 0 ∧ up.getD j 0 < up.length)) : ∀ r,r ≤ up.length → ∀ j,up.length - r ≤ j → j < up.length →
    (deepS up r).getD j 0 = 1 + (if 0 ≤ up.getD j 0 then (deepS up r).getD (up.getD j 0).toNat 0 else 0)
  | 0,_,j,h1,h2 => by omega
  | r + 1,hr,j,h1,h2 => by
    have hlen := deepS_length (up := up) r
    simp only [deepS]
    by_cases e : up.length - (r + 1) = j
    · subst e
      rw [getD_set_same (by omega)]
      rcases hup _ h2 with h|⟨h3,h4⟩
      · rw [if_neg (by omega),if_neg (by omega)]
      · rw [if_pos (by omega),if_pos (by omega),getD_set_other (by omega)]
    · rw [getD_set_other e,deepS_done hup r (by omega) j (by omega) h2]
      rcases hup j h2 with h|⟨h3,h4⟩
      · rw [if_neg (by omega),if_neg (by omega)]
      · rw [if_pos (by omega),if_pos (by omega),getD_set_other (by omega)]
theorem deepF_length {l : List Tm} : (deepF l).length = if rightF l then l.length else 0 := by
  rw [deepF,deepS_length,upF_length]
theorem upF_shape {l : List Tm} (hr : rightF l = true) (j : Nat) (hj : j < (upF l).length) : (upF l).getD j 0 = -1 ∨ ((j : Int) < (upF l).getD j 0 ∧ (upF l).getD j 0 < (upF l).length) := by
  have hl := upF_length (l := l)
  rw [if_pos hr] at hl
  rcases upF_get hr (j := j) (by omega) with ⟨_,h⟩|⟨p,p1,p2,_,p4⟩
  · exact .inl h
  · exact .inr ⟨by omega,by omega⟩
theorem deep_part {l : List Tm} (hr : rightF l = true) {j p : Nat} (hp : p < l.length) (h : IsPar l j p) : (upF l).getD j 0 = p ∧ (deepF l).getD j 0 = (deepF l).getD p 0 + 1 := by
  have ht := term_of_right hr
  have hjp := h.lt ht.low (ht.node p hp)
  have hl := upF_length (l := l)
  rw [if_pos hr] at hl
  have hu : (upF l).getD j 0 = p := by
    rcases upF_get hr (j := j) (by omega) with ⟨h1,_⟩|⟨q,q1,q2,q3,q4⟩
    · omega
    · rw [q4,one_par ht.low ht.node q2 hp q3 h]
  refine ⟨hu,?_⟩
  have h1 := deepS_done (up := upF l) (upF_shape hr) _ (Nat.le_refl _) j (by omega) (by omega)
  rw [hu,if_pos (by omega)] at h1
  unfold deepF
  rw [h1,Int.toNat_natCast]
  omega
theorem deep_root {l : List Tm} (hr : rightF l = true) : (upF l).getD (l.length - 1) 0 = -1 ∧ (deepF l).getD (l.length - 1) 0 = 1 := by
  have ht := term_of_right hr
  have hpos := ht.pos
  have hl := upF_length (l := l)
  rw [if_pos hr] at hl
  have hu : (upF l).getD (l.length - 1) 0 = -1 := by
    rcases upF_get hr (j := l.length - 1) (by omega) with ⟨_,h⟩|⟨q,q1,q2,_⟩
    · exact h
    · omega
  refine ⟨hu,?_⟩
  have h1 := deepS_done (up := upF l) (upF_shape hr) _ (Nat.le_refl _) (l.length - 1) (by omega) (by omega)
  rw [hu,if_neg (by omega)] at h1
  exact h1
end Go.Proofs.Ytllemobnfpljfaa
set_option linter.unusedSimpArgs false
namespace Go.Proofs.Ytllemobnfpljfaa
open Go Go.Hs
def lvsN (l : List Tm) : Nat → List Int
  | 0 => []
  | i + 1 => if (tAt l i).k = 2 then lvsN l i ++ [(i : Int)] else lvsN l i
def placesF (l : List Tm) : List Int := if rightF l then lvsN l l.length else []
theorem lvsN_length {l : List Tm} : ∀ i,(lvsN l i).length = leavesF l i
  | 0 => rfl
  | i + 1 => by simp only [lvsN,leavesF];split <;> simp [lvsN_length i]
theorem placesF_length {l : List Tm} : (placesF l).length ≤ 64 := by
  unfold placesF
  split
  · rw [lvsN_length];exact (term_of_right (by assumption)).leaves
  · simp
theorem placesF_not {l : List Tm} (h : rightF l = false) : placesF l = [] := by rw [placesF,h];rfl
theorem leaves_mono {l : List Tm} {i j : Nat} (h : i ≤ j) : leavesF l i ≤ leavesF l j := by
  induction j with
  | zero => have : i = 0 := by omega
            subst this;exact Nat.le_refl _
  | succ j ih =>
    by_cases e : i = j + 1
    · subst e;exact Nat.le_refl _
    · have := ih (by omega)
      simp only [leavesF];split <;> omega
theorem lvsN_get {l : List Tm} : ∀ i p,p < leavesF l i → ∃ q : Nat,q < i ∧ (lvsN l i).getD p 0 = q ∧ (tAt l q).k = 2 ∧ leavesF l q = p
  | 0,p,h => by simp [leavesF] at h
  | i + 1,p,h => by
    have hlen := lvsN_length (l := l) i
    simp only [leavesF] at h
    simp only [lvsN]
    split at h
    · rename_i hk
      rw [if_pos hk]
      by_cases e : p = leavesF l i
      · exact ⟨i,by omega,getD_snoc_eq (by rw [hlen];exact e),hk,e.symm⟩
      · have hp : p < (lvsN l i).length := by omega
        obtain ⟨q,q1,q2,q3,q4⟩ := lvsN_get (l := l) i p (by omega)
        exact ⟨q,by omega,by rw [getD_snoc_lt hp];exact q2,q3,q4⟩
    · rename_i hk
      rw [if_neg hk]
      obtain ⟨q,q1,q2,q3,q4⟩ := lvsN_get i p h
      exact ⟨q,by omega,q2,q3,q4⟩
def idxN (l : List Tm) : Nat → List Int
  | 0 => []
  | i + 1 => idxN l i ++ [if (tAt l i).k = 2 then (leavesF l i : Int) else -1]
def indexF (l : List Tm) : List Int := if rightF l then idxN l l.length else []
theorem idxN_length {l : List Tm} : ∀ i,(idxN l i).length = i
  | 0 => rfl
  | i + 1 => by simp [idxN,idxN_length i]
theorem idxN_get {l : List Tm} : ∀ i j,j < i → (idxN l i).getD j 0 = if (tAt l j).k = 2 then (leavesF l j : Int) else -1
  | 0,j,h => by omega
  | i + 1,j,h => by
    have := idxN_length (l := l) i
    simp only [idxN]
    by_cases e : j = i
    · subst e;exact getD_snoc_eq (by omega)
    · rw [getD_snoc_lt (by omega)];exact idxN_get i j (by omega)
theorem indexF_length {l : List Tm} : (indexF l).length = if rightF l then l.length else 0 := by
  unfold indexF;split
  · exact idxN_length _
  · rfl
theorem indexF_not {l : List Tm} (h : rightF l = false) : indexF l = [] := by rw [indexF,h];rfl
def isIn (l : List Tm) (q : Nat) (a : Int) : Bool := decide ((lowsF l).getD q 0 ≤ a) && decide (a ≤ q)
def joinN (l : List Tm) (a b : Int) : Nat → Int
  | 0 => -1
  | n + 1 => if joinN l a b n ≠ -1 then joinN l a b n else if isIn l n a && isIn l n b then n else -1
def joinF2 (l : List Tm) (a b : Int) : Int := if 0 ≤ a ∧ 0 ≤ b ∧ a < (lowsF l).length ∧ b < (lowsF l).length then joinN l a b l.length else -1
theorem joinN_some {l : List Tm} {a b : Int} : ∀ n q,q < n → (isIn l q a && isIn l q b) = true → (∀ q',q' < q → (isIn l q' a && isIn l q' b) = false) → joinN l a b n = q
  | 0,q,h,_,_ => by omega
  | n + 1,q,hq,h1,h2 => by
    simp only [joinN]
    by_cases e : q = n
    · subst e
      have : joinN l a b q = -1 := by
        have key : ∀ m,m ≤ q → joinN l a b m = -1 := by
          intro m
          induction m with
          | zero => intro _;rfl
          | succ m ih =>
            intro hm
            simp only [joinN,ih (by omega),h2 m (by omega)]
            rfl
        exact key q (Nat.le_refl _)
      rw [if_neg (by simpa using this),if_pos h1]
    · have := joinN_some n q (by omega) h1 h2
      rw [if_pos (by omega),this]
theorem up_next {l : List Tm} (hr : rightF l = true) {a : Int} {q q' p : Nat} (hq : isIn l q a = true) (hq' : isIn l q' a = true) (hlt : q < q') (hl : q' < l.length) (hp : (upF l).getD q 0 = p) : p ≤ q' := by
  have ht := term_of_right hr
  simp only [isIn,Bool.and_eq_true,decide_eq_true_eq] at hq hq'
  have hlow := ht.low q
  have hlam : (lowsF l).getD q' 0 ≤ (lowsF l).getD q 0 := by
    rcases laminar ht.low q' (fun i hi => ht.node i (by omega)) q hlt with h|h
    · omega
    · exact h
  obtain ⟨p',p1,p2,p3⟩ := has_par ht.low q' (fun i hi => ht.node i (by omega)) q (by omega) hlt
  have := (deep_part hr (by omega) p3).1
  omega
theorem up_in {l : List Tm} (hr : rightF l = true) {a : Int} {q p : Nat} (hq : isIn l q a = true) (hl : q < l.length) (hp : (upF l).getD q 0 = p) : q < p ∧ p < l.length ∧ isIn l p a = true := by
  have ht := term_of_right hr
  rcases upF_get hr hl with ⟨_,h⟩|⟨p',p1,p2,p3,p4⟩
  · omega
  · have e : p = p' := by omega
    subst e
    refine ⟨p1,p2,?_⟩
    simp only [isIn,Bool.and_eq_true,decide_eq_true_eq] at hq ⊢
    refine ⟨?_,by omega⟩
    unfold IsPar at p3
    rcases ht.node p p2 with ⟨h1,h2,h3,h4⟩|⟨h1,c,d,h2,h3,h4,h5,h6⟩|⟨h1,d,h2,h3,h4,h5⟩
    · omega
    · have hc := ht.low c
      rcases p3 with h|h
      · have : c = q := by omega
        subst this;omega
      · have : d = q := by omega
        subst this;omega
    · have : d = q := by omega
      subst this;omega
end Go.Proofs.Ytllemobnfpljfaa
set_option linter.unusedSimpArgs false
namespace Go.Proofs.Ytllemobnfpljfaa
open Go Go.Hs
theorem isIn_self {l : List Tm} (hr : rightF l = true) {q : Nat} : isIn l q q = true := by
  have := (term_of_right hr).low q
  simp only [isIn,Bool.and_eq_true,decide_eq_true_eq]
  omega
theorem isIn_iff {l : List Tm} {q : Nat} {a : Int} : isIn l q a = true ↔ (lowsF l).getD q 0 ≤ a ∧ a ≤ q := by
  simp only [isIn,Bool.and_eq_true,decide_eq_true_eq]
theorem isIn_not {l : List Tm} {q : Nat} {a : Int} : isIn l q a = false ↔ ¬ ((lowsF l).getD q 0 ≤ a ∧ a ≤ q) := by
  rw [← isIn_iff];simp
theorem joinN_comm {l : List Tm} {a b : Int} : ∀ n,joinN l a b n = joinN l b a n
  | 0 => rfl
  | n + 1 => by simp only [joinN,joinN_comm n,Bool.and_comm]
theorem joinF2_comm {l : List Tm} {a b : Int} : joinF2 l a b = joinF2 l b a := by
  unfold joinF2
  rw [joinN_comm]
  by_cases h : 0 ≤ a ∧ 0 ≤ b ∧ a < (lowsF l).length ∧ b < (lowsF l).length
  · rw [if_pos h,if_pos ⟨h.2.1,h.1,h.2.2.2,h.2.2.1⟩]
  · rw [if_neg h,if_neg (fun h' => h ⟨h'.2.1,h'.1,h'.2.2.2,h'.2.2.1⟩)]
theorem len_low {l : List Tm} (hr : rightF l = true) : (lowsF l).length = l.length := (term_of_right hr).len
theorem join_some {l : List Tm} (hr : rightF l = true) {a b : Int} (ha : 0 ≤ a) (hb : 0 ≤ b) (ha2 : a < l.length) (hb2 : b < l.length) :
    ∃ q : Nat,q < l.length ∧ joinF2 l a b = q ∧ isIn l q a = true ∧ isIn l q b = true ∧ ∀ q',q' < q → (isIn l q' a && isIn l q' b) = false := by
  have ht := term_of_right hr
  have hl := len_low hr
  have hpos := ht.pos
  have root : (isIn l (l.length - 1) a && isIn l (l.length - 1) b) = true := by
    have h0 := ht.root
    rw [Bool.and_eq_true,isIn_iff,isIn_iff]
    omega
  have key : ∀ n,n < l.length → (isIn l n a && isIn l n b) = true → ∃ q,q ≤ n ∧ (isIn l q a && isIn l q b) = true ∧ ∀ q',q' < q → (isIn l q' a && isIn l q' b) = false := by
    intro n
    induction n using Nat.strongRecOn with
    | _ n ih =>
      intro hn h
      by_cases hx : ∃ q',q' < n ∧ (isIn l q' a && isIn l q' b) = true
      · obtain ⟨q',h1,h2⟩ := hx
        obtain ⟨q,g1,g2,g3⟩ := ih q' h1 (by omega) h2
        exact ⟨q,by omega,g2,g3⟩
      · exact ⟨n,Nat.le_refl _,h,fun q' hq' => by
          cases hh : (isIn l q' a && isIn l q' b) with
          | false => rfl
          | true => exact absurd ⟨q',hq',hh⟩ hx⟩
  obtain ⟨q,g1,g2,g3⟩ := key _ (by omega) root
  have g2' := g2
  rw [Bool.and_eq_true] at g2'
  exact ⟨q,by omega,by rw [joinF2,if_pos (by omega)];exact joinN_some _ q (by omega) g2 g3,g2'.1,g2'.2,g3⟩
theorem placesF_get {l : List Tm} (hr : rightF l = true) {p : Nat} (hp : p < (placesF l).length) : ∃ q : Nat,q < l.length ∧ (placesF l).getD p 0 = q ∧ (tAt l q).k = 2 ∧ leavesF l q = p := by
  have e : placesF l = lvsN l l.length := by rw [placesF,if_pos hr]
  rw [e] at hp ⊢
  rw [lvsN_length] at hp
  exact lvsN_get _ p hp
theorem placesF_len {l : List Tm} (hr : rightF l = true) : (placesF l).length = leavesF l l.length := by
  rw [placesF,if_pos hr,lvsN_length]
theorem indexF_get {l : List Tm} (hr : rightF l = true) {i : Nat} (hi : i < l.length) : (indexF l).getD i 0 = if (tAt l i).k = 2 then (leavesF l i : Int) else -1 := by
  rw [indexF,if_pos hr];exact idxN_get _ _ hi
theorem placesF_at {l : List Tm} (hr : rightF l = true) {i : Nat} (hi : i < l.length) (hk : (tAt l i).k = 2) : leavesF l i < (placesF l).length ∧ (placesF l).getD (leavesF l i) 0 = i := by
  have h1 : leavesF l (i + 1) = leavesF l i + 1 := by simp only [leavesF,if_pos hk]
  have h2 := leaves_mono (l := l) (i := i + 1) (j := l.length) (by omega)
  have hp : leavesF l i < (placesF l).length := by rw [placesF_len hr];omega
  refine ⟨hp,?_⟩
  obtain ⟨q,g1,g2,g3,g4⟩ := placesF_get hr hp
  have e1 : leavesF l (q + 1) = leavesF l q + 1 := by simp only [leavesF,if_pos g3]
  have : q = i := by
    rcases Nat.lt_trichotomy q i with h|h|h
    · have := leaves_mono (l := l) (i := q + 1) (j := i) (by omega);omega
    · exact h
    · have := leaves_mono (l := l) (i := i + 1) (j := q) (by omega);omega
  rw [g2,this]
end Go.Proofs.Ytllemobnfpljfaa
set_option linter.unusedSimpArgs false
set_option linter.unusedVariables false
namespace Go.Proofs.Ytllemobnfpljfaa
open Go Go.Hs
theorem gopO_fi {P : Program} {n : Nat} {S : Env} {pu : Bool} {o : Oper} {d : Nat} {K : Env → Prop} (hd : o.dst = some d) (h : d < n ∧ K (S.set d (.opt false (.c (.im (.int .i64 0)))))) : gopO P n pu S o false K := by
  refine .inr ⟨fun h => absurd h (by decide),fun _ => ?_⟩
  rw [hd]
  exact ⟨h.1,_,rfl,h.2⟩
theorem Gb {P : Program} {n : Nat} {S : Env} {pu : Bool} {d : Nat} {c : Call} {pos : String} {after : Array Edge} {gd : Option (Nat × Bool)} {K : Env → Prop} (h : d < n ∧ K (S.set d (.opt false (.c (.im (.bool false)))))) : gopO P n pu S { dst := some d,op := .call c,type := 4,pos := pos,after := after,guard := gd } false K :=
  .inr ⟨fun h => absurd h (by decide),fun _ => ⟨h.1,_,rfl,h.2⟩⟩
theorem Gn {P : Program} {n : Nat} {S : Env} {pu : Bool} {d : Nat} {c : Call} {pos : String} {after : Array Edge} {gd : Option (Nat × Bool)} {K : Env → Prop} (h : d < n ∧ K (S.set d (.opt false (.c (.im (.int .i64 0)))))) : gopO P n pu S { dst := some d,op := .call c,type := 3,pos := pos,after := after,guard := gd } false K :=
  .inr ⟨fun h => absurd h (by decide),fun _ => ⟨h.1,_,rfl,h.2⟩⟩
theorem Gs {P : Program} {n : Nat} {S : Env} {pu : Bool} {d : Nat} {c : Op} {pos : String} {after : Array Edge} {gd : Option (Nat × Bool)} {K : Env → Prop} (h : d < n ∧ K (S.set d (.opt false (.c .nil)))) : gopO P n pu S { dst := some d,op := c,type := 25,pos := pos,after := after,guard := gd } false K :=
  .inr ⟨fun h => absurd h (by decide),fun _ => ⟨h.1,_,rfl,h.2⟩⟩
theorem bneT {a b : Int} (h : a ≠ b) : (a != b) = true := by simpa using h
theorem bneF {a b : Int} (h : a = b) : (a != b) = false := by simpa using h
theorem beqT {a b : Int} (h : a = b) : (a == b) = true := by simpa using h
theorem beqF {a b : Int} (h : a ≠ b) : (a == b) = false := by simpa using h
abbrev Hp := Int × Int × Option (List Int)
def hC : Option (List Int) → AC
  | none => .nil
  | some l => .sl 1 (kRows .i64 l)
theorem rd_dead {w : World} {p : Nat → Prop} {v : Value} {o : Option (List Int)} (h : RdC w p v (hC o)) : RdC w p v .dead := by
  cases o with
  | none => cases h;exact .dead _ rfl
  | some l =>
    have h' : RdC w p v (.sl 1 (kRows .i64 l)) := h
    generalize kRows .i64 l = es at h'
    cases h' <;> exact .dead _ rfl
theorem rdS_hop {w : World} {p : Nat → Prop} {v x y : Value} {o : Option (List Int)} (h : RdS w p v (.agg [.im x,.im y,hC o])) : RdS w p v (.agg [.im x,.im y,.dead]) := by
  obtain ⟨us,rfl,hl⟩ := h
  refine ⟨us,rfl,?_⟩
  generalize us.toList = l at hl
  cases hl with
  | cons h1 t =>
    cases t with
    | cons h2 t =>
      cases t with
      | cons h3 t => exact .cons h1 (.cons h2 (.cons (rd_dead h3) t))
theorem contract_args {P : Program} {f : FuncId} {args args' : List AV} {H : Env} {R : AV → Env → Prop} (h : ContractH P f args' H R) (hm : ∀ w p vs,RdAs w p vs args → RdAs w p vs args') : ContractH P f args H R :=
  ⟨h.callable,fun w p vs ow hp ha hO => h.calls w p vs ow hp (hm w p vs ha) hO⟩
def hRowsC (h : List Hp) : List (List AC) := h.map fun x => [.im (.int .i64 x.1),.im (.int .i64 x.2.1),hC x.2.2]
def hRows (h : List Hp) : List (List AC) := h.map fun x => [.im (.int .i64 x.1),.im (.int .i64 x.2.1),.dead]
theorem rd_hops {w : World} {p : Nat → Prop} {v : Value} {h : List Hp} (hr : RdC w p v (.sl 3 (hRowsC h))) : RdC w p v (.sl 3 (hRows h)) := by
  have hl : (hRows h).length = (hRowsC h).length := by simp [hRows,hRowsC]
  have hrow : ∀ (i : Nat) e,(hRows h)[i]? = some e → ∃ x : Hp,e = [.im (.int .i64 x.1),.im (.int .i64 x.2.1),.dead] ∧ (hRowsC h)[i]? = some [.im (.int .i64 x.1),.im (.int .i64 x.2.1),hC x.2.2] := by
    intro i e he
    simp only [hRows,hRowsC,List.getElem?_map] at he ⊢
    cases hx : h[i]? with
    | none => rw [hx] at he;cases he
    | some x => rw [hx] at he;simp at he;exact ⟨x,he.symm,rfl⟩
  generalize hRowsC h = es at hr hl hrow
  generalize hRows h = es' at hl hrow ⊢
  cases hr with
  | nilS sz cap =>
    have : es' = [] := List.eq_nil_of_length_eq_zero hl
    subst this
    exact .nilS _ _
  | sl a n cap _ _ us hn hcap hsz hp hc hr =>
    refine .sl a n cap 3 es' us (by rw [hl];exact hn) hcap (fun e he => ?_) (fun hne => hp ?_) (fun i e j hi hj => ?_) (fun i e j c hi hj => ?_)
    · obtain ⟨i,hi⟩ := List.mem_iff_getElem?.1 he
      obtain ⟨x,rfl,_⟩ := hrow i e hi
      rfl
    · intro h0;apply hne;rw [h0] at hl;exact List.eq_nil_of_length_eq_zero hl
    · obtain ⟨x,rfl,hx⟩ := hrow i e hi
      exact hc i _ j hx hj
    · obtain ⟨x,rfl,hx⟩ := hrow i e hi
      match j,hj with
      | 0,hj => simp at hj;subst hj;exact hr i _ 0 _ hx (by simp)
      | 1,hj => simp at hj;subst hj;exact hr i _ 1 _ hx (by simp)
      | 2,hj => simp at hj;subst hj;exact rd_dead (o := x.2.2) (hr i _ 2 _ hx rfl)
      | j + 3,hj => simp at hj
def hAt (h : List Hp) (i : Nat) : Int × Int := ((h.getD i (0,0,none)).1,(h.getD i (0,0,none)).2.1)
def hO (h : List Hp) (i : Nat) : Option (List Int) := (h.getD i (0,0,none)).2.2
theorem length_hRows {h : List Hp} : (hRows h).length = h.length := by simp [hRows]
theorem getH0 {z : AC} {h : List Hp} {i : Nat} (hi : i < h.length) : getC z (hRows h) i 0 = .im (.int .i64 (hAt h i).1) := by
  unfold getC hAt
  simp [hRows,List.getD_eq_getElem?_getD,hi]
theorem getH1 {z : AC} {h : List Hp} {i : Nat} (hi : i < h.length) : getC z (hRows h) i 1 = .im (.int .i64 (hAt h i).2) := by
  unfold getC hAt
  simp [hRows,List.getD_eq_getElem?_getD,hi]
theorem getHR {z : List AC} {h : List Hp} {i : Nat} (hi : i < h.length) : getR z (hRows h) i 0 3 = [.im (.int .i64 (hAt h i).1),.im (.int .i64 (hAt h i).2),.dead] := by
  unfold getR hAt
  simp [hRows,List.getD_eq_getElem?_getD,hi]
def inP (l : List Tm) (a : Int) : Bool := decide (0 ≤ a) && decide (a < (placesF l).length)
def forkQ (l : List Tm) (a c : Int) : Int := joinF2 l ((placesF l).getD a.toNat 0) ((placesF l).getD c.toNat 0)
def forkD (l : List Tm) (a c : Int) : Int := (deepF l).getD (forkQ l a c).toNat 0 + 1
def forkF (l : List Tm) (x y : Int × Int) : Int × Int × Int :=
  if ¬(inP l x.1 = true ∧ inP l y.1 = true ∧ x.1 ≠ y.1) then (0,0,0)
  else if y.2 < x.2 then (x.2 + 1,y.2 + 1,1)
  else if x.2 < y.2 then (x.2 + 1,y.2 + 1,-1)
  else if y.1 < x.1 then (forkD l x.1 y.1,if (tAt l (forkQ l x.1 y.1).toNat).k = 3 then forkD l x.1 y.1 + 1 else forkD l x.1 y.1,-1)
  else (if (tAt l (forkQ l x.1 y.1).toNat).k = 3 then forkD l x.1 y.1 + 1 else forkD l x.1 y.1,forkD l x.1 y.1,1)
theorem forkQ_comm {l : List Tm} {a c : Int} : forkQ l a c = forkQ l c a := by
  unfold forkQ;rw [joinF2_comm]
theorem forkD_comm {l : List Tm} {a c : Int} : forkD l a c = forkD l c a := by
  unfold forkD;rw [forkQ_comm]
theorem fork_swap {l : List Tm} {x y : Int × Int} : forkF l y x = ((forkF l x y).2.1,(forkF l x y).1,- (forkF l x y).2.2) := by
  by_cases h : inP l x.1 = true ∧ inP l y.1 = true ∧ x.1 ≠ y.1
  · have h2 : inP l y.1 = true ∧ inP l x.1 = true ∧ y.1 ≠ x.1 := ⟨h.2.1,h.1,fun e => h.2.2 e.symm⟩
    have h3 := h.2.2
    unfold forkF
    rw [if_neg (not_not_intro h),if_neg (not_not_intro h2),forkD_comm (a := y.1),forkQ_comm (a := y.1)]
    by_cases e1 : y.2 < x.2
    · have e1' : ¬ x.2 < y.2 := by omega
      simp only [e1,e1',↓reduceIte]
    · by_cases e2 : x.2 < y.2
      · simp only [e1,e2,↓reduceIte];try rfl
      · by_cases e3 : y.1 < x.1
        · have e3' : ¬ x.1 < y.1 := by omega
          simp only [e1,e2,e3,e3',↓reduceIte];try rfl
        · have e3' : x.1 < y.1 := by omega
          simp only [e1,e2,e3,e3',↓reduceIte]
  · have h2 : ¬(inP l y.1 = true ∧ inP l x.1 = true ∧ y.1 ≠ x.1) := fun e => h ⟨e.2.1,e.1,fun e' => e.2.2 e'.symm⟩
    unfold forkF
    rw [if_pos h,if_pos h2];rfl
def numF (b t : Int) : Int := if b < t + 1 then b else t + 1
def lowH (b : List (List Int)) (fr : List Int) (h : List Hp) (i k : Nat) : Int := numF (rGet b (fr.getD i 0).toNat (fr.getD k 0).toNat) (hAt h i).2
def agF (b d : List (List Int)) (fr : List Int) (h : List Hp) (i k : Nat) : Int :=
  if lowH b fr h k i < lowH b fr h i k then 1 else if lowH b fr h i k < lowH b fr h k i then -1 else rGet d (fr.getD i 0).toNat (fr.getD k 0).toNat
def hasR (b : List (List Int)) (a : Int) : Prop := 0 ≤ a ∧ a < b.length
instance {b : List (List Int)} {a : Int} : Decidable (hasR b a) := by unfold hasR;infer_instance
def pickN (b d : List (List Int)) (fr : List Int) (h : List Hp) : Nat → Int
  | 0 => -1
  | i + 1 => if hasR b (fr.getD i 0) ∧ (pickN b d fr h i < 0 ∨ 0 < agF b d fr h i (pickN b d fr h i).toNat) then i else pickN b d fr h i
def pickF (b d : List (List Int)) (fr : List Int) (h : List Hp) : Int := if rkB b d b.length then pickN b d fr h (min fr.length h.length) else -1
theorem pickN_in {b d : List (List Int)} {fr : List Int} {h : List Hp} : ∀ i : Nat,-1 ≤ pickN b d fr h i ∧ pickN b d fr h i < i ∧ (0 ≤ pickN b d fr h i → hasR b (fr.getD (pickN b d fr h i).toNat 0))
  | 0 => by simp [pickN]
  | i + 1 => by
    obtain ⟨h1,h2,h3⟩ := pickN_in (b := b) (d := d) (fr := fr) (h := h) i
    unfold pickN
    split
    · rename_i e
      exact ⟨by omega,by omega,fun _ => by rw [Int.toNat_natCast];exact e.1⟩
    · exact ⟨h1,by omega,h3⟩
def nxB (l : List Tm) (b d : List (List Int)) (fr : List Int) (h : List Hp) (i k : Nat) : Int :=
  if i = k then 0 else if fr.getD i 0 = fr.getD k 0 then (forkF l (hAt h i) (hAt h k)).1 else lowH b fr h i k
def nxD (l : List Tm) (b d : List (List Int)) (fr : List Int) (h : List Hp) (i k : Nat) : Int :=
  if i = k then 0 else if fr.getD i 0 = fr.getD k 0 then (forkF l (hAt h i) (hAt h k)).2.2 else agF b d fr h i k
def tabF (n : Nat) (f : Nat → Nat → Int) : List (List Int) := (List.range n).map fun i => (List.range n).map fun k => f i k
def okNext (b d : List (List Int)) (fr : List Int) (h : List Hp) : Prop := rkB b d b.length = true ∧ fr.length = h.length ∧ ∀ i : Nat,i < fr.length → hasR b (fr.getD i 0)
def nextB (l : List Tm) (b d : List (List Int)) (fr : List Int) (h : List Hp) : List (List Int) := tabF fr.length (nxB l b d fr h)
def nextD (l : List Tm) (b d : List (List Int)) (fr : List Int) (h : List Hp) : List (List Int) := tabF fr.length (nxD l b d fr h)
instance {b d : List (List Int)} {fr : List Int} {h : List Hp} : Decidable (okNext b d fr h) := by unfold okNext;infer_instance
theorem tab_ext {m : List (List Int)} {n : Nat} {f : Nat → Nat → Int} (h : m.length = n) (h1 : ∀ i,i < n → (rAt m i).length = n) (h2 : ∀ i k,i < n → k < n → rGet m i k = f i k) : m = tabF n f := by
  refine rows_ext (by simp [h,tabF]) fun i hi => ?_
  have e : rAt (tabF n f) i = (List.range n).map fun k => f i k := by
    unfold rAt tabF
    simp [List.getD_eq_getElem?_getD,h ▸ hi]
  rw [e]
  refine ints_ext (by simp [h1 i (h ▸ hi)]) fun k hk => ?_
  have hk2 : k < n := by rw [h1 i (h ▸ hi)] at hk;exact hk
  have := h2 i k (h ▸ hi) hk2
  unfold rGet at this
  rw [this]
  simp [List.getD_eq_getElem?_getD,hk2]
end Go.Proofs.Ytllemobnfpljfaa
