import Derived.Test.YtllemobnfpljfaaTerm3
set_option linter.unusedSimpArgs false
set_option maxRecDepth 100000
set_option maxHeartbeats 8000000
namespace Go.Proofs.Ytllemobnfpljfaa
open Go Go.Hs
def L74 (r : Nat) : Option (List Nat) := kl r [(0,[0]),(1,[2])]
def O74 (r : Nat) : List Nat × OT := ordl r []
def L54 (r : Nat) : Option (List Nat) := kl r [(0,[0]),(1,[2])]
def O54 (r : Nat) : List Nat × OT := ordl r []
def L132 (r : Nat) : Option (List Nat) := kl r [(0,[0]),(1,[2])]
def O132 (r : Nat) : List Nat × OT := ordl r []
theorem tRows_frz (l : List Tm) : AC.frz.frzLL (tRows l) = tRows l := by
 show frzLL _ = _
 rw [frzLL_eq]
 simp [tRows,Tm.cs,frzL_eq,AC.frz]
def rightF (l : List Tm) : Bool := !(lowsF l).isEmpty
theorem Right_ok (l : List Tm) : Contract Try.prog 74 [.c (.sl 8 (tRows l))] (.c (.im (.bool (rightF l)))) := by
 (refine contract_of_awp (L := L74) Try.func74 rfl (by kernel_rfl) (by first|rfl|decide) (by first|rfl|kernel_rfl) ?_;simp only [Try.ntmps74,initEnv,Env.keys,List.map_nil,List.map_cons,List.append_nil,List.cons_append,List.nil_append])
 (repeat (first|(refine sA ?_;try intro KR kR)|(with_reducible refine sD O74 ?_;intro KR kR;simp only [O74,ordl,seval])|(refine sB ?_;intro K hK;simp (disch := omega) only [go_sem,seval,Tm.cs,binSet,length_tRows,tRows_ex,tRows_frz,getK,getA,getB,getN,getTm,getSet];(try ((with_reducible first|refine Gt ?_|refine Gv rfl ?_);simp (disch := omega) only [go_sem,seval,Tm.cs,binSet,length_tRows,tRows_ex,tRows_frz,getK,getA,getB,getN,getTm,getSet]));(repeat first|intro (xb : Blk)|intro (xk : Nat)|intro hx|refine pC ?_);refine hK _ ?_;clear K hK)|(refine sE ?_;simp only [go_sem,seval,L54,O54,L74,O74,L132,O132];refine kR _ ?_;clear KR kR)|(simp only [thenE,inB,seval])))
 (refine sB ?_;intro K hK;simp (disch := omega) only [go_sem,seval,Tm.cs,binSet,length_tRows,tRows_ex,tRows_frz,getK,getA,getB,getN,getTm,getSet];(try ((with_reducible refine Gt ?_);simp (disch := omega) only [go_sem,seval,Tm.cs,binSet,length_tRows,tRows_ex,tRows_frz,getK,getA,getB,getN,getTm,getSet]));refine cN ?_;simp (disch := omega) only [go_sem,seval,Tm.cs,binSet,length_tRows,tRows_ex,tRows_frz,getK,getA,getB,getN,getTm,getSet];refine ⟨_,_,ContractH.n (Low_ok l),?_⟩;intro r H' hr hk;(try obtain rfl := keys_nil hk);(obtain ⟨b,rfl⟩ := hr);(try simp (disch := omega) only [AV.flat,AC.flat,AC.flat.flatL,AC.flat.flatLL,go_sem,seval,Tm.cs,binSet,length_tRows,tRows_ex,tRows_frz,getK,getA,getB,getN,getTm,getSet]);(repeat first|intro (xb : Blk)|intro (xk : Nat)|intro hx|refine pC ?_);refine hK _ ?_;clear K hK)
 (repeat (first|(refine sA ?_;try intro KR kR)|(with_reducible refine sD O74 ?_;intro KR kR;simp only [O74,ordl,seval])|(refine sB ?_;intro K hK;simp (disch := omega) only [go_sem,seval,Tm.cs,binSet,length_tRows,tRows_ex,tRows_frz,getK,getA,getB,getN,getTm,getSet];(try ((with_reducible first|refine Gt ?_|refine Gv rfl ?_);simp (disch := omega) only [go_sem,seval,Tm.cs,binSet,length_tRows,tRows_ex,tRows_frz,getK,getA,getB,getN,getTm,getSet]));(repeat first|intro (xb : Blk)|intro (xk : Nat)|intro hx|refine pC ?_);refine hK _ ?_;clear K hK)|(refine sE ?_;simp only [go_sem,seval,L54,O54,L74,O74,L132,O132];refine kR _ ?_;clear KR kR)|(simp only [thenE,inB,seval])))
 (simp only [retQ,Try.results74];simp (disch := omega) only [resK,resT,resAV,Env.sel,Env.keys,List.map_nil,List.map_cons,List.all_nil,List.all_cons,AV.isS,Bool.not_false,Bool.and_self,Option.map_some,List.length_cons,List.length_nil,Nat.zero_add,Nat.reduceAdd,not_false_eq_true,true_and,and_true,ne_eq,go_sem,seval,Tm.cs,binSet,length_tRows,tRows_ex,tRows_frz,getK,getA,getB,getN,getTm,getSet])
 cases h : lowsF l <;> simp [rightF,h]
theorem refRight_big (l : List Tm) (hl : l.length ≤ 2199023255552) : Contract Try.prog 54 [.c (.sl 8 (tRows l))] (.c (.im (.bool (rightF l)))) := by
 (refine contract_of_awp (L := L54) Try.func54 rfl (by kernel_rfl) (by first|rfl|decide) (by first|rfl|kernel_rfl) ?_;simp only [Try.ntmps54,initEnv,Env.keys,List.map_nil,List.map_cons,List.append_nil,List.cons_append,List.nil_append])
 (repeat (first|(refine sA ?_;try intro KR kR)|(with_reducible refine sD O54 ?_;intro KR kR;simp only [O54,ordl,seval])|(refine sB ?_;intro K hK;simp (disch := omega) only [go_sem,seval,Tm.cs,binSet,length_tRows,tRows_ex,tRows_frz,getK,getA,getB,getN,getTm,getSet];(try ((with_reducible first|refine Gt ?_|refine Gv rfl ?_);simp (disch := omega) only [go_sem,seval,Tm.cs,binSet,length_tRows,tRows_ex,tRows_frz,getK,getA,getB,getN,getTm,getSet]));(repeat first|intro (xb : Blk)|intro (xk : Nat)|intro hx|refine pC ?_);refine hK _ ?_;clear K hK)|(refine sE ?_;simp only [go_sem,seval,L54,O54,L74,O74,L132,O132];refine kR _ ?_;clear KR kR)|(simp only [thenE,inB,seval])))
 (refine sB ?_;intro K hK;simp (disch := omega) only [go_sem,seval,Tm.cs,binSet,length_tRows,tRows_ex,tRows_frz,getK,getA,getB,getN,getTm,getSet];(try ((with_reducible refine Gt ?_);simp (disch := omega) only [go_sem,seval,Tm.cs,binSet,length_tRows,tRows_ex,tRows_frz,getK,getA,getB,getN,getTm,getSet]));refine cN ?_;simp (disch := omega) only [go_sem,seval,Tm.cs,binSet,length_tRows,tRows_ex,tRows_frz,getK,getA,getB,getN,getTm,getSet];refine ⟨_,_,ContractH.n (lows_big l hl),?_⟩;intro r H' hr hk;(try obtain rfl := keys_nil hk);(obtain ⟨b,hb,rfl⟩ := hr);(try simp (disch := omega) only [AV.flat,AC.flat,AC.flat.flatL,AC.flat.flatLL,go_sem,seval,Tm.cs,binSet,length_tRows,tRows_ex,tRows_frz,getK,getA,getB,getN,getTm,getSet]);(repeat first|intro (xb : Blk)|intro (xk : Nat)|intro hx|refine pC ?_);refine hK _ ?_;clear K hK)
 (repeat (first|(refine sA ?_;try intro KR kR)|(with_reducible refine sD O54 ?_;intro KR kR;simp only [O54,ordl,seval])|(refine sB ?_;intro K hK;simp (disch := omega) only [go_sem,seval,Tm.cs,binSet,length_tRows,tRows_ex,tRows_frz,getK,getA,getB,getN,getTm,getSet];(try ((with_reducible first|refine Gt ?_|refine Gv rfl ?_);simp (disch := omega) only [go_sem,seval,Tm.cs,binSet,length_tRows,tRows_ex,tRows_frz,getK,getA,getB,getN,getTm,getSet]));(repeat first|intro (xb : Blk)|intro (xk : Nat)|intro hx|refine pC ?_);refine hK _ ?_;clear K hK)|(refine sE ?_;simp only [go_sem,seval,L54,O54,L74,O74,L132,O132];refine kR _ ?_;clear KR kR)|(simp only [thenE,inB,seval])))
 (simp only [retQ,Try.results54];simp (disch := omega) only [resK,resT,resAV,Env.sel,Env.keys,List.map_nil,List.map_cons,List.all_nil,List.all_cons,AV.isS,Bool.not_false,Bool.and_self,Option.map_some,List.length_cons,List.length_nil,Nat.zero_add,Nat.reduceAdd,not_false_eq_true,true_and,and_true,ne_eq,go_sem,seval,Tm.cs,binSet,length_tRows,tRows_ex,tRows_frz,getK,getA,getB,getN,getTm,getSet])
 rw [hb];rfl
theorem refRight_ok (l : List Tm) (hl : l.length ≤ 1000) : Contract Try.prog 54 [.c (.sl 8 (tRows l))] (.c (.im (.bool (rightF l)))) := refRight_big l (by omega)
end Go.Proofs.Ytllemobnfpljfaa
set_option linter.unusedSimpArgs false
namespace Go.Proofs.Ytllemobnfpljfaa
open Go Go.Hs
def Node (l : List Tm) (o : List Int) (i : Nat) : Prop :=
 ((tAt l i).k = 1 ∨ (tAt l i).k = 2) ∧ (tAt l i).a = -1 ∧ (tAt l i).b = -1 ∧ o.getD i 0 = i ∨
 ((tAt l i).k = 3 ∨ (tAt l i).k = 4) ∧ (∃ c d : Nat,i = d + 1 ∧ (tAt l i).b = d ∧ (tAt l i).a = c ∧ (c : Int) + 1 = o.getD d 0 ∧ o.getD i 0 = o.getD c 0) ∨
 ((tAt l i).k = 5 ∨ (tAt l i).k = 6 ∨ (tAt l i).k = 7 ∨ (tAt l i).k = 8) ∧ (∃ d : Nat,i = d + 1 ∧ (tAt l i).b = -1 ∧ (tAt l i).a = d ∧ o.getD i 0 = o.getD d 0)
theorem getD_snoc_lt {o : List Int} {x d : Int} {j : Nat} (h : j < o.length) : (o ++ [x]).getD j d = o.getD j d := by
 simp only [List.getD_eq_getElem?_getD]
 rw [List.getElem?_append_left h]
theorem getD_snoc_eq {o : List Int} {x d : Int} {j : Nat} (h : j = o.length) : (o ++ [x]).getD j d = x := by
 subst h
 simp only [List.getD_eq_getElem?_getD]
 rw [List.getElem?_append_right (Nat.le_refl _)]
 simp
theorem node_lowF {l : List Tm} {o : List Int} {i : Nat} (hl : o.length = i) (ho : Low0 o) (h : ¬ lowF (tAt l i) o i < 0) : Node l (o ++ [lowF (tAt l i) o i]) i := by
 have e := getD_snoc_eq (o := o) (x := lowF (tAt l i) o i) (d := 0) hl.symm
 unfold Node
 rw [e]
 have g : ∀ j : Nat,j < i → (o ++ [lowF (tAt l i) o i]).getD j 0 = o.getD j 0 := fun j hj => getD_snoc_lt (by omega)
 generalize o ++ [lowF (tAt l i) o i] = o2 at *
 unfold lowF at h ⊢
 split at h
 ·rename_i h1
  split at h
  ·rename_i h2
   exact .inl ⟨h1,h2.1,h2.2,by rw [if_pos h1,if_pos h2]⟩
  ·omega
 ·rename_i h1
  split at h
  ·rename_i h2
   split at h
   ·rename_i h3
    refine .inr (.inl ⟨h2,(tAt l i).a.toNat,(tAt l i).b.toNat,by omega,by omega,by omega,?_,?_⟩)
    ·rw [g _ (by omega)];omega
    ·rw [if_neg h1,if_pos h2,if_pos h3,g _ ?_]
     have := ho (tAt l i).b.toNat
     omega
   ·omega
  ·rename_i h2
   split at h
   ·rename_i h3
    split at h
    ·rename_i h4
     refine .inr (.inr ⟨h3,(tAt l i).a.toNat,by omega,by omega,by omega,?_⟩)
     rw [if_neg h1,if_neg h2,if_pos h3,if_pos h4,g _ (by omega)]
    ·omega
   ·omega
theorem Node.snoc {l : List Tm} {o : List Int} {i : Nat} {x : Int} (hi : i < o.length) (ho : Low0 o) (h : Node l o i) : Node l (o ++ [x]) i := by
 rcases h with ⟨h1,h2,h3,h4⟩|⟨h1,c,d,h2,h3,h4,h5,h6⟩|⟨h1,d,h2,h3,h4,h5⟩
 ·exact .inl ⟨h1,h2,h3,by rw [getD_snoc_lt hi];exact h4⟩
 ·have := ho d
  exact .inr (.inl ⟨h1,c,d,h2,h3,h4,by rw [getD_snoc_lt (by omega)];exact h5,by rw [getD_snoc_lt hi,getD_snoc_lt (by omega)];exact h6⟩)
 ·exact .inr (.inr ⟨h1,d,h2,h3,h4,by rw [getD_snoc_lt hi,getD_snoc_lt (by omega)];exact h5⟩)
theorem lowsG_nodes {l : List Tm} : ∀ {n : Nat} {o : List Int},lowsG l n = some o → ∀ i,i < n → Node l o i ∧ fieldsF (tAt l i) = true ∧ ∀ o',o'.length = i → o' = o.take i → againF (tAt l i) (ex l (lowF (tAt l i) o' i).toNat i) = false
 | 0,o,_,i,hi => by omega
 | n + 1,o,h,i,hi => by
  simp only [lowsG] at h
  split at h
  ·cases h
  ·rename_i o1 h1
   split at h
   ·cases h
   ·rename_i h2
    simp only [Option.some.injEq] at h
    subst h
    have hl := lowsG_length h1
    by_cases hin : i = n
    ·subst hin
     refine ⟨node_lowF hl (lowsG_low0 h1) (by omega),?_,?_⟩
     ·cases hf : fieldsF (tAt l i) with
      | true => rfl
      | false => exact absurd (.inr (.inl hf)) h2
     ·intro o' _ h4
      rw [List.take_append_of_le_length (by omega),List.take_of_length_le (by omega)] at h4
      subst h4
      cases hf : againF (tAt l i) (ex l (lowF (tAt l i) o' i).toNat i) with
      | false => rfl
      | true => exact absurd (.inr (.inr hf)) h2
    ·obtain ⟨g1,g2,g3⟩ := lowsG_nodes h1 i (by omega)
     refine ⟨g1.snoc (by omega) (lowsG_low0 h1),g2,?_⟩
     intro o' h3 h4
     rw [List.take_append_of_le_length (by omega)] at h4
     exact g3 o' h3 h4
structure Term (l : List Tm) (o : List Int) : Prop where
 pos : 0 < l.length
 le : l.length ≤ 400
 len : o.length = l.length
 low : Low0 o
 node : ∀ i,i < l.length → Node l o i
 fields : ∀ i,i < l.length → fieldsF (tAt l i) = true
 root : o.getD (l.length - 1) 0 = 0
 leaves : leavesF l l.length ≤ 64
theorem term_of_right {l : List Tm} (h : rightF l = true) : Term l (lowsF l) := by
 unfold rightF at h
 have h' : lowsF l ≠ [] := by intro e;rw [e] at h;cases h
 unfold lowsF at h' ⊢
 split at h'
 ·exact absurd rfl h'
 ·rename_i h1
  rw [if_neg h1]
  split at h'
  ·exact absurd rfl h'
  ·rename_i o ho
   split at h'
   ·exact absurd rfl h'
   ·rename_i h2
    rw [if_neg h2]
    have hn := lowsG_nodes ho
    exact ⟨by omega,by omega,lowsG_length ho,lowsG_low0 ho,fun i hi => (hn i hi).1,fun i hi => (hn i hi).2.1,by omega,by omega⟩
section
variable {l : List Tm} {o : List Int}
def IsPar (l : List Tm) (j p : Nat) : Prop := (tAt l p).a = j ∨ (tAt l p).b = j
theorem IsPar.lt (ho : Low0 o) {j p : Nat} (hn : Node l o p) (h : IsPar l j p) : j < p := by
 unfold IsPar at h
 rcases hn with ⟨h1,h2,h3,h4⟩|⟨h1,c,d,h2,h3,h4,h5,h6⟩|⟨h1,d,h2,h3,h4,h5⟩
 ·omega
 ·have := ho d;omega
 ·omega
theorem laminar (ho : Low0 o) : ∀ (k : Nat),(∀ i,i ≤ k → Node l o i) → ∀ i,i < k → (i : Int) < o.getD k 0 ∨ o.getD k 0 ≤ o.getD i 0 := by
 intro k
 induction k using Nat.strongRecOn with
 | _ k ih =>
  intro hn i hi
  rcases hn k (Nat.le_refl k) with ⟨h1,h2,h3,h4⟩|⟨h1,c,d,h2,h3,h4,h5,h6⟩|⟨h1,d,h2,h3,h4,h5⟩
  ·left;omega
  ·have hd := ho d
   have hc := ho c
   by_cases e : i = d
   ·subst e;right;omega
   ·by_cases e2 : (i : Int) < o.getD d 0
    ·by_cases e3 : i = c
     ·subst e3;right;omega
     ·rcases ih c (by omega) (fun j hj => hn j (by omega)) i (by omega) with h|h <;> omega
    ·rcases ih d (by omega) (fun j hj => hn j (by omega)) i (by omega) with h|h <;> omega
  ·by_cases e : i = d
   ·subst e;right;omega
   ·rcases ih d (by omega) (fun j hj => hn j (by omega)) i (by omega) with h|h <;> omega
theorem has_par (ho : Low0 o) : ∀ (k : Nat),(∀ i,i ≤ k → Node l o i) → ∀ j : Nat,o.getD k 0 ≤ j → j < k → ∃ p,j < p ∧ p ≤ k ∧ IsPar l j p := by
 intro k
 induction k using Nat.strongRecOn with
 | _ k ih =>
  intro hn j h0 hj
  rcases hn k (Nat.le_refl k) with ⟨h1,h2,h3,h4⟩|⟨h1,c,d,h2,h3,h4,h5,h6⟩|⟨h1,d,h2,h3,h4,h5⟩
  ·omega
  ·have hd := ho d
   by_cases e : j = d
   ·exact ⟨k,hj,Nat.le_refl _,.inr (by omega)⟩
   ·by_cases e3 : j = c
    ·exact ⟨k,hj,Nat.le_refl _,.inl (by omega)⟩
    ·by_cases e2 : (j : Int) < o.getD d 0
     ·obtain ⟨p,p1,p2,p3⟩ := ih c (by omega) (fun j hj => hn j (by omega)) j (by omega) (by omega)
      exact ⟨p,p1,by omega,p3⟩
     ·obtain ⟨p,p1,p2,p3⟩ := ih d (by omega) (fun j hj => hn j (by omega)) j (by omega) (by omega)
      exact ⟨p,p1,by omega,p3⟩
  ·by_cases e : j = d
   ·exact ⟨k,hj,Nat.le_refl _,.inl (by omega)⟩
   ·obtain ⟨p,p1,p2,p3⟩ := ih d (by omega) (fun j hj => hn j (by omega)) j (by omega) (by omega)
    exact ⟨p,p1,by omega,p3⟩
theorem one_par_lt (ho : Low0 o) {p q j : Nat} (hn : ∀ i,i ≤ q → Node l o i) (hpq : p < q) (hp : IsPar l j p) (hq : IsPar l j q) : False := by
 have hjp := hp.lt ho (hn p (by omega))
 unfold IsPar at hp hq
 rcases hn q (Nat.le_refl q) with ⟨h1,h2,h3,h4⟩|⟨h1,c,d,h2,h3,h4,h5,h6⟩|⟨h1,d,h2,h3,h4,h5⟩
 ·omega
 ·have hj : j = c := by omega
  subst hj
  have hlow : o.getD p 0 ≤ j := by
   rcases hn p (by omega) with ⟨g1,g2,g3,g4⟩|⟨g1,c',d',g2,g3,g4,g5,g6⟩|⟨g1,d',g2,g3,g4,g5⟩
   ·omega
   ·have := ho c';have := ho d'
    rcases hp with hp|hp
    ·have : c' = j := by omega
     subst this;omega
    ·have : d' = j := by omega
     subst this;omega
   ·have : d' = j := by omega
    subst this
    have := ho d';omega
  by_cases e : p = d
  ·subst e;omega
  ·rcases laminar ho d (fun i hi => hn i (by omega)) p (by omega) with h|h <;> omega
 ·omega
theorem one_par (ho : Low0 o) {n p q j : Nat} (hn : ∀ i,i < n → Node l o i) (hpn : p < n) (hqn : q < n) (hp : IsPar l j p) (hq : IsPar l j q) : p = q := by
 rcases Nat.lt_trichotomy p q with h|h|h
 ·exact (one_par_lt ho (fun i hi => hn i (by omega)) h hp hq).elim
 ·exact h
 ·exact (one_par_lt ho (fun i hi => hn i (by omega)) h hq hp).elim
theorem Term.par (h : Term l o) {j : Nat} (hj : j < l.length - 1) : ∃ p,j < p ∧ p < l.length ∧ IsPar l j p := by
 have := h.pos
 obtain ⟨p,h1,h2,h3⟩ := has_par h.low (l.length - 1) (fun i hi => h.node i (by omega)) j (by rw [h.root];omega) hj
 exact ⟨p,h1,by omega,h3⟩
end
def putP (out : List Int) (x : Int) (i : Nat) : List Int := if 0 ≤ x then out.set x.toNat i else out
def upS (l : List Tm) (out : List Int) : Nat → List Int
 | 0 => out
 | i + 1 => putP (putP (upS l out i) (tAt l i).a i) (tAt l i).b i
def upF (l : List Tm) : List Int := if rightF l then upS l (List.replicate l.length (-1)) l.length else []
theorem putP_length {out : List Int} {x : Int} {i : Nat} : (putP out x i).length = out.length := by unfold putP;split <;> simp
theorem upS_length {l : List Tm} {out : List Int} : ∀ k,(upS l out k).length = out.length
 | 0 => rfl
 | k + 1 => by simp only [upS,putP_length,upS_length k]
theorem putP_same {out : List Int} {x : Int} {i j : Nat} (h : j < out.length) (hx : x = j) : (putP out x i).getD j 0 = i := by
 subst hx
 rw [putP,if_pos (by omega)]
 exact getD_set_same h
theorem putP_other {out : List Int} {x : Int} {i j : Nat} (hx : x ≠ j) : (putP out x i).getD j 0 = out.getD j 0 := by
 unfold putP
 split
 ·exact getD_set_other (by omega)
 ·rfl
theorem upS_init {l : List Tm} {out : List Int} {j : Nat} : ∀ k,(∀ p,p < k → ¬ IsPar l j p) → (upS l out k).getD j 0 = out.getD j 0
 | 0,_ => rfl
 | k + 1,h => by
  have h1 := h k (by omega)
  unfold IsPar at h1
  simp only [upS]
  rw [putP_other (by omega),putP_other (by omega)]
  exact upS_init k fun p hp => h p (by omega)
theorem upS_par {l : List Tm} {out : List Int} {j p : Nat} (hj : j < out.length) (hp : IsPar l j p) : ∀ k,p < k → (∀ q,q < k → IsPar l j q → q = p) → (upS l out k).getD j 0 = p
 | 0,hk,_ => by omega
 | k + 1,hk,hu => by
  simp only [upS]
  by_cases e : p = k
  ·subst e
   by_cases hb : (tAt l p).b = j
   ·exact putP_same (by rw [putP_length,upS_length];exact hj) hb
   ·rw [putP_other hb]
    exact putP_same (by rw [upS_length];exact hj) (by unfold IsPar at hp;omega)
  ·have h1 : ¬ IsPar l j k := fun h => e (hu k (by omega) h).symm
   unfold IsPar at h1
   rw [putP_other (by omega),putP_other (by omega)]
   exact upS_par hj hp k (by omega) fun q hq => hu q (by omega)
theorem eq_of_getD {a b : List Int} (hl : a.length = b.length) (h : ∀ j,j < a.length → a.getD j 0 = b.getD j 0) : a = b := by
 refine List.ext_getElem hl fun j h1 h2 => ?_
 have := h j h1
 simp only [List.getD_eq_getElem?_getD,List.getElem?_eq_getElem h1,List.getElem?_eq_getElem h2,Option.getD_some] at this
 exact this
theorem Term.none {l : List Tm} {o : List Int} (h : Term l o) {j p : Nat} (hj : l.length - 1 ≤ j) (hp : p < l.length) : ¬ IsPar l j p := fun hq => by
 have := hq.lt h.low (h.node p hp);omega
theorem upS_same {l : List Tm} {o : List Int} (h : Term l o) {out out' : List Int} (h1 : out.length = l.length) (h2 : out'.length = l.length) (hr : out.getD (l.length - 1) 0 = out'.getD (l.length - 1) 0) : upS l out l.length = upS l out' l.length := by
 refine eq_of_getD (by rw [upS_length,upS_length,h1,h2]) fun j hj => ?_
 rw [upS_length,h1] at hj
 by_cases hlast : j = l.length - 1
 ·subst hlast
  rw [upS_init _ (fun p hp => h.none (Nat.le_refl _) hp),upS_init _ (fun p hp => h.none (Nat.le_refl _) hp),hr]
 ·obtain ⟨p,p1,p2,p3⟩ := h.par (j := j) (by omega)
  have hu : ∀ q,q < l.length → IsPar l j q → q = p := fun q hq hqp => one_par h.low h.node hq p2 hqp p3
  rw [upS_par (by omega) p3 _ p2 hu,upS_par (by omega) p3 _ p2 hu]
theorem upF_get {l : List Tm} (h : rightF l = true) {j : Nat} (hj : j < l.length) : (j = l.length - 1 ∧ (upF l).getD j 0 = -1) ∨ (∃ p : Nat,j < p ∧ p < l.length ∧ IsPar l j p ∧ (upF l).getD j 0 = p) := by
 have ht := term_of_right h
 rw [upF,if_pos h]
 by_cases hlast : j = l.length - 1
 ·refine .inl ⟨hlast,?_⟩
  subst hlast
  rw [upS_init _ (fun p hp => ht.none (Nat.le_refl _) hp)]
  have := ht.pos
  rw [List.getD_eq_getElem?_getD,List.getElem?_replicate,if_pos (by omega)]
  rfl
 ·obtain ⟨p,p1,p2,p3⟩ := ht.par (j := j) (by omega)
  exact .inr ⟨p,p1,p2,p3,upS_par (by simp;omega) p3 _ p2 fun q hq hqp => one_par ht.low ht.node hq p2 hqp p3⟩
theorem upF_length {l : List Tm} : (upF l).length = if rightF l then l.length else 0 := by
 unfold upF
 split
 ·rw [upS_length];simp
 ·rfl
theorem lowsF_len {l : List Tm} : (lowsF l).length = if rightF l then l.length else 0 := by
 cases hr : rightF l with
 | true => rw [if_pos rfl];exact (term_of_right hr).len
 | false =>
  have : lowsF l = [] := by
   unfold rightF at hr
   cases h : lowsF l with
   | nil => rfl
   | cons x r => rw [h] at hr;cases hr
  rw [this];rfl
end Go.Proofs.Ytllemobnfpljfaa
