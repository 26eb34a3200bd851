/-
  PLAIN: programs as numbers, and a reader of them: what is put is read; cut, it is too short; what is read is put.
-/
import Derived.Test.YtglgmmoomlnghaaPkP
set_option linter.unusedSimpArgs false
set_option linter.unusedVariables false
namespace Go.Proofs.Ytglgmmoomlnghaa
open Go Go.Hs

structure Wy where
  to : Int
  mv : List (Int × Int)
deriving DecidableEq
structure Sd where
  acc : List Int
  wy : List Wy
deriving DecidableEq
structure Pg where
  tags : Int
  regs : Int
  cls : List Int
  sd : List Sd
deriving DecidableEq

/-! The reader: what is left, and the error. -/
abbrev RS := List Int × Int
abbrev Rd (α : Type) := RS → α × RS
def nextF (most : Int) : Rd Int := fun s =>
  if s.2 ≠ 0 then (0,s)
  else if (takeG 0 0 s.1).2.2 ≠ 0 then (0,([],(takeG 0 0 s.1).2.2))
  else if most < (takeG 0 0 s.1).1 then (0,([],11))
  else ((takeG 0 0 s.1).1,(s.1.drop (takeG 0 0 s.1).2.1.toNat,0))
def bind {α β : Type} (P : Rd α) (Q : α → Rd β) : Rd β := fun s => Q (P s).1 (P s).2
def ret {α : Type} (a : α) : Rd α := fun s => (a,s)
/-- So many times, until an error; what comes is put behind. -/
def many {α : Type} (P : Rd α) : Nat → List α → Rd (List α)
  | 0,acc => ret acc
  | k + 1,acc => fun s => if s.2 ≠ 0 then (acc,s) else many P k (acc ++ [(P s).1]) (P s).2
def all21 : Int := 2097151
def moveF : Rd (Int × Int) := bind (nextF all21) fun a => bind (nextF all21) fun b => ret (a,b - 1)
def wayF : Rd Wy := bind (nextF all21) fun t => bind (nextF 2434) fun n => bind (many moveF n.toNat []) fun l => ret ⟨t - 1,l⟩
def accF : Rd Int := bind (nextF all21) fun n => ret (n - 2)
def standF : Rd Sd := bind (nextF 19) fun n => bind (many accF n.toNat []) fun a => bind (nextF 256) fun m => bind (many wayF m.toNat []) fun w => ret ⟨a,w⟩
def progF : Rd Pg := bind (nextF all21) fun t => bind (nextF all21) fun r => bind (many (nextF all21) 256 []) fun c => bind (nextF 400) fun n => bind (many standF n.toNat []) fun s => ret ⟨t,r,c,s⟩

/-! Programs as numbers. -/
def moveL (m : Int × Int) : List Int := [m.1,m.2 + 1]
def wayL (x : Wy) : List Int := (x.to + 1) :: (x.mv.length : Int) :: x.mv.flatMap moveL
def standL (s : Sd) : List Int := (s.acc.length : Int) :: (s.acc.map (· + 2) ++ (s.wy.length : Int) :: s.wy.flatMap wayL)
def progL (p : Pg) : List Int := p.tags :: p.regs :: (p.cls ++ (p.sd.length : Int) :: p.sd.flatMap standL)
def inR (n : Int) : Prop := 0 ≤ n ∧ n ≤ 2097151
theorem putF_cons {n : Int} {l : List Int} (h : inR n) : putF [] (n :: l) = putN 3 n ++ putF [] l := by
  unfold inR at h
  rw [putF,if_neg (by omega),putF_front];rfl
theorem putF_appX : ∀ {a : List Int} {X b : List Int},putF X (a ++ b) = putF X a ++ putF [] b
  | [],X,b => putF_front b X
  | n :: a,X,b => by
    rw [List.cons_append,putF,putF];exact putF_appX
theorem putF_app {a b : List Int} : putF [] (a ++ b) = putF [] a ++ putF [] b := putF_appX

/-! What is read of the bytes u is v; of a true beginning of u: too few. -/
structure Enc {α : Type} (P : Rd α) (v : α) (u : List Int) : Prop where
  all : ∀ r,P (u ++ r,0) = (v,(r,0))
  cut : ∀ y z,z ≠ [] → y ++ z = u → (P (y,0)).2.2 = 2
/-- An error stays. -/
def Stays {α : Type} (P : Rd α) : Prop := ∀ s,s.2 ≠ 0 → (P s).2 = s
theorem next_stays {m : Int} : Stays (nextF m) := fun s h => by unfold nextF;rw [if_pos h]
theorem ret_stays {α : Type} {a : α} : Stays (ret a) := fun s h => rfl
theorem bind_stays {α β : Type} {P : Rd α} {Q : α → Rd β} (h : Stays P) (h2 : ∀ a,Stays (Q a)) : Stays (bind P Q) := fun s hs => by
  unfold bind
  rw [h s hs];exact h2 _ s hs
theorem many_stays {α : Type} {P : Rd α} : ∀ k acc,Stays (many P k acc)
  | 0,acc => fun s h => rfl
  | k + 1,acc => fun s h => by unfold many;rw [if_pos h]
theorem Enc.ret {α : Type} {v : α} : Enc (ret v) v [] := ⟨fun r => rfl,fun y z hz h => by
  have := List.append_eq_nil_iff.1 h
  exact absurd this.2 hz⟩
theorem Enc.bind {α β : Type} {P : Rd α} {Q : α → Rd β} {v : α} {w : β} {u t : List Int} (h : Enc P v u) (h2 : Enc (Q v) w t) (hs : ∀ a,Stays (Q a)) : Enc (bind P Q) w (u ++ t) := by
  refine ⟨fun r => ?_,fun y z hz e => ?_⟩
  · unfold Proofs.Ytglgmmoomlnghaa.bind
    rw [List.append_assoc,h.all];exact h2.all r
  · by_cases hl : y.length < u.length
    · have hy : y = u.take y.length := by
        have := congrArg (List.take y.length) e
        rw [List.take_left,List.take_append_of_le_length (by omega)] at this
        exact this
      have hu : y ++ u.drop y.length = u := by
        conv => lhs;rw [hy]
        rw [List.length_take,Nat.min_eq_left (by omega),List.take_append_drop]
      have he := h.cut y (u.drop y.length) (fun c => by
        have := congrArg List.length c
        simp at this;omega) hu
      unfold Proofs.Ytglgmmoomlnghaa.bind
      rw [hs _ _ (by rw [he];decide)];exact he
    · have hy : y = u ++ y.drop u.length := by
        have e1 := congrArg (List.take u.length) e
        rw [List.take_left,List.take_append_of_le_length (by omega)] at e1
        conv => lhs;rw [← List.take_append_drop u.length y,e1]
      have e2 : y.drop u.length ++ z = t := by
        rw [hy,List.append_assoc] at e
        exact List.append_cancel_left e
      unfold Proofs.Ytglgmmoomlnghaa.bind
      rw [hy,h.all]
      exact h2.cut _ z hz e2
theorem Enc.many {α : Type} {P : Rd α} {enc : α → List Int} (hs : Stays P) : ∀ {l : List α} {acc : List α},(∀ x ∈ l,Enc P x (enc x)) → Enc (many P l.length acc) (acc ++ l) (l.flatMap enc)
  | [],acc,h => by rw [List.append_nil];exact Enc.ret
  | x :: l,acc,h => by
    have h1 := h x (by simp)
    have h2 := Enc.many hs (l := l) (acc := acc ++ [x]) (fun y hy => h y (by simp [hy]))
    have h3 := Enc.bind (Q := fun a => Proofs.Ytglgmmoomlnghaa.many P l.length (acc ++ [a])) h1 h2 (fun a => many_stays _ _)
    have e : ∀ s : RS,s.2 = 0 → Proofs.Ytglgmmoomlnghaa.many P (x :: l).length acc s = Proofs.Ytglgmmoomlnghaa.bind P (fun a => Proofs.Ytglgmmoomlnghaa.many P l.length (acc ++ [a])) s := fun s h0 => by
      show (if s.2 ≠ 0 then (acc,s) else _) = _
      rw [if_neg (not_not_intro h0)];rfl
    refine ⟨fun r => ?_,fun y z hz ey => ?_⟩
    · rw [e _ rfl,List.flatMap_cons,h3.all]
      simp
    · rw [e _ rfl]
      exact h3.cut y z hz ey
theorem take_short {n : Int} (h : inR n) : ∀ y z,z ≠ [] → y ++ z = putN 3 n → takeG 0 0 y = (0,0,2) := fun y z hz e => by
  unfold inR at h
  have hl := congrArg List.length e
  have hz2 : 0 < z.length := List.length_pos_iff.2 hz
  rw [List.length_append] at hl
  simp only [putN] at e hl
  by_cases a1 : 128 ≤ n
  · rw [if_pos a1] at e hl
    by_cases a2 : 128 ≤ n / 128
    · rw [if_pos a2,if_neg (show ¬ 128 ≤ n / 128 / 128 by omega)] at e hl
      rcases y with _|⟨p,_|⟨q,_|⟨r,y⟩⟩⟩
      · rfl
      · have e1 := (List.cons.inj e).1
        simp only [takeG]
        rw [if_neg (by omega),if_neg (by omega)]
      · have e1 := (List.cons.inj e).1
        have e2 := (List.cons.inj (List.cons.inj e).2).1
        simp only [takeG]
        rw [if_neg (by omega),if_neg (by omega),if_neg (by omega),if_neg (by omega)]
      · simp at hl;omega
    · rw [if_neg a2] at e hl
      rcases y with _|⟨p,_|⟨q,y⟩⟩
      · rfl
      · have e1 := (List.cons.inj e).1
        simp only [takeG]
        rw [if_neg (by omega),if_neg (by omega)]
      · simp at hl;omega
  · rw [if_neg a1] at e hl
    rcases y with _|⟨p,y⟩
    · rfl
    · simp at hl;omega
theorem Enc.next {m n : Int} (h : inR n) (hm : n ≤ m) : Enc (nextF m) n (putN 3 n) := by
  refine ⟨fun r => ?_,fun y z hz e => ?_⟩
  · have ht := take_putN n h.1 h.2 r
    unfold nextF
    simp only [ht]
    rw [if_neg (by decide),if_neg (by decide),if_neg (by omega)]
    simp
  · have ht := take_short h y z hz e
    unfold nextF
    simp only [ht]
    rw [if_neg (by decide),if_pos (by decide)]
/-! What a right program keeps to. -/
def mvIn (m : Int × Int) : Prop := inR m.1 ∧ inR (m.2 + 1)
def wyIn (x : Wy) : Prop := inR (x.to + 1) ∧ x.mv.length ≤ 2434 ∧ ∀ m ∈ x.mv,mvIn m
def sdIn (s : Sd) : Prop := s.acc.length ≤ 19 ∧ (∀ n ∈ s.acc,inR (n + 2)) ∧ s.wy.length ≤ 256 ∧ ∀ x ∈ s.wy,wyIn x
def pgIn (p : Pg) : Prop := inR p.tags ∧ inR p.regs ∧ p.cls.length = 256 ∧ (∀ c ∈ p.cls,inR c) ∧ p.sd.length ≤ 400 ∧ ∀ s ∈ p.sd,sdIn s
theorem move_stays : Stays moveF := bind_stays next_stays fun _ => bind_stays next_stays fun _ => ret_stays
theorem way_stays : Stays wayF := bind_stays next_stays fun _ => bind_stays next_stays fun _ => bind_stays (many_stays _ _) fun _ => ret_stays
theorem acc_stays : Stays accF := bind_stays next_stays fun _ => ret_stays
theorem stand_stays : Stays standF := bind_stays next_stays fun _ => bind_stays (many_stays _ _) fun _ => bind_stays next_stays fun _ => bind_stays (many_stays _ _) fun _ => ret_stays
theorem putF_flat {α : Type} {f : α → List Int} : ∀ {l : List α},putF [] (l.flatMap f) = l.flatMap fun x => putF [] (f x)
  | [] => rfl
  | x :: l => by rw [List.flatMap_cons,putF_app,putF_flat,List.flatMap_cons]
theorem putF_map {α : Type} {f : α → Int} : ∀ {l : List α},putF [] (l.map f) = l.flatMap fun x => putF [] [f x]
  | [] => rfl
  | x :: l => by rw [List.map_cons,show f x :: l.map f = [f x] ++ l.map f from rfl,putF_app,putF_map,List.flatMap_cons]
theorem len_in {α : Type} {l : List α} {k : Nat} (h : l.length ≤ k) (hk : k ≤ 2097151) : inR (l.length : Int) := by unfold inR;omega
theorem Enc.move {m : Int × Int} (h : mvIn m) : Enc moveF m (putF [] (moveL m)) := by
  have h1 := Enc.next (m := all21) h.1 (by unfold all21;exact h.1.2)
  have h2 := Enc.next (m := all21) h.2 (by unfold all21;exact h.2.2)
  have h3 := Enc.bind h2 (Q := fun b => Proofs.Ytglgmmoomlnghaa.ret (m.1,b - 1)) (w := m) (t := []) (by rw [Int.add_sub_cancel];exact Enc.ret) (fun _ => ret_stays)
  have h4 := Enc.bind h1 (Q := fun a => Proofs.Ytglgmmoomlnghaa.bind (nextF all21) fun b => Proofs.Ytglgmmoomlnghaa.ret (a,b - 1)) h3 (fun _ => bind_stays next_stays fun _ => ret_stays)
  unfold moveL
  rw [putF_cons h.1,putF_cons h.2]
  exact h4
theorem Enc.way {x : Wy} (h : wyIn x) : Enc wayF x (putF [] (wayL x)) := by
  obtain ⟨ha,hb,hc⟩ := h
  have hl := len_in hb (by omega)
  have h1 := Enc.next (m := all21) ha (by unfold all21;exact ha.2)
  have h2 := Enc.next (m := 2434) hl (by omega)
  have h3 := Enc.many (P := moveF) (enc := fun m => putF [] (moveL m)) move_stays (l := x.mv) (acc := []) (fun m hm => Enc.move (hc m hm))
  have h4 := Enc.bind h3 (Q := fun l => Proofs.Ytglgmmoomlnghaa.ret (⟨x.to + 1 - 1,l⟩ : Wy)) (w := x) (t := []) (by rw [Int.add_sub_cancel];exact Enc.ret) (fun _ => ret_stays)
  have h5 := Enc.bind h2 (Q := fun n => Proofs.Ytglgmmoomlnghaa.bind (Proofs.Ytglgmmoomlnghaa.many moveF n.toNat []) fun l => Proofs.Ytglgmmoomlnghaa.ret (⟨x.to + 1 - 1,l⟩ : Wy)) h4 (fun _ => bind_stays (many_stays _ _) fun _ => ret_stays)
  have h6 := Enc.bind h1 (Q := fun t => Proofs.Ytglgmmoomlnghaa.bind (nextF 2434) fun n => Proofs.Ytglgmmoomlnghaa.bind (Proofs.Ytglgmmoomlnghaa.many moveF n.toNat []) fun l => Proofs.Ytglgmmoomlnghaa.ret (⟨t - 1,l⟩ : Wy)) h5 (fun _ => bind_stays next_stays fun _ => bind_stays (many_stays _ _) fun _ => ret_stays)
  unfold wayL
  rw [putF_cons ha,putF_cons hl,putF_flat]
  rw [List.append_nil] at h6
  exact h6
theorem Enc.acc {n : Int} (h : inR (n + 2)) : Enc accF n (putF [] [n + 2]) := by
  have h1 := Enc.next (m := all21) h (by unfold all21;exact h.2)
  have h2 := Enc.bind h1 (Q := fun n => Proofs.Ytglgmmoomlnghaa.ret (n - 2)) (w := n) (t := []) (by rw [Int.add_sub_cancel];exact Enc.ret) (fun _ => ret_stays)
  rw [putF_cons h]
  exact h2
theorem Enc.stand {s : Sd} (h : sdIn s) : Enc standF s (putF [] (standL s)) := by
  obtain ⟨ha,hb,hc,hd⟩ := h
  have l1 := len_in ha (by omega)
  have l2 := len_in hc (by omega)
  have h1 := Enc.next (m := 19) l1 (by omega)
  have h2 := Enc.many (P := accF) (enc := fun n => putF [] [n + 2]) acc_stays (l := s.acc) (acc := []) (fun n hn => Enc.acc (hb n hn))
  have h3 := Enc.next (m := 256) l2 (by omega)
  have h4 := Enc.many (P := wayF) (enc := fun x => putF [] (wayL x)) way_stays (l := s.wy) (acc := []) (fun x hx => Enc.way (hd x hx))
  have h5 := Enc.bind h4 (Q := fun w => Proofs.Ytglgmmoomlnghaa.ret (⟨s.acc,w⟩ : Sd)) (w := s) (t := []) Enc.ret (fun _ => ret_stays)
  have h6 := Enc.bind h3 (Q := fun m => Proofs.Ytglgmmoomlnghaa.bind (Proofs.Ytglgmmoomlnghaa.many wayF m.toNat []) fun w => Proofs.Ytglgmmoomlnghaa.ret (⟨s.acc,w⟩ : Sd)) h5 (fun _ => bind_stays (many_stays _ _) fun _ => ret_stays)
  have h7 := Enc.bind h2 (Q := fun a => Proofs.Ytglgmmoomlnghaa.bind (nextF 256) fun m => Proofs.Ytglgmmoomlnghaa.bind (Proofs.Ytglgmmoomlnghaa.many wayF m.toNat []) fun w => Proofs.Ytglgmmoomlnghaa.ret (⟨a,w⟩ : Sd)) h6 (fun _ => bind_stays next_stays fun _ => bind_stays (many_stays _ _) fun _ => ret_stays)
  have h8 := Enc.bind h1 (Q := fun n => Proofs.Ytglgmmoomlnghaa.bind (Proofs.Ytglgmmoomlnghaa.many accF n.toNat []) fun a => Proofs.Ytglgmmoomlnghaa.bind (nextF 256) fun m => Proofs.Ytglgmmoomlnghaa.bind (Proofs.Ytglgmmoomlnghaa.many wayF m.toNat []) fun w => Proofs.Ytglgmmoomlnghaa.ret (⟨a,w⟩ : Sd)) h7 (fun _ => bind_stays (many_stays _ _) fun _ => bind_stays next_stays fun _ => bind_stays (many_stays _ _) fun _ => ret_stays)
  unfold standL
  rw [putF_cons l1,putF_app,putF_map,putF_cons l2,putF_flat]
  rw [List.append_nil] at h8
  exact h8
theorem Enc.prog {p : Pg} (h : pgIn p) : Enc progF p (putF [] (progL p)) := by
  obtain ⟨ha,hb,hc,hd,he,hf⟩ := h
  have l2 := len_in he (by omega)
  have h1 := Enc.next (m := all21) ha (by unfold all21;exact ha.2)
  have h2 := Enc.next (m := all21) hb (by unfold all21;exact hb.2)
  have h3 := Enc.many (P := nextF all21) (enc := fun n => putF [] [n]) next_stays (l := p.cls) (acc := []) (fun n hn => by
    have := Enc.next (m := all21) (hd n hn) (by unfold all21;exact (hd n hn).2)
    rw [putF_cons (hd n hn)]
    rw [show putF [] [] = [] from rfl,List.append_nil];exact this)
  have h4 := Enc.next (m := 400) l2 (by omega)
  have h5 := Enc.many (P := standF) (enc := fun x => putF [] (standL x)) stand_stays (l := p.sd) (acc := []) (fun x hx => Enc.stand (hf x hx))
  rw [hc] at h3
  have q5 : ∀ (t r : Int) (c : List Int) (a : List Sd),Stays (Proofs.Ytglgmmoomlnghaa.ret (⟨t,r,c,a⟩ : Pg)) := fun _ _ _ _ => ret_stays
  have q4 : ∀ (t r : Int) (c : List Int) (n : Int),Stays (Proofs.Ytglgmmoomlnghaa.bind (Proofs.Ytglgmmoomlnghaa.many standF n.toNat []) fun s => Proofs.Ytglgmmoomlnghaa.ret (⟨t,r,c,s⟩ : Pg)) := fun _ _ _ _ => bind_stays (many_stays _ _) fun _ => ret_stays
  have q3 : ∀ (t r : Int) (c : List Int),Stays (Proofs.Ytglgmmoomlnghaa.bind (nextF 400) fun n => Proofs.Ytglgmmoomlnghaa.bind (Proofs.Ytglgmmoomlnghaa.many standF n.toNat []) fun s => Proofs.Ytglgmmoomlnghaa.ret (⟨t,r,c,s⟩ : Pg)) := fun _ _ _ => bind_stays next_stays fun _ => q4 _ _ _ _
  have q2 : ∀ (t r : Int),Stays (Proofs.Ytglgmmoomlnghaa.bind (Proofs.Ytglgmmoomlnghaa.many (nextF all21) 256 []) fun c => Proofs.Ytglgmmoomlnghaa.bind (nextF 400) fun n => Proofs.Ytglgmmoomlnghaa.bind (Proofs.Ytglgmmoomlnghaa.many standF n.toNat []) fun s => Proofs.Ytglgmmoomlnghaa.ret (⟨t,r,c,s⟩ : Pg)) := fun _ _ => bind_stays (many_stays _ _) fun _ => q3 _ _ _
  have h6 := Enc.bind h5 (Q := fun s => Proofs.Ytglgmmoomlnghaa.ret (⟨p.tags,p.regs,p.cls,s⟩ : Pg)) (w := p) (t := []) Enc.ret (q5 _ _ _)
  have h7 := Enc.bind h4 (Q := fun n => Proofs.Ytglgmmoomlnghaa.bind (Proofs.Ytglgmmoomlnghaa.many standF n.toNat []) fun s => Proofs.Ytglgmmoomlnghaa.ret (⟨p.tags,p.regs,p.cls,s⟩ : Pg)) h6 (q4 _ _ _)
  have h8 := Enc.bind h3 (Q := fun c => Proofs.Ytglgmmoomlnghaa.bind (nextF 400) fun n => Proofs.Ytglgmmoomlnghaa.bind (Proofs.Ytglgmmoomlnghaa.many standF n.toNat []) fun s => Proofs.Ytglgmmoomlnghaa.ret (⟨p.tags,p.regs,c,s⟩ : Pg)) h7 (q3 _ _)
  have h9 := Enc.bind h2 (Q := fun r => Proofs.Ytglgmmoomlnghaa.bind (Proofs.Ytglgmmoomlnghaa.many (nextF all21) 256 []) fun c => Proofs.Ytglgmmoomlnghaa.bind (nextF 400) fun n => Proofs.Ytglgmmoomlnghaa.bind (Proofs.Ytglgmmoomlnghaa.many standF n.toNat []) fun s => Proofs.Ytglgmmoomlnghaa.ret (⟨p.tags,r,c,s⟩ : Pg)) h8 (q2 _)
  have h10 := Enc.bind h1 (Q := fun t => Proofs.Ytglgmmoomlnghaa.bind (nextF all21) fun r => Proofs.Ytglgmmoomlnghaa.bind (Proofs.Ytglgmmoomlnghaa.many (nextF all21) 256 []) fun c => Proofs.Ytglgmmoomlnghaa.bind (nextF 400) fun n => Proofs.Ytglgmmoomlnghaa.bind (Proofs.Ytglgmmoomlnghaa.many standF n.toNat []) fun s => Proofs.Ytglgmmoomlnghaa.ret (⟨t,r,c,s⟩ : Pg)) h9 (fun _ => bind_stays next_stays fun _ => q2 _ _)
  unfold progL
  have e0 : p.cls.flatMap (fun n => putF [] [n]) = putF [] p.cls := by
    have := putF_map (f := fun x : Int => x) (l := p.cls)
    rw [List.map_id'] at this
    exact this.symm
  rw [putF_cons ha,putF_cons hb,putF_app,putF_cons l2,putF_flat,← e0]
  rw [List.append_nil] at h10
  exact h10

end Go.Proofs.Ytglgmmoomlnghaa
