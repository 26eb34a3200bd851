/-
  PLAIN: what bytes are read to, is put as them.
-/
import Derived.Test.YtglgmmoomlnghaaPkQ
set_option linter.unusedSimpArgs false
set_option linter.unusedVariables false
namespace Go.Proofs.Ytglgmmoomlnghaa
open Go Go.Hs

theorem Bytes.right {a b : List Int} (h : Bytes (a ++ b)) : Bytes b := fun x hx => h x (List.mem_append.2 (.inr hx))
theorem Bytes.drop {a : List Int} {k : Nat} (h : Bytes a) : Bytes (a.drop k) := fun x hx => h x (List.mem_of_mem_drop hx)
theorem take_back {b : List Int} (hb : Bytes b) {n k : Int} (h : takeG 0 0 b = (n,k,0)) : inR n ∧ b = putN 3 n ++ b.drop k.toNat := by
  unfold inR
  rcases b with _|⟨x,b⟩
  · simp [takeG] at h
  · have hx := hb x (by simp)
    simp only [takeG] at h
    rw [if_neg (by omega)] at h
    by_cases x1 : x < 128
    · rw [if_pos x1] at h
      have h1 := (Prod.mk.inj h).1
      have h2 := (Prod.mk.inj (Prod.mk.inj h).2).1
      simp only [wt] at h1
      subst h2
      have : n = x := by simp at h1;omega
      subst this
      refine ⟨by omega,?_⟩
      rw [putN,if_neg (by omega)];rfl
    · rw [if_neg x1] at h
      rcases b with _|⟨y,b⟩
      · simp [takeG] at h
      · have hy := hb y (by simp)
        simp only [takeG] at h
        by_cases y0 : y = 0
        · rw [if_pos (by omega)] at h
          have := (Prod.mk.inj (Prod.mk.inj h).2).2
          omega
        · rw [if_neg (by omega)] at h
          by_cases y1 : y < 128
          · rw [if_pos y1] at h
            have h1 := (Prod.mk.inj h).1
            have h2 := (Prod.mk.inj (Prod.mk.inj h).2).1
            simp only [wt] at h1
            subst h2
            have : n = x - 128 + y * 128 := by simp at h1;omega
            refine ⟨by omega,?_⟩
            have e1 : n / 128 = y := by omega
            have e2 : n % 128 + 128 = x := by omega
            rw [putN,if_pos (by omega),e1,e2,putN,if_neg (by omega)];rfl
          · rw [if_neg y1] at h
            rcases b with _|⟨z,b⟩
            · simp [takeG] at h
            · have hz := hb z (by simp)
              simp only [takeG] at h
              by_cases z0 : 128 ≤ z ∨ z = 0
              · have hc : (128 ≤ z ∧ True) ∨ (z = 0 ∧ 0 < 0 + 1 + 1) := by
                  rcases z0 with z0|z0
                  · exact .inl ⟨z0,trivial⟩
                  · exact .inr ⟨z0,by omega⟩
                rw [if_pos hc] at h
                have := (Prod.mk.inj (Prod.mk.inj h).2).2
                omega
              · have hc : ¬((128 ≤ z ∧ True) ∨ (z = 0 ∧ 0 < 0 + 1 + 1)) := by
                  rintro (c|c)
                  · exact z0 (.inl c.1)
                  · exact z0 (.inr c.1)
                rw [if_neg hc,if_pos (by omega)] at h
                have h1 := (Prod.mk.inj h).1
                have h2 := (Prod.mk.inj (Prod.mk.inj h).2).1
                simp only [wt] at h1
                subst h2
                have : n = x - 128 + (y - 128) * 128 + z * 16384 := by simp at h1;omega
                refine ⟨by omega,?_⟩
                have e1 : n / 128 / 128 = z := by omega
                have e2 : n % 128 + 128 = x := by omega
                have e3 : n / 128 % 128 + 128 = y := by omega
                rw [putN,if_pos (by omega),e2,putN,if_pos (by omega),e3,e1,putN,if_neg (by omega)];rfl

/-- What is read is so, and was put. -/
def Dec {α : Type} (P : Rd α) (ok : α → Prop) (enc : α → List Int) : Prop := ∀ b v r,Bytes b → P (b,0) = (v,(r,0)) → ok v ∧ b = enc v ++ r
theorem Dec.next {m : Int} : Dec (nextF m) (fun n => inR n ∧ n ≤ m) (fun n => putN 3 n) := fun b v r hb h => by
  unfold nextF at h
  rw [if_neg (not_not_intro rfl)] at h
  by_cases e1 : (takeG 0 0 (b,(0 : Int)).1).2.2 ≠ 0
  · rw [if_pos e1] at h
    have := (Prod.mk.inj (Prod.mk.inj h).2).2
    exact absurd this e1
  · rw [if_neg e1] at h
    by_cases e2 : m < (takeG 0 0 (b,(0 : Int)).1).1
    · rw [if_pos e2] at h
      have := (Prod.mk.inj (Prod.mk.inj h).2).2
      exact absurd this (by decide)
    · rw [if_neg e2] at h
      have h1 := (Prod.mk.inj h).1
      have h2 := (Prod.mk.inj (Prod.mk.inj h).2).1
      have z1 : (takeG 0 0 b).2.2 = 0 := Decidable.byContradiction e1
      have z2 : (takeG 0 0 b).1 = v := h1
      have e3 : takeG 0 0 b = (v,(takeG 0 0 b).2.1,0) := Prod.ext z2 (Prod.ext rfl z1)
      obtain ⟨g1,g2⟩ := take_back hb e3
      refine ⟨⟨g1,?_⟩,?_⟩
      · have : (takeG 0 0 b).1 = v := h1
        have e2 : ¬ m < (takeG 0 0 b).1 := e2
        omega
      · rw [← h2];exact g2
theorem bind_eq {α β : Type} {P : Rd α} {Q : α → Rd β} (hs : ∀ a,Stays (Q a)) {s : RS} {v : β} {r : List Int} (h : bind P Q s = (v,(r,0))) : ∃ a t,P s = (a,(t,0)) ∧ Q a (t,0) = (v,(r,0)) := by
  unfold bind at h
  by_cases e : (P s).2.2 = 0
  · have e2 : (P s).2 = ((P s).2.1,0) := Prod.ext rfl e
    refine ⟨(P s).1,(P s).2.1,Prod.ext rfl e2,?_⟩
    rw [e2] at h;exact h
  · have := hs (P s).1 (P s).2 e
    rw [h] at this
    exact absurd (congrArg Prod.snd this).symm e
theorem Dec.manyR {α : Type} {P : Rd α} {ok : α → Prop} {enc : α → List Int} (hd : Dec P ok enc) : ∀ (k : Nat) (acc : List α) b v r,Bytes b → many P k acc (b,0) = (v,(r,0)) → ∃ l,v = acc ++ l ∧ l.length = k ∧ (∀ x ∈ l,ok x) ∧ b = l.flatMap enc ++ r
  | 0,acc,b,v,r,hb,h => by
    have h1 := (Prod.mk.inj h).1
    have h2 := (Prod.mk.inj (Prod.mk.inj h).2).1
    exact ⟨[],by simp [← h1],rfl,by simp,by simp [← h2]⟩
  | k + 1,acc,b,v,r,hb,h => by
    have h : many P k (acc ++ [(P (b,0)).1]) (P (b,0)).2 = (v,(r,0)) := h
    by_cases e : (P (b,0)).2.2 = 0
    · have e1 : P (b,0) = ((P (b,0)).1,((P (b,0)).2.1,0)) := Prod.ext rfl (Prod.ext rfl e)
      obtain ⟨g1,g2⟩ := hd b _ _ hb e1
      have e2 : (P (b,0)).2 = ((P (b,0)).2.1,0) := Prod.ext rfl e
      rw [e2] at h
      obtain ⟨l,q1,q2,q3,q4⟩ := Dec.manyR hd k _ _ v r (by rw [g2] at hb;exact hb.right) h
      refine ⟨(P (b,0)).1 :: l,by rw [q1];simp,by simp [q2],fun x hx => ?_,?_⟩
      · rcases List.mem_cons.1 hx with hx|hx
        · rw [hx];exact g1
        · exact q3 x hx
      · rw [List.flatMap_cons,List.append_assoc,← q4];exact g2
    · have := many_stays k (acc ++ [(P (b,0)).1]) (P := P) (P (b,0)).2 e
      rw [h] at this
      exact absurd (congrArg Prod.snd this).symm e
theorem ret_eq {α : Type} {a v : α} {t r : List Int} (h : ret a (t,0) = (v,(r,0))) : v = a ∧ t = r := ⟨(Prod.mk.inj h).1.symm,(Prod.mk.inj (Prod.mk.inj h).2).1⟩
theorem Dec.move : Dec moveF mvIn (fun m => putF [] (moveL m)) := fun b v r hb h => by
  obtain ⟨a,t,h1,h⟩ := bind_eq (fun _ => bind_stays next_stays fun _ => ret_stays) h
  obtain ⟨c,u,h2,h⟩ := bind_eq (fun _ => ret_stays) h
  obtain ⟨rfl,rfl⟩ := ret_eq h
  obtain ⟨g1,rfl⟩ := Dec.next b _ _ hb h1
  obtain ⟨g2,rfl⟩ := Dec.next t _ _ hb.right h2
  have g3 : inR (c - 1 + 1) := by rw [Int.sub_add_cancel];exact g2.1
  refine ⟨⟨g1.1,g3⟩,?_⟩
  show _ = putF [] [a,c - 1 + 1] ++ u
  rw [putF_cons g1.1,putF_cons g3,Int.sub_add_cancel]
  simp [putF]
theorem Dec.way : Dec wayF wyIn (fun x => putF [] (wayL x)) := fun b v r hb h => by
  obtain ⟨a,t,h1,h⟩ := bind_eq (fun _ => bind_stays next_stays fun _ => bind_stays (many_stays _ _) fun _ => ret_stays) h
  obtain ⟨n,u,h2,h⟩ := bind_eq (fun _ => bind_stays (many_stays _ _) fun _ => ret_stays) h
  obtain ⟨l,w,h3,h⟩ := bind_eq (fun _ => ret_stays) h
  obtain ⟨rfl,rfl⟩ := ret_eq h
  obtain ⟨g1,rfl⟩ := Dec.next b _ _ hb h1
  obtain ⟨g2,rfl⟩ := Dec.next t _ _ hb.right h2
  obtain ⟨l2,e1,e2,e3,rfl⟩ := Dec.manyR Dec.move _ _ u _ _ hb.right.right h3
  rw [List.nil_append] at e1
  subst e1
  have g3 : inR (a - 1 + 1) := by rw [Int.sub_add_cancel];exact g1.1
  have g4 : (l.length : Int) = n := by have := g2.1.1;omega
  have g5 : inR (l.length : Int) := by rw [g4];exact g2.1
  refine ⟨⟨g3,by have := g2.2;show l.length ≤ 2434;omega,e3⟩,?_⟩
  show _ = putF [] ((a - 1 + 1) :: (l.length : Int) :: l.flatMap moveL) ++ w
  rw [putF_cons g3,putF_cons g5,putF_flat,Int.sub_add_cancel,g4]
  simp
theorem Dec.acc : Dec accF (fun n => inR (n + 2)) (fun n => putF [] [n + 2]) := fun b v r hb h => by
  obtain ⟨a,t,h1,h⟩ := bind_eq (fun _ => ret_stays) h
  obtain ⟨rfl,rfl⟩ := ret_eq h
  obtain ⟨g1,rfl⟩ := Dec.next b _ _ hb h1
  have g3 : inR (a - 2 + 2) := by rw [Int.sub_add_cancel];exact g1.1
  refine ⟨g3,?_⟩
  show _ = putF [] [a - 2 + 2] ++ t
  rw [putF_cons g3,Int.sub_add_cancel]
  simp [putF]
theorem Dec.stand : Dec standF sdIn (fun s => putF [] (standL s)) := fun b v r hb h => by
  obtain ⟨n,t,h1,h⟩ := bind_eq (fun _ => bind_stays (many_stays _ _) fun _ => bind_stays next_stays fun _ => bind_stays (many_stays _ _) fun _ => ret_stays) h
  obtain ⟨a,u,h2,h⟩ := bind_eq (fun _ => bind_stays next_stays fun _ => bind_stays (many_stays _ _) fun _ => ret_stays) h
  obtain ⟨m,w,h3,h⟩ := bind_eq (fun _ => bind_stays (many_stays _ _) fun _ => ret_stays) h
  obtain ⟨l,x,h4,h⟩ := bind_eq (fun _ => ret_stays) h
  obtain ⟨rfl,rfl⟩ := ret_eq h
  obtain ⟨g1,rfl⟩ := Dec.next b _ _ hb h1
  obtain ⟨a2,e1,e2,e3,rfl⟩ := Dec.manyR Dec.acc _ _ t _ _ hb.right h2
  obtain ⟨g2,rfl⟩ := Dec.next u _ _ hb.right.right h3
  obtain ⟨l2,f1,f2,f3,rfl⟩ := Dec.manyR Dec.way _ _ w _ _ hb.right.right.right h4
  rw [List.nil_append] at e1 f1
  subst e1 f1
  have k1 : (a.length : Int) = n := by have := g1.1.1;omega
  have k2 : (l.length : Int) = m := by have := g2.1.1;omega
  have k3 : inR (a.length : Int) := by rw [k1];exact g1.1
  have k4 : inR (l.length : Int) := by rw [k2];exact g2.1
  refine ⟨⟨by have := g1.2;show a.length ≤ 19;omega,e3,by have := g2.2;show l.length ≤ 256;omega,f3⟩,?_⟩
  show _ = putF [] ((a.length : Int) :: (a.map (· + 2) ++ (l.length : Int) :: l.flatMap wayL)) ++ x
  rw [putF_cons k3,putF_app,putF_map,putF_cons k4,putF_flat,k1,k2]
  simp
/-- What a program is read of. -/
theorem Dec.prog : Dec progF pgIn (fun p => putF [] (progL p)) := fun b v r hb h => by
  have q5 : ∀ (t r : Int) (c : List Int) (a : List Sd),Stays (ret (⟨t,r,c,a⟩ : Pg)) := fun _ _ _ _ => ret_stays
  have q4 : ∀ (t r : Int) (c : List Int) (n : Int),Stays (bind (many standF n.toNat []) fun s => ret (⟨t,r,c,s⟩ : Pg)) := fun _ _ _ _ => bind_stays (many_stays _ _) fun _ => ret_stays
  have q3 : ∀ (t r : Int) (c : List Int),Stays (bind (nextF 400) fun n => bind (many standF n.toNat []) fun s => ret (⟨t,r,c,s⟩ : Pg)) := fun _ _ _ => bind_stays next_stays fun _ => q4 _ _ _ _
  have q2 : ∀ (t r : Int),Stays (bind (many (nextF all21) 256 []) fun c => bind (nextF 400) fun n => bind (many standF n.toNat []) fun s => ret (⟨t,r,c,s⟩ : Pg)) := fun _ _ => bind_stays (many_stays _ _) fun _ => q3 _ _ _
  obtain ⟨tg,t,h1,h⟩ := bind_eq (fun _ => bind_stays next_stays fun _ => q2 _ _) h
  obtain ⟨rg,u,h2,h⟩ := bind_eq (fun _ => q2 _ _) h
  obtain ⟨c,w,h3,h⟩ := bind_eq (fun _ => q3 _ _ _) h
  obtain ⟨n,x,h4,h⟩ := bind_eq (fun _ => q4 _ _ _ _) h
  obtain ⟨l,y,h5,h⟩ := bind_eq (fun _ => q5 _ _ _ _) h
  obtain ⟨rfl,rfl⟩ := ret_eq h
  obtain ⟨g1,rfl⟩ := Dec.next b _ _ hb h1
  obtain ⟨g2,rfl⟩ := Dec.next t _ _ hb.right h2
  obtain ⟨c2,e1,e2,e3,rfl⟩ := Dec.manyR Dec.next _ _ u _ _ hb.right.right h3
  obtain ⟨g3,rfl⟩ := Dec.next w _ _ hb.right.right.right h4
  obtain ⟨l2,f1,f2,f3,rfl⟩ := Dec.manyR Dec.stand _ _ x _ _ hb.right.right.right.right h5
  rw [List.nil_append] at e1 f1
  subst e1 f1
  have k2 : (l.length : Int) = n := by have := g3.1.1;omega
  have k4 : inR (l.length : Int) := by rw [k2];exact g3.1
  refine ⟨⟨g1.1,g2.1,e2,fun i hi => (e3 i hi).1,by have := g3.2;show l.length ≤ 400;omega,f3⟩,?_⟩
  show _ = putF [] (tg :: rg :: (c ++ (l.length : Int) :: l.flatMap standL)) ++ y
  have e0 : c.flatMap (fun n => putN 3 n) = putF [] c := by
    have h1 := putF_map (f := fun x : Int => x) (l := c)
    rw [List.map_id'] at h1
    rw [h1]
    have : ∀ (l : List Int),(∀ i ∈ l,inR i) → l.flatMap (fun n => putN 3 n) = l.flatMap (fun n => putF [] [n]) := fun l => by
      induction l with
      | nil => intro _;rfl
      | cons a l ih =>
        intro h
        rw [List.flatMap_cons,List.flatMap_cons,ih (fun i hi => h i (by simp [hi])),putF_cons (h a (by simp))]
        simp [putF]
    exact this c fun i hi => (e3 i hi).1
  rw [putF_cons g1.1,putF_cons g2.1,putF_app,putF_cons k4,putF_flat,k2,← e0]
  simp

end Go.Proofs.Ytglgmmoomlnghaa
