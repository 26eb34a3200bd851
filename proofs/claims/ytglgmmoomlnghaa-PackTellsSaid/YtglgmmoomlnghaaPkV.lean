/-
  PLAIN: a right program keeps to the bounds of what is read; what bytes are decoded to; the two laws.
-/
import Derived.Test.YtglgmmoomlnghaaPkT
import Derived.Test.YtglgmmoomlnghaaPart2
set_option linter.unusedSimpArgs false
set_option linter.unusedVariables false
namespace Go.Proofs.Ytglgmmoomlnghaa
open Go Go.Hs

theorem nextN_in {cl : List Int} : ∀ {i m : Nat},nextN cl i = some m → ∀ j,j < i → 0 ≤ cl.getD j 0 ∧ cl.getD j 0 ≤ (i : Int)
  | 0,m,h => fun j hj => absurd hj (Nat.not_lt_zero _)
  | i + 1,m,h => fun j hj => by
    simp only [nextN] at h
    split at h
    · cases h
    · rename_i m' hm'
      split at h
      · cases h
      · rename_i hc
        have hle := nextN_le hm'
        by_cases e : j = i
        · subst e;omega
        · have := nextN_in hm' j (by omega);omega
theorem rightC_in {cl : List Int} (h : rightC cl = true) : ∀ c ∈ cl,inR c := fun c hc => by
  have h1 : cl.length = 256 := rightC_len h
  have h2 : (nextN cl cl.length).isSome = true := by
    simp only [rightC,Bool.and_eq_true,decide_eq_true_eq] at h;exact h.2
  obtain ⟨m,hm⟩ := Option.isSome_iff_exists.1 h2
  obtain ⟨j,hj,rfl⟩ := List.mem_iff_getElem.1 hc
  have := nextN_in hm j hj
  have e : cl.getD j 0 = cl[j] := by simp [List.getD_eq_getElem?_getD,hj]
  rw [e] at this
  unfold inR;omega
theorem leastC_le {cl : List Int} : (leastC cl).length ≤ 256 := by
  rw [leastC];split
  · exact leastN_le 256
  · simp
theorem mem_at {α : Type} {l : List α} {x : α} (z : α) (h : x ∈ l) : ∃ i,i < l.length ∧ l.getD i z = x := by
  obtain ⟨i,hi,rfl⟩ := List.mem_iff_getElem.1 h
  exact ⟨i,hi,by simp [List.getD_eq_getElem?_getD,hi]⟩
theorem pg_in {p : Pg} (h : pgB p = true) : pgIn p := by
  have h : PgOk p := of_decide_eq_true h
  obtain ⟨⟨t1,t2,t3,r1,r2,s1,s2,hc⟩,hs⟩ := h
  refine ⟨by unfold inR;omega,by unfold inR;omega,rightC_len hc,rightC_in hc,s2,fun s hm => ?_⟩
  obtain ⟨i,hi,rfl⟩ := mem_at Sd.z hm
  obtain ⟨⟨a1,a2⟩,a3,a4⟩ := hs i hi
  have e : p.sd.getD i Sd.z = sdAt p.sd i := rfl
  rw [e]
  refine ⟨by omega,fun n hn => ?_,by rw [a2];exact leastC_le,fun x hx => ?_⟩
  · obtain ⟨j,hj,rfl⟩ := mem_at 0 hn
    have := a3 j hj
    unfold inR;omega
  · obtain ⟨c,hc2,rfl⟩ := mem_at Wy.z hx
    have hw : WyOk p (wyAt (sdAt p.sd i).wy c) := of_decide_eq_true (a4 c hc2)
    have e2 : (sdAt p.sd i).wy.getD c Wy.z = wyAt (sdAt p.sd i).wy c := rfl
    rw [e2]
    obtain ⟨⟨b1,b2,b3,b4⟩,b5⟩ := hw
    refine ⟨by unfold inR;omega,by omega,fun m hm2 => ?_⟩
    obtain ⟨k,hk,rfl⟩ := mem_at (0,0) hm2
    have := b5 k hk
    have e3 : (wyAt (sdAt p.sd i).wy c).mv.getD k (0,0) = mvAt (wyAt (sdAt p.sd i).wy c).mv k := rfl
    rw [e3]
    unfold mvIn inR;omega

/-! Decoded. -/
def Pg.z : Pg := ⟨0,0,[],[]⟩
def decP (b : List Int) : Pg × Int :=
  if (progF (b,0)).2.2 ≠ 0 then (Pg.z,(progF (b,0)).2.2)
  else if 0 < (progF (b,0)).2.1.length then (Pg.z,12)
  else if pgB (progF (b,0)).1 = true then ((progF (b,0)).1,0) else (Pg.z,11)
def encP (p : Pg) : List Int := putF [] (progL p)

theorem dec_bd {b : List Int} (hb : Bytes b) (h : (progF (b,0)).2.2 = 0) : pgIn (progF (b,0)).1 ∧ b = encP (progF (b,0)).1 ++ (progF (b,0)).2.1 := by
  generalize hX : progF (b,0) = X at h ⊢
  obtain ⟨v,r,e⟩ := X
  have h0 : e = 0 := h
  subst h0
  exact Dec.prog b v r hb hX
theorem dec_in {b : List Int} (hb : Bytes b) : BdP (decP b).1 := by
  have z : BdP Pg.z := ⟨by decide,by decide,fun i hi => absurd hi (Nat.not_lt_zero _),fun i hi => absurd hi (Nat.not_lt_zero _),fun i hi => absurd hi (Nat.not_lt_zero _)⟩
  unfold decP
  split
  · exact z
  · rename_i h1
    split
    · exact z
    · split
      · exact BdP.inn (dec_bd hb (by simpa using h1)).1
      · exact z
end Go.Proofs.Ytglgmmoomlnghaa
