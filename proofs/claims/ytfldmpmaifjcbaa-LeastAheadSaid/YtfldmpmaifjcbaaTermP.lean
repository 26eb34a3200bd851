/-
  PLAIN: how a term's nodes lie: what a node is stands side by side; each node but the root is a part of just one.
-/
import Derived.Test.YtfldmpmaifjcbaaTerm4
set_option linter.unusedSimpArgs false
namespace Go.Proofs.Ytfldmpmaifjcbaa
open Go Go.Hs

def Node (l : List Tm) (o : List Int) (i : Nat) : Prop :=
  ((tAt l i).k = 1 ∨ (tAt l i).k = 2) ∧ (tAt l i).a = -1 ∧ (tAt l i).b = -1 ∧ o.getD i 0 = i ∨
  ((tAt l i).k = 3 ∨ (tAt l i).k = 4) ∧ (∃ c d : Nat,i = d + 1 ∧ (tAt l i).b = d ∧ (tAt l i).a = c ∧ (c : Int) + 1 = o.getD d 0 ∧ o.getD i 0 = o.getD c 0) ∨
  ((tAt l i).k = 5 ∨ (tAt l i).k = 6 ∨ (tAt l i).k = 7 ∨ (tAt l i).k = 8) ∧ (∃ d : Nat,i = d + 1 ∧ (tAt l i).b = -1 ∧ (tAt l i).a = d ∧ o.getD i 0 = o.getD d 0)

theorem getD_snoc_lt {o : List Int} {x d : Int} {j : Nat} (h : j < o.length) : (o ++ [x]).getD j d = o.getD j d := by
  simp only [List.getD_eq_getElem?_getD]
  rw [List.getElem?_append_left h]
theorem getD_snoc_eq {o : List Int} {x d : Int} {j : Nat} (h : j = o.length) : (o ++ [x]).getD j d = x := by
  subst h
  simp only [List.getD_eq_getElem?_getD]
  rw [List.getElem?_append_right (Nat.le_refl _)]
  simp

theorem node_lowF {l : List Tm} {o : List Int} {i : Nat} (hl : o.length = i) (ho : Low0 o) (h : ¬ lowF (tAt l i) o i < 0) : Node l (o ++ [lowF (tAt l i) o i]) i := by
  have e := getD_snoc_eq (o := o) (x := lowF (tAt l i) o i) (d := 0) hl.symm
  unfold Node
  rw [e]
  have g : ∀ j : Nat,j < i → (o ++ [lowF (tAt l i) o i]).getD j 0 = o.getD j 0 := fun j hj => getD_snoc_lt (by omega)
  generalize o ++ [lowF (tAt l i) o i] = o2 at *
  unfold lowF at h ⊢
  split at h
  · rename_i h1
    split at h
    · rename_i h2
      exact .inl ⟨h1,h2.1,h2.2,by rw [if_pos h1,if_pos h2]⟩
    · omega
  · rename_i h1
    split at h
    · rename_i h2
      split at h
      · rename_i h3
        refine .inr (.inl ⟨h2,(tAt l i).a.toNat,(tAt l i).b.toNat,by omega,by omega,by omega,?_,?_⟩)
        · rw [g _ (by omega)];omega
        · rw [if_neg h1,if_pos h2,if_pos h3,g _ ?_]
          have := ho (tAt l i).b.toNat
          omega
      · omega
    · rename_i h2
      split at h
      · rename_i h3
        split at h
        · rename_i h4
          refine .inr (.inr ⟨h3,(tAt l i).a.toNat,by omega,by omega,by omega,?_⟩)
          rw [if_neg h1,if_neg h2,if_pos h3,if_pos h4,g _ (by omega)]
        · omega
      · omega

theorem Node.snoc {l : List Tm} {o : List Int} {i : Nat} {x : Int} (hi : i < o.length) (ho : Low0 o) (h : Node l o i) : Node l (o ++ [x]) i := by
  rcases h with ⟨h1,h2,h3,h4⟩|⟨h1,c,d,h2,h3,h4,h5,h6⟩|⟨h1,d,h2,h3,h4,h5⟩
  · exact .inl ⟨h1,h2,h3,by rw [getD_snoc_lt hi];exact h4⟩
  · have := ho d
    exact .inr (.inl ⟨h1,c,d,h2,h3,h4,by rw [getD_snoc_lt (by omega)];exact h5,by rw [getD_snoc_lt hi,getD_snoc_lt (by omega)];exact h6⟩)
  · exact .inr (.inr ⟨h1,d,h2,h3,h4,by rw [getD_snoc_lt hi,getD_snoc_lt (by omega)];exact h5⟩)

theorem lowsG_nodes {l : List Tm} : ∀ {n : Nat} {o : List Int},lowsG l n = some o → ∀ i,i < n → Node l o i ∧ fieldsF (tAt l i) = true ∧ ∀ o',o'.length = i → o' = o.take i → againF (tAt l i) (ex l (lowF (tAt l i) o' i).toNat i) = false
  | 0,o,_,i,hi => by omega
  | n + 1,o,h,i,hi => by
    simp only [lowsG] at h
    split at h
    · cases h
    · rename_i o1 h1
      split at h
      · cases h
      · rename_i h2
        simp only [Option.some.injEq] at h
        subst h
        have hl := lowsG_length h1
        by_cases hin : i = n
        · subst hin
          refine ⟨node_lowF hl (lowsG_low0 h1) (by omega),?_,?_⟩
          · cases hf : fieldsF (tAt l i) with
            | true => rfl
            | false => exact absurd (.inr (.inl hf)) h2
          · intro o' _ h4
            rw [List.take_append_of_le_length (by omega),List.take_of_length_le (by omega)] at h4
            subst h4
            cases hf : againF (tAt l i) (ex l (lowF (tAt l i) o' i).toNat i) with
            | false => rfl
            | true => exact absurd (.inr (.inr hf)) h2
        · obtain ⟨g1,g2,g3⟩ := lowsG_nodes h1 i (by omega)
          refine ⟨g1.snoc (by omega) (lowsG_low0 h1),g2,?_⟩
          intro o' h3 h4
          rw [List.take_append_of_le_length (by omega)] at h4
          exact g3 o' h3 h4

/-- All that a term is. -/
structure Term (l : List Tm) (o : List Int) : Prop where
  pos : 0 < l.length
  le : l.length ≤ 400
  len : o.length = l.length
  low : Low0 o
  node : ∀ i,i < l.length → Node l o i
  fields : ∀ i,i < l.length → fieldsF (tAt l i) = true
  root : o.getD (l.length - 1) 0 = 0
  leaves : leavesF l l.length ≤ 64

theorem term_of_right {l : List Tm} (h : rightF l = true) : Term l (lowsF l) := by
  unfold rightF at h
  have h' : lowsF l ≠ [] := by intro e;rw [e] at h;cases h
  unfold lowsF at h' ⊢
  split at h'
  · exact absurd rfl h'
  · rename_i h1
    rw [if_neg h1]
    split at h'
    · exact absurd rfl h'
    · rename_i o ho
      split at h'
      · exact absurd rfl h'
      · rename_i h2
        rw [if_neg h2]
        have hn := lowsG_nodes ho
        exact ⟨by omega,by omega,lowsG_length ho,lowsG_low0 ho,fun i hi => (hn i hi).1,fun i hi => (hn i hi).2.1,by omega,by omega⟩

section
variable {l : List Tm} {o : List Int}

def IsPar (l : List Tm) (j p : Nat) : Prop := (tAt l p).a = j ∨ (tAt l p).b = j

theorem IsPar.lt (ho : Low0 o) {j p : Nat} (hn : Node l o p) (h : IsPar l j p) : j < p := by
  unfold IsPar at h
  rcases hn with ⟨h1,h2,h3,h4⟩|⟨h1,c,d,h2,h3,h4,h5,h6⟩|⟨h1,d,h2,h3,h4,h5⟩
  · omega
  · have := ho d;omega
  · omega

end

/-! Up: two lists that began unlike. -/
theorem Term.none {l : List Tm} {o : List Int} (h : Term l o) {j p : Nat} (hj : l.length - 1 ≤ j) (hp : p < l.length) : ¬ IsPar l j p := fun hq => by
  have := hq.lt h.low (h.node p hp);omega

theorem lowsF_len {l : List Tm} : (lowsF l).length = if rightF l then l.length else 0 := by
  cases hr : rightF l with
  | true => rw [if_pos rfl];exact (term_of_right hr).len
  | false =>
    have : lowsF l = [] := by
      unfold rightF at hr
      cases h : lowsF l with
      | nil => rfl
      | cons x r => rw [h] at hr;cases hr
    rw [this];rfl
theorem lowsF_le {l : List Tm} : (lowsF l).length ≤ 400 := by
  rw [lowsF_len]
  split
  · exact (term_of_right (by assumption)).le
  · omega
theorem lowsF_le2 {l : List Tm} : (lowsF l).length ≤ l.length := by
  rw [lowsF_len];split <;> omega

theorem lowsF_low0 {l : List Tm} : Low0 (lowsF l) := by
  cases hr : rightF l with
  | true => exact (term_of_right hr).low
  | false =>
    have h := lowsF_len (l := l)
    rw [hr] at h
    have : lowsF l = [] := List.eq_nil_of_length_eq_zero h
    rw [this];intro j;simp

end Go.Proofs.Ytfldmpmaifjcbaa
