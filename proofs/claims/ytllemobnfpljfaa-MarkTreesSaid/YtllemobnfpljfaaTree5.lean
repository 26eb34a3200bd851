/-
  Parts of a proof, side by side.
-/
import Derived.Test.YtllemobnfpljfaaTree2
/-
  tree.checker.node, tree.Right.
-/
set_option linter.unusedSimpArgs false
set_option linter.unusedVariables false
namespace Go.Proofs.Ytllemobnfpljfaa
open Go Go.Hs


theorem getE1o {z : AC} {l : List En} {i j : Nat} (h : l.length ≤ i) : getC z (enRows l) i j = z := by
  unfold getC
  simp [enRows, List.getD_eq_getElem?_getD, h]
theorem kidsA {l : List Tm} {lo : List Int} (ht : Term l lo) {i : Nat} (hi : i < l.length) :
    ((tAt l i).k = 3 ∨ (tAt l i).k = 4 → (0 ≤ (tAt l i).a ∧ (tAt l i).a < i) ∧ 0 ≤ (tAt l i).b ∧ (tAt l i).b < i) ∧ ((tAt l i).k ≠ 1 → (tAt l i).k ≠ 2 → (tAt l i).k ≠ 3 → (tAt l i).k ≠ 4 → 0 ≤ (tAt l i).a ∧ (tAt l i).a < i) := by
  rcases ht.node i hi with ⟨g1, g2, g3, g4⟩ | ⟨g1, c, d, g2, g3, g4, g5, g6⟩ | ⟨g1, d, g2, g3, g4, g5⟩
  · exact ⟨fun h => by omega, fun h1 h2 _ _ => by omega⟩
  · have ld := ht.low d
    exact ⟨fun _ => by rw [g3, g4]; omega, fun _ _ h3 h4 => by omega⟩
  · exact ⟨fun h => by omega, fun _ _ _ _ => by omega⟩
def stOf (t : Tm) : St := ⟨t.s0, t.s1, t.s2, t.s3⟩
def nodeF (l : List Tm) (w : List Int) (t : List En) : Nat → En → Nat → Bool × Nat
  | 0, _, i => (false, i)
  | m + 1, e, i =>
    if (tAt l e.n.toNat).k = 1 then (e.f == e.t, i)
    else if (tAt l e.n.toNat).k = 2 then (e.t - e.f == 1 && hasB (stOf (tAt l e.n.toNat)) (w.getD e.f.toNat 0).toNat, i)
    else if (tAt l e.n.toNat).k = 3 then
      (if (kidF (nodeF l w t m) w t e (tAt l e.n.toNat).a e.f i).2.1 = true then
        ((kidF (nodeF l w t m) w t e (tAt l e.n.toNat).b (kidF (nodeF l w t m) w t e (tAt l e.n.toNat).a e.f i).1 (kidF (nodeF l w t m) w t e (tAt l e.n.toNat).a e.f i).2.2).2.1 && (kidF (nodeF l w t m) w t e (tAt l e.n.toNat).b (kidF (nodeF l w t m) w t e (tAt l e.n.toNat).a e.f i).1 (kidF (nodeF l w t m) w t e (tAt l e.n.toNat).a e.f i).2.2).1 == e.t,
          (kidF (nodeF l w t m) w t e (tAt l e.n.toNat).b (kidF (nodeF l w t m) w t e (tAt l e.n.toNat).a e.f i).1 (kidF (nodeF l w t m) w t e (tAt l e.n.toNat).a e.f i).2.2).2.2)
      else (false, (kidF (nodeF l w t m) w t e (tAt l e.n.toNat).a e.f i).2.2))
    else if (tAt l e.n.toNat).k = 4 then
      (if i < t.length ∧ (enAt t i).n = (tAt l e.n.toNat).b then wholeF (nodeF l w t m) w t e (tAt l e.n.toNat).b i else wholeF (nodeF l w t m) w t e (tAt l e.n.toNat).a i)
    else if (tAt l e.n.toNat).k = 5 then rowF (nodeF l w t m) w t e (tAt l e.n.toNat).a (e.t - e.f).toNat e.f i
    else if (tAt l e.n.toNat).k = 6 ∧ e.f = e.t then (true, i)
    else wholeF (nodeF l w t m) w t e (tAt l e.n.toNat).a i

theorem nodeF3 {l : List Tm} {w : List Int} {t : List En} {m i : Nat} {e : En} (k : (tAt l e.n.toNat).k = 3) : nodeF l w t (m + 1) e i = (if (kidF (nodeF l w t m) w t e (tAt l e.n.toNat).a e.f i).2.1 = true then
        ((kidF (nodeF l w t m) w t e (tAt l e.n.toNat).b (kidF (nodeF l w t m) w t e (tAt l e.n.toNat).a e.f i).1 (kidF (nodeF l w t m) w t e (tAt l e.n.toNat).a e.f i).2.2).2.1 && (kidF (nodeF l w t m) w t e (tAt l e.n.toNat).b (kidF (nodeF l w t m) w t e (tAt l e.n.toNat).a e.f i).1 (kidF (nodeF l w t m) w t e (tAt l e.n.toNat).a e.f i).2.2).1 == e.t,
          (kidF (nodeF l w t m) w t e (tAt l e.n.toNat).b (kidF (nodeF l w t m) w t e (tAt l e.n.toNat).a e.f i).1 (kidF (nodeF l w t m) w t e (tAt l e.n.toNat).a e.f i).2.2).2.2)
      else (false, (kidF (nodeF l w t m) w t e (tAt l e.n.toNat).a e.f i).2.2)) := by
  rw [nodeF, if_neg (by omega), if_neg (by omega), if_pos k]
theorem row_le {l : List Tm} {w : List Int} {t : List En} {n : Int} {nf : En → Nat → Bool × Nat} (N : ∀ (e : En) (i : Nat), i ≤ t.length → (nf e i).2 ≤ t.length) {e : En} {nd : Int} : ∀ (m : Nat) (a : Int) (i : Nat), i ≤ t.length → (rowF nf w t e nd m a i).2 ≤ t.length
  | 0, _, _, h => h
  | m + 1, a, i, h => by
    have hk : (kidF nf w t e nd a i).2.2 ≤ t.length := by
      unfold kidF
      split
      · split
        · exact N _ _ (nx_le h)
        · exact N _ _ (nx_le h)
      · exact nx_le h
    unfold rowF
    split
    · split
      · exact row_le (l := l) (n := n) N m _ _ hk
      · exact hk
    · exact h
theorem node_le {l : List Tm} {w : List Int} {t : List En} : ∀ (m : Nat) (e : En) (i : Nat), i ≤ t.length → (nodeF l w t m e i).2 ≤ t.length
  | 0, _, _, h => h
  | m + 1, e, i, h => by
    have N := node_le (l := l) (w := w) (t := t) m
    have hk : ∀ nd a i, i ≤ t.length → (kidF (nodeF l w t m) w t e nd a i).2.2 ≤ t.length := by
      intro nd a i h
      unfold kidF
      split
      · split
        · exact N _ _ (nx_le h)
        · exact N _ _ (nx_le h)
      · exact nx_le h
    have hw : ∀ nd i, i ≤ t.length → (wholeF (nodeF l w t m) w t e nd i).2 ≤ t.length := fun nd i h => hk _ _ _ h
    unfold nodeF
    split
    · exact h
    · split
      · exact h
      · split
        · split
          · exact hk _ _ _ (hk _ _ _ h)
          · exact hk _ _ _ h
        · split
          · split
            · exact hw _ _ h
            · exact hw _ _ h
          · split
            · exact row_le (l := l) (n := 0) N _ _ _ h
            · split
              · exact h
              · exact hw _ _ h

end Go.Proofs.Ytllemobnfpljfaa

/-
  tree.Right; (*tree.grower).step.
-/
set_option linter.unusedSimpArgs false
set_option linter.unusedVariables false
namespace Go.Proofs.Ytllemobnfpljfaa
open Go Go.Hs


def tRight (l : List Tm) (w : List Int) (t : List En) : Bool := rightF l && ((nxF w t 0 1 ((l.length : Int) - 1) 0).2.1 && ((nxF w t 0 1 ((l.length : Int) - 1) 0).1.t == (w.length : Int)) && (nodeF l w t l.length (nxF w t 0 1 ((l.length : Int) - 1) 0).1 (nxF w t 0 1 ((l.length : Int) - 1) 0).2.2).1 && (((nodeF l w t l.length (nxF w t 0 1 ((l.length : Int) - 1) 0).1 (nxF w t 0 1 ((l.length : Int) - 1) 0).2.2).2 : Int) == (t.length : Int)))

def stepF (s fr : Int) (out : List En) (op : List Nat) : Bool × List En × List Nat :=
  if s < 0 ∨ (op = [] ∧ out ≠ []) then (false, out, op)
  else if s % 2 = 0 then (true, out ++ [⟨((op.length + 1 : Nat) : Int), s / 2, fr, 0⟩], out.length :: op)
  else match op with
    | [] => (false, out, [])
    | j :: op => ((enAt out j).n == s / 2, out.set j ⟨(enAt out j).d, (enAt out j).n, (enAt out j).f, fr⟩, op)

theorem step_le {s fr : Int} {out : List En} {op : List Nat} (h : ∀ j ∈ op, j < out.length) : ∀ j ∈ (stepF s fr out op).2.2, j < (stepF s fr out op).2.1.length := by
  unfold stepF
  split
  · exact h
  · split
    · intro j hj
      simp only [List.length_append, List.length_cons, List.length_nil] at hj ⊢
      cases hj with
      | head => omega
      | tail _ hj => have := h j hj; omega
    · cases op with
      | nil => intro j hj; cases hj
      | cons x op => intro j hj; simp only [List.length_set]; exact h j (List.mem_cons_of_mem _ hj)

end Go.Proofs.Ytllemobnfpljfaa

/-
  tree.Of.
-/
set_option linter.unusedSimpArgs false
set_option linter.unusedVariables false
namespace Go.Proofs.Ytllemobnfpljfaa
open Go Go.Hs


def rRows (m : List (List Int)) : List (List AC) := m.map fun r => [.sl 1 (kRows .i64 r)]
def rAt (m : List (List Int)) (i : Nat) : List Int := m.getD i []
theorem length_rRows {m : List (List Int)} : (rRows m).length = m.length := by simp [rRows]
theorem getRowT {z : AC} {m : List (List Int)} {i : Nat} (h : i < m.length) : getC z (rRows m) i 0 = .sl 1 (kRows .i64 (rAt m i)) := by
  unfold getC rAt
  simp [rRows, List.getD_eq_getElem?_getD, h]
def in64 (x : Int) : Prop := -9223372036854775808 ≤ x ∧ x ≤ 9223372036854775807

/-- What holds of the entries and of what is open, with k steps to come. -/
structure OI (out : List En) (op : List Nat) (k : Nat) : Prop where
  o1 : out.length + k ≤ 10000
  o2 : op.length ≤ out.length
  o3 : ∀ j ∈ op, j < out.length
theorem step_len {s fr : Int} {out : List En} {op : List Nat} : (stepF s fr out op).2.1.length ≤ out.length + 1 ∧ (op.length ≤ out.length → (stepF s fr out op).2.2.length ≤ (stepF s fr out op).2.1.length) := by
  unfold stepF
  split
  · exact ⟨by simp, fun h => h⟩
  · split
    · simp
    · cases op with
      | nil => simp
      | cons j op => simp; omega
theorem OI.step {out : List En} {op : List Nat} {k : Nat} (h : OI out op (k + 1)) (s fr : Int) : OI (stepF s fr out op).2.1 (stepF s fr out op).2.2 k := by
  have a := step_len (s := s) (fr := fr) (out := out) (op := op)
  have b := h.o1
  exact ⟨by omega, a.2 h.o2, step_le h.o3⟩
theorem rAt_mem {fr : List (List Int)} {i : Nat} (h : i < fr.length) : rAt fr i ∈ fr := by
  unfold rAt; rw [List.getD_eq_getElem?_getD, List.getElem?_eq_getElem h]; exact List.getElem_mem _
theorem iAt_mem {f : List Int} {i : Nat} (h : i < f.length) : f.getD i 0 ∈ f := by
  rw [List.getD_eq_getElem?_getD, List.getElem?_eq_getElem h]; exact List.getElem_mem _

end Go.Proofs.Ytllemobnfpljfaa
