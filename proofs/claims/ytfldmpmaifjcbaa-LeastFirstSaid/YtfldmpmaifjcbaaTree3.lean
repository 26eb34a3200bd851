/-
  Parts of a proof, side by side.
-/
import Derived.Test.YtfldmpmaifjcbaaEntP
import Derived.Test.YtfldmpmaifjcbaaTermP
import Derived.Test.YtfldmpmaifjcbaaHs17
import Derived.Test.YtfldmpmaifjcbaaNext
/-
  tree.Ahead; the document's.
-/
set_option linter.unusedSimpArgs false
set_option linter.unusedVariables false
namespace Go.Proofs.Ytfldmpmaifjcbaa
open Go Go.Hs
attribute [local go_sem] En.cs length_enRows getE0 getE1 getE2 getE3 getER binEntT

end Go.Proofs.Ytfldmpmaifjcbaa

/-
  tree.checker: next, kid, whole, row.
-/
set_option linter.unusedSimpArgs false
set_option linter.unusedVariables false
namespace Go.Proofs.Ytfldmpmaifjcbaa
open Go Go.Hs
theorem Gb {P : Program} {n : Nat} {S : Env} {pu : Bool} {d : Nat} {c : Call} {pos : String} {after : Array Edge} {gd : Option (Nat × Bool)} {K : Env → Prop} (h : d < n ∧ K (S.set d (.opt false (.c (.im (.bool false)))))) : gopO P n pu S { dst := some d,op := .call c,type := 4,pos := pos,after := after,guard := gd } false K :=
  .inr ⟨fun h => absurd h (by decide),fun _ => ⟨h.1,_,rfl,h.2⟩⟩
theorem dltT {a b : Int} (h : a < b) : decide (a < b) = true := decide_eq_true h
theorem dltF {a b : Int} (h : ¬ a < b) : decide (a < b) = false := decide_eq_false h
theorem eqT {a b : Int} (h : a = b) : decide (a = b) = true := decide_eq_true h
theorem eqF {a b : Int} (h : a ≠ b) : decide (a = b) = false := decide_eq_false h
theorem beT {a b : Int} (h : a = b) : (a == b) = true := by simpa using h
theorem beF {a b : Int} (h : a ≠ b) : (a == b) = false := by simpa using h

def ck (l : List Tm) (w : List Int) (t : List En) (i : Nat) : List AC := [.sl 8 (tRows l),.sl 1 (kRows .u8 w),.sl 4 (enRows t),.im (.int .i64 i)]
def nxOk (w : List Int) (x : En) (dp nd fr : Int) : Bool := x.d == dp && x.n == nd && x.f == fr && decide (fr ≤ x.t) && decide (x.t ≤ w.length)
def nxF (w : List Int) (t : List En) (i : Nat) (dp nd fr : Int) : En × Bool × Nat := if i < t.length then (enAt t i,nxOk w (enAt t i) dp nd fr,i + 1) else (En.z,false,i)
attribute [local go_sem] En.cs length_enRows getE0 getE1 getE2 getE3 getER Tm.cs binSet length_tRows tRows_ex tRows_frz getK getA getB getN getTm getSet dltT dltF eqT eqF beT beF

/-- An entry that may be gone through. -/
def EOk (l : List Tm) (w : List Int) (e : En) : Prop := (0 ≤ e.d ∧ e.d + e.n ≤ l.length) ∧ 0 ≤ e.n ∧ e.n < l.length ∧ 0 ≤ e.f ∧ e.f ≤ e.t ∧ e.t ≤ w.length
def kidF (nf : En → Nat → Bool × Nat) (w : List Int) (t : List En) (e : En) (nd fr : Int) (i : Nat) : Int × Bool × Nat :=
  if (nxF w t i (e.d + 1) nd fr).2.1 = true ∧ (nxF w t i (e.d + 1) nd fr).1.t ≤ e.t then
    (if (nf (nxF w t i (e.d + 1) nd fr).1 (nxF w t i (e.d + 1) nd fr).2.2).1 = true then ((nxF w t i (e.d + 1) nd fr).1.t,true,(nf (nxF w t i (e.d + 1) nd fr).1 (nxF w t i (e.d + 1) nd fr).2.2).2) else (0,false,(nf (nxF w t i (e.d + 1) nd fr).1 (nxF w t i (e.d + 1) nd fr).2.2).2))
  else (0,false,(nxF w t i (e.d + 1) nd fr).2.2)
def wholeF (nf : En → Nat → Bool × Nat) (w : List Int) (t : List En) (e : En) (nd : Int) (i : Nat) : Bool × Nat :=
  ((kidF nf w t e nd e.f i).2.1 && ((kidF nf w t e nd e.f i).1 == e.t),(kidF nf w t e nd e.f i).2.2)
def rowF (nf : En → Nat → Bool × Nat) (w : List Int) (t : List En) (e : En) (nd : Int) : Nat → Int → Nat → Bool × Nat
  | 0,_,i => (true,i)
  | m + 1,at',i => if at' < e.t then
      (if (kidF nf w t e nd at' i).2.1 = true ∧ (kidF nf w t e nd at' i).1 ≠ at' then rowF nf w t e nd m (kidF nf w t e nd at' i).1 (kidF nf w t e nd at' i).2.2 else (false,(kidF nf w t e nd at' i).2.2))
    else (true,i)

/-- What is known of a node's parts: that they are gone through as nf says. -/
structure NC (l : List Tm) (w : List Int) (t : List En) (n : Int) (nf : En → Nat → Bool × Nat) : Prop where
  c : ∀ (e : En) (i k : Nat),EOk l w e → e.n < n → i ≤ t.length → ContractH Try.prog 63 [.c (.ptr 5000 [] k 4 0 0),.agg e.cs] [(5000,.box k 100 (ck l w t i))]
      (fun r H => r = .c (.im (.bool (nf e i).1)) ∧ H = [(5000,.box k 100 (ck l w t (nf e i).2))])
  le : ∀ (e : En) (i : Nat),i ≤ t.length → (nf e i).2 ≤ t.length
end Go.Proofs.Ytfldmpmaifjcbaa

/-
  tree.checker.node, tree.Right.
-/
set_option linter.unusedSimpArgs false
set_option linter.unusedVariables false
namespace Go.Proofs.Ytfldmpmaifjcbaa
open Go Go.Hs
theorem getE1o {z : AC} {l : List En} {i j : Nat} (h : l.length ≤ i) : getC z (enRows l) i j = z := by
  unfold getC
  simp [enRows,List.getD_eq_getElem?_getD,h]
theorem kidsA {l : List Tm} {lo : List Int} (ht : Term l lo) {i : Nat} (hi : i < l.length) :
    ((tAt l i).k = 3 ∨ (tAt l i).k = 4 → (0 ≤ (tAt l i).a ∧ (tAt l i).a < i) ∧ 0 ≤ (tAt l i).b ∧ (tAt l i).b < i) ∧ ((tAt l i).k ≠ 1 → (tAt l i).k ≠ 2 → (tAt l i).k ≠ 3 → (tAt l i).k ≠ 4 → 0 ≤ (tAt l i).a ∧ (tAt l i).a < i) := by
  rcases ht.node i hi with ⟨g1,g2,g3,g4⟩|⟨g1,c,d,g2,g3,g4,g5,g6⟩|⟨g1,d,g2,g3,g4,g5⟩
  · exact ⟨fun h => by omega,fun h1 h2 _ _ => by omega⟩
  · have ld := ht.low d
    exact ⟨fun _ => by rw [g3,g4];omega,fun _ _ h3 h4 => by omega⟩
  · exact ⟨fun h => by omega,fun _ _ _ _ => by omega⟩
def stOf (t : Tm) : St := ⟨t.s0,t.s1,t.s2,t.s3⟩
def nodeF (l : List Tm) (w : List Int) (t : List En) : Nat → En → Nat → Bool × Nat
  | 0,_,i => (false,i)
  | m + 1,e,i =>
    if (tAt l e.n.toNat).k = 1 then (e.f == e.t,i)
    else if (tAt l e.n.toNat).k = 2 then (e.t - e.f == 1 && hasB (stOf (tAt l e.n.toNat)) (w.getD e.f.toNat 0).toNat,i)
    else if (tAt l e.n.toNat).k = 3 then
      (if (kidF (nodeF l w t m) w t e (tAt l e.n.toNat).a e.f i).2.1 = true then
        ((kidF (nodeF l w t m) w t e (tAt l e.n.toNat).b (kidF (nodeF l w t m) w t e (tAt l e.n.toNat).a e.f i).1 (kidF (nodeF l w t m) w t e (tAt l e.n.toNat).a e.f i).2.2).2.1 && (kidF (nodeF l w t m) w t e (tAt l e.n.toNat).b (kidF (nodeF l w t m) w t e (tAt l e.n.toNat).a e.f i).1 (kidF (nodeF l w t m) w t e (tAt l e.n.toNat).a e.f i).2.2).1 == e.t,
          (kidF (nodeF l w t m) w t e (tAt l e.n.toNat).b (kidF (nodeF l w t m) w t e (tAt l e.n.toNat).a e.f i).1 (kidF (nodeF l w t m) w t e (tAt l e.n.toNat).a e.f i).2.2).2.2)
      else (false,(kidF (nodeF l w t m) w t e (tAt l e.n.toNat).a e.f i).2.2))
    else if (tAt l e.n.toNat).k = 4 then
      (if i < t.length ∧ (enAt t i).n = (tAt l e.n.toNat).b then wholeF (nodeF l w t m) w t e (tAt l e.n.toNat).b i else wholeF (nodeF l w t m) w t e (tAt l e.n.toNat).a i)
    else if (tAt l e.n.toNat).k = 5 then rowF (nodeF l w t m) w t e (tAt l e.n.toNat).a (e.t - e.f).toNat e.f i
    else if (tAt l e.n.toNat).k = 6 ∧ e.f = e.t then (true,i)
    else wholeF (nodeF l w t m) w t e (tAt l e.n.toNat).a i

attribute [local go_sem] En.cs length_enRows getE0 getE1 getE2 getE3 getER Tm.cs binSet length_tRows tRows_ex tRows_frz getK getA getB getN getTm getSet dltT dltF eqT eqF beT beF getE1o

end Go.Proofs.Ytfldmpmaifjcbaa
