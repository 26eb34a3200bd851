/-
  PLAIN: parse trees, as they are made of parts; a list that is right is one, and one is right.
-/
import Derived.Test.YtfldmpmaifjcbaaKidsP
import Derived.Test.YtfldmpmaifjcbaaTree4
set_option linter.unusedSimpArgs false
set_option linter.unusedVariables false
namespace Go.Proofs.Ytfldmpmaifjcbaa
open Go Go.Hs

/-- false: the entries of node q, at depth d, from i to j; true: those of a row of nodes q, each a byte at least. -/
inductive PT (l : List Tm) (w : List Int) : Bool → Nat → Int → Int → Int → List En → Prop where
  | eps {q : Nat} {d i : Int} (hk : (tAt l q).k = 1) (hq : q < l.length) (h0 : 0 ≤ i ∧ i ≤ w.length) : PT l w false q d i i [⟨d,q,i,i⟩]
  | leaf {q : Nat} {d i : Int} (hk : (tAt l q).k = 2) (hq : q < l.length) (h0 : 0 ≤ i ∧ i + 1 ≤ w.length) (hb : hasB (stOf (tAt l q)) (w.getD i.toNat 0).toNat = true) : PT l w false q d i (i + 1) [⟨d,q,i,i + 1⟩]
  | cat {q a b : Nat} {d i m j : Int} {s1 s2 : List En} (hk : (tAt l q).k = 3) (hq : q < l.length) (ha : (tAt l q).a = a) (hb : (tAt l q).b = b) (h1 : PT l w false a (d + 1) i m s1) (h2 : PT l w false b (d + 1) m j s2) : PT l w false q d i j (⟨d,q,i,j⟩ :: (s1 ++ s2))
  | alt {q a : Nat} {d i j : Int} {s : List En} (hk : (tAt l q).k = 4) (hq : q < l.length) (ha : (tAt l q).a = a ∨ (tAt l q).b = a) (h1 : PT l w false a (d + 1) i j s) : PT l w false q d i j (⟨d,q,i,j⟩ :: s)
  | star {q a : Nat} {d i j : Int} {s : List En} (hk : (tAt l q).k = 5) (hq : q < l.length) (ha : (tAt l q).a = a) (h1 : PT l w true a (d + 1) i j s) : PT l w false q d i j (⟨d,q,i,j⟩ :: s)
  | may {q : Nat} {d i : Int} (hk : (tAt l q).k = 6) (hq : q < l.length) (h0 : 0 ≤ i ∧ i ≤ w.length) : PT l w false q d i i [⟨d,q,i,i⟩]
  | one {q a : Nat} {d i j : Int} {s : List En} (hk : (tAt l q).k = 6 ∧ i < j ∨ (tAt l q).k = 7 ∨ (tAt l q).k = 8) (hq : q < l.length) (ha : (tAt l q).a = a) (h1 : PT l w false a (d + 1) i j s) : PT l w false q d i j (⟨d,q,i,j⟩ :: s)
  | rnil {q : Nat} {d i : Int} (h0 : 0 ≤ i ∧ i ≤ w.length) : PT l w true q d i i []
  | rcons {q : Nat} {d i m j : Int} {s1 s2 : List En} (h1 : PT l w false q d i m s1) (hm : i < m) (h2 : PT l w true q d m j s2) : PT l w true q d i j (s1 ++ s2)

theorem PT.le {l : List Tm} {w : List Int} {r : Bool} {q : Nat} {d i j : Int} {s : List En} (h : PT l w r q d i j s) : 0 ≤ i ∧ i ≤ j ∧ j ≤ w.length := by
  induction h <;> omega
theorem PT.head {l : List Tm} {w : List Int} {q : Nat} {d i j : Int} {s : List En} (h : PT l w false q d i j s) : q < l.length ∧ ∃ s',s = ⟨d,q,i,j⟩ :: s' := by
  cases h <;> exact ⟨by assumption,_,rfl⟩

end Go.Proofs.Ytfldmpmaifjcbaa
