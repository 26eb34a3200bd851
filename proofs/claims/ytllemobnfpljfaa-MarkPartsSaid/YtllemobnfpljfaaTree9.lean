/-
  The document's frames of a parse tree.
-/
import Derived.Test.YtllemobnfpljfaaOfP
import Derived.Test.YtllemobnfpljfaaTree8c
set_option linter.unusedSimpArgs false
set_option linter.unusedVariables false
namespace Go.Proofs.Ytllemobnfpljfaa
open Go Go.Hs
theorem gopO_fs {P : Program} {n : Nat} {S : Env} {pu : Bool} {d : Nat} {c : Call} {pos : String} {after : Array Edge} {gd : Option (Nat × Bool)} {K : Env → Prop} (h : d < n ∧ K (S.set d (.opt false (.agg [.im (.int .i64 0), .im (.int .i64 0), .im (.int .i64 0), .im (.int .i64 0)])))) : gopO P n pu S { dst := some d, op := .call c, type := 130, pos := pos, after := after, guard := gd } false K :=
  .inr ⟨fun h => absurd h (by decide), fun _ => ⟨h.1, _, rfl, h.2⟩⟩
theorem roF_ex {R : List RO} {n : Nat} (h : R.length ≤ n) : ex (roF R) 0 n = roF R := by
  have hl : (roF R).length = R.length := by simp [roF]
  rw [ex_eq, List.drop_zero, List.take_of_length_le (by omega)]
theorem enJ {x : En} {st jk : List En} {k : Nat} (h : k = st.length) : k < (List.reverseAux st (x :: jk)).length ∧ enAt (List.reverseAux st (x :: jk)) k = x := by
  subst h
  rw [List.reverseAux_eq]
  refine ⟨by simp, ?_⟩
  unfold enAt
  rw [List.getD_eq_getElem?_getD, List.getElem?_append_right (by simp)]
  simp
theorem lenJ {st jk : List En} : (List.reverseAux st jk).length = st.length + jk.length := by
  rw [List.reverseAux_eq]; simp
theorem getJ0 {z : AC} {x : En} {st jk : List En} {k : Nat} (h : k = st.length) : getC z (enRows (List.reverseAux st (x :: jk))) k 0 = .im (.int .i64 x.d) := by rw [getE0 (enJ h).1, (enJ h).2]
theorem getJ1 {z : AC} {x : En} {st jk : List En} {k : Nat} (h : k = st.length) : getC z (enRows (List.reverseAux st (x :: jk))) k 1 = .im (.int .i64 x.n) := by rw [getE1 (enJ h).1, (enJ h).2]
theorem getJ2 {z : AC} {x : En} {st jk : List En} {k : Nat} (h : k = st.length) : getC z (enRows (List.reverseAux st (x :: jk))) k 2 = .im (.int .i64 x.f) := by rw [getE2 (enJ h).1, (enJ h).2]
theorem getJ3 {z : AC} {x : En} {st jk : List En} {k : Nat} (h : k = st.length) : getC z (enRows (List.reverseAux st (x :: jk))) k 3 = .im (.int .i64 x.t) := by rw [getE3 (enJ h).1, (enJ h).2]
theorem getJR {z : List AC} {x : En} {st jk : List En} {k : Nat} (h : k = st.length) : getR z (enRows (List.reverseAux st (x :: jk))) k 0 4 = [.im (.int .i64 x.d), .im (.int .i64 x.n), .im (.int .i64 x.f), .im (.int .i64 x.t)] := by rw [getER (enJ h).1, (enJ h).2]
theorem enTakeJ {st jk : List En} {k : Nat} (h : k = st.length) : (enRows (List.reverseAux st jk)).take k = enRows st.reverse := by
  subst h
  rw [List.reverseAux_eq, enRows, List.map_append, List.take_left' (by simp)]; rfl
theorem getE0z {l : List En} {i : Nat} : getC (.im (.int .i64 0)) (enRows l) i 0 = .im (.int .i64 (enAt l i).d) := by
  by_cases h : i < l.length
  · exact getE0 h
  · rw [getE1o (by omega), enAt_out (by omega)]; rfl
theorem toNp1 {k : Nat} : (((k + 1 : Nat) : Int) - 1).toNat = k := by omega
theorem bneT {a b : Int} (h : a ≠ b) : (a != b) = true := by simpa using h
theorem bneF {a b : Int} (h : a = b) : (a != b) = false := by simpa using h

attribute [local go_sem] AV.isS wrap_in En.cs enPush getJ0 getJ1 getJ2 getJ3 getJR enTakeJ lenJ getE0z toNp1 length_enRows getE0 getE1 getE2 getE3 getER dltT dltF dleT dleF eqT eqF beT beF bneT bneF length_kRows length_roR getRoN getRoS getRoD setRo setRo1 kRows_snoc getRoDead tk1 splice1 rep_roR List.length_reverse List.length_cons take_roR enTakeR frz_roR frz_roR' AV.frzIn length_rRows getRowT roF_ex

end Go.Proofs.Ytllemobnfpljfaa
