/-
  Parts of a proof, side by side.
-/
import Derived.Test.YtfldmpmaifjcbaaOfP
import Derived.Test.YtfldmpmaifjcbaaTree8c
import Derived.Test.YtfldmpmaifjcbaaTermP
import Derived.Test.YtfldmpmaifjcbaaHty
import Derived.Test.YtfldmpmaifjcbaaHs17
import Derived.Test.YtfldmpmaifjcbaaSpE
/-
  The document's frames of a parse tree.
-/
set_option linter.unusedSimpArgs false
set_option linter.unusedVariables false
namespace Go.Proofs.Ytfldmpmaifjcbaa
open Go Go.Hs
theorem Gs {P : Program} {n : Nat} {S : Env} {pu : Bool} {d : Nat} {c : Call} {pos : String} {after : Array Edge} {gd : Option (Nat × Bool)} {K : Env → Prop} (h : d < n ∧ K (S.set d (.opt false (.agg [.im (.int .i64 0),.im (.int .i64 0),.im (.int .i64 0),.im (.int .i64 0)])))) : gopO P n pu S { dst := some d,op := .call c,type := 56,pos := pos,after := after,guard := gd } false K :=
  .inr ⟨fun h => absurd h (by decide),fun _ => ⟨h.1,_,rfl,h.2⟩⟩
theorem roF_ex {R : List RO} {n : Nat} (h : R.length ≤ n) : ex (roF R) 0 n = roF R := by
  have hl : (roF R).length = R.length := by simp [roF]
  rw [ex_eq,List.drop_zero,List.take_of_length_le (by omega)]
theorem enJ {x : En} {st jk : List En} {k : Nat} (h : k = st.length) : k < (List.reverseAux st (x :: jk)).length ∧ enAt (List.reverseAux st (x :: jk)) k = x := by
  subst h
  rw [List.reverseAux_eq]
  refine ⟨by simp,?_⟩
  unfold enAt
  rw [List.getD_eq_getElem?_getD,List.getElem?_append_right (by simp)]
  simp
theorem lenJ {st jk : List En} : (List.reverseAux st jk).length = st.length + jk.length := by
  rw [List.reverseAux_eq];simp
theorem getJ0 {z : AC} {x : En} {st jk : List En} {k : Nat} (h : k = st.length) : getC z (enRows (List.reverseAux st (x :: jk))) k 0 = .im (.int .i64 x.d) := by rw [getE0 (enJ h).1,(enJ h).2]
theorem getJ1 {z : AC} {x : En} {st jk : List En} {k : Nat} (h : k = st.length) : getC z (enRows (List.reverseAux st (x :: jk))) k 1 = .im (.int .i64 x.n) := by rw [getE1 (enJ h).1,(enJ h).2]
theorem getJ2 {z : AC} {x : En} {st jk : List En} {k : Nat} (h : k = st.length) : getC z (enRows (List.reverseAux st (x :: jk))) k 2 = .im (.int .i64 x.f) := by rw [getE2 (enJ h).1,(enJ h).2]
theorem getJ3 {z : AC} {x : En} {st jk : List En} {k : Nat} (h : k = st.length) : getC z (enRows (List.reverseAux st (x :: jk))) k 3 = .im (.int .i64 x.t) := by rw [getE3 (enJ h).1,(enJ h).2]
theorem getJR {z : List AC} {x : En} {st jk : List En} {k : Nat} (h : k = st.length) : getR z (enRows (List.reverseAux st (x :: jk))) k 0 4 = [.im (.int .i64 x.d),.im (.int .i64 x.n),.im (.int .i64 x.f),.im (.int .i64 x.t)] := by rw [getER (enJ h).1,(enJ h).2]
theorem enTakeJ {st jk : List En} {k : Nat} (h : k = st.length) : (enRows (List.reverseAux st jk)).take k = enRows st.reverse := by
  subst h
  rw [List.reverseAux_eq,enRows,List.map_append,List.take_left' (by simp)];rfl
theorem getE0z {l : List En} {i : Nat} : getC (.im (.int .i64 0)) (enRows l) i 0 = .im (.int .i64 (enAt l i).d) := by
  by_cases h : i < l.length
  · exact getE0 h
  · rw [getE1o (by omega),enAt_out (by omega)];rfl
theorem toNp1 {k : Nat} : (((k + 1 : Nat) : Int) - 1).toNat = k := by omega
theorem bneT {a b : Int} (h : a ≠ b) : (a != b) = true := by simpa using h
theorem bneF {a b : Int} (h : a = b) : (a != b) = false := by simpa using h

attribute [local go_sem] AV.isS wrap_in En.cs enPush getJ0 getJ1 getJ2 getJ3 getJR enTakeJ lenJ getE0z toNp1 length_enRows getE0 getE1 getE2 getE3 getER dltT dltF dleT dleF eqT eqF beT beF bneT bneF length_kRows length_roR getRoN getRoS getRoD setRo setRo1 kRows_snoc getRoDead tk1 splice1 rep_roR List.length_reverse List.length_cons take_roR enTakeR frz_roR frz_roR' AV.frzIn length_rRows getRowT roF_ex

end Go.Proofs.Ytfldmpmaifjcbaa

/-
  The document's list of frames.
-/
set_option linter.unusedSimpArgs false
set_option linter.unusedVariables false
namespace Go.Proofs.Ytfldmpmaifjcbaa
open Go Go.Hs
/-- What is open, the last one last, and what stands behind it in the row. -/
def opJ (op : List Nat) (jk : List Int) : List Int := List.reverseAux (op.map fun n : Nat => (n : Int)) jk
theorem opJ_eq {op : List Nat} {jk : List Int} : opJ op jk = opI op ++ jk := by
  rw [opJ,List.reverseAux_eq,opI,List.map_reverse]
theorem lenOpJ {op : List Nat} {jk : List Int} : (opJ op jk).length = op.length + jk.length := by rw [opJ_eq,List.length_append,length_opI]
theorem getOpJ {op : List Nat} {jk : List Int} {j : Nat} {k : Nat} (h : k = op.length) : (opJ op ((j : Int) :: jk)).getD k 0 = j := by
  subst h
  rw [opJ_eq,List.getD_eq_getElem?_getD,List.getElem?_append_right (by rw [length_opI];omega),length_opI,Nat.sub_self]
  rfl
theorem opJ_push {op : List Nat} {jk : List Int} {k v : Nat} (h : k = op.length) : (opJ op jk).take k ++ [(v : Int)] = opJ (v :: op) [] := by
  subst h
  rw [opJ_eq,List.take_left' length_opI,opJ_eq,opI_cons,List.append_nil]
theorem natSub1 {k : Nat} : (((k + 1 : Nat) : Int) - 1) = (k : Int) := by omega
theorem getKz {l : List Int} {i : Nat} : getC (.im (.int .i64 0)) (kRows .i64 l) i 0 = .im (.int .i64 (l.getD i 0)) := by
  unfold getC
  by_cases h : i < l.length
  · simp [kRows,List.getD_eq_getElem?_getD,h]
  · rw [List.getElem?_eq_none (by rw [length_kRows];omega),List.getD_eq_getElem?_getD,List.getElem?_eq_none (by omega)];rfl
theorem getE1z {l : List En} {i : Nat} : getC (.im (.int .i64 0)) (enRows l) i 1 = .im (.int .i64 (enAt l i).n) := by
  by_cases h : i < l.length
  · exact getE1 h
  · rw [getE1o (by omega),enAt_out (by omega)];rfl

attribute [local go_sem] AV.isS wrap_in En.cs length_enRows getE0 getE1 getE2 getE3 getER dltT dltF eqT eqF beT beF bneT bneF length_kRows length_rRows getRowT lenOpJ getOpJ opJ_push enSnoc enSet3 Int.tdiv_eq_ediv_of_nonneg Int.tmod_eq_emod_of_nonneg takeFull getE1set enTake natSub1 Int.toNat_natCast getKz getE1z

end Go.Proofs.Ytfldmpmaifjcbaa

/-
  What a law's arguments read as.
-/
set_option linter.unusedSimpArgs false
set_option maxRecDepth 10000
namespace Go.Proofs.Ytfldmpmaifjcbaa
open Go Go.Hs

def Tm.wf (t : Tm) : Prop := (-9223372036854775808 ≤ t.k ∧ t.k ≤ 9223372036854775807) ∧ (-9223372036854775808 ≤ t.a ∧ t.a ≤ 9223372036854775807) ∧ (-9223372036854775808 ≤ t.b ∧ t.b ≤ 9223372036854775807) ∧ (-9223372036854775808 ≤ t.n ∧ t.n ≤ 9223372036854775807) ∧
  (0 ≤ t.s0 ∧ t.s0 ≤ 18446744073709551615) ∧ (0 ≤ t.s1 ∧ t.s1 ≤ 18446744073709551615) ∧ (0 ≤ t.s2 ∧ t.s2 ≤ 18446744073709551615) ∧ (0 ≤ t.s3 ∧ t.s3 ≤ 18446744073709551615)

theorem lvTerm : lvs Try.prog 38 = some [3,3,3,3,34,34,34,34] := by kernel_rfl
theorem supTerms : supC Try.prog 3 22 = true := by kernel_rfl
theorem ok_terms {n : Nat} {c : AC} (h : okC Try.prog (n + 2) 22 c) : ∃ l : List Tm,c = .sl 8 (tRows l) ∧ l.length ≤ maxLen ∧ ∀ t,t ∈ l → t.wf := by
  obtain ⟨es,rfl,h2,h3⟩ := ok_slice Try.underlying22 lvTerm h
  obtain ⟨l,rfl,hl⟩ := rows_of (enc := Tm.cs) (W := Tm.wf) (fun r hr => by
    obtain ⟨c0,r0,rfl,o0,g0⟩ := okR_cons (h3 r hr)
    obtain ⟨c1,r1,rfl,o1,g1⟩ := okR_cons g0
    obtain ⟨c2,r2,rfl,o2,g2⟩ := okR_cons g1
    obtain ⟨c3,r3,rfl,o3,g3⟩ := okR_cons g2
    obtain ⟨c4,r4,rfl,o4,g4⟩ := okR_cons g3
    obtain ⟨c5,r5,rfl,o5,g5⟩ := okR_cons g4
    obtain ⟨c6,r6,rfl,o6,g6⟩ := okR_cons g5
    obtain ⟨c7,r7,rfl,o7,g7⟩ := okR_cons g6
    obtain rfl := okR_nil g7
    obtain ⟨m0,w0,rfl⟩ := ok_int Try.underlying3 o0
    obtain ⟨m1,w1,rfl⟩ := ok_int Try.underlying3 o1
    obtain ⟨m2,w2,rfl⟩ := ok_int Try.underlying3 o2
    obtain ⟨m3,w3,rfl⟩ := ok_int Try.underlying3 o3
    obtain ⟨m4,w4,rfl⟩ := ok_int Try.underlying34 o4
    obtain ⟨m5,w5,rfl⟩ := ok_int Try.underlying34 o5
    obtain ⟨m6,w6,rfl⟩ := ok_int Try.underlying34 o6
    obtain ⟨m7,w7,rfl⟩ := ok_int Try.underlying34 o7
    exact ⟨⟨m0,m1,m2,m3,m4,m5,m6,m7⟩,rfl,wf_i64 w0,wf_i64 w1,wf_i64 w2,wf_i64 w3,wf_u64 w4,wf_u64 w5,wf_u64 w6,wf_u64 w7⟩)
  exact ⟨l,rfl,by simpa using h2,hl⟩

section
variable {H : Type} {enc : TypeId × Value → H} {w : World} {v : Value} {d : DataW H} {ps : List MemPlace}

theorem rd_terms (hok : Value.okWide Try.prog w .any 0 22 v) (h : DataW.Trod enc Try.prog w 0 (fun _ => true) true 22 v d ps) :
    ∃ l : List Tm,(l.length ≤ maxLen ∧ ∀ t,t ∈ l → t.wf) ∧ RdS w (fun b => b < w.heap.size) v (.c (.sl 8 (tRows l))) := by
  obtain ⟨c,h1,h2⟩ := rd_arg 3 supTerms hok h
  obtain ⟨l,rfl,h3⟩ := ok_terms h1
  exact ⟨l,h3,h2⟩
end

end Go.Proofs.Ytfldmpmaifjcbaa

/-
  gimletlaw14: TreeFrames.
-/
set_option linter.unusedSimpArgs false
set_option linter.unusedVariables false
namespace Go.Proofs.Ytfldmpmaifjcbaa
open Go Go.Hs
theorem enRows_frz' {l : List En} : AC.frz.frzLL (enRows l) = enRows l := enRows_frz
theorem enRows_ex {l : List En} {n : Nat} (h : l.length ≤ n) : ex (enRows l) 0 n = enRows l := by
  rw [ex_eq,List.drop_zero,List.take_of_length_le (by rw [length_enRows];omega)]
attribute [local go_sem] AV.isS wrap_in En.cs length_enRows length_tRows length_kRows getE0 getE1 getE2 getE3 getER dltT dltF dleT dleF eqT eqF beT beF bneT bneF length_rRows getRowT bne_self_eq_false enRows_frz' enRows_ex

theorem tm_st {x : Tm} (h : x.wf) : (stOf x).wf := ⟨h.2.2.2.2.1,h.2.2.2.2.2.1,h.2.2.2.2.2.2.1,h.2.2.2.2.2.2.2⟩

end Go.Proofs.Ytfldmpmaifjcbaa

/-
  PLAIN: rows of spans.
-/
set_option linter.unusedSimpArgs false
namespace Go.Proofs.Ytfldmpmaifjcbaa
open Go Go.Hs

theorem spRows_flat' : ∀ {l : List Sp},AC.flat.flatLL (spRows l) = true
  | [] => rfl
  | x :: l => by
    have h := spRows_flat' (l := l)
    unfold spRows at h ⊢
    rw [List.map_cons,AC.flat.flatLL,h,Bool.and_true]
    rfl
theorem spTake' {l : List Sp} {k : Nat} (h : l.length ≤ k) : (spRows l).take k = spRows l := List.take_of_length_le (by rw [length_spRows];exact h)

end Go.Proofs.Ytfldmpmaifjcbaa
