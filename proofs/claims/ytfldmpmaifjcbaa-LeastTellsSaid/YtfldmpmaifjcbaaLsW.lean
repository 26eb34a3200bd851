/-
  Parts of a proof, side by side.
-/
import Derived.Test.YtfldmpmaifjcbaaTree1
import Derived.Test.YtfldmpmaifjcbaaKidsP
import Derived.Test.YtfldmpmaifjcbaaLaw14
import Derived.Test.YtfldmpmaifjcbaaTermP
import Derived.Test.YtfldmpmaifjcbaaHty
import Derived.Test.YtfldmpmaifjcbaaHs17
import Derived.Test.YtfldmpmaifjcbaaSpE
/-
  PLAIN: which of two lists is ahead is an order.
-/
set_option linter.unusedSimpArgs false
set_option linter.unusedVariables false
namespace Go.Proofs.Ytfldmpmaifjcbaa
open Go Go.Hs

theorem sg_cases (a b : Int) : (sg a b = -1 ∧ a < b) ∨ (sg a b = 0 ∧ a = b) ∨ (sg a b = 1 ∧ b < a) := by
  unfold sg
  split
  · exact .inl ⟨rfl,by omega⟩
  · split
    · exact .inr (.inr ⟨rfl,by omega⟩)
    · exact .inr (.inl ⟨rfl,by omega⟩)
/-- The order of two entries, told by their numbers. -/
theorem vsF_cases (x y : En) : (vsF x y = -1 ∧ (y.d < x.d ∨ (x.d = y.d ∧ (x.n < y.n ∨ (x.n = y.n ∧ (x.f < y.f ∨ (x.f = y.f ∧ y.t < x.t))))))) ∨
    (vsF x y = 0 ∧ x.d = y.d ∧ x.n = y.n ∧ x.f = y.f ∧ x.t = y.t) ∨
    (vsF x y = 1 ∧ (x.d < y.d ∨ (x.d = y.d ∧ (y.n < x.n ∨ (x.n = y.n ∧ (y.f < x.f ∨ (x.f = y.f ∧ x.t < y.t))))))) := by
  unfold vsF
  rcases sg_cases y.d x.d with ⟨e1,h1⟩|⟨e1,h1⟩|⟨e1,h1⟩ <;> rw [e1]
  · rw [if_pos (by decide)];exact .inl ⟨rfl,.inl h1⟩
  · rw [if_neg (by decide)]
    rcases sg_cases x.n y.n with ⟨e2,h2⟩|⟨e2,h2⟩|⟨e2,h2⟩ <;> rw [e2]
    · rw [if_pos (by decide)];exact .inl ⟨rfl,.inr ⟨h1.symm,.inl h2⟩⟩
    · rw [if_neg (by decide)]
      rcases sg_cases x.f y.f with ⟨e3,h3⟩|⟨e3,h3⟩|⟨e3,h3⟩ <;> rw [e3]
      · rw [if_pos (by decide)];exact .inl ⟨rfl,.inr ⟨h1.symm,.inr ⟨h2,.inl h3⟩⟩⟩
      · rw [if_neg (by decide)]
        rcases sg_cases y.t x.t with ⟨e4,h4⟩|⟨e4,h4⟩|⟨e4,h4⟩ <;> rw [e4]
        · exact .inl ⟨rfl,.inr ⟨h1.symm,.inr ⟨h2,.inr ⟨h3,h4⟩⟩⟩⟩
        · exact .inr (.inl ⟨rfl,h1.symm,h2,h3,h4.symm⟩)
        · exact .inr (.inr ⟨rfl,.inr ⟨h1.symm,.inr ⟨h2,.inr ⟨h3,h4⟩⟩⟩⟩)
      · rw [if_pos (by decide)];exact .inr (.inr ⟨rfl,.inr ⟨h1.symm,.inr ⟨h2,.inl h3⟩⟩⟩)
    · rw [if_pos (by decide)];exact .inr (.inr ⟨rfl,.inr ⟨h1.symm,.inl h2⟩⟩)
  · rw [if_pos (by decide)];exact .inr (.inr ⟨rfl,.inl h1⟩)
theorem En.ext' {x y : En} (h1 : x.d = y.d) (h2 : x.n = y.n) (h3 : x.f = y.f) (h4 : x.t = y.t) : x = y := by
  cases x;cases y;simp_all
theorem vsF_refl (x : En) : vsF x x = 0 := by
  rcases vsF_cases x x with ⟨e,g⟩|⟨e,g⟩|⟨e,g⟩ <;> omega
theorem aheadN_s {a b : List En} {i : Nat} : aheadN a b (i + 1) = (match aheadN a b i with|some r => some r|none => if vsF (enAt a i) (enAt b i) ≠ 0 then some (vsF (enAt a i) (enAt b i)) else none) := rfl
theorem aheadN_refl (a : List En) : ∀ N,aheadN a a N = none
  | 0 => rfl
  | N + 1 => by rw [aheadN_s,aheadN_refl a N,vsF_refl];rfl
theorem aheadN_more {a b : List En} {N : Nat} (h : max a.length b.length ≤ N) : aheadN a b N = aheadN a b (max a.length b.length) := by
  obtain ⟨m,rfl⟩ := Nat.le.dest h
  clear h
  induction m with
  | zero => rfl
  | succ m ih =>
    rw [show max a.length b.length + (m + 1) = max a.length b.length + m + 1 by omega,aheadN_s,ih,enAt_out (l := a) (by omega),enAt_out (l := b) (by omega),vsF_refl]
    cases aheadN a b (max a.length b.length) <;> rfl
theorem aheadF_at' {a b : List En} {N : Nat} (h : max a.length b.length ≤ N) : aheadF a b = (aheadN a b N).getD 0 := by
  rw [aheadN_more h];rfl

theorem aheadF_refl (a : List En) : aheadF a a = 0 := by
  rw [aheadF_at' (Nat.le_refl _),aheadN_refl];rfl
end Go.Proofs.Ytfldmpmaifjcbaa

/-
  PLAIN: what opens and closes in a parse tree makes it again.
-/
set_option linter.unusedSimpArgs false
set_option linter.unusedVariables false
namespace Go.Proofs.Ytfldmpmaifjcbaa
open Go Go.Hs

def Mono (b : Int) : Int → List (Int × Int) → Prop
  | a,[] => a ≤ b
  | a,p :: S => a ≤ p.1 ∧ Mono b p.1 S
theorem Mono.le {b : Int} : ∀ {a : Int} {S : List (Int × Int)},Mono b a S → a ≤ b
  | _,[],h => h
  | _,_ :: _,h => Int.le_trans h.1 (Mono.le h.2)
end Go.Proofs.Ytfldmpmaifjcbaa

/-
  The document's parse trees are the program's.
-/
set_option linter.unusedSimpArgs false
set_option linter.unusedVariables false
namespace Go.Proofs.Ytfldmpmaifjcbaa
open Go Go.Hs
theorem getERo {z : List AC} {l : List En} {i : Nat} (h : l.length ≤ i) : getR z (enRows l) i 0 4 = z := by
  unfold getR
  rw [List.getElem?_eq_none (by rw [length_enRows];exact h)];rfl
theorem toN1 {i : Nat} : ((i : Int) + 1).toNat = i + 1 := by omega
theorem dleT {a b : Int} (h : a ≤ b) : decide (a ≤ b) = true := decide_eq_true h
theorem dleF {a b : Int} (h : ¬ a ≤ b) : decide (a ≤ b) = false := decide_eq_false h

attribute [local go_sem] AV.isS wrap_in En.cs Tm.cs binSet binEntN length_enRows length_kRows length_tRows tRows_ex tRows_frz getE0 getE1 getE2 getE3 getER getERo getE1o getK getA getB getN getTm getSet dltT dltF toN1 dleT dleF eqT eqF beT beF

end Go.Proofs.Ytfldmpmaifjcbaa

/-
  The document's parse trees are the program's.
-/
set_option linter.unusedSimpArgs false
set_option linter.unusedVariables false
namespace Go.Proofs.Ytfldmpmaifjcbaa
open Go Go.Hs
attribute [local go_sem] AV.isS wrap_in En.cs Tm.cs binSet binEntN length_enRows length_kRows length_tRows tRows_ex tRows_frz getE0 getE1 getE2 getE3 getER getERo getE1o getK getA getB getN getTm getSet dltT dltF toN1 dleT dleF eqT eqF beT beF

end Go.Proofs.Ytfldmpmaifjcbaa

/-
  The document's parse trees are the program's.
-/
set_option linter.unusedSimpArgs false
set_option linter.unusedVariables false
namespace Go.Proofs.Ytfldmpmaifjcbaa
open Go Go.Hs
attribute [local go_sem] AV.isS wrap_in En.cs Tm.cs binSet binEntN length_enRows length_kRows length_tRows tRows_ex tRows_frz getE0 getE1 getE2 getE3 getER getERo getE1o getK getA getB getN getTm getSet dltT dltF toN1 dleT dleF eqT eqF beT beF

end Go.Proofs.Ytfldmpmaifjcbaa

/-
  The document's frames of a parse tree.
-/
set_option linter.unusedSimpArgs false
set_option linter.unusedVariables false
namespace Go.Proofs.Ytfldmpmaifjcbaa
open Go Go.Hs
theorem Gs {P : Program} {n : Nat} {S : Env} {pu : Bool} {d : Nat} {c : Call} {pos : String} {after : Array Edge} {gd : Option (Nat × Bool)} {K : Env → Prop} (h : d < n ∧ K (S.set d (.opt false (.agg [.im (.int .i64 0),.im (.int .i64 0),.im (.int .i64 0),.im (.int .i64 0)])))) : gopO P n pu S { dst := some d,op := .call c,type := 56,pos := pos,after := after,guard := gd } false K :=
  .inr ⟨fun h => absurd h (by decide),fun _ => ⟨h.1,_,rfl,h.2⟩⟩
theorem roF_ex {R : List RO} {n : Nat} (h : R.length ≤ n) : ex (roF R) 0 n = roF R := by
  have hl : (roF R).length = R.length := by simp [roF]
  rw [ex_eq,List.drop_zero,List.take_of_length_le (by omega)]
theorem enJ {x : En} {st jk : List En} {k : Nat} (h : k = st.length) : k < (List.reverseAux st (x :: jk)).length ∧ enAt (List.reverseAux st (x :: jk)) k = x := by
  subst h
  rw [List.reverseAux_eq]
  refine ⟨by simp,?_⟩
  unfold enAt
  rw [List.getD_eq_getElem?_getD,List.getElem?_append_right (by simp)]
  simp
theorem lenJ {st jk : List En} : (List.reverseAux st jk).length = st.length + jk.length := by
  rw [List.reverseAux_eq];simp
theorem getJ0 {z : AC} {x : En} {st jk : List En} {k : Nat} (h : k = st.length) : getC z (enRows (List.reverseAux st (x :: jk))) k 0 = .im (.int .i64 x.d) := by rw [getE0 (enJ h).1,(enJ h).2]
theorem getJ1 {z : AC} {x : En} {st jk : List En} {k : Nat} (h : k = st.length) : getC z (enRows (List.reverseAux st (x :: jk))) k 1 = .im (.int .i64 x.n) := by rw [getE1 (enJ h).1,(enJ h).2]
theorem getJ2 {z : AC} {x : En} {st jk : List En} {k : Nat} (h : k = st.length) : getC z (enRows (List.reverseAux st (x :: jk))) k 2 = .im (.int .i64 x.f) := by rw [getE2 (enJ h).1,(enJ h).2]
theorem getJ3 {z : AC} {x : En} {st jk : List En} {k : Nat} (h : k = st.length) : getC z (enRows (List.reverseAux st (x :: jk))) k 3 = .im (.int .i64 x.t) := by rw [getE3 (enJ h).1,(enJ h).2]
theorem getJR {z : List AC} {x : En} {st jk : List En} {k : Nat} (h : k = st.length) : getR z (enRows (List.reverseAux st (x :: jk))) k 0 4 = [.im (.int .i64 x.d),.im (.int .i64 x.n),.im (.int .i64 x.f),.im (.int .i64 x.t)] := by rw [getER (enJ h).1,(enJ h).2]
theorem enTakeJ {st jk : List En} {k : Nat} (h : k = st.length) : (enRows (List.reverseAux st jk)).take k = enRows st.reverse := by
  subst h
  rw [List.reverseAux_eq,enRows,List.map_append,List.take_left' (by simp)];rfl
theorem getE0z {l : List En} {i : Nat} : getC (.im (.int .i64 0)) (enRows l) i 0 = .im (.int .i64 (enAt l i).d) := by
  by_cases h : i < l.length
  · exact getE0 h
  · rw [getE1o (by omega),enAt_out (by omega)];rfl
theorem toNp1 {k : Nat} : (((k + 1 : Nat) : Int) - 1).toNat = k := by omega
theorem bneT {a b : Int} (h : a ≠ b) : (a != b) = true := by simpa using h
theorem bneF {a b : Int} (h : a = b) : (a != b) = false := by simpa using h

attribute [local go_sem] AV.isS wrap_in En.cs enPush getJ0 getJ1 getJ2 getJ3 getJR enTakeJ lenJ getE0z toNp1 length_enRows getE0 getE1 getE2 getE3 getER dltT dltF dleT dleF eqT eqF beT beF bneT bneF length_kRows length_roR getRoN getRoS getRoD setRo setRo1 kRows_snoc getRoDead tk1 splice1 rep_roR List.length_reverse List.length_cons take_roR enTakeR frz_roR frz_roR' AV.frzIn length_rRows getRowT roF_ex

end Go.Proofs.Ytfldmpmaifjcbaa

/-
  The document's list of frames.
-/
set_option linter.unusedSimpArgs false
set_option linter.unusedVariables false
namespace Go.Proofs.Ytfldmpmaifjcbaa
open Go Go.Hs
/-- What is open, the last one last, and what stands behind it in the row. -/
def opJ (op : List Nat) (jk : List Int) : List Int := List.reverseAux (op.map fun n : Nat => (n : Int)) jk
theorem opJ_eq {op : List Nat} {jk : List Int} : opJ op jk = opI op ++ jk := by
  rw [opJ,List.reverseAux_eq,opI,List.map_reverse]
theorem lenOpJ {op : List Nat} {jk : List Int} : (opJ op jk).length = op.length + jk.length := by rw [opJ_eq,List.length_append,length_opI]
theorem getOpJ {op : List Nat} {jk : List Int} {j : Nat} {k : Nat} (h : k = op.length) : (opJ op ((j : Int) :: jk)).getD k 0 = j := by
  subst h
  rw [opJ_eq,List.getD_eq_getElem?_getD,List.getElem?_append_right (by rw [length_opI];omega),length_opI,Nat.sub_self]
  rfl
theorem opJ_push {op : List Nat} {jk : List Int} {k v : Nat} (h : k = op.length) : (opJ op jk).take k ++ [(v : Int)] = opJ (v :: op) [] := by
  subst h
  rw [opJ_eq,List.take_left' length_opI,opJ_eq,opI_cons,List.append_nil]
theorem natSub1 {k : Nat} : (((k + 1 : Nat) : Int) - 1) = (k : Int) := by omega
theorem getKz {l : List Int} {i : Nat} : getC (.im (.int .i64 0)) (kRows .i64 l) i 0 = .im (.int .i64 (l.getD i 0)) := by
  unfold getC
  by_cases h : i < l.length
  · simp [kRows,List.getD_eq_getElem?_getD,h]
  · rw [List.getElem?_eq_none (by rw [length_kRows];omega),List.getD_eq_getElem?_getD,List.getElem?_eq_none (by omega)];rfl
theorem getE1z {l : List En} {i : Nat} : getC (.im (.int .i64 0)) (enRows l) i 1 = .im (.int .i64 (enAt l i).n) := by
  by_cases h : i < l.length
  · exact getE1 h
  · rw [getE1o (by omega),enAt_out (by omega)];rfl

attribute [local go_sem] AV.isS wrap_in En.cs length_enRows getE0 getE1 getE2 getE3 getER dltT dltF eqT eqF beT beF bneT bneF length_kRows length_rRows getRowT lenOpJ getOpJ opJ_push enSnoc enSet3 Int.tdiv_eq_ediv_of_nonneg Int.tmod_eq_emod_of_nonneg takeFull getE1set enTake natSub1 Int.toNat_natCast getKz getE1z

end Go.Proofs.Ytfldmpmaifjcbaa

/-
  What a law's arguments read as.
-/
set_option linter.unusedSimpArgs false
set_option maxRecDepth 10000
namespace Go.Proofs.Ytfldmpmaifjcbaa
open Go Go.Hs

def Tm.wf (t : Tm) : Prop := (-9223372036854775808 ≤ t.k ∧ t.k ≤ 9223372036854775807) ∧ (-9223372036854775808 ≤ t.a ∧ t.a ≤ 9223372036854775807) ∧ (-9223372036854775808 ≤ t.b ∧ t.b ≤ 9223372036854775807) ∧ (-9223372036854775808 ≤ t.n ∧ t.n ≤ 9223372036854775807) ∧
  (0 ≤ t.s0 ∧ t.s0 ≤ 18446744073709551615) ∧ (0 ≤ t.s1 ∧ t.s1 ≤ 18446744073709551615) ∧ (0 ≤ t.s2 ∧ t.s2 ≤ 18446744073709551615) ∧ (0 ≤ t.s3 ∧ t.s3 ≤ 18446744073709551615)

theorem lvTerm : lvs Try.prog 38 = some [3,3,3,3,34,34,34,34] := by kernel_rfl
theorem supTerms : supC Try.prog 3 22 = true := by kernel_rfl
theorem ok_terms {n : Nat} {c : AC} (h : okC Try.prog (n + 2) 22 c) : ∃ l : List Tm,c = .sl 8 (tRows l) ∧ l.length ≤ maxLen ∧ ∀ t,t ∈ l → t.wf := by
  obtain ⟨es,rfl,h2,h3⟩ := ok_slice Try.underlying22 lvTerm h
  obtain ⟨l,rfl,hl⟩ := rows_of (enc := Tm.cs) (W := Tm.wf) (fun r hr => by
    obtain ⟨c0,r0,rfl,o0,g0⟩ := okR_cons (h3 r hr)
    obtain ⟨c1,r1,rfl,o1,g1⟩ := okR_cons g0
    obtain ⟨c2,r2,rfl,o2,g2⟩ := okR_cons g1
    obtain ⟨c3,r3,rfl,o3,g3⟩ := okR_cons g2
    obtain ⟨c4,r4,rfl,o4,g4⟩ := okR_cons g3
    obtain ⟨c5,r5,rfl,o5,g5⟩ := okR_cons g4
    obtain ⟨c6,r6,rfl,o6,g6⟩ := okR_cons g5
    obtain ⟨c7,r7,rfl,o7,g7⟩ := okR_cons g6
    obtain rfl := okR_nil g7
    obtain ⟨m0,w0,rfl⟩ := ok_int Try.underlying3 o0
    obtain ⟨m1,w1,rfl⟩ := ok_int Try.underlying3 o1
    obtain ⟨m2,w2,rfl⟩ := ok_int Try.underlying3 o2
    obtain ⟨m3,w3,rfl⟩ := ok_int Try.underlying3 o3
    obtain ⟨m4,w4,rfl⟩ := ok_int Try.underlying34 o4
    obtain ⟨m5,w5,rfl⟩ := ok_int Try.underlying34 o5
    obtain ⟨m6,w6,rfl⟩ := ok_int Try.underlying34 o6
    obtain ⟨m7,w7,rfl⟩ := ok_int Try.underlying34 o7
    exact ⟨⟨m0,m1,m2,m3,m4,m5,m6,m7⟩,rfl,wf_i64 w0,wf_i64 w1,wf_i64 w2,wf_i64 w3,wf_u64 w4,wf_u64 w5,wf_u64 w6,wf_u64 w7⟩)
  exact ⟨l,rfl,by simpa using h2,hl⟩

section
variable {H : Type} {enc : TypeId × Value → H} {w : World} {v : Value} {d : DataW H} {ps : List MemPlace}

theorem rd_terms (hok : Value.okWide Try.prog w .any 0 22 v) (h : DataW.Trod enc Try.prog w 0 (fun _ => true) true 22 v d ps) :
    ∃ l : List Tm,(l.length ≤ maxLen ∧ ∀ t,t ∈ l → t.wf) ∧ RdS w (fun b => b < w.heap.size) v (.c (.sl 8 (tRows l))) := by
  obtain ⟨c,h1,h2⟩ := rd_arg 3 supTerms hok h
  obtain ⟨l,rfl,h3⟩ := ok_terms h1
  exact ⟨l,h3,h2⟩
end

end Go.Proofs.Ytfldmpmaifjcbaa

/-
  gimletlaw14: TreeFrames.
-/
set_option linter.unusedSimpArgs false
set_option linter.unusedVariables false
namespace Go.Proofs.Ytfldmpmaifjcbaa
open Go Go.Hs
theorem enRows_frz' {l : List En} : AC.frz.frzLL (enRows l) = enRows l := enRows_frz
theorem enRows_ex {l : List En} {n : Nat} (h : l.length ≤ n) : ex (enRows l) 0 n = enRows l := by
  rw [ex_eq,List.drop_zero,List.take_of_length_le (by rw [length_enRows];omega)]
attribute [local go_sem] AV.isS wrap_in En.cs length_enRows length_tRows length_kRows getE0 getE1 getE2 getE3 getER dltT dltF dleT dleF eqT eqF beT beF bneT bneF length_rRows getRowT bne_self_eq_false enRows_frz' enRows_ex

theorem tm_st {x : Tm} (h : x.wf) : (stOf x).wf := ⟨h.2.2.2.2.1,h.2.2.2.2.2.1,h.2.2.2.2.2.2.1,h.2.2.2.2.2.2.2⟩

end Go.Proofs.Ytfldmpmaifjcbaa

/-
  PLAIN: rows of spans.
-/
set_option linter.unusedSimpArgs false
namespace Go.Proofs.Ytfldmpmaifjcbaa
open Go Go.Hs

theorem spRows_flat' : ∀ {l : List Sp},AC.flat.flatLL (spRows l) = true
  | [] => rfl
  | x :: l => by
    have h := spRows_flat' (l := l)
    unfold spRows at h ⊢
    rw [List.map_cons,AC.flat.flatLL,h,Bool.and_true]
    rfl
theorem spTake' {l : List Sp} {k : Nat} (h : l.length ≤ k) : (spRows l).take k = spRows l := List.take_of_length_le (by rw [length_spRows];exact h)

end Go.Proofs.Ytfldmpmaifjcbaa
