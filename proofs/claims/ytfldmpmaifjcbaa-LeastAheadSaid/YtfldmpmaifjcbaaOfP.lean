/-
  Parts of a proof, side by side.
-/
import Derived.Test.YtfldmpmaifjcbaaKidsP
import Derived.Test.YtfldmpmaifjcbaaHty
import Derived.Test.YtfldmpmaifjcbaaTree1
/-
  tree.Frames.
-/
set_option linter.unusedSimpArgs false
set_option linter.unusedVariables false
namespace Go.Proofs.Ytfldmpmaifjcbaa
open Go Go.Hs
attribute [local go_sem] AV.isS wrap_in En.cs enLen enLenR enLast enPop enPush getL0 getL1 getL2 getL3 getLR getE0 getE1 getE2 getE3 getER dltT dltF eqT eqF beT beF length_roR getRoN getRoS getRoD setRo setRo1 kRows_snoc getRoDead tk1 splice1 List.length_reverse List.length_cons

end Go.Proofs.Ytfldmpmaifjcbaa

/-
  PLAIN: rows that are nil or owned, read from now on as rows.
-/
set_option linter.unusedSimpArgs false
set_option linter.unusedVariables false
namespace Go.Proofs.Ytfldmpmaifjcbaa
open Go Go.Hs

def roFC : RO → AC
  | none => .nil
  | some x => .sl 1 (kRows .i64 x.2)
def roF (R : List RO) : List (List AC) := R.map fun o => [roFC o]
theorem frz_kR {k : IntKind} {l : List Int} : frzLL (kRows k l) = kRows k l := by
  rw [frzLL_eq]
  simp only [kRows,List.map_map]
  rfl
theorem frz_roR {R : List RO} : frzLL (roR R) = roF R := by
  rw [frzLL_eq]
  simp only [roR,roF,List.map_map]
  refine List.map_congr_left fun o _ => ?_
  show frzL [roC o] = [roFC o]
  rw [frzL_eq]
  cases o with
  | none => rfl
  | some x => simp only [roC,roFC,List.map_cons,List.map_nil,AC.frz,frz_kR]
theorem frz_roR' {R : List RO} : AC.frz.frzLL (roR R) = roF R := frz_roR
end Go.Proofs.Ytfldmpmaifjcbaa

/-
  tree.Frames.
-/
set_option linter.unusedSimpArgs false
set_option linter.unusedVariables false
namespace Go.Proofs.Ytfldmpmaifjcbaa
open Go Go.Hs
theorem enTakeR {st : List En} {k : Nat} (h : st.length ≤ k) : (enRows st.reverse).take k = enRows st.reverse := List.take_of_length_le (by rw [enLenR];exact h)
def framesF (l : List Tm) (w : List Int) (t : List En) : List (List Int) := if tRight l w t = true then framesL t [] (List.replicate (w.length + 1) []) else []

attribute [local go_sem] AV.isS wrap_in En.cs length_enRows getE0 getE1 getE2 getE3 getER dltT dltF eqT eqF beT beF length_kRows length_roR getRoN getRoS getRoD setRo setRo1 kRows_snoc getRoDead tk1 splice1 rep_roR List.length_reverse enPush enLenR take_roR enTakeR frz_roR frz_roR' AV.frzIn

end Go.Proofs.Ytfldmpmaifjcbaa

/-
  gimletlaw14: sure; TreeAhead.
-/
set_option linter.unusedSimpArgs false
set_option linter.unusedVariables false
namespace Go.Proofs.Ytfldmpmaifjcbaa
open Go Go.Hs
theorem Gn {P : Program} {n : Nat} {S : Env} {pu : Bool} {d : Nat} {c : Call} {pos : String} {after : Array Edge} {gd : Option (Nat × Bool)} {K : Env → Prop} (h : d < n ∧ K (S.set d (.opt false (.c (.im (.int .i64 0)))))) : gopO P n pu S { dst := some d,op := .call c,type := 3,pos := pos,after := after,guard := gd } false K :=
  .inr ⟨fun h => absurd h (by decide),fun _ => ⟨h.1,_,rfl,h.2⟩⟩
def l14 : List Tm := [⟨2,-1,-1,0,0,8589934592,0,0⟩,⟨8,0,-1,0,0,0,0,0⟩,⟨5,1,-1,0,0,0,0,0⟩]
def t14 : List En := [⟨1,2,0,2⟩,⟨2,1,0,1⟩,⟨3,0,0,1⟩,⟨2,1,1,2⟩,⟨3,0,1,2⟩]
def f14 : List (List Int) := [[4,2,0],[1,3,2,0],[1,3,5]]
def sameF (a b : List En) : Bool := decide ((a.length : Int) = b.length) && decide (aheadF a b = 0)
theorem s14_fr : framesF l14 [97,97] t14 = f14 := by decide +kernel
theorem s14_of : ofF f14 = (true,t14) := by kernel_rfl
theorem s14_of1 : (ofF f14).1 = true := by rw [s14_of]
theorem s14_of2 : (ofF f14).2 = t14 := by rw [s14_of]
theorem s14_r1 : tRight l14 [97,97] t14 = true := by decide +kernel
theorem s14_r2 : tRight l14 [97,98] t14 = false := by decide +kernel
theorem s14_a : aheadF t14 (t14.take 3) = -1 := by decide +kernel
theorem s14_same : sameF t14 t14 = true := by decide +kernel
theorem s14_row : rAt f14 1 = [1,3,2,0] := by decide +kernel
theorem s14_len : ((f14.length : Nat) : Int) = 3 := rfl
theorem s14_get {z : AC} : getC z (rRows f14) 1 0 = .sl 1 (kRows .i64 [1,3,2,0]) := rfl
theorem enRows_frz {l : List En} : frzLL (enRows l) = enRows l := by
  rw [frzLL_eq]
  simp only [enRows,List.map_map]
  refine List.map_congr_left fun e _ => ?_
  rfl

attribute [local go_sem] AV.isS length_tRows tRows_ex tRows_frz wrap_in En.cs length_enRows getE0 getE1 getE2 getE3 getER dltT dltF eqT eqF beT beF length_kRows length_rRows getRowT s14_fr s14_of1 s14_of2 s14_r1 s14_r2 s14_a s14_same s14_row s14_len s14_get enRows_frz

end Go.Proofs.Ytfldmpmaifjcbaa

/-
  PLAIN: which of two lists is ahead is an order.
-/
set_option linter.unusedSimpArgs false
set_option linter.unusedVariables false
namespace Go.Proofs.Ytfldmpmaifjcbaa
open Go Go.Hs

theorem sg_cases (a b : Int) : (sg a b = -1 ∧ a < b) ∨ (sg a b = 0 ∧ a = b) ∨ (sg a b = 1 ∧ b < a) := by
  unfold sg
  split
  · exact .inl ⟨rfl,by omega⟩
  · split
    · exact .inr (.inr ⟨rfl,by omega⟩)
    · exact .inr (.inl ⟨rfl,by omega⟩)
/-- The order of two entries, told by their numbers. -/
theorem vsF_cases (x y : En) : (vsF x y = -1 ∧ (y.d < x.d ∨ (x.d = y.d ∧ (x.n < y.n ∨ (x.n = y.n ∧ (x.f < y.f ∨ (x.f = y.f ∧ y.t < x.t))))))) ∨
    (vsF x y = 0 ∧ x.d = y.d ∧ x.n = y.n ∧ x.f = y.f ∧ x.t = y.t) ∨
    (vsF x y = 1 ∧ (x.d < y.d ∨ (x.d = y.d ∧ (y.n < x.n ∨ (x.n = y.n ∧ (y.f < x.f ∨ (x.f = y.f ∧ x.t < y.t))))))) := by
  unfold vsF
  rcases sg_cases y.d x.d with ⟨e1,h1⟩|⟨e1,h1⟩|⟨e1,h1⟩ <;> rw [e1]
  · rw [if_pos (by decide)];exact .inl ⟨rfl,.inl h1⟩
  · rw [if_neg (by decide)]
    rcases sg_cases x.n y.n with ⟨e2,h2⟩|⟨e2,h2⟩|⟨e2,h2⟩ <;> rw [e2]
    · rw [if_pos (by decide)];exact .inl ⟨rfl,.inr ⟨h1.symm,.inl h2⟩⟩
    · rw [if_neg (by decide)]
      rcases sg_cases x.f y.f with ⟨e3,h3⟩|⟨e3,h3⟩|⟨e3,h3⟩ <;> rw [e3]
      · rw [if_pos (by decide)];exact .inl ⟨rfl,.inr ⟨h1.symm,.inr ⟨h2,.inl h3⟩⟩⟩
      · rw [if_neg (by decide)]
        rcases sg_cases y.t x.t with ⟨e4,h4⟩|⟨e4,h4⟩|⟨e4,h4⟩ <;> rw [e4]
        · exact .inl ⟨rfl,.inr ⟨h1.symm,.inr ⟨h2,.inr ⟨h3,h4⟩⟩⟩⟩
        · exact .inr (.inl ⟨rfl,h1.symm,h2,h3,h4.symm⟩)
        · exact .inr (.inr ⟨rfl,.inr ⟨h1.symm,.inr ⟨h2,.inr ⟨h3,h4⟩⟩⟩⟩)
      · rw [if_pos (by decide)];exact .inr (.inr ⟨rfl,.inr ⟨h1.symm,.inr ⟨h2,.inl h3⟩⟩⟩)
    · rw [if_pos (by decide)];exact .inr (.inr ⟨rfl,.inr ⟨h1.symm,.inl h2⟩⟩)
  · rw [if_pos (by decide)];exact .inr (.inr ⟨rfl,.inl h1⟩)
theorem En.ext' {x y : En} (h1 : x.d = y.d) (h2 : x.n = y.n) (h3 : x.f = y.f) (h4 : x.t = y.t) : x = y := by
  cases x;cases y;simp_all
theorem vsF_refl (x : En) : vsF x x = 0 := by
  rcases vsF_cases x x with ⟨e,g⟩|⟨e,g⟩|⟨e,g⟩ <;> omega
theorem aheadN_s {a b : List En} {i : Nat} : aheadN a b (i + 1) = (match aheadN a b i with|some r => some r|none => if vsF (enAt a i) (enAt b i) ≠ 0 then some (vsF (enAt a i) (enAt b i)) else none) := rfl
theorem aheadN_refl (a : List En) : ∀ N,aheadN a a N = none
  | 0 => rfl
  | N + 1 => by rw [aheadN_s,aheadN_refl a N,vsF_refl];rfl
theorem aheadN_more {a b : List En} {N : Nat} (h : max a.length b.length ≤ N) : aheadN a b N = aheadN a b (max a.length b.length) := by
  obtain ⟨m,rfl⟩ := Nat.le.dest h
  clear h
  induction m with
  | zero => rfl
  | succ m ih =>
    rw [show max a.length b.length + (m + 1) = max a.length b.length + m + 1 by omega,aheadN_s,ih,enAt_out (l := a) (by omega),enAt_out (l := b) (by omega),vsF_refl]
    cases aheadN a b (max a.length b.length) <;> rfl
theorem aheadF_at' {a b : List En} {N : Nat} (h : max a.length b.length ≤ N) : aheadF a b = (aheadN a b N).getD 0 := by
  rw [aheadN_more h];rfl

theorem aheadF_refl (a : List En) : aheadF a a = 0 := by
  rw [aheadF_at' (Nat.le_refl _),aheadN_refl];rfl
end Go.Proofs.Ytfldmpmaifjcbaa

/-
  PLAIN: what opens and closes in a parse tree makes it again.
-/
set_option linter.unusedSimpArgs false
set_option linter.unusedVariables false
namespace Go.Proofs.Ytfldmpmaifjcbaa
open Go Go.Hs

def Mono (b : Int) : Int → List (Int × Int) → Prop
  | a,[] => a ≤ b
  | a,p :: S => a ≤ p.1 ∧ Mono b p.1 S
theorem Mono.le {b : Int} : ∀ {a : Int} {S : List (Int × Int)},Mono b a S → a ≤ b
  | _,[],h => h
  | _,_ :: _,h => Int.le_trans h.1 (Mono.le h.2)
theorem Mono.wk {a a' b : Int} (h : a' ≤ a) : ∀ {S : List (Int × Int)},Mono b a S → Mono b a' S
  | [],g => Int.le_trans h g
  | _ :: _,g => ⟨Int.le_trans h g.1,g.2⟩
theorem Mono.app {b c : Int} {T : List (Int × Int)} (g : Mono c b T) : ∀ {a : Int} {S : List (Int × Int)},Mono b a S → Mono c a (S ++ T)
  | _,[],h => g.wk h
  | _,_ :: _,h => ⟨h.1,Mono.app g h.2⟩
end Go.Proofs.Ytfldmpmaifjcbaa
