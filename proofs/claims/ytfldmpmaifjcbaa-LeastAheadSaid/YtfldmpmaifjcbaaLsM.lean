/-
  Parts of a proof, side by side.
-/
import Derived.Test.YtfldmpmaifjcbaaLsB
import Derived.Test.YtfldmpmaifjcbaaLsX
import Derived.Test.YtfldmpmaifjcbaaHs17
import Derived.Test.YtfldmpmaifjcbaaLsG
/-
  gimletref15: bad, Is, one.
-/
set_option linter.unusedSimpArgs false
set_option linter.unusedVariables false
namespace Go.Proofs.Ytfldmpmaifjcbaa
open Go Go.Hs
def bRows (T : List (List Bool)) : List (List AC) := T.map fun r => [.sl 1 (boRows r)]
def bAt (T : List (List Bool)) (q : Nat) : List Bool := T.getD q []
theorem length_bRows {T : List (List Bool)} : (bRows T).length = T.length := by simp [bRows]
theorem getBR {z : AC} {T : List (List Bool)} {q : Nat} (h : q < T.length) : getC z (bRows T) q 0 = .sl 1 (boRows (bAt T q)) := by
  unfold getC bAt
  simp [bRows,List.getD_eq_getElem?_getD,h]
theorem wmul {i n : Nat} (h : i ≤ 64) (hn : n ≤ 64) : IntKind.i64.wrap ((i : Int) * ((n : Int) + 1)) = ((i * (n + 1) : Nat) : Int) := by
  have h1 : i * (n + 1) ≤ 64 * 65 := Nat.mul_le_mul h (by omega)
  have h2 : (i : Int) * ((n : Int) + 1) = ((i * (n + 1) : Nat) : Int) := by simp
  rw [h2,IntKind.wrap_i64]
  generalize i * (n + 1) = c at *
  omega
theorem tnAdd {a b : Nat} : ((a : Int) + (b : Int)).toNat = a + b := by omega
theorem cell_lt {n i j : Nat} (hi : i ≤ n) (hj : j ≤ n) : i * (n + 1) + j < (n + 1) * (n + 1) := by
  have : i * (n + 1) ≤ n * (n + 1) := Nat.mul_le_mul hi (Nat.le_refl _)
  rw [Nat.add_mul];omega
attribute [local go_sem] wmul tnAdd getBR length_bRows Int.toNat_natCast Tm.cs binSet length_tRows tRows_ex tRows_frz getK getA getB getN getTm getSet dltT dltF dleT dleF eqT eqF beT beF

/-- A table, so far as it is filled. -/
structure TabOk (l : List Tm) (w : List Int) (T : List (List Bool)) (q i : Nat) : Prop where
  lt : q < T.length
  len : ∀ c,c ≤ q → (bAt T c).length = (w.length + 1) * (w.length + 1)
  old : ∀ c,c < q → ∀ a b,a ≤ b → b ≤ w.length → (bAt T c).getD (a * (w.length + 1) + b) false = bT l w c a b
  new : ∀ a b,i < a → a ≤ b → b ≤ w.length → (bAt T q).getD (a * (w.length + 1) + b) false = bT l w q a b
end Go.Proofs.Ytfldmpmaifjcbaa

/-
  gimletref15.Of.
-/
set_option linter.unusedSimpArgs false
set_option linter.unusedVariables false
namespace Go.Proofs.Ytfldmpmaifjcbaa
open Go Go.Hs
def boO (R : List (Blk × List Bool)) : List (List AC) := R.map fun x => [.own x.1 4 1 (boRows x.2)]
def bB (R : List (Blk × List Bool)) (q : Nat) : Blk := (R.getD q (none,[])).1
def bV (R : List (Blk × List Bool)) (q : Nat) : List Bool := (R.getD q (none,[])).2
theorem length_boO {R : List (Blk × List Bool)} : (boO R).length = R.length := by simp [boO]
theorem getBO {z : AC} {R : List (Blk × List Bool)} {q : Nat} (h : q < R.length) : getC z (boO R) q 0 = .own (bB R q) 4 1 (boRows (bV R q)) := by
  unfold getC bB bV
  simp [boO,List.getD_eq_getElem?_getD,h]
theorem updBO {R : List (Blk × List Bool)} {q : Nat} {r : List Bool} (h : q < R.length) : updL (boO R) [(q,0)] (boRows r) = boO (R.set q (bB R q,r)) := by
  unfold updL
  rw [getBO h]
  have e : (boO R).getD q [] = [.own (bB R q) 4 1 (boRows (bV R q))] := by
    unfold bB bV
    simp [boO,List.getD_eq_getElem?_getD,h]
  simp only [e,updL,List.set_cons_zero]
  simp [boO,List.map_set]
theorem boSnoc {R : List (Blk × List Bool)} {b : Blk} {r : List Bool} : boO R ++ [[.own b 4 1 (boRows r)]] = boO (R ++ [(b,r)]) := by simp [boO]
theorem frzBO' : ∀ {R : List (Blk × List Bool)},AC.frz.frzLL (boO R) = bRows (R.map (·.2))
  | [] => rfl
  | x :: R => by
    have h := frzBO' (R := R)
    have h2 := boRows_frz (bl := x.2)
    unfold boO bRows at h ⊢
    simp only [List.map_cons,AC.frz.frzLL,AC.frz.frzL,AC.frz,h,h2]
theorem frzBO {R : List (Blk × List Bool)} : frzLL (boO R) = bRows (R.map (·.2)) := by
  have := frzBO' (R := R)
  exact this
theorem exB {T : List (List Bool)} {n : Nat} (h : T.length ≤ n) : ex (bRows T) 0 n = bRows T := by
  rw [ex_eq,List.drop_zero,List.take_of_length_le (by rw [length_bRows];omega)]
theorem boTake {R : List (Blk × List Bool)} {n : Nat} (h : R.length ≤ n) : (boO R).take n = boO R := List.take_of_length_le (by rw [length_boO];exact h)
theorem wmul2 {n : Nat} (hn : n ≤ 64) : IntKind.i64.wrap (((n : Int) + 1) * ((n : Int) + 1)) = (((n + 1) * (n + 1) : Nat) : Int) := by
  have h1 : (n + 1) * (n + 1) ≤ 65 * 65 := Nat.mul_le_mul (by omega) (by omega)
  have h2 : ((n : Int) + 1) * ((n : Int) + 1) = (((n + 1) * (n + 1) : Nat) : Int) := by simp
  rw [h2,IntKind.wrap_i64]
  generalize (n + 1) * (n + 1) = c at *
  omega
theorem cell_inj {n a b i j : Nat} (hb : b ≤ n) (hj : j ≤ n) (h : a * (n + 1) + b = i * (n + 1) + j) : a = i ∧ b = j := by
  have h1 : (a * (n + 1) + b) / (n + 1) = a := by
    rw [Nat.add_comm,Nat.add_mul_div_right _ _ (by omega),Nat.div_eq_of_lt (by omega)];omega
  have h2 : (i * (n + 1) + j) / (n + 1) = i := by
    rw [Nat.add_comm,Nat.add_mul_div_right _ _ (by omega),Nat.div_eq_of_lt (by omega)];omega
  have e : a = i := by rw [← h1,h,h2]
  subst e
  exact ⟨rfl,by omega⟩

/-- The rows that are filled, the first q of them. -/
structure RowsOk (l : List Tm) (w : List Int) (T : List (List Bool)) (q : Nat) : Prop where
  len : ∀ c,c < q → (bAt T c).length = (w.length + 1) * (w.length + 1)
  old : ∀ c,c < q → ∀ a b,a ≤ b → b ≤ w.length → (bAt T c).getD (a * (w.length + 1) + b) false = bT l w c a b
theorem bAt_map {R : List (Blk × List Bool)} {q : Nat} : bAt (R.map (·.2)) q = bV R q := by
  unfold bAt bV
  rw [List.getD_eq_getElem?_getD,List.getD_eq_getElem?_getD,List.getElem?_map]
  cases R[q]? <;> rfl
theorem bV_set {R : List (Blk × List Bool)} {q c : Nat} {b : Blk} {r : List Bool} (h : q < R.length) : bV (R.set q (b,r)) c = if c = q then r else bV R c := by
  unfold bV
  simp only [List.getD_eq_getElem?_getD,List.getElem?_set]
  by_cases e : q = c
  · subst e;simp [h]
  · have : ¬ c = q := fun h => e h.symm
    simp [e,this]

structure FillOk (l : List Tm) (w : List Int) (R : List (Blk × List Bool)) (q : Nat) (P : Nat → Nat → Prop) : Prop where
  len : ∀ c,c ≤ q → (bAt (R.map (·.2)) c).length = (w.length + 1) * (w.length + 1)
  old : ∀ c,c < q → ∀ a b,a ≤ b → b ≤ w.length → (bAt (R.map (·.2)) c).getD (a * (w.length + 1) + b) false = bT l w c a b
  new : ∀ a b,P a b → a ≤ b → b ≤ w.length → (bAt (R.map (·.2)) q).getD (a * (w.length + 1) + b) false = bT l w q a b
theorem FillOk.mono {l : List Tm} {w : List Int} {R : List (Blk × List Bool)} {q : Nat} {P P' : Nat → Nat → Prop} (h : FillOk l w R q P) (hp : ∀ a b,b ≤ w.length → P' a b ∧ a ≤ b → P a b) : FillOk l w R q P' :=
  ⟨h.len,h.old,fun a b h1 h2 h3 => h.new a b (hp a b h3 ⟨h1,h2⟩) h2 h3⟩
theorem FillOk.rows {l : List Tm} {w : List Int} {R : List (Blk × List Bool)} {q : Nat} {P : Nat → Nat → Prop} (h : FillOk l w R q P) (hp : ∀ a b,a ≤ b → P a b) : RowsOk l w (R.map (·.2)) (q + 1) :=
  ⟨fun c hc => h.len c (by omega),fun c hc a b h1 h2 => by
    by_cases e : c = q
    · subst e;exact h.new a b (hp a b h1) h1 h2
    · exact h.old c (by omega) a b h1 h2⟩
theorem FillOk.step {l : List Tm} {w : List Int} {R : List (Blk × List Bool)} {q i j : Nat} {bk : Blk} (hR : R.length = q + 1) (hi : i ≤ j) (hj : j ≤ w.length) (h : FillOk l w R q (fun a b => i < a ∨ a = i ∧ b < j)) : FillOk l w (R.set q (bk,(bV R q).set (i * (w.length + 1) + j) (bT l w q i j))) q (fun a b => i < a ∨ a = i ∧ b < j + 1) := by
  have hl := h.len q (Nat.le_refl _)
  rw [bAt_map] at hl
  have c1 := cell_lt (n := w.length) (i := i) (j := j) (by omega) hj
  refine ⟨fun c hc => ?_,fun c hc a b h1 h2 => ?_,fun a b h1 h2 h3 => ?_⟩
  · rw [bAt_map,bV_set (by omega)]
    split
    · rw [List.length_set];exact hl
    · rw [← bAt_map];exact h.len c hc
  · rw [bAt_map,bV_set (by omega),if_neg (by omega),← bAt_map]
    exact h.old c hc a b h1 h2
  · rw [bAt_map,bV_set (by omega),if_pos rfl]
    by_cases e : a = i ∧ b = j
    · rw [e.1,e.2,List.getD_eq_getElem?_getD,List.getElem?_set_self (by omega)];rfl
    · have ne : i * (w.length + 1) + j ≠ a * (w.length + 1) + b := fun h => e (cell_inj h3 hj h.symm)
      rw [List.getD_eq_getElem?_getD,List.getElem?_set_ne ne,← List.getD_eq_getElem?_getD,← bAt_map]
      refine h.new a b ?_ h2 h3
      omega

attribute [local go_sem] AV.isS wmul wmul2 tnAdd length_boO getBO updBO boSnoc frzBO frzBO' exB boRows_frz boTake List.length_append List.length_map Int.toNat_natCast length_bRows length_tRows tRows_ex tRows_frz Tm.cs

end Go.Proofs.Ytfldmpmaifjcbaa

/-
  PLAIN: where two halves meet.
-/
set_option linter.unusedSimpArgs false
set_option linter.unusedVariables false
namespace Go.Proofs.Ytfldmpmaifjcbaa
open Go Go.Hs

theorem splitD_hit {f g : Nat → Bool} {i : Nat} : ∀ m t,t < m → f (i + t) = true → g (i + t) = true → f (splitD f g i m) = true ∧ g (splitD f g i m) = true ∧ i + t ≤ splitD f g i m
  | 0,_,h,_,_ => absurd h (Nat.not_lt_zero _)
  | m + 1,t,h,h1,h2 => by
    rw [splitD]
    split
    · rename_i c
      exact ⟨c.1,c.2,by omega⟩
    · rename_i c
      by_cases e : t = m
      · subst e;exact absurd ⟨h1,h2⟩ c
      · exact splitD_hit m t (by omega) h1 h2
/-- Where two halves meet. -/
structure Meet (l : List Tm) (w : List Int) (a c i j s : Nat) : Prop where
  ge : i ≤ s
  le : s ≤ j
  fst : bT l w a i s = true
  snd : bT l w c s j = true
theorem meet_of {l : List Tm} {w : List Int} {a c i j t : Nat} (hij : i ≤ j) (ht : i + t ≤ j) (h1 : bT l w a i (i + t) = true) (h2 : bT l w c (i + t) j = true) : Meet l w a c i j (splitF (rT l w a) (rT l w c) i j) ∧ i + t ≤ splitF (rT l w a) (rT l w c) i j := by
  have h := splitD_hit (f := fun k => bitR (rT l w a) i k) (g := fun k => bitR (rT l w c) k j) (i := i) (j + 1 - i) t (by omega) h1 h2
  exact ⟨⟨splitF_ge,splitF_le hij,h.1,h.2.1⟩,h.2.2⟩

end Go.Proofs.Ytfldmpmaifjcbaa

/-
  gimletref15.grow.
-/
set_option linter.unusedSimpArgs false
set_option linter.unusedVariables false
namespace Go.Proofs.Ytfldmpmaifjcbaa
open Go Go.Hs
theorem enAppK {a b : List En} : enRows a ++ enRows b = enRows (a ++ b) := by simp [enRows]
theorem en1 {a b c d : Int} : [[AC.im (.int .i64 a),AC.im (.int .i64 b),AC.im (.int .i64 c),AC.im (.int .i64 d)]] = enRows [⟨a,b,c,d⟩] := rfl
theorem enTake1 {x : En} : (enRows [x]).take 1 = enRows [x] := rfl
theorem enPer {l : List En} : (enRows l).all (fun e => e.all AC.per) = true := by simp [enRows,En.cs,AC.per]
attribute [local go_sem] AV.isS enRows_frz' enRows_ex en1 enTake1 enPer enAppK enTake En.cs length_enRows length_tRows tRows_ex tRows_frz Tm.cs getK getA getB getN getTm getSet eqT eqF beT beF dltT dltF dleT dleF

end Go.Proofs.Ytfldmpmaifjcbaa

/-
  gimletref15: Can, Tree, Match, Find.
-/
set_option linter.unusedSimpArgs false
set_option linter.unusedVariables false
namespace Go.Proofs.Ytfldmpmaifjcbaa
open Go Go.Hs
attribute [local go_sem] frzBO frzBO' length_boO spRows_flat' true_and length_spRows spTake' enRows_frz' enRows_ex AV.isS dltT dltF dleT dleF En.cs length_enRows Tm.cs length_tRows eqT eqF beT beF bneT bneF

end Go.Proofs.Ytfldmpmaifjcbaa
