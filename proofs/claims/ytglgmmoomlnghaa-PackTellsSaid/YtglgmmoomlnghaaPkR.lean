/-
  PLAIN: what the reader keeps; rounds of reading.
-/
import Derived.Test.YtglgmmoomlnghaaPkV
set_option linter.unusedSimpArgs false
set_option linter.unusedVariables false
namespace Go.Proofs.Ytglgmmoomlnghaa
open Go Go.Hs

theorem takeG_rng : ∀ (l : List Int) (i : Nat) (n : Int),i ≤ 2 → 0 ≤ n → n < wt i → Bytes l →
    0 ≤ (takeG i n l).1 ∧ (takeG i n l).1 ≤ 2097151 ∧ 0 ≤ (takeG i n l).2.1 ∧ (takeG i n l).2.1 ≤ (i : Int) + l.length ∧ ((takeG i n l).2.2 = 0 ∨ (takeG i n l).2.2 = 2 ∨ (takeG i n l).2.2 = 11)
  | [],i,n,h1,h2,h3,hb => by simp [takeG]
  | x :: l,i,n,h1,h2,h3,hb => by
    have hx := hb x (by simp)
    have hl : Bytes l := fun y hy => hb y (by simp [hy])
    have w0 : wt 0 = 1 := rfl
    have w1 : wt 1 = 128 := rfl
    have w2 : wt 2 = 16384 := rfl
    rcases (show i = 0 ∨ i = 1 ∨ i = 2 by omega) with rfl|rfl|rfl
    · simp only [takeG]
      rw [if_neg (by omega)]
      split
      · rw [w0];dsimp only [List.length_cons];omega
      · have := takeG_rng l (0 + 1) (n + (x - 128) * wt 0) (by omega) (by rw [w0];omega) (by rw [w0];show _ < (128 : Int);omega) hl
        dsimp only [List.length_cons];omega
    · simp only [takeG]
      split
      · dsimp only [List.length_cons];omega
      · split
        · rw [w1];dsimp only [List.length_cons];omega
        · have := takeG_rng l (1 + 1) (n + (x - 128) * wt 1) (by omega) (by rw [w1];omega) (by rw [w1];show _ < (16384 : Int);omega) hl
          dsimp only [List.length_cons];omega
    · simp only [takeG]
      split
      · dsimp only [List.length_cons];omega
      · split
        · rw [w2];dsimp only [List.length_cons];omega
        · exfalso;rename_i g1 g2;exact g1 (.inl ⟨by omega,trivial⟩)
theorem take_rng {b : List Int} (hb : Bytes b) : 0 ≤ (takeG 0 0 b).1 ∧ (takeG 0 0 b).1 ≤ 2097151 ∧ 0 ≤ (takeG 0 0 b).2.1 ∧ (takeG 0 0 b).2.1 ≤ (b.length : Int) ∧ ((takeG 0 0 b).2.2 = 0 ∨ (takeG 0 0 b).2.2 = 2 ∨ (takeG 0 0 b).2.2 = 11) := by
  have := takeG_rng b 0 0 (by omega) (by omega) (by decide) hb
  simpa using this

/-- What a reader keeps to. -/
structure Kp (s : RS) : Prop where
  by_ : Bytes s.1
  len : s.1.length ≤ 100000000000
  err : s.2 = 0 ∨ s.2 = 2 ∨ s.2 = 11
def Keeps {α : Type} (P : Rd α) : Prop := ∀ s,Kp s → Kp (P s).2
theorem ret_keeps {α : Type} {a : α} : Keeps (ret a) := fun s h => h
theorem bind_keeps {α β : Type} {P : Rd α} {Q : α → Rd β} (h : Keeps P) (h2 : ∀ a,Keeps (Q a)) : Keeps (bind P Q) := fun s hs => h2 _ _ (h s hs)
theorem next_keeps {m : Int} : Keeps (nextF m) := fun s h => by
  have hr := take_rng h.by_
  unfold nextF
  split
  · exact h
  · split
    · exact ⟨fun x hx => absurd hx (by simp),by simp,hr.2.2.2.2⟩
    · split
      · exact ⟨fun x hx => absurd hx (by simp),by simp,.inr (.inr rfl)⟩
      · exact ⟨h.by_.drop,by have := h.len;simp;omega,.inl rfl⟩
theorem many_keeps {α : Type} {P : Rd α} (hP : Keeps P) : ∀ k acc,Keeps (many P k acc)
  | 0,acc => fun s h => h
  | k + 1,acc => fun s h => by
    unfold many
    split
    · exact h
    · exact many_keeps hP k _ _ (hP s h)
theorem next_rng {m : Int} {s : RS} (hm : 0 ≤ m) (h : Kp s) : 0 ≤ (nextF m s).1 ∧ (nextF m s).1 ≤ m ∧ (nextF m s).1 ≤ 2097151 := by
  have hr := take_rng h.by_
  unfold nextF
  split
  · simp;omega
  · split
    · simp;omega
    · split
      · simp;omega
      · simp only;omega
theorem many_stop {α : Type} {P : Rd α} {k : Nat} {acc : List α} {s : RS} (h : k = 0 ∨ s.2 ≠ 0) : many P k acc s = (acc,s) := by
  cases k with
  | zero => rfl
  | succ k =>
    unfold many
    rw [if_pos (by rcases h with h|h;omega;exact h)]
theorem many_go {α : Type} {P : Rd α} {k : Nat} {acc : List α} {s : RS} (h : s.2 = 0) : many P (k + 1) acc s = many P k (acc ++ [(P s).1]) (P s).2 := by
  conv => lhs;unfold many
  rw [if_neg (by simpa using h)]
theorem move_keeps : Keeps moveF := bind_keeps next_keeps fun _ => bind_keeps next_keeps fun _ => ret_keeps
theorem acc_keeps : Keeps accF := bind_keeps next_keeps fun _ => ret_keeps
theorem way_keeps : Keeps wayF := bind_keeps next_keeps fun _ => bind_keeps next_keeps fun _ => bind_keeps (many_keeps move_keeps _ _) fun _ => ret_keeps
theorem stand_keeps : Keeps standF := bind_keeps next_keeps fun _ => bind_keeps (many_keeps acc_keeps _ _) fun _ => bind_keeps next_keeps fun _ => bind_keeps (many_keeps way_keeps _ _) fun _ => ret_keeps

/-- The program's bytes beside a plain reader: behind an error they may be any. -/
structure RdOk (b : List Int) (s : RS) : Prop where
  bq : s.2 = 0 → b = s.1
  kb : Bytes b
  lb : b.length ≤ 100000000000
  k : Kp s

end Go.Proofs.Ytglgmmoomlnghaa
