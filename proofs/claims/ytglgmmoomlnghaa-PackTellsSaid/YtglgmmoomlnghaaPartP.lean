/-
  PLAIN: the classes of the bytes by sets of bytes.
-/
import Derived.Test.YtglgmmoomlnghaaHty
import Derived.Test.YtglgmmoomlnghaaPkP
import Derived.Lib.Builder
import Derived.Lib.UnsafeStr
import Derived.Laws.Externs
import Derived.MapKept
set_option linter.unusedSimpArgs false
namespace Go.Proofs.Ytglgmmoomlnghaa
open Go Go.Hs

structure St where
  s0 : Int
  s1 : Int
  s2 : Int
  s3 : Int
instance : Inhabited St := ⟨⟨0,0,0,0⟩⟩
def St.cs (s : St) : List AC := [.im (.int .u64 s.s0),.im (.int .u64 s.s1),.im (.int .u64 s.s2),.im (.int .u64 s.s3)]
def St.wf (s : St) : Prop := (0 ≤ s.s0 ∧ s.s0 ≤ 18446744073709551615) ∧ (0 ≤ s.s1 ∧ s.s1 ≤ 18446744073709551615) ∧ (0 ≤ s.s2 ∧ s.s2 ≤ 18446744073709551615) ∧ (0 ≤ s.s3 ∧ s.s3 ≤ 18446744073709551615)
/-- A word of a set. -/
def St.w (s : St) (i : Nat) : Int := [s.s0,s.s1,s.s2,s.s3].getD i 0
def hasB (s : St) (b : Nat) : Bool := (s.w (b / 64)).toNat.testBit (b % 64)

/-! What sets say of a byte, as a string's bytes. -/
def keyL (l : List St) (b : Nat) : List Int := l.map fun s => if hasB s b then 49 else 48
def keyS (l : List St) (b : Nat) : ByteArray := bytesS (keyL l b)
theorem beq_ba {a b : ByteArray} : (a == b) = true ↔ a = b := Go.MapKept.bytes_beq a b
theorem mFind_snoc {l : List (ByteArray × Int)} {k k2 : ByteArray} {v : Int} : mFind (l ++ [(k2,v)]) k = (mFind l k).or (if k = k2 then some v else none) := by
  induction l with
  | nil =>
    by_cases e : k = k2
    · simp [mFind,e,beq_ba.2 rfl]
    · have : (k == k2) = false := by cases h : (k == k2) <;> first|rfl|exact absurd (beq_ba.1 h) e
      simp [mFind,this,e]
  | cons x r ih =>
    simp only [List.cons_append,mFind,ih]
    split <;> simp

/-- The classes of the first bytes, and what is known of them. -/
def clsN (l : List St) : Nat → List Int × List (ByteArray × Int)
  | 0 => ([],[])
  | b + 1 => match mFind (clsN l b).2 (keyS l b) with
    | some c => ((clsN l b).1 ++ [c],(clsN l b).2)
    | none => ((clsN l b).1 ++ [((clsN l b).2.length : Int)],(clsN l b).2 ++ [(keyS l b,((clsN l b).2.length : Int))])
theorem clsN_length {l : List St} : ∀ n,(clsN l n).1.length = n
  | 0 => rfl
  | n + 1 => by
    have := clsN_length (l := l) n
    simp only [clsN]
    split <;> simp [this]
theorem gD_lt {o : List Int} {x d : Int} {j : Nat} (h : j < o.length) : (o ++ [x]).getD j d = o.getD j d := by
  simp only [List.getD_eq_getElem?_getD]
  rw [List.getElem?_append_left h]
theorem gD_eq {o : List Int} {x d : Int} {j : Nat} (h : j = o.length) : (o ++ [x]).getD j d = x := by
  subst h
  simp only [List.getD_eq_getElem?_getD]
  rw [List.getElem?_append_right (Nat.le_refl _)]
  simp
/-- Each byte's class is what is known of its key; what is known is of a byte; the classes are numbered one by one. -/
structure Cls (l : List St) (n : Nat) (o : List Int) (kn : List (ByteArray × Int)) : Prop where
  len : o.length = n
  ats : ∀ b,b < n → mFind kn (keyS l b) = some (o.getD b 0)
  of : ∀ k c,mFind kn k = some c → ∃ b,b < n ∧ keyS l b = k ∧ 0 ≤ c ∧ c < kn.length
  inj : ∀ k k' c,mFind kn k = some c → mFind kn k' = some c → k = k'
  le : kn.length ≤ n
theorem cls {l : List St} : ∀ n,Cls l n (clsN l n).1 (clsN l n).2
  | 0 => ⟨rfl,by omega,by intro k c h;simp [clsN,mFind] at h,by intro k k' c h;simp [clsN,mFind] at h,by simp [clsN]⟩
  | n + 1 => by
    have h := cls (l := l) n
    have hl := h.len
    refine ⟨clsN_length _,?_,?_,?_,?_⟩
    · intro b hb
      simp only [clsN]
      split
      · rename_i c hc
        by_cases e : b = n
        · subst e;simp only;rw [gD_eq (by omega)];exact hc
        · simp only;rw [gD_lt (by omega)];exact h.ats b (by omega)
      · rename_i hc
        simp only [mFind_snoc]
        by_cases e : b = n
        · subst e;rw [gD_eq (by omega),hc];simp
        · rw [gD_lt (by omega),h.ats b (by omega)];simp
    · intro k c hk
      simp only [clsN] at hk ⊢
      split at hk
      · obtain ⟨b,h1,h2,h3⟩ := h.of k c hk
        refine ⟨b,by omega,h2,?_⟩
        rename_i hc
        simp only [hc];exact h3
      · rename_i hc
        simp only [hc,List.length_append,List.length_cons,List.length_nil]
        simp only [mFind_snoc,Option.or_eq_some_iff] at hk
        rcases hk with hk|⟨_,hk⟩
        · obtain ⟨b,h1,h2,h3⟩ := h.of k c hk
          exact ⟨b,by omega,h2,by omega⟩
        · split at hk
          · rename_i e
            simp at hk
            exact ⟨n,by omega,e.symm,by omega⟩
          · cases hk
    · intro k k' c hk hk'
      simp only [clsN] at hk hk'
      split at hk
      · rename_i hc;simp only [hc] at hk';exact h.inj k k' c hk hk'
      · rename_i hc
        simp only [hc] at hk'
        simp only [mFind_snoc,Option.or_eq_some_iff] at hk hk'
        rcases hk with hk|⟨_,hk⟩ <;> rcases hk' with hk'|⟨_,hk'⟩
        · exact h.inj k k' c hk hk'
        · split at hk'
          · have := h.of k c hk
            simp at hk'
            obtain ⟨b,h1,h2,h3⟩ := this
            omega
          · cases hk'
        · split at hk
          · have := h.of k' c hk'
            simp at hk
            obtain ⟨b,h1,h2,h3⟩ := this
            omega
          · cases hk
        · split at hk
          · split at hk'
            · rename_i e1 e2;rw [e1,e2]
            · cases hk'
          · cases hk
    · have := h.le
      simp only [clsN]
      split
      · simp only;omega
      · simp;omega

/-! Whether numbers are classes, and the least byte of each. -/
def nextN (cl : List Int) : Nat → Option Nat
  | 0 => some 0
  | i + 1 => match nextN cl i with
    | none => none
    | some m => if cl.getD i 0 < 0 ∨ (m : Int) < cl.getD i 0 then none else some (if cl.getD i 0 = m then m + 1 else m)
def rightC (cl : List Int) : Bool := decide (cl.length = 256) && (nextN cl cl.length).isSome
def leastN (cl : List Int) : Nat → List Int
  | 0 => []
  | i + 1 => if cl.getD i 0 = (leastN cl i).length then leastN cl i ++ [(i : Int)] else leastN cl i
def leastC (cl : List Int) : List Int := if rightC cl then leastN cl 256 else []
theorem nextN_none {cl : List Int} {i j : Nat} (h : nextN cl i = none) (hij : i ≤ j) : nextN cl j = none := by
  induction j with
  | zero => have : i = 0 := by omega
            subst this;exact h
  | succ j ih =>
    by_cases e : i = j + 1
    · subst e;exact h
    · simp only [nextN,ih (by omega)]
theorem nextN_le {cl : List Int} : ∀ {i m : Nat},nextN cl i = some m → m ≤ i
  | 0,m,h => by simp [nextN] at h;omega
  | i + 1,m,h => by
    simp only [nextN] at h
    split at h
    · cases h
    · rename_i m' hm'
      have ih := nextN_le hm'
      split at h
      · cases h
      · simp only [Option.some.injEq] at h
        split at h <;> omega
/-! With one set more. -/
end Go.Proofs.Ytglgmmoomlnghaa
