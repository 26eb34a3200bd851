/-
  Parts of a proof, side by side.
-/
import Derived.Test.YtglgmmoomlnghaaHs17
/-
  THE HEAP SEMANTICS, part 18: more rules: what a function does with rows that are handed over, told for a nil slice in their place.
-/
namespace Go.Hs
open Go Go.RowKit

section
variable {P : Program} {w : World} {p : Nat → Prop}

theorem rdAs_nilSl {sz : Nat} {bs : List AV} : ∀ {as : List AV} {vs : List Value},RdAs w p vs (as ++ .c .nil :: bs) → RdAs w p vs (as ++ .c (.sl sz []) :: bs)
  | [],_,h => by
    cases h with
    | cons h t =>
      refine .cons ?_ t
      have h' : RdC w p _ .nil := h
      cases h'
      exact RdC.nilS sz 0
  | a :: as,_,h => by
    cases h with
    | cons h t => exact .cons h (rdAs_nilSl t)

/-- A nil slice is a slice of no rows. -/
theorem ContractH.nilArg {f : FuncId} (as : List AV) {bs : List AV} {sz : Nat} {H : Env} {R : AV → Env → Prop} (h : ContractH P f (as ++ .c (.sl sz []) :: bs) H R) : ContractH P f (as ++ .c .nil :: bs) H R :=
  ⟨h.callable,fun w p vs ow hp ha hO => h.calls w p vs ow hp (rdAs_nilSl ha) hO⟩

end
end Go.Hs

/-
  PLAIN: numbers as bytes; programs as numbers; the reader.
-/
set_option linter.unusedSimpArgs false
set_option linter.unusedVariables false
namespace Go.Proofs.Ytglgmmoomlnghaa
open Go Go.Hs

/-- The bytes of one number. -/
def putN : Nat → Int → List Int
  | 0,n => [n]
  | k + 1,n => if 128 ≤ n then (n % 128 + 128) :: putN k (n / 128) else [n]
def putF (b : List Int) : List Int → List Int
  | [] => b
  | n :: r => putF (if n < 0 ∨ 2097151 < n then b else b ++ putN 3 n) r

theorem putF_at {l : List Int} {i : Nat} (h : i < l.length) (b : List Int) : putF b (l.drop i) = putF (if l.getD i 0 < 0 ∨ 2097151 < l.getD i 0 then b else b ++ putN 3 (l.getD i 0)) (l.drop (i + 1)) := by
  rw [List.drop_eq_getElem_cons h]
  simp only [putF,List.getD_eq_getElem?_getD,List.getElem?_eq_getElem h,Option.getD_some]

def wt (i : Nat) : Int := if i = 0 then 1 else if i = 1 then 128 else 16384
def takeG (i : Nat) (n : Int) : List Int → Int × Int × Int
  | [] => (0,0,2)
  | x :: r => if (128 ≤ x ∧ i = 2) ∨ (x = 0 ∧ 0 < i) then (0,0,11) else if x < 128 then (n + x * wt i,(i : Int) + 1,0) else takeG (i + 1) (n + (x - 128) * wt i) r

theorem takeG_at {l : List Int} {i : Nat} (h : i < l.length) (n : Int) : takeG i n (l.drop i) = if (128 ≤ l.getD i 0 ∧ i = 2) ∨ (l.getD i 0 = 0 ∧ 0 < i) then (0,0,11) else if l.getD i 0 < 128 then (n + l.getD i 0 * wt i,(i : Int) + 1,0) else takeG (i + 1) (n + (l.getD i 0 - 128) * wt i) (l.drop (i + 1)) := by
  rw [List.drop_eq_getElem_cons h]
  simp only [takeG,List.getD_eq_getElem?_getD,List.getElem?_eq_getElem h,Option.getD_some]

def Bytes (l : List Int) : Prop := ∀ x ∈ l,0 ≤ x ∧ x ≤ 255
theorem Bytes.at {l : List Int} (h : Bytes l) (i : Nat) : 0 ≤ l.getD i 0 ∧ l.getD i 0 ≤ 255 := by
  rw [List.getD_eq_getElem?_getD]
  cases hi : l[i]? with
  | none => simp
  | some x => exact h x (List.mem_of_getElem? hi)

theorem putF_front : ∀ (l b : List Int),putF b l = b ++ putF [] l
  | [],b => by simp [putF]
  | n :: r,b => by
    simp only [putF]
    rw [putF_front r (if n < 0 ∨ 2097151 < n then b else b ++ putN 3 n),putF_front r (if n < 0 ∨ 2097151 < n then [] else [] ++ putN 3 n)]
    split <;> simp

theorem putN_len (n : Int) : (putN 3 n).length ≤ 4 := by
  simp only [putN];split <;> (try split) <;> (try split) <;> simp

theorem putF_len : ∀ (l b : List Int),(putF b l).length ≤ b.length + 4 * l.length
  | [],b => by simp [putF]
  | n :: r,b => by
    simp only [putF]
    have := putF_len r (if n < 0 ∨ 2097151 < n then b else b ++ putN 3 n)
    have h2 := putN_len n
    have h3 : (if n < 0 ∨ 2097151 < n then b else b ++ putN 3 n).length ≤ b.length + 4 := by
      split
      · omega
      · simp;omega
    simp only [List.length_cons];omega

theorem take_putN (n : Int) (h0 : 0 ≤ n) (h1 : n ≤ 2097151) (r : List Int) : takeG 0 0 (putN 3 n ++ r) = (n,((putN 3 n).length : Int),0) := by
  simp only [putN]
  split
  · rename_i a1
    split
    · rename_i a2
      have a3 : ¬ 128 ≤ n / 128 / 128 := by omega
      rw [if_neg a3]
      simp only [List.cons_append,List.nil_append,takeG]
      rw [if_neg (by omega),if_neg (by omega),if_neg (by omega),if_neg (by omega),if_neg (by omega),if_pos (by omega)]
      simp [wt];omega
    · rename_i a2
      simp only [List.cons_append,List.nil_append,takeG]
      rw [if_neg (by omega),if_neg (by omega),if_neg (by omega),if_pos (by omega)]
      simp [wt];omega
  · rename_i a1
    simp only [List.cons_append,List.nil_append,takeG]
    rw [if_neg (by omega),if_pos (by omega)]
    simp [wt]


end Go.Proofs.Ytglgmmoomlnghaa
