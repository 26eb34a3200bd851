/-
  PLAIN: sets of bytes.
-/
import Derived.Test.YtfldmpmaifjcbaaHty
import Derived.Test.YtfldmpmaifjcbaaHs17
set_option linter.unusedSimpArgs false
namespace Go.Proofs.Ytfldmpmaifjcbaa
open Go Go.Hs

structure St where
  s0 : Int
  s1 : Int
  s2 : Int
  s3 : Int
instance : Inhabited St := ⟨⟨0,0,0,0⟩⟩
def St.cs (s : St) : List AC := [.im (.int .u64 s.s0),.im (.int .u64 s.s1),.im (.int .u64 s.s2),.im (.int .u64 s.s3)]
def sRows (l : List St) : List (List AC) := l.map St.cs
def sAt (l : List St) (i : Nat) : St := l.getD i default
def St.wf (s : St) : Prop := (0 ≤ s.s0 ∧ s.s0 ≤ 18446744073709551615) ∧ (0 ≤ s.s1 ∧ s.s1 ≤ 18446744073709551615) ∧ (0 ≤ s.s2 ∧ s.s2 ≤ 18446744073709551615) ∧ (0 ≤ s.s3 ∧ s.s3 ≤ 18446744073709551615)
theorem length_sRows (l : List St) : (sRows l).length = l.length := by simp [sRows]
theorem sRows_get (l : List St) (i : Nat) : (sRows l)[i]? = (l[i]?).map St.cs := by simp [sRows]
theorem getSt {l : List St} {i : Nat} : getR [.im (.int .u64 0),.im (.int .u64 0),.im (.int .u64 0),.im (.int .u64 0)] (sRows l) i 0 4 = (sAt l i).cs := by
  unfold getR sAt;rw [sRows_get]
  cases h : l[i]? with
  | none => simp [List.getD_eq_getElem?_getD,h];rfl
  | some t => simp [List.getD_eq_getElem?_getD,h];rfl
theorem sRows_frz {l : List St} : AC.frz.frzLL (sRows l) = sRows l := by
  show frzLL _ = _
  rw [frzLL_eq]
  simp [sRows,frzL_eq,AC.frz,St.cs]
theorem sRows_per {l : List St} : (sRows l).all (fun e => e.all AC.per) = true := by simp [sRows,AC.per,St.cs]
theorem sRows_ex {l : List St} {a b : Nat} : ex (sRows l) a b = sRows (ex l a b) := by simp [sRows,ex_eq,List.map_take,List.map_drop]
theorem sRows_take {l : List St} {a : Nat} : (sRows l).take a = sRows (l.take a) := by simp [sRows,List.map_take]
/-- A word of a set. -/
def St.w (s : St) (i : Nat) : Int := [s.s0,s.s1,s.s2,s.s3].getD i 0
theorem getW {a b c d : Int} {i : Nat} : ([AC.im (.int .u64 a),AC.im (.int .u64 b),AC.im (.int .u64 c),AC.im (.int .u64 d)][i]?).getD (.im (.int .u64 0)) = .im (.int .u64 ((St.mk a b c d).w i)) := by
  match i with
  | 0|1|2|3 => rfl
  | n + 4 => simp [St.w]
theorem St.w_wf {s : St} (h : s.wf) (i : Nat) : 0 ≤ s.w i ∧ s.w i ≤ 18446744073709551615 := by
  unfold St.wf at h
  match i with
  | 0 => exact h.1
  | 1 => exact h.2.1
  | 2 => exact h.2.2.1
  | 3 => exact h.2.2.2
  | n + 4 => simp [St.w]

def hasB (s : St) (b : Nat) : Bool := (s.w (b / 64)).toNat.testBit (b % 64)

theorem ofInt64_toNat {a : Int} (h0 : 0 ≤ a) (h1 : a ≤ 18446744073709551615) : (BitVec.ofInt 64 a).toNat = a.toNat := by
  rw [BitVec.toNat_ofInt]
  rw [Int.emod_eq_of_lt h0 (by omega)]

theorem and_bit (a k : Nat) : a &&& 2 ^ k = if a.testBit k then 2 ^ k else 0 := by
  apply Nat.eq_of_testBit_eq
  intro i
  rw [Nat.testBit_and,Nat.testBit_two_pow]
  by_cases e : k = i
  · subst e
    cases h : a.testBit k <;> simp
  · cases h : a.testBit k <;> simp [e,Nat.testBit_two_pow]
theorem has_and {a : Int} {k : Nat} (h0 : 0 ≤ a) (h1 : a ≤ 18446744073709551615) (hk : k < 64) :
    (IntKind.u64.wrap (BitVec.ofInt 64 a &&& BitVec.ofInt 64 (2 ^ k)).toNat != 0) = a.toNat.testBit k := by
  have e1 := ofInt64_toNat h0 h1
  have hp : (2 : Nat) ^ k < 2 ^ 64 := Nat.pow_lt_pow_right (by omega) hk
  have h2 : ((2 : Int) ^ k) = ((2 ^ k : Nat) : Int) := by simp
  have hpos := Nat.two_pow_pos k
  rw [h2,BitVec.toNat_and,e1]
  have hab := and_bit a.toNat k
  generalize 2 ^ k = q at *
  have e2 : (BitVec.ofInt 64 (q : Int)).toNat = q := by rw [ofInt64_toNat (by omega) (by omega)];simp
  rw [e2,hab]
  cases hb : a.toNat.testBit k with
  | false => simp [IntKind.wrap_u64]
  | true =>
    simp only [if_true]
    have : IntKind.u64.wrap (q : Int) = q := by rw [IntKind.wrap_u64];omega
    rw [this]
    simp;omega
theorem has_shr {a : Int} {k : Nat} (h0 : 0 ≤ a) (h1 : a ≤ 18446744073709551615) :
    (IntKind.u64.wrap (BitVec.ofInt 64 (a.fdiv (2 ^ k)) &&& BitVec.ofInt 64 1).toNat == 1) = a.toNat.testBit k := by
  obtain ⟨n,rfl⟩ : ∃ n : Nat,a = n := ⟨a.toNat,by omega⟩
  have h2 : ((2 : Int) ^ k) = ((2 ^ k : Nat) : Int) := by simp
  have hpos := Nat.two_pow_pos k
  rw [h2,Int.toNat_natCast,Nat.testBit_eq_decide_div_mod_eq]
  generalize 2 ^ k = q at *
  have e1 : (n : Int).fdiv q = ((n / q : Nat) : Int) := by
    rw [Int.fdiv_eq_ediv_of_nonneg _ (by omega)];rfl
  have hle : n / q ≤ n := Nat.div_le_self _ _
  rw [e1]
  generalize n / q = m at *
  rw [BitVec.toNat_and,ofInt64_toNat (by omega) (by omega)]
  have e2 : (BitVec.ofInt 64 1).toNat = 1 := rfl
  rw [e2,Int.toNat_natCast,Nat.and_one_is_mod,IntKind.wrap_u64]
  by_cases h : m % 2 = 1
  · simp [h]
  · have h0 : m % 2 = 0 := by omega
    simp [h0]

theorem shl1 {n : Int} (h0 : 0 ≤ n) (h1 : n < 64) : IntKind.u64.wrap (1 * 2 ^ n.toNat) = 2 ^ n.toNat := by
  rw [Int.one_mul]
  have h2 : ((2 : Int) ^ n.toNat) = ((2 ^ n.toNat : Nat) : Int) := by simp
  have hp : (2 : Nat) ^ n.toNat < 2 ^ 64 := Nat.pow_lt_pow_right (by omega) (by omega)
  rw [h2]
  generalize 2 ^ n.toNat = q at *
  rw [IntKind.wrap_u64]
  omega
theorem shr1 {n : Int} (h1 : n < 64) : min n.toNat 64 = n.toNat := Nat.min_eq_left (by omega)
end Go.Proofs.Ytfldmpmaifjcbaa
