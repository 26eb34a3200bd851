/-
  Parts of a proof, side by side.
-/
import Derived.Test.YtfldmpmaifjcbaaHty
import Derived.Test.YtfldmpmaifjcbaaHs17
/-
  PLAIN: sets of bytes.
-/
set_option linter.unusedSimpArgs false
namespace Go.Proofs.Ytfldmpmaifjcbaa
open Go Go.Hs

structure St where
  s0 : Int
  s1 : Int
  s2 : Int
  s3 : Int
instance : Inhabited St := ⟨⟨0,0,0,0⟩⟩
def St.cs (s : St) : List AC := [.im (.int .u64 s.s0),.im (.int .u64 s.s1),.im (.int .u64 s.s2),.im (.int .u64 s.s3)]
def sRows (l : List St) : List (List AC) := l.map St.cs
def sAt (l : List St) (i : Nat) : St := l.getD i default
def St.wf (s : St) : Prop := (0 ≤ s.s0 ∧ s.s0 ≤ 18446744073709551615) ∧ (0 ≤ s.s1 ∧ s.s1 ≤ 18446744073709551615) ∧ (0 ≤ s.s2 ∧ s.s2 ≤ 18446744073709551615) ∧ (0 ≤ s.s3 ∧ s.s3 ≤ 18446744073709551615)
theorem length_sRows (l : List St) : (sRows l).length = l.length := by simp [sRows]
theorem sRows_get (l : List St) (i : Nat) : (sRows l)[i]? = (l[i]?).map St.cs := by simp [sRows]
theorem getSt {l : List St} {i : Nat} : getR [.im (.int .u64 0),.im (.int .u64 0),.im (.int .u64 0),.im (.int .u64 0)] (sRows l) i 0 4 = (sAt l i).cs := by
  unfold getR sAt;rw [sRows_get]
  cases h : l[i]? with
  | none => simp [List.getD_eq_getElem?_getD,h];rfl
  | some t => simp [List.getD_eq_getElem?_getD,h];rfl
theorem sRows_frz {l : List St} : AC.frz.frzLL (sRows l) = sRows l := by
  show frzLL _ = _
  rw [frzLL_eq]
  simp [sRows,frzL_eq,AC.frz,St.cs]
theorem sRows_per {l : List St} : (sRows l).all (fun e => e.all AC.per) = true := by simp [sRows,AC.per,St.cs]
theorem sRows_ex {l : List St} {a b : Nat} : ex (sRows l) a b = sRows (ex l a b) := by simp [sRows,ex_eq,List.map_take,List.map_drop]
theorem sRows_take {l : List St} {a : Nat} : (sRows l).take a = sRows (l.take a) := by simp [sRows,List.map_take]
/-- A word of a set. -/
def St.w (s : St) (i : Nat) : Int := [s.s0,s.s1,s.s2,s.s3].getD i 0
theorem getW {a b c d : Int} {i : Nat} : ([AC.im (.int .u64 a),AC.im (.int .u64 b),AC.im (.int .u64 c),AC.im (.int .u64 d)][i]?).getD (.im (.int .u64 0)) = .im (.int .u64 ((St.mk a b c d).w i)) := by
  match i with
  | 0|1|2|3 => rfl
  | n + 4 => simp [St.w]
theorem St.w_wf {s : St} (h : s.wf) (i : Nat) : 0 ≤ s.w i ∧ s.w i ≤ 18446744073709551615 := by
  unfold St.wf at h
  match i with
  | 0 => exact h.1
  | 1 => exact h.2.1
  | 2 => exact h.2.2.1
  | 3 => exact h.2.2.2
  | n + 4 => simp [St.w]

def hasB (s : St) (b : Nat) : Bool := (s.w (b / 64)).toNat.testBit (b % 64)

theorem ofInt64_toNat {a : Int} (h0 : 0 ≤ a) (h1 : a ≤ 18446744073709551615) : (BitVec.ofInt 64 a).toNat = a.toNat := by
  rw [BitVec.toNat_ofInt]
  rw [Int.emod_eq_of_lt h0 (by omega)]

theorem and_bit (a k : Nat) : a &&& 2 ^ k = if a.testBit k then 2 ^ k else 0 := by
  apply Nat.eq_of_testBit_eq
  intro i
  rw [Nat.testBit_and,Nat.testBit_two_pow]
  by_cases e : k = i
  · subst e
    cases h : a.testBit k <;> simp
  · cases h : a.testBit k <;> simp [e,Nat.testBit_two_pow]
theorem has_and {a : Int} {k : Nat} (h0 : 0 ≤ a) (h1 : a ≤ 18446744073709551615) (hk : k < 64) :
    (IntKind.u64.wrap (BitVec.ofInt 64 a &&& BitVec.ofInt 64 (2 ^ k)).toNat != 0) = a.toNat.testBit k := by
  have e1 := ofInt64_toNat h0 h1
  have hp : (2 : Nat) ^ k < 2 ^ 64 := Nat.pow_lt_pow_right (by omega) hk
  have h2 : ((2 : Int) ^ k) = ((2 ^ k : Nat) : Int) := by simp
  have hpos := Nat.two_pow_pos k
  rw [h2,BitVec.toNat_and,e1]
  have hab := and_bit a.toNat k
  generalize 2 ^ k = q at *
  have e2 : (BitVec.ofInt 64 (q : Int)).toNat = q := by rw [ofInt64_toNat (by omega) (by omega)];simp
  rw [e2,hab]
  cases hb : a.toNat.testBit k with
  | false => simp [IntKind.wrap_u64]
  | true =>
    simp only [if_true]
    have : IntKind.u64.wrap (q : Int) = q := by rw [IntKind.wrap_u64];omega
    rw [this]
    simp;omega
theorem has_shr {a : Int} {k : Nat} (h0 : 0 ≤ a) (h1 : a ≤ 18446744073709551615) :
    (IntKind.u64.wrap (BitVec.ofInt 64 (a.fdiv (2 ^ k)) &&& BitVec.ofInt 64 1).toNat == 1) = a.toNat.testBit k := by
  obtain ⟨n,rfl⟩ : ∃ n : Nat,a = n := ⟨a.toNat,by omega⟩
  have h2 : ((2 : Int) ^ k) = ((2 ^ k : Nat) : Int) := by simp
  have hpos := Nat.two_pow_pos k
  rw [h2,Int.toNat_natCast,Nat.testBit_eq_decide_div_mod_eq]
  generalize 2 ^ k = q at *
  have e1 : (n : Int).fdiv q = ((n / q : Nat) : Int) := by
    rw [Int.fdiv_eq_ediv_of_nonneg _ (by omega)];rfl
  have hle : n / q ≤ n := Nat.div_le_self _ _
  rw [e1]
  generalize n / q = m at *
  rw [BitVec.toNat_and,ofInt64_toNat (by omega) (by omega)]
  have e2 : (BitVec.ofInt 64 1).toNat = 1 := rfl
  rw [e2,Int.toNat_natCast,Nat.and_one_is_mod,IntKind.wrap_u64]
  by_cases h : m % 2 = 1
  · simp [h]
  · have h0 : m % 2 = 0 := by omega
    simp [h0]

theorem shl1 {n : Int} (h0 : 0 ≤ n) (h1 : n < 64) : IntKind.u64.wrap (1 * 2 ^ n.toNat) = 2 ^ n.toNat := by
  rw [Int.one_mul]
  have h2 : ((2 : Int) ^ n.toNat) = ((2 ^ n.toNat : Nat) : Int) := by simp
  have hp : (2 : Nat) ^ n.toNat < 2 ^ 64 := Nat.pow_lt_pow_right (by omega) (by omega)
  rw [h2]
  generalize 2 ^ n.toNat = q at *
  rw [IntKind.wrap_u64]
  omega
theorem shr1 {n : Int} (h1 : n < 64) : min n.toNat 64 = n.toNat := Nat.min_eq_left (by omega)
end Go.Proofs.Ytfldmpmaifjcbaa

/-
  PLAIN: what a node can span, as bits.
-/
set_option linter.unusedSimpArgs false
set_option linter.unusedVariables false
namespace Go.Proofs.Ytfldmpmaifjcbaa
open Go Go.Hs

def uRow (r : List Int) : List AC := r.map fun n => .im (.int .u64 n)
def uRows (M : List (List Int)) : List (List AC) := M.map uRow
def mAt (M : List (List Int)) (q : Nat) : List Int := M.getD q []
theorem length_uRows {M : List (List Int)} : (uRows M).length = M.length := by simp [uRows]
theorem length_uRow {r : List Int} : (uRow r).length = r.length := by simp [uRow]
theorem getDU {M : List (List Int)} {q : Nat} (h : q < M.length) : (uRows M).getD q [] = uRow (mAt M q) := by
  simp [uRows,mAt,List.getD_eq_getElem?_getD,h]
theorem getU {z : AC} {M : List (List Int)} {q c : Nat} (h : q < M.length) (hc : c < (mAt M q).length) : getC z (uRows M) q c = .im (.int .u64 ((mAt M q).getD c 0)) := by
  have e : (uRows M)[q]? = some (uRow (mAt M q)) := by simp [uRows,mAt,List.getD_eq_getElem?_getD,h]
  unfold getC
  rw [e,Option.bind_some]
  simp [uRow,List.getD_eq_getElem?_getD,hc]
theorem setU {M : List (List Int)} {q c : Nat} {n : Int} (h : q < M.length) (hc : c < (mAt M q).length) : (uRows M).set q (splice ((uRows M).getD q []) c [.im (.int .u64 n)]) = uRows (M.set q ((mAt M q).set c n)) := by
  rw [getDU h,splice_one (by rw [length_uRow];exact hc)]
  simp [uRows,uRow,List.map_set]
theorem setUr {M : List (List Int)} {q : Nat} {r : List Int} : (uRows M).set q (uRow r) = uRows (M.set q r) := by simp [uRows,List.map_set]
theorem mAt_set {M : List (List Int)} {q q' : Nat} {r : List Int} (h : q < M.length) : mAt (M.set q r) q' = if q = q' then r else mAt M q' := by
  unfold mAt
  simp only [List.getD_eq_getElem?_getD,List.getElem?_set]
  by_cases e : q = q'
  · subst e;simp [h]
  · simp [e]
theorem tb_self {M : List (List Int)} {q : Nat} {r : List Int} (h : q < M.length) : mAt (M.set q r) q = r := by rw [mAt_set h,if_pos rfl]
theorem tb_other {M : List (List Int)} {q q' : Nat} {r : List Int} (h : q < M.length) (e : q ≠ q') : mAt (M.set q r) q' = mAt M q' := by rw [mAt_set h,if_neg e]
theorem getUs {z : AC} {M : List (List Int)} {r : List Int} {q c : Nat} (h : q < M.length) (hc : c < r.length) : getC z (uRows (M.set q r)) q c = .im (.int .u64 (r.getD c 0)) := by
  rw [getU (by rw [List.length_set];exact h) (by rw [tb_self h];exact hc),tb_self h]
theorem getUo {z : AC} {M : List (List Int)} {r : List Int} {q a c : Nat} (h : q < M.length) (ha : a < M.length) (e : q ≠ a) (hc : c < (mAt M a).length) : getC z (uRows (M.set q r)) a c = .im (.int .u64 ((mAt M a).getD c 0)) := by
  rw [getU (by rw [List.length_set];exact ha) (by rw [tb_other h e];exact hc),tb_other h e]
theorem setUs {M : List (List Int)} {r : List Int} {q c : Nat} {n : Int} (h : q < M.length) (hc : c < r.length) : (uRows (M.set q r)).set q (splice ((uRows (M.set q r)).getD q []) c [.im (.int .u64 n)]) = uRows (M.set q (r.set c n)) := by
  rw [setU (by rw [List.length_set];exact h) (by rw [tb_self h];exact hc),tb_self h,List.set_set]
theorem getUt {z : AC} {M : List (List Int)} {r : List Int} {q c d : Nat} {v : Int} (h : q < M.length) (hc : c < r.length) : getC z (uRows (M.set q (r.set d v))) q c = .im (.int .u64 ((r.set d v).getD c 0)) := getUs h (by rw [List.length_set];exact hc)
theorem setUt {M : List (List Int)} {r : List Int} {q c d : Nat} {v n : Int} (h : q < M.length) (hc : c < r.length) : (uRows (M.set q (r.set d v))).set q (splice ((uRows (M.set q (r.set d v))).getD q []) c [.im (.int .u64 n)]) = uRows (M.set q ((r.set d v).set c n)) := setUs h (by rw [List.length_set];exact hc)
theorem shlj {j : Nat} : IntKind.u64.wrap (1 * 2 ^ min (j % 64) 64) = 2 ^ (j % 64) := by
  rw [show min (j % 64) 64 = ((j % 64 : Nat) : Int).toNat by rw [Int.toNat_natCast];omega,shl1 (by omega) (by omega),Int.toNat_natCast]
theorem uRow_per {r : List Int} : (uRow r).all AC.per = true := by simp [uRow,AC.per]
theorem getDUo {M : List (List Int)} {r : List Int} {q a : Nat} (h : q < M.length) (ha : a < M.length) (e : q ≠ a) : (uRows (M.set q r)).getD a [] = uRow (mAt M a) := by
  rw [getDU (by rw [List.length_set];exact ha),tb_other h e]
theorem chunk_per : ∀ {n : Nat} {l : List AC},l.all AC.per = true → (chunk 2 n l).all (fun e => e.all AC.per) = true
  | 0,_,_ => rfl
  | n + 1,l,h => by
    have h' := List.all_eq_true.1 h
    rw [chunk,List.all_cons,chunk_per (List.all_eq_true.2 fun x hx => h' x (List.mem_of_mem_drop hx)),Bool.and_true]
    exact List.all_eq_true.2 fun x hx => h' x (List.mem_of_mem_take hx)
theorem chunk_perU {n : Nat} {r : List Int} : (chunk 2 n (uRow r)).all (fun e => e.all AC.per) = true := chunk_per uRow_per
theorem setChunk {M : List (List Int)} {r r2 : List Int} {q : Nat} (h : q < M.length) (hr : r.length = 130) (hr2 : r2.length = 130) : (uRows (M.set q r)).set q (splice ((uRows (M.set q r)).getD q []) 0 (chunk 2 65 (uRow r2)).flatten) = uRows (M.set q r2) := by
  have e1 : (chunk 2 65 (uRow r2)).flatten = uRow r2 := by
    rw [chunk_flatten]
    exact List.take_of_length_le (by rw [length_uRow];omega)
  rw [e1,getDU (by rw [List.length_set];exact h),tb_self h]
  have e2 : splice (uRow r) 0 (uRow r2) = uRow r2 := by
    unfold splice
    rw [List.take_zero,List.nil_append,List.drop_of_length_le (by rw [length_uRow,length_uRow];omega),List.append_nil]
  rw [e2,setUr,List.set_set]
structure RowOk (r : List Int) : Prop where
  len : r.length = 130
  lo : ∀ c,0 ≤ r.getD c 0
  hi : ∀ c,r.getD c 0 ≤ 18446744073709551615
theorem RowOk.set {r : List Int} (h : RowOk r) {c : Nat} {x : Int} (h0 : 0 ≤ x) (h1 : x ≤ 18446744073709551615) : RowOk (r.set c x) := by
  refine ⟨by rw [List.length_set];exact h.len,fun d => ?_,fun d => ?_⟩
  · by_cases e : c = d
    · subst e
      by_cases hc : c < r.length
      · rw [getD_set_same hc];exact h0
      · rw [List.set_eq_of_length_le (by omega)];exact h.lo _
    · rw [getD_set_other e];exact h.lo _
  · by_cases e : c = d
    · subst e
      by_cases hc : c < r.length
      · rw [getD_set_same hc];exact h1
      · rw [List.set_eq_of_length_le (by omega)];exact h.hi _
    · rw [getD_set_other e];exact h.hi _
theorem rowOk0 : RowOk (List.replicate 130 0) := by
  have e : ∀ c,(List.replicate 130 (0 : Int)).getD c 0 = 0 := by
    intro c
    rw [List.getD_eq_getElem?_getD,List.getElem?_replicate]
    split <;> rfl
  exact ⟨by simp,fun c => by rw [e];omega,fun c => by rw [e];omega⟩

/-! Words. -/
def orW (a b : Int) : Int := IntKind.u64.wrap (BitVec.ofInt IntKind.u64.bits a ||| BitVec.ofInt IntKind.u64.bits b).toNat
theorem bin_or64 {P : Program} {g : Bool} {xt : TypeId} {xo yo : Operand} {a b : Int} {K : AV → Prop} : binK P g .or xt xo yo (.c (.im (.int .u64 a))) (.c (.im (.int .u64 b))) K = K (.c (.im (.int .u64 (orW a b)))) := by simp [binK,orW]
theorem orW_eq {a b : Int} (ha : 0 ≤ a ∧ a ≤ 18446744073709551615) (hb : 0 ≤ b ∧ b ≤ 18446744073709551615) : orW a b = ((a.toNat ||| b.toNat : Nat) : Int) := by
  have h1 : (BitVec.ofInt IntKind.u64.bits a).toNat = a.toNat := ofInt64_toNat ha.1 ha.2
  have h2 : (BitVec.ofInt IntKind.u64.bits b).toNat = b.toNat := ofInt64_toNat hb.1 hb.2
  have hlt : a.toNat ||| b.toNat < 2 ^ 64 := Nat.or_lt_two_pow (by omega) (by omega)
  unfold orW
  rw [BitVec.toNat_or,h1,h2,IntKind.wrap_u64]
  omega
theorem orW_in {a b : Int} (ha : 0 ≤ a ∧ a ≤ 18446744073709551615) (hb : 0 ≤ b ∧ b ≤ 18446744073709551615) : 0 ≤ orW a b ∧ orW a b ≤ 18446744073709551615 := by
  have hlt : a.toNat ||| b.toNat < 2 ^ 64 := Nat.or_lt_two_pow (by omega) (by omega)
  rw [orW_eq ha hb];omega
theorem orW_bit {a b : Int} (ha : 0 ≤ a ∧ a ≤ 18446744073709551615) (hb : 0 ≤ b ∧ b ≤ 18446744073709551615) (k : Nat) : (orW a b).toNat.testBit k = (a.toNat.testBit k || b.toNat.testBit k) := by
  rw [orW_eq ha hb,Int.toNat_natCast,Nat.testBit_or]
theorem pow_in {k : Nat} (h : k < 64) : 0 ≤ (2 : Int) ^ k ∧ (2 : Int) ^ k ≤ 18446744073709551615 ∧ ((2 : Int) ^ k).toNat = 2 ^ k := by
  have h2 : ((2 : Int) ^ k) = ((2 ^ k : Nat) : Int) := by simp
  have hp : (2 : Nat) ^ k < 2 ^ 64 := Nat.pow_lt_pow_right (by omega) h
  rw [h2]
  generalize 2 ^ k = q at *
  omega

/-! Bits of a row. -/
def bitR (r : List Int) (i j : Nat) : Bool := (r.getD (2 * i + j / 64) 0).toNat.testBit (j % 64)
def putR (r : List Int) (i j : Nat) : List Int := r.set (2 * i + j / 64) (orW (r.getD (2 * i + j / 64) 0) (2 ^ (j % 64)))
def orRow (r : List Int) (i : Nat) (a : List Int) (k : Nat) : List Int := (r.set (2 * i) (orW (r.getD (2 * i) 0) (a.getD (2 * k) 0))).set (2 * i + 1) (orW (r.getD (2 * i + 1) 0) (a.getD (2 * k + 1) 0))
theorem putR_eq {r : List Int} {i j : Nat} : r.set (i * 2 + j / 64) (orW (r.getD (i * 2 + j / 64) 0) (2 ^ (j % 64))) = putR r i j := by rw [putR,Nat.mul_comm]
theorem orRow_eq {r a a' : List Int} {i k : Nat} (h : a'.getD (k * 2 + 1) 0 = a.getD (k * 2 + 1) 0) : (r.set (i * 2) (orW (r.getD (i * 2) 0) (a.getD (k * 2) 0))).set (i * 2 + 1) (orW ((r.set (i * 2) (orW (r.getD (i * 2) 0) (a.getD (k * 2) 0))).getD (i * 2 + 1) 0) (a'.getD (k * 2 + 1) 0)) = orRow r i a k := by
  rw [h,getD_set_other (by omega),orRow,Nat.mul_comm i,Nat.mul_comm k]
theorem RowOk.at {r : List Int} (h : RowOk r) (c : Nat) : 0 ≤ r.getD c 0 ∧ r.getD c 0 ≤ 18446744073709551615 := ⟨h.lo c,h.hi c⟩
theorem RowOk.put {r : List Int} (h : RowOk r) (i j : Nat) : RowOk (putR r i j) := by
  have p := pow_in (k := j % 64) (by omega)
  have := orW_in (h.at (2 * i + j / 64)) ⟨p.1,p.2.1⟩
  exact h.set this.1 this.2
theorem RowOk.or {r a : List Int} (h : RowOk r) (ha : RowOk a) (i k : Nat) : RowOk (orRow r i a k) := by
  have h1 := orW_in (h.at (2 * i)) (ha.at (2 * k))
  have h2 := orW_in (h.at (2 * i + 1)) (ha.at (2 * k + 1))
  exact (h.set h1.1 h1.2).set h2.1 h2.2
theorem bit_put {r : List Int} (h : RowOk r) {i j : Nat} (hi : i ≤ 64) (hj : j < 128) {i' j' : Nat} (hj' : j' < 128) : bitR (putR r i j) i' j' = (bitR r i' j' || (decide (i' = i) && decide (j' = j))) := by
  have p := pow_in (k := j % 64) (by omega)
  have hl := h.len
  unfold bitR putR
  by_cases e : 2 * i + j / 64 = 2 * i' + j' / 64
  · rw [← e,getD_set_same (by omega),orW_bit (h.at _) ⟨p.1,p.2.1⟩,p.2.2,Nat.testBit_two_pow]
    by_cases e2 : j % 64 = j' % 64
    · have : i' = i ∧ j' = j := by omega
      simp [this.1,this.2]
    · have : ¬ (i' = i ∧ j' = j) := fun h => e2 (by rw [h.2])
      by_cases e3 : i' = i
      · have : j' ≠ j := fun h => this ⟨e3,h⟩
        simp [e2,this]
      · simp [e2,e3]
  · rw [getD_set_other e]
    have : ¬ (i' = i ∧ j' = j) := fun h => e (by rw [h.1,h.2])
    by_cases e3 : i' = i
    · have : j' ≠ j := fun h => this ⟨e3,h⟩
      simp [this]
    · simp [e3]
theorem bit_or {r a : List Int} (h : RowOk r) (ha : RowOk a) {i k : Nat} (hi : i ≤ 64) {i' j' : Nat} (hj' : j' < 128) : bitR (orRow r i a k) i' j' = (bitR r i' j' || (decide (i' = i) && bitR a k j')) := by
  have hl := h.len
  unfold bitR orRow
  by_cases e : i' = i
  · subst e
    by_cases e2 : j' / 64 = 0
    · simp only [e2,Nat.add_zero]
      rw [getD_set_other (by omega),getD_set_same (by omega),orW_bit (h.at _) (ha.at _)]
      simp
    · have e3 : j' / 64 = 1 := by omega
      rw [e3,getD_set_same (by rw [List.length_set];omega),orW_bit (h.at _) (ha.at _)]
      simp
  · rw [getD_set_other (by omega),getD_set_other (by omega)]
    simp [e]
theorem bit_zero {i j : Nat} : bitR (List.replicate 130 0) i j = false := by
  unfold bitR
  rw [List.getD_eq_getElem?_getD,List.getElem?_replicate]
  split <;> simp

end Go.Proofs.Ytfldmpmaifjcbaa
