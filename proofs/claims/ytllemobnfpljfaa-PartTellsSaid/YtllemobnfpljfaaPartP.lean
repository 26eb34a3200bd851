/-
  PLAIN: the classes of the bytes by sets of bytes.
-/
import Derived.Test.YtllemobnfpljfaaSb
import Derived.MapKept
set_option linter.unusedSimpArgs false
namespace Go.Proofs.Ytllemobnfpljfaa
open Go Go.Hs

structure St where
  s0 : Int
  s1 : Int
  s2 : Int
  s3 : Int
instance : Inhabited St := ⟨⟨0, 0, 0, 0⟩⟩
def St.cs (s : St) : List AC := [.im (.int .u64 s.s0), .im (.int .u64 s.s1), .im (.int .u64 s.s2), .im (.int .u64 s.s3)]
def sRows (l : List St) : List (List AC) := l.map St.cs
def sAt (l : List St) (i : Nat) : St := l.getD i default
def St.wf (s : St) : Prop := (0 ≤ s.s0 ∧ s.s0 ≤ 18446744073709551615) ∧ (0 ≤ s.s1 ∧ s.s1 ≤ 18446744073709551615) ∧ (0 ≤ s.s2 ∧ s.s2 ≤ 18446744073709551615) ∧ (0 ≤ s.s3 ∧ s.s3 ≤ 18446744073709551615)
theorem length_sRows (l : List St) : (sRows l).length = l.length := by simp [sRows]
theorem sRows_get (l : List St) (i : Nat) : (sRows l)[i]? = (l[i]?).map St.cs := by simp [sRows]
theorem getSt {l : List St} {i : Nat} : getR [.im (.int .u64 0), .im (.int .u64 0), .im (.int .u64 0), .im (.int .u64 0)] (sRows l) i 0 4 = (sAt l i).cs := by
  unfold getR sAt; rw [sRows_get]
  cases h : l[i]? with
  | none => simp [List.getD_eq_getElem?_getD, h]; rfl
  | some t => simp [List.getD_eq_getElem?_getD, h]; rfl
theorem sRows_frz {l : List St} : AC.frz.frzLL (sRows l) = sRows l := by
  show frzLL _ = _
  rw [frzLL_eq]
  simp [sRows, frzL_eq, AC.frz, St.cs]
theorem sRows_per {l : List St} : (sRows l).all (fun e => e.all AC.per) = true := by simp [sRows, AC.per, St.cs]
theorem sRows_flat {l : List St} : AC.flat.flatLL (sRows l) = true := by
  induction l with
  | nil => rfl
  | cons x r ih => simp only [sRows, St.cs, List.map_cons, AC.flat.flatLL, AC.flat.flatL, AC.flat, Bool.and_self, Bool.true_and] at ih ⊢; exact ih
theorem sRows_append {l m : List St} : sRows l ++ sRows m = sRows (l ++ m) := by simp [sRows]
theorem sRows_ex {l : List St} {a b : Nat} : ex (sRows l) a b = sRows (ex l a b) := by simp [sRows, ex_eq, List.map_take, List.map_drop]
theorem sRows_take {l : List St} {a : Nat} : (sRows l).take a = sRows (l.take a) := by simp [sRows, List.map_take]
theorem sRows_snoc {l : List St} {a b c d : Int} : sRows l ++ [[.im (.int .u64 a), .im (.int .u64 b), .im (.int .u64 c), .im (.int .u64 d)]] = sRows (l ++ [⟨a, b, c, d⟩]) := by simp [sRows, St.cs]
theorem sRows_isEmpty {l : List St} : (sRows l).isEmpty = l.isEmpty := by cases l <;> rfl

/-- A word of a set. -/
def St.w (s : St) (i : Nat) : Int := [s.s0, s.s1, s.s2, s.s3].getD i 0
theorem getW {a b c d : Int} {i : Nat} : ([AC.im (.int .u64 a), AC.im (.int .u64 b), AC.im (.int .u64 c), AC.im (.int .u64 d)][i]?).getD (.im (.int .u64 0)) = .im (.int .u64 ((St.mk a b c d).w i)) := by
  match i with
  | 0 | 1 | 2 | 3 => rfl
  | n + 4 => simp [St.w]
theorem St.w_wf {s : St} (h : s.wf) (i : Nat) : 0 ≤ s.w i ∧ s.w i ≤ 18446744073709551615 := by
  unfold St.wf at h
  match i with
  | 0 => exact h.1
  | 1 => exact h.2.1
  | 2 => exact h.2.2.1
  | 3 => exact h.2.2.2
  | n + 4 => simp [St.w]

def hasB (s : St) (b : Nat) : Bool := (s.w (b / 64)).toNat.testBit (b % 64)

theorem ofInt64_toNat {a : Int} (h0 : 0 ≤ a) (h1 : a ≤ 18446744073709551615) : (BitVec.ofInt 64 a).toNat = a.toNat := by
  rw [BitVec.toNat_ofInt]
  rw [Int.emod_eq_of_lt h0 (by omega)]

theorem and_bit (a k : Nat) : a &&& 2 ^ k = if a.testBit k then 2 ^ k else 0 := by
  apply Nat.eq_of_testBit_eq
  intro i
  rw [Nat.testBit_and, Nat.testBit_two_pow]
  by_cases e : k = i
  · subst e
    cases h : a.testBit k <;> simp
  · cases h : a.testBit k <;> simp [e, Nat.testBit_two_pow]
theorem has_and {a : Int} {k : Nat} (h0 : 0 ≤ a) (h1 : a ≤ 18446744073709551615) (hk : k < 64) :
    (IntKind.u64.wrap (BitVec.ofInt 64 a &&& BitVec.ofInt 64 (2 ^ k)).toNat != 0) = a.toNat.testBit k := by
  have e1 := ofInt64_toNat h0 h1
  have hp : (2 : Nat) ^ k < 2 ^ 64 := Nat.pow_lt_pow_right (by omega) hk
  have h2 : ((2 : Int) ^ k) = ((2 ^ k : Nat) : Int) := by simp
  have hpos := Nat.two_pow_pos k
  rw [h2, BitVec.toNat_and, e1]
  have hab := and_bit a.toNat k
  generalize 2 ^ k = q at *
  have e2 : (BitVec.ofInt 64 (q : Int)).toNat = q := by rw [ofInt64_toNat (by omega) (by omega)]; simp
  rw [e2, hab]
  cases hb : a.toNat.testBit k with
  | false => simp [IntKind.wrap_u64]
  | true =>
    simp only [if_true]
    have : IntKind.u64.wrap (q : Int) = q := by rw [IntKind.wrap_u64]; omega
    rw [this]
    simp; omega
theorem has_shr {a : Int} {k : Nat} (h0 : 0 ≤ a) (h1 : a ≤ 18446744073709551615) :
    (IntKind.u64.wrap (BitVec.ofInt 64 (a.fdiv (2 ^ k)) &&& BitVec.ofInt 64 1).toNat == 1) = a.toNat.testBit k := by
  obtain ⟨n, rfl⟩ : ∃ n : Nat, a = n := ⟨a.toNat, by omega⟩
  have h2 : ((2 : Int) ^ k) = ((2 ^ k : Nat) : Int) := by simp
  have hpos := Nat.two_pow_pos k
  rw [h2, Int.toNat_natCast, Nat.testBit_eq_decide_div_mod_eq]
  generalize 2 ^ k = q at *
  have e1 : (n : Int).fdiv q = ((n / q : Nat) : Int) := by
    rw [Int.fdiv_eq_ediv_of_nonneg _ (by omega)]; rfl
  have hle : n / q ≤ n := Nat.div_le_self _ _
  rw [e1]
  generalize n / q = m at *
  rw [BitVec.toNat_and, ofInt64_toNat (by omega) (by omega)]
  have e2 : (BitVec.ofInt 64 1).toNat = 1 := rfl
  rw [e2, Int.toNat_natCast, Nat.and_one_is_mod, IntKind.wrap_u64]
  by_cases h : m % 2 = 1
  · simp [h]
  · have h0 : m % 2 = 0 := by omega
    simp [h0]

theorem shl1 {n : Int} (h0 : 0 ≤ n) (h1 : n < 64) : IntKind.u64.wrap (1 * 2 ^ n.toNat) = 2 ^ n.toNat := by
  rw [Int.one_mul]
  have h2 : ((2 : Int) ^ n.toNat) = ((2 ^ n.toNat : Nat) : Int) := by simp
  have hp : (2 : Nat) ^ n.toNat < 2 ^ 64 := Nat.pow_lt_pow_right (by omega) (by omega)
  rw [h2]
  generalize 2 ^ n.toNat = q at *
  rw [IntKind.wrap_u64]
  omega
theorem shr1 {n : Int} (h1 : n < 64) : min n.toNat 64 = n.toNat := Nat.min_eq_left (by omega)

/-! What sets say of a byte, as a string's bytes. -/
def keyL (l : List St) (b : Nat) : List Int := l.map fun s => if hasB s b then 49 else 48
def keyS (l : List St) (b : Nat) : ByteArray := bytesS (keyL l b)
theorem keyS_inj {l : List St} {a b : Nat} : keyS l a = keyS l b ↔ l.map (hasB · a) = l.map (hasB · b) := by
  constructor
  · intro h
    have h1 := congrArg (fun x : ByteArray => x.data.toList) h
    simp only [keyS, bytesS_data, keyL, List.map_map] at h1
    apply List.ext_getElem (by simp)
    intro i h2 h3
    simp at h2 h3
    have h4 := congrArg (fun x : List UInt8 => x[i]?) h1
    simp [h2] at h4
    simp only [List.getElem_map]
    cases e1 : hasB l[i] a <;> cases e2 : hasB l[i] b <;> first | rfl | (rw [e1, e2] at h4; revert h4; decide)
  · intro h
    have : keyL l a = keyL l b := by
      apply List.ext_getElem (by simp [keyL])
      intro i h2 h3
      simp [keyL] at h2 h3 ⊢
      have h4 := congrArg (fun x : List Bool => x[i]?) h
      simp [h2] at h4
      rw [h4]
    rw [keyS, keyS, this]

theorem beq_ba {a b : ByteArray} : (a == b) = true ↔ a = b := Go.MapKept.bytes_beq a b
theorem mFind_snoc {l : List (ByteArray × Int)} {k k2 : ByteArray} {v : Int} : mFind (l ++ [(k2, v)]) k = (mFind l k).or (if k = k2 then some v else none) := by
  induction l with
  | nil =>
    by_cases e : k = k2
    · simp [mFind, e, beq_ba.2 rfl]
    · have : (k == k2) = false := by cases h : (k == k2) <;> first | rfl | exact absurd (beq_ba.1 h) e
      simp [mFind, this, e]
  | cons x r ih =>
    simp only [List.cons_append, mFind, ih]
    split <;> simp

theorem keyL_snoc {l : List St} {b i : Nat} (h : i < l.length) : keyL (l.take (i + 1)) b = keyL (l.take i) b ++ [if hasB (sAt l i) b then 49 else 48] := by
  have e : l.take (i + 1) = l.take i ++ [sAt l i] := by
    rw [List.take_succ_eq_append_getElem h]
    simp [sAt, h]
  rw [e, keyL, List.map_append]; rfl
theorem keyL_len {l : List St} {b : Nat} : (keyL l b).length = l.length := by simp [keyL]
theorem keyL_bytes {l : List St} {b : Nat} : ∀ n ∈ keyL l b, 0 ≤ n ∧ n ≤ 255 := by
  intro n hn
  simp only [keyL, List.mem_map] at hn
  obtain ⟨s, _, rfl⟩ := hn
  split <;> omega
theorem sAt_mem {l : List St} {i : Nat} (h : i < l.length) : sAt l i ∈ l := by
  have : sAt l i = l[i] := by simp [sAt, h]
  rw [this]; exact List.getElem_mem h

/-- The classes of the first bytes, and what is known of them. -/
def clsN (l : List St) : Nat → List Int × List (ByteArray × Int)
  | 0 => ([], [])
  | b + 1 => match mFind (clsN l b).2 (keyS l b) with
    | some c => ((clsN l b).1 ++ [c], (clsN l b).2)
    | none => ((clsN l b).1 ++ [((clsN l b).2.length : Int)], (clsN l b).2 ++ [(keyS l b, ((clsN l b).2.length : Int))])
def ofF (l : List St) : List Int := (clsN l 256).1
def manyF (l : List St) : Nat := (clsN l 256).2.length

theorem clsN_length {l : List St} : ∀ n, (clsN l n).1.length = n
  | 0 => rfl
  | n + 1 => by
    have := clsN_length (l := l) n
    simp only [clsN]
    split <;> simp [this]
theorem gD_lt {o : List Int} {x d : Int} {j : Nat} (h : j < o.length) : (o ++ [x]).getD j d = o.getD j d := by
  simp only [List.getD_eq_getElem?_getD]
  rw [List.getElem?_append_left h]
theorem gD_eq {o : List Int} {x d : Int} {j : Nat} (h : j = o.length) : (o ++ [x]).getD j d = x := by
  subst h
  simp only [List.getD_eq_getElem?_getD]
  rw [List.getElem?_append_right (Nat.le_refl _)]
  simp
/-- Each byte's class is what is known of its key; what is known is of a byte; the classes are numbered one by one. -/
structure Cls (l : List St) (n : Nat) (o : List Int) (kn : List (ByteArray × Int)) : Prop where
  len : o.length = n
  ats : ∀ b, b < n → mFind kn (keyS l b) = some (o.getD b 0)
  of : ∀ k c, mFind kn k = some c → ∃ b, b < n ∧ keyS l b = k ∧ 0 ≤ c ∧ c < kn.length
  inj : ∀ k k' c, mFind kn k = some c → mFind kn k' = some c → k = k'
  le : kn.length ≤ n
theorem cls {l : List St} : ∀ n, Cls l n (clsN l n).1 (clsN l n).2
  | 0 => ⟨rfl, by omega, by intro k c h; simp [clsN, mFind] at h, by intro k k' c h; simp [clsN, mFind] at h, by simp [clsN]⟩
  | n + 1 => by
    have h := cls (l := l) n
    have hl := h.len
    refine ⟨clsN_length _, ?_, ?_, ?_, ?_⟩
    · intro b hb
      simp only [clsN]
      split
      · rename_i c hc
        by_cases e : b = n
        · subst e; simp only; rw [gD_eq (by omega)]; exact hc
        · simp only; rw [gD_lt (by omega)]; exact h.ats b (by omega)
      · rename_i hc
        simp only [mFind_snoc]
        by_cases e : b = n
        · subst e; rw [gD_eq (by omega), hc]; simp
        · rw [gD_lt (by omega), h.ats b (by omega)]; simp
    · intro k c hk
      simp only [clsN] at hk ⊢
      split at hk
      · obtain ⟨b, h1, h2, h3⟩ := h.of k c hk
        refine ⟨b, by omega, h2, ?_⟩
        rename_i hc
        simp only [hc]; exact h3
      · rename_i hc
        simp only [hc, List.length_append, List.length_cons, List.length_nil]
        simp only [mFind_snoc, Option.or_eq_some_iff] at hk
        rcases hk with hk | ⟨_, hk⟩
        · obtain ⟨b, h1, h2, h3⟩ := h.of k c hk
          exact ⟨b, by omega, h2, by omega⟩
        · split at hk
          · rename_i e
            simp at hk
            exact ⟨n, by omega, e.symm, by omega⟩
          · cases hk
    · intro k k' c hk hk'
      simp only [clsN] at hk hk'
      split at hk
      · rename_i hc; simp only [hc] at hk'; exact h.inj k k' c hk hk'
      · rename_i hc
        simp only [hc] at hk'
        simp only [mFind_snoc, Option.or_eq_some_iff] at hk hk'
        rcases hk with hk | ⟨_, hk⟩ <;> rcases hk' with hk' | ⟨_, hk'⟩
        · exact h.inj k k' c hk hk'
        · split at hk'
          · have := h.of k c hk
            simp at hk'
            obtain ⟨b, h1, h2, h3⟩ := this
            omega
          · cases hk'
        · split at hk
          · have := h.of k' c hk'
            simp at hk
            obtain ⟨b, h1, h2, h3⟩ := this
            omega
          · cases hk
        · split at hk
          · split at hk'
            · rename_i e1 e2; rw [e1, e2]
            · cases hk'
          · cases hk
    · have := h.le
      simp only [clsN]
      split
      · simp only; omega
      · simp; omega

theorem cls_same {l : List St} {n : Nat} {o : List Int} {kn : List (ByteArray × Int)} (h : Cls l n o kn) {a b : Nat} (ha : a < n) (hb : b < n) : o.getD a 0 = o.getD b 0 ↔ l.map (hasB · a) = l.map (hasB · b) := by
  rw [← keyS_inj]
  constructor
  · intro e
    exact h.inj _ _ _ (h.ats a ha) (by rw [e]; exact h.ats b hb)
  · intro e
    have := h.ats a ha
    rw [e, h.ats b hb] at this
    simpa using this.symm

theorem clsN_get {l : List St} {n m b : Nat} (hb : b < n) (hn : n ≤ m) : (clsN l m).1.getD b 0 = (clsN l n).1.getD b 0 := by
  induction m with
  | zero => have : n = 0 := by omega
            subst this; rfl
  | succ m ih =>
    by_cases e : n = m + 1
    · subst e; rfl
    · rw [← ih (by omega)]
      have := clsN_length (l := l) m
      simp only [clsN]
      split <;> exact gD_lt (by omega)

/-! Whether numbers are classes, and the least byte of each. -/
def nextN (cl : List Int) : Nat → Option Nat
  | 0 => some 0
  | i + 1 => match nextN cl i with
    | none => none
    | some m => if cl.getD i 0 < 0 ∨ (m : Int) < cl.getD i 0 then none else some (if cl.getD i 0 = m then m + 1 else m)
def rightC (cl : List Int) : Bool := decide (cl.length = 256) && (nextN cl cl.length).isSome
def leastN (cl : List Int) : Nat → List Int
  | 0 => []
  | i + 1 => if cl.getD i 0 = (leastN cl i).length then leastN cl i ++ [(i : Int)] else leastN cl i
def leastC (cl : List Int) : List Int := if rightC cl then leastN cl 256 else []
theorem nextN_none {cl : List Int} {i j : Nat} (h : nextN cl i = none) (hij : i ≤ j) : nextN cl j = none := by
  induction j with
  | zero => have : i = 0 := by omega
            subst this; exact h
  | succ j ih =>
    by_cases e : i = j + 1
    · subst e; exact h
    · simp only [nextN, ih (by omega)]
theorem leastN_len {cl : List Int} : ∀ {i m : Nat}, nextN cl i = some m → (leastN cl i).length = m
  | 0, m, h => by simp [nextN] at h; simp [leastN, h]
  | i + 1, m, h => by
    simp only [nextN] at h
    split at h
    · cases h
    · rename_i m' hm'
      have ih := leastN_len hm'
      split at h
      · cases h
      · simp only [leastN, ih]
        simp only [Option.some.injEq] at h
        split
        · rename_i e; rw [if_pos e] at h; simp [ih, h]
        · rename_i e; rw [if_neg e] at h; rw [ih, h]
theorem nextN_le {cl : List Int} : ∀ {i m : Nat}, nextN cl i = some m → m ≤ i
  | 0, m, h => by simp [nextN] at h; omega
  | i + 1, m, h => by
    simp only [nextN] at h
    split at h
    · cases h
    · rename_i m' hm'
      have ih := nextN_le hm'
      split at h
      · cases h
      · simp only [Option.some.injEq] at h
        split at h <;> omega
theorem nextN_cls {l : List St} {n : Nat} : ∀ i, i ≤ n → nextN (clsN l n).1 i = some (clsN l i).2.length
  | 0, _ => rfl
  | i + 1, h => by
    have c := cls (l := l) i
    have hl := clsN_length (l := l) i
    have ih := nextN_cls (l := l) (n := n) i (by omega)
    have e1 := clsN_get (l := l) (b := i) (n := i + 1) (by omega) h
    generalize (clsN l n).1 = o at *
    simp only [nextN, ih, e1]
    cases e : mFind (clsN l i).2 (keyS l i) with
    | some x =>
      obtain ⟨b, h1, h2, h3, h4⟩ := c.of _ _ e
      have e2 : (clsN l (i + 1)).1 = (clsN l i).1 ++ [x] := by simp only [clsN, e]
      have e3 : (clsN l (i + 1)).2 = (clsN l i).2 := by simp only [clsN, e]
      rw [e2, e3, gD_eq (by omega), if_neg (by omega), if_neg (by omega)]
    | none =>
      have e2 : (clsN l (i + 1)).1 = (clsN l i).1 ++ [((clsN l i).2.length : Int)] := by simp only [clsN, e]
      have e3 : (clsN l (i + 1)).2.length = (clsN l i).2.length + 1 := by simp [clsN, e]
      rw [e2, e3, gD_eq (by omega), if_neg (by omega), if_pos rfl]
theorem ofF_length {l : List St} : (ofF l).length = 256 := clsN_length _
theorem ofF_next {l : List St} : nextN (ofF l) 256 = some (manyF l) := nextN_cls 256 (Nat.le_refl _)
theorem ofF_right {l : List St} : rightC (ofF l) = true := by
  rw [rightC, ofF_length, ofF_next]; rfl
theorem ofF_least {l : List St} : (leastC (ofF l)).length = manyF l := by
  rw [leastC, if_pos ofF_right]; exact leastN_len ofF_next
theorem ofF_same {l : List St} {x y : Nat} (hx : x < 256) (hy : y < 256) : (ofF l).getD x 0 = (ofF l).getD y 0 ↔ l.map (hasB · x) = l.map (hasB · y) := cls_same (cls 256) hx hy
theorem manyF_le {l : List St} : manyF l ≤ 256 := (cls (l := l) 256).le

/-! With one set more. -/
theorem cls_eq {l l' : List St} (h : ∀ a b, keyS l a = keyS l b ↔ keyS l' a = keyS l' b) : ∀ n, (clsN l n).1 = (clsN l' n).1 ∧ (clsN l n).2.length = (clsN l' n).2.length
  | 0 => ⟨rfl, rfl⟩
  | n + 1 => by
    obtain ⟨h1, h2⟩ := cls_eq h n
    have c := cls (l := l) n
    have c' := cls (l := l') n
    have key : mFind (clsN l n).2 (keyS l n) = mFind (clsN l' n).2 (keyS l' n) := by
      cases e : mFind (clsN l n).2 (keyS l n) with
      | some x =>
        obtain ⟨b, b1, b2, _⟩ := c.of _ _ e
        have e1 := c.ats b b1
        rw [b2, e] at e1
        have e2 := c'.ats b b1
        rw [(h b n).1 b2, ← h1] at e2
        rw [e1, e2]
      | none =>
        cases e' : mFind (clsN l' n).2 (keyS l' n) with
        | none => rfl
        | some x =>
          obtain ⟨b, b1, b2, _⟩ := c'.of _ _ e'
          have e1 := c.ats b b1
          rw [(h b n).2 b2, e] at e1
          cases e1
    simp only [clsN, ← key]
    split
    · exact ⟨by rw [h1], h2⟩
    · exact ⟨by rw [h1, h2], by simp [h2]⟩
theorem key_snoc {l : List St} {s : St} {a b : Nat} : keyS (l ++ [s]) a = keyS (l ++ [s]) b ↔ keyS l a = keyS l b ∧ hasB s a = hasB s b := by
  rw [keyS_inj, keyS_inj]
  simp only [List.map_append, List.map_cons, List.map_nil]
  constructor
  · intro h
    have := List.append_inj h (by simp)
    exact ⟨this.1, by simpa using this.2⟩
  · rintro ⟨h1, h2⟩
    rw [h1, h2]
theorem ofF_twice {l : List St} {s : St} : ofF (l ++ [s]) = ofF (l ++ [s, s]) ∧ manyF (l ++ [s]) = manyF (l ++ [s, s]) := by
  refine cls_eq (fun a b => ?_) 256
  rw [show l ++ [s, s] = (l ++ [s]) ++ [s] by simp]
  constructor
  · intro h; exact key_snoc.2 ⟨h, (key_snoc.1 h).2⟩
  · intro h; exact (key_snoc.1 h).1
theorem cls_mono {l : List St} {s : St} : ∀ n, (clsN l n).2.length ≤ (clsN (l ++ [s]) n).2.length
  | 0 => Nat.le_refl _
  | n + 1 => by
    have ih := cls_mono (l := l) (s := s) n
    have c := cls (l := l) n
    have c' := cls (l := l ++ [s]) n
    cases e : mFind (clsN l n).2 (keyS l n) with
    | some x =>
      have e1 : (clsN l (n + 1)).2.length = (clsN l n).2.length := by simp only [clsN, e]
      rw [e1]
      simp only [clsN]
      split
      · exact ih
      · simp only [List.length_append]; omega
    | none =>
      have e2 : mFind (clsN (l ++ [s]) n).2 (keyS (l ++ [s]) n) = none := by
        cases e' : mFind (clsN (l ++ [s]) n).2 (keyS (l ++ [s]) n) with
        | none => rfl
        | some x =>
          obtain ⟨b, b1, b2, _⟩ := c'.of _ _ e'
          have e1 := c.ats b b1
          rw [(key_snoc.1 b2).1, e] at e1
          cases e1
      simp only [clsN, e, e2, List.length_append, List.length_cons, List.length_nil]
      omega
theorem pigeon : ∀ (n m : Nat) (f : Nat → Nat), (∀ i, i < m → f i < n) → (∀ i j, i < m → j < m → f i = f j → i = j) → m ≤ n
  | 0, m, f, h1, _ => by
    rcases Nat.eq_zero_or_pos m with h | h
    · omega
    · have := h1 0 h; omega
  | n + 1, m, f, h1, h2 => by
    rcases Nat.eq_zero_or_pos m with h | h
    · omega
    · -- what goes to n changes places with the last one
      by_cases hx : ∃ i, i < m ∧ f i = n
      · obtain ⟨i0, hi0, hf⟩ := hx
        have := pigeon n (m - 1) (fun i => if i = i0 then f (m - 1) else f i) (fun i hi => by
          show (if i = i0 then f (m - 1) else f i) < n
          split
          · rename_i e
            have a1 := h1 (m - 1) (by omega)
            have a2 : f (m - 1) ≠ n := fun e2 => by
              have := h2 (m - 1) i0 (by omega) hi0 (by omega)
              omega
            omega
          · rename_i e
            have a1 := h1 i (by omega)
            have a2 : f i ≠ n := fun e2 => e (h2 i i0 (by omega) hi0 (by omega))
            omega) (fun i j hi hj => by
          show (if i = i0 then f (m - 1) else f i) = (if j = i0 then f (m - 1) else f j) → i = j
          split <;> split
          · intro _; omega
          · intro e; have := h2 (m - 1) j (by omega) (by omega) e; omega
          · intro e; have := h2 i (m - 1) (by omega) (by omega) e; omega
          · intro e; exact h2 i j (by omega) (by omega) e)
        omega
      · have := pigeon n m f (fun i hi => by
          have a1 := h1 i hi
          have a2 : f i ≠ n := fun e => hx ⟨i, hi, e⟩
          omega) h2
        omega
theorem cls_on {l : List St} : ∀ n c, c < (clsN l n).2.length → ∃ b, b < n ∧ (clsN l n).1.getD b 0 = c
  | 0, c, h => by simp [clsN] at h
  | n + 1, c, h => by
    have hl := clsN_length (l := l) n
    have ih := cls_on (l := l) n c
    simp only [clsN] at h ⊢
    split at h
    · rename_i x hx
      obtain ⟨b, h1, h2⟩ := ih h
      exact ⟨b, by omega, by simp only [hx]; rw [gD_lt (by omega)]; exact h2⟩
    · rename_i hx
      simp only [hx]
      simp at h
      by_cases e : c = (clsN l n).2.length
      · exact ⟨n, by omega, by rw [gD_eq (by omega), e]⟩
      · obtain ⟨b, h1, h2⟩ := ih (by omega)
        exact ⟨b, by omega, by rw [gD_lt (by omega)]; exact h2⟩
theorem manyF_twice {l : List St} {s : St} : manyF (l ++ [s]) ≤ 2 * manyF l := by
  have c := cls (l := l) 256
  have c' := cls (l := l ++ [s]) 256
  have hb : ∀ i, ∃ b, i < manyF (l ++ [s]) → b < 256 ∧ (ofF (l ++ [s])).getD b 0 = i := fun i => by
    by_cases h : i < manyF (l ++ [s])
    · obtain ⟨b, h1, h2⟩ := cls_on (l := l ++ [s]) 256 i h
      exact ⟨b, fun _ => ⟨h1, h2⟩⟩
    · exact ⟨0, fun h' => absurd h' h⟩
  let g : Nat → Nat := fun i => (hb i).choose
  have hg : ∀ i, i < manyF (l ++ [s]) → g i < 256 ∧ (ofF (l ++ [s])).getD (g i) 0 = i := fun i => (hb i).choose_spec
  have hcl : ∀ b, b < 256 → 0 ≤ (ofF l).getD b 0 ∧ (ofF l).getD b 0 < manyF l := fun b hb => by
    obtain ⟨_, _, _, h⟩ := c.of _ _ (c.ats b hb)
    exact h
  refine pigeon _ _ (fun i => 2 * ((ofF l).getD (g i) 0).toNat + (hasB s (g i)).toNat) ?_ ?_
  · intro i hi
    have h1 := hcl _ (hg i hi).1
    show 2 * ((ofF l).getD (g i) 0).toNat + (hasB s (g i)).toNat < _
    cases hasB s (g i) <;> simp only [Bool.toNat_true, Bool.toNat_false] <;> omega
  · intro i j hi hj e
    have h1 := hcl _ (hg i hi).1
    have h2 := hcl _ (hg j hj).1
    have e' : 2 * ((ofF l).getD (g i) 0).toNat + (hasB s (g i)).toNat = 2 * ((ofF l).getD (g j) 0).toNat + (hasB s (g j)).toNat := e
    have hbb : hasB s (g i) = hasB s (g j) ∧ (ofF l).getD (g i) 0 = (ofF l).getD (g j) 0 := by
      cases e1 : hasB s (g i) <;> cases e2 : hasB s (g j) <;> simp only [e1, e2, Bool.toNat_true, Bool.toNat_false] at e' <;> first | exact ⟨rfl, by omega⟩ | omega
    have k1 : keyS (l ++ [s]) (g i) = keyS (l ++ [s]) (g j) := key_snoc.2 ⟨keyS_inj.2 ((ofF_same (hg i hi).1 (hg j hj).1).1 hbb.2), hbb.1⟩
    have k2 := (ofF_same (l := l ++ [s]) (hg i hi).1 (hg j hj).1).2 (keyS_inj.1 k1)
    rw [(hg i hi).2, (hg j hj).2] at k2
    omega
theorem many_mono {l : List St} {s : St} : manyF l ≤ manyF (l ++ [s]) := cls_mono 256
theorem finer_same {l : List St} {s : St} {x y : Nat} (hx : x < 256) (hy : y < 256) : (ofF (l ++ [s])).getD x 0 = (ofF (l ++ [s])).getD y 0 ↔ (ofF l).getD x 0 = (ofF l).getD y 0 ∧ hasB s x = hasB s y := by
  rw [ofF_same hx hy, ofF_same hx hy, ← keyS_inj, ← keyS_inj]
  exact key_snoc

/-- Do the first sets have both bytes, or neither? -/
def alikeN (l : List St) (x y : Nat) : Nat → Bool
  | 0 => true
  | i + 1 => alikeN l x y i && (hasB (sAt l i) x == hasB (sAt l i) y)
theorem alikeN_take {l : List St} {x y : Nat} : ∀ i, i ≤ l.length → (alikeN l x y i = true ↔ (l.take i).map (hasB · x) = (l.take i).map (hasB · y))
  | 0, _ => by simp [alikeN]
  | i + 1, h => by
    have hi : i < l.length := by omega
    have e : l.take (i + 1) = l.take i ++ [sAt l i] := by
      rw [List.take_succ_eq_append_getElem hi]
      simp [sAt, hi]
    have ih := alikeN_take (l := l) (x := x) (y := y) i (by omega)
    rw [e]
    simp only [alikeN, Bool.and_eq_true, beq_iff_eq, ih, List.map_append, List.map_cons, List.map_nil]
    constructor
    · rintro ⟨h1, h2⟩
      have h1' : List.map (hasB · x) (l.take i) = List.map (hasB · y) (l.take i) := h1
      rw [h1', h2]
    · intro h
      have := List.append_inj h (by simp)
      exact ⟨this.1, by simpa using this.2⟩
theorem alike_same {l : List St} {x y : Nat} (hx : x < 256) (hy : y < 256) : ((ofF l).getD x 0 == (ofF l).getD y 0) = alikeN l x y l.length := by
  have h1 := ofF_same (l := l) hx hy
  have h2 := alikeN_take (l := l) (x := x) (y := y) l.length (Nat.le_refl _)
  rw [List.take_length] at h2
  cases h : alikeN l x y l.length with
  | true => rw [h1.2 (h2.1 h)]; simp
  | false =>
    cases e : ((ofF l).getD x 0 == (ofF l).getD y 0) with
    | false => rfl
    | true =>
      have := h2.2 (h1.1 (by simpa using e))
      rw [h] at this; cases this

theorem alike_key {l : List St} {x y : Nat} : alikeN l x y l.length = true ↔ keyS l x = keyS l y := by
  rw [alikeN_take _ (Nat.le_refl _), List.take_length, keyS_inj]
theorem alikeN_down {l : List St} {x y i : Nat} (h : alikeN l x y i = false) : ∀ j, i ≤ j → alikeN l x y j = false
  | 0, hj => by have : i = 0 := by omega
                subst this; exact h
  | j + 1, hj => by
    by_cases e : i = j + 1
    · subst e; exact h
    · simp only [alikeN, alikeN_down h j (by omega), Bool.false_and]

end Go.Proofs.Ytllemobnfpljfaa
