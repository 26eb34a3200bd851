/-
  PLAIN: steps open and close nodes one in another.
-/
import Derived.Test.YtfldmpmaifjcbaaNullP
set_option linter.unusedSimpArgs false
set_option linter.unusedVariables false
namespace Go.Proofs.Ytfldmpmaifjcbaa
open Go Go.Hs

structure Nst where
  op : List Int
  seen : List Bool
def topI (o : List Int) : Int := o.getD (o.length - 1) 0
/-- What a part may not be of the node that is open. -/
def badUp (can : List Bool) (u : Tm) (x : Int) : Bool :=
  (decide (u.a ≠ x) && decide (u.b ≠ x)) || decide (u.k = 5) || decide (u.k = 6) || (decide (u.k = 4) && decide (x = u.b) && can.getD u.a.toNat false)
def stp (l : List Tm) (can : List Bool) (q : Int) (k : Nat) (s : Int) (st : Nst) : Option Nst :=
  if s < 0 ∨ (l.length : Int) ≤ s / 2 then none
  else if s % 2 = 1 then (if st.op.length = 0 ∨ topI st.op ≠ s / 2 then none else some ⟨st.op.take (st.op.length - 1), st.seen⟩)
  else if st.seen.getD (s / 2).toNat false = true ∨ can.getD (s / 2).toNat false = false ∨ (k = 0 ∧ s / 2 ≠ q) ∨ (0 < k ∧ st.op.length = 0) then none
  else if 0 < k ∧ badUp can (tAt l (topI st.op).toNat) (s / 2) = true then none
  else some ⟨st.op ++ [s / 2], st.seen.set (s / 2).toNat true⟩
def runS (l : List Tm) (can : List Bool) (q : Int) : Nat → List Int → Nst → Option Nst
  | _, [], st => some st
  | k, s :: r, st => (stp l can q k s st).bind (runS l can q (k + 1) r)
theorem runS_append {l : List Tm} {can : List Bool} {q : Int} : ∀ (xs ys : List Int) (k : Nat) (st : Nst), runS l can q k (xs ++ ys) st = (runS l can q k xs st).bind (runS l can q (k + xs.length) ys)
  | [], ys, k, st => rfl
  | s :: xs, ys, k, st => by
    simp only [List.cons_append, runS]
    cases stp l can q k s st with
    | none => rfl
    | some st' =>
      simp only [Option.bind_some, List.length_cons]
      rw [runS_append xs ys (k + 1) st', show k + 1 + xs.length = k + (xs.length + 1) by omega]

/-- What is known after the steps of node j. -/
structure Aft (l : List Tm) (lo : List Int) (j : Nat) (a b : List Bool) : Prop where
  len : b.length = a.length
  out : ∀ i : Nat, (i : Int) < lo.getD j 0 ∨ j < i → b.getD i false = a.getD i false
  at' : b.getD j false = true
  sub : ∀ i : Nat, lo.getD j 0 ≤ i → i ≤ j → b.getD i false = true →
    ((tAt l i).k = 3 → b.getD (tAt l i).a.toNat false = true ∧ b.getD (tAt l i).b.toNat false = true) ∧
    ((tAt l i).k = 7 ∨ (tAt l i).k = 8 → b.getD (tAt l i).a.toNat false = true) ∧
    ((tAt l i).k = 4 → b.getD (tAt l i).a.toNat false ≠ b.getD (tAt l i).b.toNat false)

theorem topI_snoc {o : List Int} {x : Int} : topI (o ++ [x]) = x := by
  simp [topI, List.getD_eq_getElem?_getD]

theorem bs_same {o : List Bool} {x d : Bool} {i : Nat} (h : i < o.length) : (o.set i x).getD i d = x := by simp [List.getD_eq_getElem?_getD, h]
theorem bs_other {o : List Bool} {x d : Bool} {i j : Nat} (h : i ≠ j) : (o.set i x).getD j d = o.getD j d := by simp [List.getD_eq_getElem?_getD, List.getElem?_set, h]

theorem stp_open {l : List Tm} {can : List Bool} {q : Int} {k j : Nat} {st : Nst} (hj : j < l.length) (hs : st.seen.getD j false = false) (hc : can.getD j false = true)
    (hk : k = 0 ∧ q = j ∨ 0 < k ∧ st.op.length ≠ 0 ∧ badUp can (tAt l (topI st.op).toNat) j = false) :
    stp l can q k (2 * (j : Int)) st = some ⟨st.op ++ [(j : Int)], st.seen.set j true⟩ := by
  have e : (2 * (j : Int)) / 2 = j := by omega
  unfold stp
  rw [if_neg (by omega), if_neg (by omega), e, Int.toNat_natCast, if_neg, if_neg]
  · rintro ⟨h1, h2⟩
    rcases hk with ⟨h, _⟩ | ⟨_, _, h⟩
    · omega
    · rw [h] at h2; cases h2
  · rintro (h | h | h | h)
    · rw [hs] at h; cases h
    · rw [hc] at h; cases h
    · omega
    · omega
theorem stp_close {l : List Tm} {can : List Bool} {q : Int} {k j : Nat} {o : List Int} {s : List Bool} (hj : j < l.length) :
    stp l can q k (2 * (j : Int) + 1) ⟨o ++ [(j : Int)], s⟩ = some ⟨o, s⟩ := by
  have e : (2 * (j : Int) + 1) / 2 = j := by omega
  unfold stp
  rw [if_neg (by omega), if_pos (by omega), e, if_neg]
  · simp
  · simp only [topI_snoc]
    rintro (h | h)
    · simp at h
    · exact h rfl

theorem aft_leaf {l : List Tm} {lo : List Int} {j : Nat} {a : List Bool} (hj : j < a.length) (hlo : lo.getD j 0 ≤ j) (hn : ∀ i : Nat, lo.getD j 0 ≤ (i : Int) → i ≤ j → a.getD i false = false) (hk : (tAt l j).k ≠ 3 ∧ (tAt l j).k ≠ 4 ∧ (tAt l j).k ≠ 7 ∧ (tAt l j).k ≠ 8) : Aft l lo j a (a.set j true) := by
  refine ⟨by simp, fun i hi => bs_other (by omega), bs_same hj, fun i h1 h2 h3 => ?_⟩
  by_cases e : i = j
  · subst e
    exact ⟨fun h => absurd h hk.1, fun h => by omega, fun h => absurd h hk.2.1⟩
  · rw [bs_other (fun h => e h.symm), hn i h1 h2] at h3; cases h3

theorem kids {l : List Tm} {lo : List Int} (ht : Term l lo) {i : Nat} (hi : i < l.length) :
    ((tAt l i).k = 3 ∨ (tAt l i).k = 4 → (tAt l i).a.toNat < i ∧ (tAt l i).b.toNat < i) ∧ ((tAt l i).k = 7 ∨ (tAt l i).k = 8 → (tAt l i).a.toNat < i) := by
  rcases ht.node i hi with ⟨g1, g2, g3, g4⟩ | ⟨g1, c, d, g2, g3, g4, g5, g6⟩ | ⟨g1, d, g2, g3, g4, g5⟩
  · exact ⟨fun h => by omega, fun h => by omega⟩
  · have ld := ht.low d
    exact ⟨fun _ => by rw [g3, g4]; omega, fun h => by omega⟩
  · exact ⟨fun h => by omega, fun _ => by rw [g4]; omega⟩
/-- A part's own parts stay as they are. -/
theorem Aft.keep {l : List Tm} {lo : List Int} (ht : Term l lo) {j : Nat} (hj : j < l.length) {a b c : List Bool} (h : Aft l lo j a b) (hk : ∀ i, i ≤ j → c.getD i false = b.getD i false) :
    ∀ i : Nat, lo.getD j 0 ≤ (i : Int) → i ≤ j → c.getD i false = true →
    ((tAt l i).k = 3 → c.getD (tAt l i).a.toNat false = true ∧ c.getD (tAt l i).b.toNat false = true) ∧
    ((tAt l i).k = 7 ∨ (tAt l i).k = 8 → c.getD (tAt l i).a.toNat false = true) ∧
    ((tAt l i).k = 4 → c.getD (tAt l i).a.toNat false ≠ c.getD (tAt l i).b.toNat false) := by
  intro i h1 h2 h3
  rw [hk i h2] at h3
  have hs := h.sub i h1 h2 h3
  have kd := kids ht (i := i) (by omega)
  refine ⟨fun h => ?_, fun h => ?_, fun h => ?_⟩
  · have := kd.1 (.inl h)
    rw [hk _ (by omega), hk _ (by omega)]; exact hs.1 h
  · have := kd.2 h
    rw [hk _ (by omega)]; exact hs.2.1 h
  · have := kd.1 (.inr h)
    rw [hk _ (by omega), hk _ (by omega)]; exact hs.2.2 h

theorem run_ok {l : List Tm} {lo : List Int} {q : Int} (ht : Term l lo) (hcan : ∀ i, i < l.length → (canN l l.length).getD i false = canOf (tAt l i) (canN l l.length)) :
    ∀ (n j k : Nat) (st : Nst), j < n → j < l.length → (canN l l.length).getD j false = true → st.seen.length = l.length → (∀ i : Nat, lo.getD j 0 ≤ (i : Int) → i ≤ j → st.seen.getD i false = false) →
      (k = 0 ∧ q = j ∨ 0 < k ∧ st.op.length ≠ 0 ∧ badUp (canN l l.length) (tAt l (topI st.op).toNat) j = false) →
      ∃ b, runS l (canN l l.length) q k (stepsG l (canN l l.length) n j) st = some ⟨st.op, b⟩ ∧ Aft l lo j st.seen b
  | 0, j, _, _, h, _, _, _, _, _ => absurd h (Nat.not_lt_zero j)
  | n + 1, j, k, st, hjn, hjl, hc, hsl, hun, hk => by
    have lj := ht.low j
    have hopen := stp_open (q := q) (k := k) hjl (hun j lj.2 (Nat.le_refl j)) hc hk
    have hcj := hcan j hjl
    rw [hc] at hcj
    rcases ht.node j hjl with ⟨g1, g2, g3, g4⟩ | ⟨g1, c, d, g2, g3, g4, g5, g6⟩ | ⟨g1, d, g2, g3, g4, g5⟩
    · refine ⟨st.seen.set j true, ?_, aft_leaf (by omega) lj.2 hun (by omega)⟩
      rw [stepsG_no (by omega) (by omega) (by omega) (by omega)]
      simp only [List.cons_append, List.nil_append, runS, hopen, Option.bind_some, stp_close hjl]
    · have lc := ht.low c
      have ld := ht.low d
      have ea : (tAt l j).a.toNat = c := by rw [g4, Int.toNat_natCast]
      have eb : (tAt l j).b.toNat = d := by rw [g3, Int.toNat_natCast]
      have un1 : ∀ i, i ≠ j → (st.seen.set j true).getD i false = st.seen.getD i false := fun i hi => bs_other (fun h => hi h.symm)
      have atj : (st.seen.set j true).getD j false = true := bs_same (by omega)
      rcases g1 with g1 | g1
      · have hcd : (canN l l.length).getD c false = true ∧ (canN l l.length).getD d false = true := by
          simp only [canOf, g1, ea, eb] at hcj
          simpa using hcj.symm
        have uc : badUp (canN l l.length) (tAt l (topI (st.op ++ [(j : Int)])).toNat) c = false := by
          rw [topI_snoc, Int.toNat_natCast, badUp, g1, g4]; simp
        have ud : badUp (canN l l.length) (tAt l (topI (st.op ++ [(j : Int)])).toNat) d = false := by
          rw [topI_snoc, Int.toNat_natCast, badUp, g1, g3]; simp
        obtain ⟨b1, r1, A1⟩ := run_ok ht hcan n c (k + 1) ⟨st.op ++ [(j : Int)], st.seen.set j true⟩ (by omega) (by omega) hcd.1 (by simp [hsl]) (fun i h1 h2 => by rw [un1 i (by omega)]; exact hun i (by omega) (by omega)) (.inr ⟨by omega, by simp, uc⟩)
        have A1l : b1.length = l.length := by rw [A1.len]; simp [hsl]
        obtain ⟨b2, r2, A2⟩ := run_ok ht hcan n d (k + 1 + (stepsG l (canN l l.length) n c).length) ⟨st.op ++ [(j : Int)], b1⟩ (by omega) (by omega) hcd.2 A1l (fun i h1 h2 => by rw [A1.out i (.inr (by omega)), un1 i (by omega)]; exact hun i (by omega) (by omega)) (.inr ⟨by omega, by simp, ud⟩)
        have k1 : ∀ i, i ≤ c → b2.getD i false = b1.getD i false := fun i hi => A2.out i (.inl (by omega))
        refine ⟨b2, ?_, ⟨by rw [A2.len]; exact A1.len.trans (by simp), fun i hi => ?_, ?_, fun i h1 h2 h3 => ?_⟩⟩
        · rw [stepsG_cat g1 g4 g3, List.append_assoc, List.append_assoc]
          simp only [List.cons_append, List.nil_append, runS, hopen, Option.bind_some]
          rw [runS_append, r1, Option.bind_some, runS_append, r2, Option.bind_some]
          simp only [runS, stp_close hjl, Option.bind_some]
        · rw [A2.out i (by omega), A1.out i (by omega), un1 i (by omega)]
        · rw [A2.out j (by omega), A1.out j (by omega), atj]
        · by_cases e : i = j
          · subst e
            refine ⟨fun _ => ?_, fun h => by omega, fun h => by omega⟩
            rw [ea, eb, k1 c (Nat.le_refl _)]
            exact ⟨A1.at', A2.at'⟩
          · by_cases e2 : i ≤ c
            · exact A1.keep ht (by omega) k1 i (by omega) e2 h3
            · exact A2.sub i (by omega) (by omega) h3
      · by_cases hcc : (canN l l.length).getD c false = true
        · have uc : badUp (canN l l.length) (tAt l (topI (st.op ++ [(j : Int)])).toNat) c = false := by
            rw [topI_snoc, Int.toNat_natCast, badUp, g1, g4, g3]; simp; omega
          obtain ⟨b1, r1, A1⟩ := run_ok ht hcan n c (k + 1) ⟨st.op ++ [(j : Int)], st.seen.set j true⟩ (by omega) (by omega) hcc (by simp [hsl]) (fun i h1 h2 => by rw [un1 i (by omega)]; exact hun i (by omega) (by omega)) (.inr ⟨by omega, by simp, uc⟩)
          refine ⟨b1, ?_, ⟨A1.len.trans (by simp), fun i hi => ?_, ?_, fun i h1 h2 h3 => ?_⟩⟩
          · rw [stepsG_alt g1 g4 g3, if_pos hcc, List.append_assoc]
            simp only [List.cons_append, List.nil_append, runS, hopen, Option.bind_some]
            rw [runS_append, r1, Option.bind_some]
            simp only [runS, stp_close hjl, Option.bind_some]
          · rw [A1.out i (by omega), un1 i (by omega)]
          · rw [A1.out j (by omega), atj]
          · by_cases e : i = j
            · subst e
              refine ⟨fun h => by omega, fun h => by omega, fun _ => ?_⟩
              rw [ea, eb, A1.at', A1.out d (by omega), un1 d (by omega), hun d (by omega) (by omega)]
              decide
            · by_cases e2 : i ≤ c
              · exact A1.sub i (by omega) e2 h3
              · rw [A1.out i (by omega), un1 i e, hun i (by omega) (by omega)] at h3; cases h3
        · have hcf : (canN l l.length).getD c false = false := by simpa using hcc
          have hcd : (canN l l.length).getD d false = true := by
            simp only [canOf, g1, ea, eb, hcf] at hcj
            simpa using hcj.symm
          have ud : badUp (canN l l.length) (tAt l (topI (st.op ++ [(j : Int)])).toNat) d = false := by
            rw [topI_snoc, Int.toNat_natCast, badUp, g1, g4, g3, Int.toNat_natCast, hcf]; simp
          obtain ⟨b1, r1, A1⟩ := run_ok ht hcan n d (k + 1) ⟨st.op ++ [(j : Int)], st.seen.set j true⟩ (by omega) (by omega) hcd (by simp [hsl]) (fun i h1 h2 => by rw [un1 i (by omega)]; exact hun i (by omega) (by omega)) (.inr ⟨by omega, by simp, ud⟩)
          refine ⟨b1, ?_, ⟨A1.len.trans (by simp), fun i hi => ?_, ?_, fun i h1 h2 h3 => ?_⟩⟩
          · rw [stepsG_alt g1 g4 g3, if_neg hcc, List.append_assoc]
            simp only [List.cons_append, List.nil_append, runS, hopen, Option.bind_some]
            rw [runS_append, r1, Option.bind_some]
            simp only [runS, stp_close hjl, Option.bind_some]
          · rw [A1.out i (by omega), un1 i (by omega)]
          · rw [A1.out j (by omega), atj]
          · by_cases e : i = j
            · subst e
              refine ⟨fun h => by omega, fun h => by omega, fun _ => ?_⟩
              rw [ea, eb, A1.at', A1.out c (by omega), un1 c (by omega), hun c (by omega) (by omega)]
              decide
            · by_cases e2 : c < i
              · exact A1.sub i (by omega) (by omega) h3
              · rw [A1.out i (by omega), un1 i e, hun i (by omega) (by omega)] at h3; cases h3
    · have ld := ht.low d
      by_cases g6 : (tAt l j).k = 7 ∨ (tAt l j).k = 8
      · have ea : (tAt l j).a.toNat = d := by rw [g4, Int.toNat_natCast]
        have un1 : ∀ i, i ≠ j → (st.seen.set j true).getD i false = st.seen.getD i false := fun i hi => bs_other (fun h => hi h.symm)
        have atj : (st.seen.set j true).getD j false = true := bs_same (by omega)
        have hcd : (canN l l.length).getD d false = true := by
          rcases g6 with g6 | g6 <;> simp only [canOf, g6, ea] at hcj <;> simpa using hcj.symm
        have ud : badUp (canN l l.length) (tAt l (topI (st.op ++ [(j : Int)])).toNat) d = false := by
          rw [topI_snoc, Int.toNat_natCast, badUp, g4]
          rcases g6 with g6 | g6 <;> simp [g6]
        obtain ⟨b1, r1, A1⟩ := run_ok ht hcan n d (k + 1) ⟨st.op ++ [(j : Int)], st.seen.set j true⟩ (by omega) (by omega) hcd (by simp [hsl]) (fun i h1 h2 => by rw [un1 i (by omega)]; exact hun i (by omega) (by omega)) (.inr ⟨by omega, by simp, ud⟩)
        refine ⟨b1, ?_, ⟨A1.len.trans (by simp), fun i hi => ?_, ?_, fun i h1 h2 h3 => ?_⟩⟩
        · rw [stepsG_one g6 g4, List.append_assoc]
          simp only [List.cons_append, List.nil_append, runS, hopen, Option.bind_some]
          rw [runS_append, r1, Option.bind_some]
          simp only [runS, stp_close hjl, Option.bind_some]
        · rw [A1.out i (by omega), un1 i (by omega)]
        · rw [A1.out j (by omega), atj]
        · by_cases e : i = j
          · subst e
            refine ⟨fun h => by omega, fun h => ?_, fun h => by omega⟩
            rw [ea]; exact A1.at'
          · exact A1.sub i (by omega) (by omega) h3
      · refine ⟨st.seen.set j true, ?_, aft_leaf (by omega) lj.2 hun (by omega)⟩
        rw [stepsG_no (by omega) (by omega) (by omega) (by omega)]
        simp only [List.cons_append, List.nil_append, runS, hopen, Option.bind_some, stp_close hjl]

theorem runS_step {l : List Tm} {can : List Bool} {q : Int} {xs : List Int} {st stE : Nst} (h : runS l can q 0 xs st = some stE) {i : Nat} (hi : i < xs.length) {sti : Nst} (hp : runS l can q 0 (xs.take i) st = some sti) :
    ∃ st', stp l can q i (xs.getD i 0) sti = some st' ∧ runS l can q 0 (xs.take (i + 1)) st = some st' := by
  have e : xs = xs.take i ++ (xs.getD i 0 :: xs.drop (i + 1)) := by
    have e1 : xs.getD i 0 = xs[i] := by simp [List.getD_eq_getElem?_getD, hi]
    rw [e1, ← List.drop_eq_getElem_cons hi, List.take_append_drop]
  have hl : (xs.take i).length = i := by rw [List.length_take]; omega
  have e2 : xs.take (i + 1) = xs.take i ++ [xs.getD i 0] := by
    have e1 : xs.getD i 0 = xs[i] := by simp [List.getD_eq_getElem?_getD, hi]
    rw [e1, List.take_succ_eq_append_getElem hi]
  rw [e, runS_append, hp, Option.bind_some, hl, Nat.zero_add, runS] at h
  cases hs : stp l can q i (xs.getD i 0) sti with
  | none => rw [hs] at h; cases h
  | some st' =>
    refine ⟨st', rfl, ?_⟩
    rw [e2, runS_append, hp, Option.bind_some, hl, Nat.zero_add]
    simp only [runS, hs, Option.bind_some]

structure Ninv (l : List Tm) (st : Nst) : Prop where
  op : ∀ x ∈ st.op, 0 ≤ x ∧ x < l.length
  seen : st.seen.length = l.length
theorem topI_in {l : List Tm} {st : Nst} (h : Ninv l st) (h0 : st.op.length ≠ 0) : 0 ≤ topI st.op ∧ topI st.op < l.length := by
  refine h.op _ ?_
  have hlt : st.op.length - 1 < st.op.length := by omega
  have e : topI st.op = st.op[st.op.length - 1] := by simp [topI, List.getD_eq_getElem?_getD, hlt]
  rw [e]; exact List.getElem_mem hlt
theorem Ninv.step {l : List Tm} {can : List Bool} {q : Int} {k : Nat} {s : Int} {st st' : Nst} (h : Ninv l st) (hs : stp l can q k s st = some st') : Ninv l st' ∧ st'.op.length ≤ st.op.length + 1 := by
  unfold stp at hs
  split at hs
  · cases hs
  · rename_i h1
    split at hs
    · split at hs
      · cases hs
      · obtain rfl := Option.some.inj hs
        exact ⟨⟨fun x hx => h.op x (List.mem_of_mem_take hx), h.seen⟩, by simp; omega⟩
    · split at hs
      · cases hs
      · split at hs
        · cases hs
        · obtain rfl := Option.some.inj hs
          refine ⟨⟨fun x hx => ?_, by simp [h.seen]⟩, by simp⟩
          rcases List.mem_append.1 hx with hx | hx
          · exact h.op x hx
          · simp at hx; subst hx; omega
theorem canN_all {l : List Tm} {lo : List Int} (ht : Term l lo) : ∀ i, i < l.length → (canN l l.length).getD i false = canOf (tAt l i) (canN l l.length) := by
  intro i hi
  rw [canN_get (n := i + 1) (by omega) hi]
  have hc := canN_length (l := l) i
  simp only [canN]
  rw [gb_eq hc.symm]
  have kd := kids ht hi
  have gg : ∀ j, j < i → (canN l i).getD j false = (canN l l.length).getD j false := fun j hj => (canN_get hj (by omega)).symm
  unfold canOf
  by_cases h3 : (tAt l i).k = 3
  · rw [gg _ (kd.1 (.inl h3)).1, gg _ (kd.1 (.inl h3)).2]
  · by_cases h4 : (tAt l i).k = 4
    · rw [gg _ (kd.1 (.inr h4)).1, gg _ (kd.1 (.inr h4)).2]
    · by_cases h7 : (tAt l i).k = 7 ∨ (tAt l i).k = 8
      · rw [gg _ (kd.2 h7)]; simp [h3, h4]
      · simp [h3, h4, h7]
/-- The whole run. -/
theorem run_all {l : List Tm} {q : Nat} (hr : rightF l = true) (hq : q < l.length) (hc : (canF l).getD q false = true) :
    ∃ b, runS l (canF l) q 0 (stepsF l q) ⟨[], List.replicate l.length false⟩ = some ⟨[], b⟩ ∧ b.length = l.length ∧ b.getD q false = true ∧
      ∀ i : Nat, i < l.length → b.getD i false = true →
        ((tAt l i).k = 3 → b.getD (tAt l i).a.toNat false = true ∧ b.getD (tAt l i).b.toNat false = true) ∧
        ((tAt l i).k = 7 ∨ (tAt l i).k = 8 → b.getD (tAt l i).a.toNat false = true) ∧
        ((tAt l i).k = 4 → b.getD (tAt l i).a.toNat false ≠ b.getD (tAt l i).b.toNat false) := by
  have ht := term_of_right hr
  have e : canF l = canN l l.length := by rw [canF, if_pos hr]
  have hl : (canF l).length = l.length := by rw [canF_length, if_pos hr]
  have es : stepsF l q = stepsG l (canF l) l.length q := by
    rw [stepsF, Int.toNat_natCast, if_pos ⟨by omega, by omega, hc⟩]
  have rf : ∀ i, (List.replicate l.length false).getD i false = false := fun i => by
    simp [List.getD_eq_getElem?_getD, List.getElem?_replicate]; split <;> rfl
  obtain ⟨b, h1, h2⟩ := run_ok (q := (q : Int)) ht (canN_all ht) l.length q 0 ⟨[], List.replicate l.length false⟩ hq hq (by rw [← e]; exact hc) (by simp) (fun i _ _ => rf i) (.inl ⟨rfl, rfl⟩)
  refine ⟨b, by rw [es, e]; exact h1, by rw [h2.len]; simp, h2.at', fun i hi hb => ?_⟩
  by_cases h3 : (lowsF l).getD q 0 ≤ (i : Int) ∧ i ≤ q
  · exact h2.sub i h3.1 h3.2 hb
  · rw [h2.out i (by omega), rf] at hb; cases hb

end Go.Proofs.Ytfldmpmaifjcbaa
