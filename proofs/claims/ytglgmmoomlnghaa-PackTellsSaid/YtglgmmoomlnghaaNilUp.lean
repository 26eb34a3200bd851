/-
  A nil slice, wherever it lies, is a slice of no rows.
-/
import Derived.Test.YtglgmmoomlnghaaPkP
set_option linter.unusedSimpArgs false
set_option linter.unusedVariables false
namespace Go.Hs
open Go

inductive NL : AC → AC → Prop
  | refl (c : AC) : NL c c
  | nil (sz : Nat) : NL .nil (.sl sz [])
  | sl (sz : Nat) (es es' : List (List AC)) (hl : es.length = es'.length) (hw : ∀ (i : Nat) e e',es[i]? = some e → es'[i]? = some e' → e.length = e'.length)
      (hr : ∀ (i j : Nat) e e' c c',es[i]? = some e → es'[i]? = some e' → e[j]? = some c → e'[j]? = some c' → NL c c') : NL (.sl sz es) (.sl sz es')
theorem NL.rd {w : World} {p : Nat → Prop} {c c' : AC} (h : NL c c') : ∀ {v : Value},RdC w p v c → RdC w p v c' := by
  induction h with
  | refl c => intro v h;exact h
  | nil sz => intro v h;cases h;exact .nilS sz 0
  | sl sz es es' hl hw hr ih =>
    intro v h
    have back : ∀ (i : Nat) e',es'[i]? = some e' → ∃ e,es[i]? = some e := by
      intro i e' hi
      have : i < es'.length := (List.getElem?_eq_some_iff.1 hi).1
      exact ⟨es[i],List.getElem?_eq_getElem (by omega)⟩
    cases h with
    | nilS =>
      have : es' = [] := List.eq_nil_of_length_eq_zero (by simpa using hl.symm)
      subst this
      exact .nilS _ _
    | sl a n cap _ _ us hn hcap hsz hp hc hrr =>
      refine .sl a n cap sz es' us (by omega) hcap ?_ ?_ ?_ ?_
      · intro e' he
        obtain ⟨i,hi⟩ := List.mem_iff_getElem?.1 he
        obtain ⟨e,h1⟩ := back i e' hi
        rw [← hw i e e' h1 hi]
        exact hsz e (List.mem_of_getElem? h1)
      · intro hne
        refine hp fun h => hne ?_
        subst h
        exact List.eq_nil_of_length_eq_zero (by simpa using hl.symm)
      · intro i e' j hi hj
        obtain ⟨e,h1⟩ := back i e' hi
        exact hc i e j h1 hj
      · intro i e' j c' hi hj
        obtain ⟨e,h1⟩ := back i e' hi
        have hlen := hw i e e' h1 hi
        have hj2 : j < e.length := by
          have := (List.getElem?_eq_some_iff.1 hj).1
          omega
        exact ih i j e e' e[j] c' h1 hi (List.getElem?_eq_getElem hj2) hj (hrr i e j _ h1 (List.getElem?_eq_getElem hj2))
/-- Rows of cells, cell by cell. -/
inductive NLs : List AC → List AC → Prop
  | nil : NLs [] []
  | cons {c c' : AC} {l l' : List AC} (h : NL c c') (t : NLs l l') : NLs (c :: l) (c' :: l')
theorem NLs.len {l l' : List AC} (h : NLs l l') : l.length = l'.length := by
  induction h with
  | nil => rfl
  | cons _ _ ih => simp [ih]
theorem NLs.at {l l' : List AC} (h : NLs l l') : ∀ (j : Nat) c c',l[j]? = some c → l'[j]? = some c' → NL c c' := by
  induction h with
  | nil => intro j c c' h;simp at h
  | cons h t ih =>
    intro j c c' h1 h2
    cases j with
    | zero => simp at h1 h2;subst h1;subst h2;exact h
    | succ j => exact ih j c c' (by simpa using h1) (by simpa using h2)
inductive NLr : List (List AC) → List (List AC) → Prop
  | nil : NLr [] []
  | cons {c c' : List AC} {l l' : List (List AC)} (h : NLs c c') (t : NLr l l') : NLr (c :: l) (c' :: l')
theorem NLr.sl {sz : Nat} {l l' : List (List AC)} (h : NLr l l') : NL (.sl sz l) (.sl sz l') := by
  have hl : l.length = l'.length := by
    induction h with
    | nil => rfl
    | cons _ _ ih => simp [ih]
  have ha : ∀ (i : Nat) e e',l[i]? = some e → l'[i]? = some e' → NLs e e' := by
    clear hl
    induction h with
    | nil => intro i e e' h;simp at h
    | cons h t ih =>
      intro i e e' h1 h2
      cases i with
      | zero => simp at h1 h2;subst h1;subst h2;exact h
      | succ i => exact ih i e e' (by simpa using h1) (by simpa using h2)
  exact .sl sz l l' hl (fun i e e' h1 h2 => (ha i e e' h1 h2).len) (fun i j e e' c c' h1 h2 h3 h4 => (ha i e e' h1 h2).at j c c' h3 h4)
theorem NLs.rd {w : World} {p : Nat → Prop} {l l' : List AC} (h : NLs l l') : ∀ {vs : List Value},RdL w p vs l → RdL w p vs l' := by
  induction h with
  | nil => intro vs h;exact h
  | cons h t ih =>
    intro vs g
    cases g with
    | cons g1 g2 => exact .cons (h.rd g1) (ih g2)
/-- An argument that is a struct. -/
theorem ContractH.up {P : Program} {f : FuncId} (as : List AV) {bs : List AV} {cs cs' : List AC} {H : Env} {R : AV → Env → Prop} (hn : NLs cs cs') (h : ContractH P f (as ++ .agg cs' :: bs) H R) : ContractH P f (as ++ .agg cs :: bs) H R := by
  have key : ∀ (w : World) (p : Nat → Prop) (as : List AV) (vs : List Value),RdAs w p vs (as ++ .agg cs :: bs) → RdAs w p vs (as ++ .agg cs' :: bs) := by
    intro w p as
    induction as with
    | nil =>
      intro vs h
      cases h with
      | cons h t =>
        refine .cons ?_ t
        obtain ⟨us,h1,h2⟩ := h
        exact ⟨us,h1,hn.rd h2⟩
    | cons a as ih =>
      intro vs h
      cases h with
      | cons h t => exact .cons h (ih _ t)
  exact ⟨h.callable,fun w p vs ow hp ha hO => h.calls w p vs ow hp (key w p as vs ha) hO⟩
end Go.Hs
