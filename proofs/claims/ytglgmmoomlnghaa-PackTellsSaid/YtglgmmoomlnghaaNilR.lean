/-
  What a function hands back, with a nil slice in it, counts as a slice of no rows.
-/
import Derived.Test.YtglgmmoomlnghaaNilUp
set_option linter.unusedSimpArgs false
set_option linter.unusedVariables false
namespace Go.Hs
open Go

theorem RdO.up {w : World} {p : Nat → Prop} {vs : List Value} {cs : List AC} {O : List Nat} (h : RdO w p vs cs O) : ∀ {cs' : List AC},NLs cs cs' → RdO w p vs cs' O := by
  induction h with
  | nil => intro cs' h;cases h;exact .nil
  | per hc _ ih =>
    intro cs' h
    cases h with
    | cons h1 t => exact .per (h1.rd hc) (ih t)
  | own ho hs h1 _ _ ih =>
    intro cs' h
    cases h with
    | cons h2 t =>
      cases h2
      exact .own ho hs h1 (ih t)
inductive UpT : TC → TC → Prop
  | c {c c' : AC} (h : NL c c') : UpT (.c c) (.c c')
  | ag {cs cs' : List AC} (h : NLs cs cs') : UpT (.ag cs) (.ag cs')
inductive UpTs : List TC → List TC → Prop
  | nil : UpTs [] []
  | cons {c c' : TC} {l l' : List TC} (h : UpT c c') (t : UpTs l l') : UpTs (c :: l) (c' :: l')
inductive UpR : AV → AV → Prop
  | refl (r : AV) : UpR r r
  | agg {cs cs' : List AC} (h : NLs cs cs') : UpR (.agg cs) (.agg cs')
  | tup {l l' : List TC} (h : UpTs l l') : UpR (.tup l) (.tup l')
theorem NLs.rfl' : ∀ {l : List AC},NLs l l
  | [] => .nil
  | c :: l => .cons (.refl c) NLs.rfl'
theorem RdTO.up {w : World} {p : Nat → Prop} {u : Value} {O : List Nat} {c c' : TC} (hu : UpT c c') (h : RdTO w p u O c) : RdTO w p u O c' := by
  cases hu with
  | c hn => exact RdO.up (show RdO w p [u] [_] O from h) (.cons hn .nil)
  | ag hn =>
    obtain ⟨vs,h1,h2⟩ := (h : ∃ vs,u = .agg vs ∧ RdO w p vs.toList _ O)
    exact ⟨vs,h1,h2.up hn⟩
theorem RdTOs.up {w : World} {p : Nat → Prop} {vs : List Value} {cs : List TC} {O : List Nat} (h : RdTOs w p vs cs O) : ∀ {cs' : List TC},UpTs cs cs' → RdTOs w p vs cs' O := by
  induction h with
  | nil => intro cs' h;cases h;exact .nil
  | cons h1 _ ih =>
    intro cs' h
    cases h with
    | cons h2 t => exact .cons (h1.up h2) (ih t)
theorem RdR.up {w : World} {p : Nat → Prop} {u : Value} {O : List Nat} {r r' : AV} (hu : UpR r r') (h : RdR w p u O r) : RdR w p u O r' := by
  cases hu with
  | refl => exact h
  | agg hn =>
    obtain ⟨vs,h1,h2⟩ := (h : ∃ vs,u = .agg vs ∧ RdO w p vs.toList _ O)
    exact ⟨vs,h1,h2.up hn⟩
  | tup hn =>
    obtain ⟨us,h1,h2⟩ := (h : ∃ us,u = .tuple us ∧ RdTOs w p us.toList _ O)
    exact ⟨us,h1,h2.up hn⟩
theorem ContractH.resUp {P : Program} {f : FuncId} {args : List AV} {H : Env} {R R' : AV → Env → Prop} (h : ContractH P f args H R) (hu : ∀ r H',R r H' → ∃ r',UpR r r' ∧ R' r' H') : ContractH P f args H R' :=
  ⟨h.callable,fun w p vs ow h1 h2 h3 => (h.calls w p vs ow h1 h2 h3).mono fun _ _ ⟨v,p',r,H',ow',O,a,b,c,d,e,f,g,k⟩ => by
    obtain ⟨r',k1,k2⟩ := hu r H' a
    exact ⟨v,p',r',H',ow',O,k2,b,c,d,e,f,g.up k1,k⟩⟩

end Go.Hs
