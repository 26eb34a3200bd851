/-
  PLAIN: a car that goes through bytes by a machine.
-/
import Derived.Test.YtglgmmoomlnghaaDf3
import Derived.Test.YtglgmmoomlnghaaSpD
set_option linter.unusedSimpArgs false
set_option linter.unusedVariables false
namespace Go.Proofs.Ytglgmmoomlnghaa
open Go Go.Hs

structure Cr where
  tags : List Int
  to : Int
  pos : Int
  st : Int
  wk : Int
  regs : List Int
def Cr.cs (d : Df) (c : Cr) (tb rb : Blk) : List AC := [.own tb 3 1 (kRows .i64 c.tags),.im (.int .i64 c.to),.im (.int .i64 d.tags),.sl 1 (kRows .i64 d.cls),.sl 3 (stRows d.sts),.im (.int .i64 c.pos),.im (.int .i64 c.st),.im (.int .i64 c.wk),.own rb 3 1 (kRows .i64 c.regs)]
def hereF (pos : Int) (regs : List Int) (n : Int) : Int := if n = -1 then pos else if n = -2 then -1 else regs.getD n.toNat 0
def eachF (pos : Int) (regs l : List Int) : List Int := l.map (hereF pos regs)
def crB (d : Df) (c : Cr) : Bool := decide (0 ≤ c.st ∧ 0 < (stAt d.sts c.st.toNat).acc.length)
def crAcc (d : Df) (c : Cr) : Cr := if crB d c = true then ⟨eachF c.pos c.regs (stAt d.sts c.st.toNat).acc,c.pos,c.pos,c.st,c.wk,c.regs⟩ else c
def crEd (d : Df) (c : Cr) (b : Int) : Ed := edAt (stAt d.sts c.st.toNat).eds (d.cls.getD b.toNat 0).toNat
def crGo (d : Df) (c : Cr) (b : Int) : Cr :=
  if 0 ≤ c.st then ⟨c.tags,c.to,c.pos,(crEd d c b).to,IntKind.i64.wrap (IntKind.i64.wrap (c.wk + 1) + (crEd d c b).src.length),eachF c.pos c.regs (crEd d c b).src⟩
  else ⟨c.tags,c.to,c.pos,c.st,IntKind.i64.wrap (c.wk + 1),c.regs⟩
theorem length_eachF {p : Int} {r l : List Int} : (eachF p r l).length = l.length := by simp [eachF]
/-! What a right machine's numbers are. -/
theorem mr_ok {d : Df} (h : mB d = true) : MOk d := of_decide_eq_true h
theorem mr_st {d : Df} (h : mB d = true) {i : Nat} (hi : i < d.sts.length) : StOk d (leastC d.cls).length (stAt d.sts i) := of_decide_eq_true ((mr_ok h).2.2 i hi)
theorem nextN_get {cl : List Int} : ∀ {i m : Nat},nextN cl i = some m → ∀ j,j < i → 0 ≤ cl.getD j 0 ∧ cl.getD j 0 < m
  | 0,_,_,j,hj => by omega
  | i + 1,m,h,j,hj => by
    simp only [nextN] at h
    split at h
    · cases h
    · rename_i m' hm'
      have ih := nextN_get hm'
      split at h
      · cases h
      · rename_i hc
        simp only [Option.some.injEq] at h
        by_cases e : j = i
        · subst e
          split at h <;> omega
        · have := ih j (by omega)
          split at h <;> omega
theorem cls_ok {cl : List Int} (h : rightC cl = true) : cl.length = 256 ∧ ∀ j : Nat,j < 256 → 0 ≤ cl.getD j 0 ∧ cl.getD j 0 < ((leastC cl).length : Int) := by
  have h0 := h
  rw [rightC,Bool.and_eq_true,decide_eq_true_eq,Option.isSome_iff_exists] at h
  obtain ⟨h1,m,h2⟩ := h
  rw [h1] at h2
  refine ⟨h1,fun j hj => ?_⟩
  have e : (leastC cl).length = m := by rw [leastC,if_pos h0];exact leastN_len h2
  rw [e]
  exact nextN_get h2 j hj
theorem mr_edge {d : Df} (h : mB d = true) {i c : Nat} (hi : i < d.sts.length) (hc : c < (stAt d.sts i).eds.length) : EdgeOk d (edAt (stAt d.sts i).eds c) (stAt d.sts i).regs := of_decide_eq_true ((mr_st h hi).2.2 c hc)
/-- A car that is somewhere. -/
structure VC (d : Df) (c : Cr) : Prop where
  st : c.st = -1 ∨ (0 ≤ c.st ∧ c.st < d.sts.length ∧ (c.regs.length : Int) = (stAt d.sts c.st.toNat).regs)
  rl : c.regs.length ≤ 2000
  tl : c.tags.length ≤ 1000
theorem VC.acc {d : Df} (B : Bd d) {c : Cr} (v : VC d c) : VC d (crAcc d c) := by
  unfold crAcc
  split
  · rename_i h
    have h : 0 ≤ c.st ∧ _ := of_decide_eq_true h
    refine ⟨v.st,v.rl,?_⟩
    rw [length_eachF]
    rcases v.st with e|⟨h0,h1,h2⟩
    · omega
    · exact B.acc _ (by omega)
  · exact v
theorem crEd_ok {d : Df} (h : mB d = true) {c : Cr} {b : Int} (h0 : 0 ≤ c.st) (h1 : c.st < d.sts.length) (hb : 0 ≤ b ∧ b ≤ 255) : b.toNat < d.cls.length ∧ 0 ≤ d.cls.getD b.toNat 0 ∧ (d.cls.getD b.toNat 0).toNat < (stAt d.sts c.st.toNat).eds.length := by
  have m := mr_ok h
  have cl := cls_ok m.1.2.2.2.2.2
  have st := mr_st h (i := c.st.toNat) (by omega)
  have := cl.2 b.toNat (by omega)
  have := st.1.2.2
  omega
theorem VC.go {d : Df} (B : Bd d) (h : mB d = true) {c : Cr} (v : VC d c) {b : Int} (hb : 0 ≤ b ∧ b ≤ 255) : VC d (crGo d c b) := by
  unfold crGo
  split
  · rename_i h0
    rcases v.st with e|⟨_,h1,h2⟩
    · omega
    have q := crEd_ok h h0 h1 hb
    have ed := mr_edge h (i := c.st.toNat) (by omega) q.2.2
    have bs := B.src c.st.toNat (by omega) _ q.2.2
    refine ⟨?_,?_,v.tl⟩
    · show (crEd d c b).to = -1 ∨ _
      show (crEd d c b).to = -1 ∨ (0 ≤ (crEd d c b).to ∧ (crEd d c b).to < d.sts.length ∧ ((eachF c.pos c.regs (crEd d c b).src).length : Int) = (stAt d.sts (crEd d c b).to.toNat).regs)
      rw [length_eachF]
      rcases ed with ⟨g,_⟩|⟨_,g1,g2,g3,_⟩
      · exact .inl g
      · exact .inr ⟨g1,g2,g3⟩
    · show (eachF c.pos c.regs (crEd d c b).src).length ≤ _
      rw [length_eachF];exact bs
  · exact ⟨v.st,v.rl,v.tl⟩
end Go.Proofs.Ytglgmmoomlnghaa
