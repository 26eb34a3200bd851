/-
  PLAIN: a car that goes through bytes by a machine.
-/
import Derived.Test.YtglgmmoomlnghaaDf3
import Derived.Test.YtglgmmoomlnghaaSpD
set_option linter.unusedSimpArgs false
set_option linter.unusedVariables false
namespace Go.Proofs.Ytglgmmoomlnghaa
open Go Go.Hs

structure Cr where
  tags : List Int
  to : Int
  pos : Int
  st : Int
  wk : Int
  regs : List Int
def Cr.cs (d : Df) (c : Cr) (tb rb : Blk) : List AC := [.own tb 3 1 (kRows .i64 c.tags),.im (.int .i64 c.to),.im (.int .i64 d.tags),.sl 1 (kRows .i64 d.cls),.sl 3 (stRows d.sts),.im (.int .i64 c.pos),.im (.int .i64 c.st),.im (.int .i64 c.wk),.own rb 3 1 (kRows .i64 c.regs)]
def hereF (pos : Int) (regs : List Int) (n : Int) : Int := if n = -1 then pos else if n = -2 then -1 else regs.getD n.toNat 0
def eachF (pos : Int) (regs l : List Int) : List Int := l.map (hereF pos regs)
abbrev RegOk (regs : List Int) (n : Int) : Prop := n = -1 ∨ n = -2 ∨ (0 ≤ n ∧ n < regs.length)
def crB (d : Df) (c : Cr) : Bool := decide (0 ≤ c.st ∧ 0 < (stAt d.sts c.st.toNat).acc.length)
def crAcc (d : Df) (c : Cr) : Cr := if crB d c = true then ⟨eachF c.pos c.regs (stAt d.sts c.st.toNat).acc,c.pos,c.pos,c.st,c.wk,c.regs⟩ else c
def crEd (d : Df) (c : Cr) (b : Int) : Ed := edAt (stAt d.sts c.st.toNat).eds (d.cls.getD b.toNat 0).toNat
def crGo (d : Df) (c : Cr) (b : Int) : Cr :=
  if 0 ≤ c.st then ⟨c.tags,c.to,c.pos,(crEd d c b).to,IntKind.i64.wrap (IntKind.i64.wrap (c.wk + 1) + (crEd d c b).src.length),eachF c.pos c.regs (crEd d c b).src⟩
  else ⟨c.tags,c.to,c.pos,c.st,IntKind.i64.wrap (c.wk + 1),c.regs⟩
def crInc (c : Cr) : Cr := ⟨c.tags,c.to,c.pos + 1,c.st,c.wk,c.regs⟩
def crFeed (d : Df) (c : Cr) (b : Int) : Cr := crAcc d (crInc (crGo d c b))
def crNew (d : Df) : Cr := crAcc d ⟨[],0,0,0,0,[]⟩
def crFind (c : Cr) : List Sp × Int := if c.tags.length = 0 then ([],7) else (mSpansF c.tags c.to,0)
theorem length_eachF {p : Int} {r l : List Int} : (eachF p r l).length = l.length := by simp [eachF]
/-! What a right machine's numbers are. -/
theorem mr_ok {d : Df} (h : mB d = true) : MOk d := of_decide_eq_true h
theorem mr_st {d : Df} (h : mB d = true) {i : Nat} (hi : i < d.sts.length) : StOk d (leastC d.cls).length (stAt d.sts i) := of_decide_eq_true ((mr_ok h).2.2 i hi)
theorem nextN_get {cl : List Int} : ∀ {i m : Nat},nextN cl i = some m → ∀ j,j < i → 0 ≤ cl.getD j 0 ∧ cl.getD j 0 < m
  | 0,_,_,j,hj => by omega
  | i + 1,m,h,j,hj => by
    simp only [nextN] at h
    split at h
    · cases h
    · rename_i m' hm'
      have ih := nextN_get hm'
      split at h
      · cases h
      · rename_i hc
        simp only [Option.some.injEq] at h
        by_cases e : j = i
        · subst e
          split at h <;> omega
        · have := ih j (by omega)
          split at h <;> omega
theorem cls_ok {cl : List Int} (h : rightC cl = true) : cl.length = 256 ∧ ∀ j : Nat,j < 256 → 0 ≤ cl.getD j 0 ∧ cl.getD j 0 < ((leastC cl).length : Int) := by
  have h0 := h
  rw [rightC,Bool.and_eq_true,decide_eq_true_eq,Option.isSome_iff_exists] at h
  obtain ⟨h1,m,h2⟩ := h
  rw [h1] at h2
  refine ⟨h1,fun j hj => ?_⟩
  have e : (leastC cl).length = m := by rw [leastC,if_pos h0];exact leastN_len h2
  rw [e]
  exact nextN_get h2 j hj
theorem mr_ent {d : Df} (h : mB d = true) {i t : Nat} (hi : i < d.sts.length) {r : List Int} (hr : (r.length : Int) = (stAt d.sts i).regs) (ht : t < (stAt d.sts i).acc.length) : RegOk r ((stAt d.sts i).acc.getD t 0) := by
  have := (of_decide_eq_true (mr_st h hi).2.1 : AccOk _ _).2 t ht
  have := (of_decide_eq_true this : entP _ _ _)
  unfold RegOk
  rcases this with h|h|h <;> omega
theorem mr_edge {d : Df} (h : mB d = true) {i c : Nat} (hi : i < d.sts.length) (hc : c < (stAt d.sts i).eds.length) : EdgeOk d (edAt (stAt d.sts i).eds c) (stAt d.sts i).regs := of_decide_eq_true ((mr_st h hi).2.2 c hc)
theorem mr_src {d : Df} (h : mB d = true) {i c k : Nat} (hi : i < d.sts.length) (hc : c < (stAt d.sts i).eds.length) {r : List Int} (hr : (r.length : Int) = (stAt d.sts i).regs) (hk : k < (edAt (stAt d.sts i).eds c).src.length) : RegOk r ((edAt (stAt d.sts i).eds c).src.getD k 0) := by
  rcases mr_edge h hi hc with ⟨_,g⟩|⟨_,g1,g2,g3,g4⟩
  · omega
  · have := (of_decide_eq_true (g4 k hk) : entP _ _ _)
    unfold RegOk
    rcases this with h|h|h <;> omega

/-- A car that is somewhere. -/
structure VC (d : Df) (c : Cr) : Prop where
  st : c.st = -1 ∨ (0 ≤ c.st ∧ c.st < d.sts.length ∧ (c.regs.length : Int) = (stAt d.sts c.st.toNat).regs)
  rl : c.regs.length ≤ 2000
  tl : c.tags.length ≤ 1000
theorem VC.acc {d : Df} (B : Bd d) {c : Cr} (v : VC d c) : VC d (crAcc d c) := by
  unfold crAcc
  split
  · rename_i h
    have h : 0 ≤ c.st ∧ _ := of_decide_eq_true h
    refine ⟨v.st,v.rl,?_⟩
    rw [length_eachF]
    rcases v.st with e|⟨h0,h1,h2⟩
    · omega
    · exact B.acc _ (by omega)
  · exact v
theorem crEd_ok {d : Df} (h : mB d = true) {c : Cr} {b : Int} (h0 : 0 ≤ c.st) (h1 : c.st < d.sts.length) (hb : 0 ≤ b ∧ b ≤ 255) : b.toNat < d.cls.length ∧ 0 ≤ d.cls.getD b.toNat 0 ∧ (d.cls.getD b.toNat 0).toNat < (stAt d.sts c.st.toNat).eds.length := by
  have m := mr_ok h
  have cl := cls_ok m.1.2.2.2.2.2
  have st := mr_st h (i := c.st.toNat) (by omega)
  have := cl.2 b.toNat (by omega)
  have := st.1.2.2
  omega
theorem VC.go {d : Df} (B : Bd d) (h : mB d = true) {c : Cr} (v : VC d c) {b : Int} (hb : 0 ≤ b ∧ b ≤ 255) : VC d (crGo d c b) := by
  unfold crGo
  split
  · rename_i h0
    rcases v.st with e|⟨_,h1,h2⟩
    · omega
    have q := crEd_ok h h0 h1 hb
    have ed := mr_edge h (i := c.st.toNat) (by omega) q.2.2
    have bs := B.src c.st.toNat (by omega) _ q.2.2
    refine ⟨?_,?_,v.tl⟩
    · show (crEd d c b).to = -1 ∨ _
      show (crEd d c b).to = -1 ∨ (0 ≤ (crEd d c b).to ∧ (crEd d c b).to < d.sts.length ∧ ((eachF c.pos c.regs (crEd d c b).src).length : Int) = (stAt d.sts (crEd d c b).to.toNat).regs)
      rw [length_eachF]
      rcases ed with ⟨g,_⟩|⟨_,g1,g2,g3,_⟩
      · exact .inl g
      · exact .inr ⟨g1,g2,g3⟩
    · show (eachF c.pos c.regs (crEd d c b).src).length ≤ _
      rw [length_eachF];exact bs
  · exact ⟨v.st,v.rl,v.tl⟩
theorem VC.feed {d : Df} (B : Bd d) (h : mB d = true) {c : Cr} (v : VC d c) {b : Int} (hb : 0 ≤ b ∧ b ≤ 255) : VC d (crFeed d c b) :=
  VC.acc B ⟨(v.go B h hb).st,(v.go B h hb).rl,(v.go B h hb).tl⟩
theorem VC.new {d : Df} (B : Bd d) (h : mB d = true) : VC d (crNew d) := by
  have m := mr_ok h
  refine VC.acc B ⟨.inr ⟨by simp,by have := m.1.2.2.2.1;simp only;omega,?_⟩,by simp,by simp⟩
  show ((0 : Nat) : Int) = (stAt d.sts 0).regs
  rw [m.2.1];rfl
theorem VC.fold {d : Df} (B : Bd d) (h : mB d = true) : ∀ {w : List Int} {c : Cr},VC d c → (∀ x ∈ w,0 ≤ x ∧ x ≤ 255) → VC d (w.foldl (crFeed d) c)
  | [],_,v,_ => v
  | x :: w,c,v,hw => VC.fold B h (w := w) (v.feed B h (hw x (by simp))) (fun y hy => hw y (by simp [hy]))
theorem pos_acc {d : Df} {c : Cr} : (crAcc d c).pos = c.pos := by unfold crAcc;split <;> rfl
theorem pos_go {d : Df} {c : Cr} {b : Int} : (crGo d c b).pos = c.pos := by unfold crGo;split <;> rfl
theorem pos_feed {d : Df} {c : Cr} {b : Int} : (crFeed d c b).pos = c.pos + 1 := by
  unfold crFeed
  rw [pos_acc]
  show (crGo d c b).pos + 1 = _
  rw [pos_go]
theorem pos_new {d : Df} : (crNew d).pos = 0 := pos_acc
theorem pos_fold {d : Df} : ∀ {w : List Int} {c : Cr},(w.foldl (crFeed d) c).pos = c.pos + w.length
  | [],c => by simp
  | x :: w,c => by rw [List.foldl_cons,pos_fold,pos_feed];simp;omega
theorem fold_take {d : Df} {w : List Int} {i : Nat} (hi : i < w.length) : (w.take (i + 1)).foldl (crFeed d) (crNew d) = crFeed d ((w.take i).foldl (crFeed d) (crNew d)) (w.getD i 0) := by
  rw [List.take_succ_eq_append_getElem hi,List.foldl_append,List.getD_eq_getElem?_getD,List.getElem?_eq_getElem hi];rfl

end Go.Proofs.Ytglgmmoomlnghaa
