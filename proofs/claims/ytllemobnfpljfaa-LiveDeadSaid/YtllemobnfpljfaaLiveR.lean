/-
  PLAIN: what stands in a register that does not matter is not seen.
-/
import Derived.Test.YtllemobnfpljfaaLiveQ
set_option linter.unusedSimpArgs false
set_option linter.unusedVariables false
namespace Go.Proofs.Ytllemobnfpljfaa
open Go Go.Hs

def dE (d : Df) (i c k : Nat) : Ed := ⟨(edAt (stAt d.sts i).eds c).to, (edAt (stAt d.sts i).eds c).src.set k (-1)⟩
def dS (d : Df) (i c k : Nat) : Sta := ⟨(stAt d.sts i).regs, (stAt d.sts i).acc, (stAt d.sts i).eds.set c (dE d i c k)⟩
def deadD (d : Df) (i c k : Nat) : Df := ⟨d.tags, d.cls, d.sts.set i (dS d i c k)⟩
theorem getD_set {α : Type} {l : List α} {i j : Nat} {x z : α} (h : i < l.length) : (l.set i x).getD j z = if j = i then x else l.getD j z := by
  simp only [List.getD_eq_getElem?_getD, List.getElem?_set]
  by_cases e : i = j
  · subst e; simp [h]
  · have : ¬ j = i := fun h => e h.symm
    simp [e, this]
section
variable {d : Df} {i c k : Nat} {T : List (List Bool)}
theorem dd_len : (deadD d i c k).sts.length = d.sts.length := by simp [deadD]
theorem dd_at (hi : i < d.sts.length) {j : Nat} : stAt (deadD d i c k).sts j = if j = i then dS d i c k else stAt d.sts j := by
  unfold stAt deadD; exact getD_set hi
theorem dd_regs (hi : i < d.sts.length) {j : Nat} : (stAt (deadD d i c k).sts j).regs = (stAt d.sts j).regs := by
  rw [dd_at hi]; split
  · rename_i h; subst h; rfl
  · rfl
theorem dd_acc (hi : i < d.sts.length) {j : Nat} : (stAt (deadD d i c k).sts j).acc = (stAt d.sts j).acc := by
  rw [dd_at hi]; split
  · rename_i h; subst h; rfl
  · rfl
theorem dd_elen (hi : i < d.sts.length) {j : Nat} : (stAt (deadD d i c k).sts j).eds.length = (stAt d.sts j).eds.length := by
  rw [dd_at hi]; split
  · rename_i h; subst h; simp [dS]
  · rfl
theorem dd_ed (hi : i < d.sts.length) (hc : c < (stAt d.sts i).eds.length) {j q : Nat} : edAt (stAt (deadD d i c k).sts j).eds q = if j = i ∧ q = c then dE d i c k else edAt (stAt d.sts j).eds q := by
  rw [dd_at hi]
  by_cases h : j = i
  · subst h
    rw [if_pos rfl]
    unfold edAt dS
    rw [getD_set hc]
    by_cases e : q = c
    · rw [if_pos e, if_pos ⟨rfl, e⟩]
    · rw [if_neg e, if_neg (fun h => e h.2)]
  · rw [if_neg h, if_neg (fun e => h e.1)]
theorem dd_to (hi : i < d.sts.length) (hc : c < (stAt d.sts i).eds.length) {j q : Nat} : (edAt (stAt (deadD d i c k).sts j).eds q).to = (edAt (stAt d.sts j).eds q).to := by
  rw [dd_ed hi hc]; split
  · rename_i h; rw [h.1, h.2]; rfl
  · rfl
theorem dd_slen (hi : i < d.sts.length) (hc : c < (stAt d.sts i).eds.length) {j q : Nat} : (edAt (stAt (deadD d i c k).sts j).eds q).src.length = (edAt (stAt d.sts j).eds q).src.length := by
  rw [dd_ed hi hc]; split
  · rename_i h; rw [h.1, h.2]; simp [dE]
  · rfl
theorem dd_src (hi : i < d.sts.length) (hc : c < (stAt d.sts i).eds.length) (hk : k < (edAt (stAt d.sts i).eds c).src.length) {j q t : Nat} : (edAt (stAt (deadD d i c k).sts j).eds q).src.getD t 0 = if j = i ∧ q = c ∧ t = k then -1 else (edAt (stAt d.sts j).eds q).src.getD t 0 := by
  rw [dd_ed hi hc]
  by_cases h : j = i ∧ q = c
  · rw [if_pos h, h.1, h.2]
    unfold dE
    rw [getD_set hk]
    by_cases e : t = k
    · rw [if_pos e, if_pos ⟨rfl, rfl, e⟩]
    · rw [if_neg e, if_neg (fun h => e h.2.2)]
  · rw [if_neg h, if_neg (fun e => h ⟨e.1, e.2.1⟩)]
theorem dd_bd (B : Bd d) (hi : i < d.sts.length) (hc : c < (stAt d.sts i).eds.length) : Bd (deadD d i c k) := by
  refine ⟨by rw [dd_len]; exact B.sts, B.cls, fun j hj => ?_, fun j hj => ?_, fun j hj q hq => ?_⟩
  · rw [dd_len] at hj; rw [dd_acc hi]; exact B.acc j hj
  · rw [dd_len] at hj; rw [dd_elen hi]; exact B.eds j hj
  · rw [dd_len] at hj; rw [dd_elen hi] at hq; rw [dd_slen hi hc]; exact B.src j hj q hq
theorem dd_m (hm : mB d = true) (hi : i < d.sts.length) (hc : c < (stAt d.sts i).eds.length) (hk : k < (edAt (stAt d.sts i).eds c).src.length) : mB (deadD d i c k) = true := by
  have m := mr_ok hm
  refine decide_eq_true ⟨?_, ?_, fun j hj => ?_⟩
  · unfold MHead; rw [dd_len]; exact m.1
  · rw [dd_regs hi]; exact m.2.1
  rw [dd_len] at hj
  have st := mr_st hm hj
  refine decide_eq_true ⟨⟨?_, ?_, ?_⟩, decide_eq_true ⟨?_, fun t ht => ?_⟩, fun q hq => ?_⟩
  · rw [dd_regs hi]; exact st.1.1
  · rw [dd_regs hi]; exact st.1.2.1
  · rw [dd_elen hi]; exact st.1.2.2
  · rw [dd_acc hi]; exact (of_decide_eq_true st.2.1 : AccOk _ _).1
  · rw [dd_acc hi] at ht; rw [dd_acc hi, dd_regs hi]; exact (of_decide_eq_true st.2.1 : AccOk _ _).2 t ht
  · rw [dd_elen hi] at hq
    refine decide_eq_true ?_
    unfold EdgeOk
    rw [dd_to hi hc, dd_slen hi hc, dd_len, dd_regs hi, dd_regs hi]
    rcases mr_edge hm hj hq with g | ⟨g0, g1, g2, g3, g4⟩
    · exact .inl g
    · refine .inr ⟨g0, g1, g2, g3, fun t ht => ?_⟩
      rw [dd_src hi hc hk]
      split
      · exact decide_eq_true (.inr (.inl rfl))
      · exact g4 t ht

/-! Two cars. -/
structure SimD (T : List (List Bool)) (a e : Cr) : Prop where
  pos : e.pos = a.pos
  st : e.st = a.st
  tags : e.tags = a.tags
  to : e.to = a.to
  len : e.regs.length = a.regs.length
  regs : 0 ≤ a.st → ∀ n, bGet T a.st.toNat n = true → e.regs.getD n 0 = a.regs.getD n 0
theorem hereD {a e : Cr} (s : SimD T a e) (h0 : 0 ≤ a.st) {n : Int} (hv : RegOk a.regs n) (hlive : 0 ≤ n → bGet T a.st.toNat n.toNat = true) : hereF e.pos e.regs n = hereF a.pos a.regs n := by
  by_cases h : 0 ≤ n
  · rw [hereF, if_neg (by omega), if_neg (by omega), hereF, if_neg (by omega), if_neg (by omega)]
    exact s.regs h0 _ (hlive h)
  · rcases hv with h | h | h
    · rw [h, hereF, if_pos rfl, hereF, if_pos rfl, s.pos]
    · rw [h]; rfl
    · omega
theorem simD_crB (hi : i < d.sts.length) {a e : Cr} (s : SimD T a e) : crB (deadD d i c k) e = crB d a := by
  unfold crB
  rw [s.st, dd_acc hi]
theorem simD_acc (hL : Live d T) (hm : mB d = true) (hi : i < d.sts.length) {a e : Cr} (v : VC d a) (s : SimD T a e) : SimD T (crAcc d a) (crAcc (deadD d i c k) e) := by
  unfold crAcc
  rw [simD_crB hi s]
  split
  · rename_i h
    have h : 0 ≤ a.st ∧ _ := of_decide_eq_true h
    rcases v.st with g | ⟨h0, h1, h2⟩
    · omega
    refine ⟨s.pos, s.st, ?_, s.pos, s.len, s.regs⟩
    show eachF e.pos e.regs (stAt (deadD d i c k).sts e.st.toNat).acc = eachF a.pos a.regs (stAt d.sts a.st.toNat).acc
    rw [s.st, dd_acc hi]
    refine list_ext_getD (by rw [length_eachF, length_eachF]) fun t ht => ?_
    rw [length_eachF] at ht
    rw [eachF_get ht, eachF_get ht]
    exact hereD s h0 (mr_ent hm (by omega) h2 ht) (hL.inv.fst _ (by omega) t ht)
  · exact s
theorem simD_go (hL : Live d T) (hm : mB d = true) (hi : i < d.sts.length) (hc : c < (stAt d.sts i).eds.length) (hk : k < (edAt (stAt d.sts i).eds c).src.length) (hd : bGet T (edAt (stAt d.sts i).eds c).to.toNat k = false) {a e : Cr} (v : VC d a) (s : SimD T a e) {b : Int} (hb : 0 ≤ b ∧ b ≤ 255) :
    SimD T (crGo d a b) (crGo (deadD d i c k) e b) := by
  unfold crGo
  rw [s.st]
  by_cases h0 : 0 ≤ a.st
  · rw [if_pos h0, if_pos h0]
    rcases v.st with g | ⟨_, h1, h2⟩
    · omega
    have q := crEd_ok hm h0 h1 hb
    have hj : a.st.toNat < d.sts.length := by omega
    have e1 : (crEd (deadD d i c k) e b).to = (crEd d a b).to := by unfold crEd; rw [s.st]; exact dd_to hi hc
    have e2 : (crEd (deadD d i c k) e b).src.length = (crEd d a b).src.length := by unfold crEd; rw [s.st]; exact dd_slen hi hc
    refine ⟨s.pos, e1, s.tags, s.to, ?_, ?_⟩
    · show (eachF _ _ _).length = (eachF _ _ _).length
      rw [length_eachF, length_eachF, e2]
    show 0 ≤ (crEd d a b).to → ∀ n, bGet T (crEd d a b).to.toNat n = true → (eachF e.pos e.regs (crEd (deadD d i c k) e b).src).getD n 0 = (eachF a.pos a.regs (crEd d a b).src).getD n 0
    intro g0 n hn
    have hr := hL.inv.shp.row
    have hn3 : n < (crEd d a b).src.length := by
      have := getD_out hn
      rcases mr_edge hm hj q.2.2 with ⟨g, _⟩ | ⟨_, g1, g2, g3, _⟩
      · unfold crEd at g0; omega
      · have r := hr _ (show (edAt (stAt d.sts a.st.toNat).eds (d.cls.getD b.toNat 0).toNat).to.toNat < d.sts.length by omega)
        unfold crEd at this ⊢
        omega
    rw [eachF_get (by rw [e2]; exact hn3), eachF_get hn3]
    have e3 : (crEd (deadD d i c k) e b).src.getD n 0 = (crEd d a b).src.getD n 0 := by
      unfold crEd
      rw [s.st, show (deadD d i c k).cls = d.cls from rfl, dd_src hi hc hk, if_neg]
      rintro ⟨x1, x2, x3⟩
      unfold crEd at hn
      rw [x1, x2, x3, hd] at hn
      cases hn
    rw [e3]
    exact hereD s h0 (mr_src hm hj q.2.2 h2 hn3) (fun h => hL.clo _ hj _ q.2.2 n hn3 h hn)
  · rw [if_neg h0, if_neg h0]
    exact ⟨s.pos, rfl, s.tags, s.to, s.len, fun g => absurd g h0⟩
theorem simD_feed (hL : Live d T) (B : Bd d) (hm : mB d = true) (hi : i < d.sts.length) (hc : c < (stAt d.sts i).eds.length) (hk : k < (edAt (stAt d.sts i).eds c).src.length) (hd : bGet T (edAt (stAt d.sts i).eds c).to.toNat k = false) {a e : Cr} (v : VC d a) (s : SimD T a e) {b : Int} (hb : 0 ≤ b ∧ b ≤ 255) : SimD T (crFeed d a b) (crFeed (deadD d i c k) e b) := by
  have g := simD_go hL hm hi hc hk hd v s hb
  have vg := v.go B hm hb
  refine simD_acc hL hm hi ⟨vg.st, vg.rl, vg.tl⟩ ⟨?_, g.st, g.tags, g.to, g.len, g.regs⟩
  show (crGo (deadD d i c k) e b).pos + 1 = (crGo d a b).pos + 1
  rw [g.pos]
theorem simD_new (hL : Live d T) (hm : mB d = true) (hi : i < d.sts.length) : SimD T (crNew d) (crNew (deadD d i c k)) := by
  have m := mr_ok hm
  refine simD_acc hL hm hi ⟨.inr ⟨by simp, by have := m.1.2.2.2.1; simp only; omega, ?_⟩, by simp, by simp⟩ ⟨rfl, rfl, rfl, rfl, rfl, fun _ n hn => rfl⟩
  show ((0 : Nat) : Int) = (stAt d.sts 0).regs
  rw [m.2.1]; rfl
theorem simD_fold (hL : Live d T) (B : Bd d) (hm : mB d = true) (hi : i < d.sts.length) (hc : c < (stAt d.sts i).eds.length) (hk : k < (edAt (stAt d.sts i).eds c).src.length) (hd : bGet T (edAt (stAt d.sts i).eds c).to.toNat k = false) : ∀ {w : List Int} {a e : Cr}, VC d a → SimD T a e → (∀ x ∈ w, 0 ≤ x ∧ x ≤ 255) → SimD T (w.foldl (crFeed d) a) (w.foldl (crFeed (deadD d i c k)) e)
  | [], _, _, _, s, _ => s
  | x :: w, a, e, v, s, hw => simD_fold hL B hm hi hc hk hd (w := w) (v.feed B hm (hw x (by simp))) (simD_feed hL B hm hi hc hk hd v s (hw x (by simp))) (fun y hy => hw y (by simp [hy]))
theorem dead_search (hL : Live d T) (B : Bd d) (hm : mB d = true) (hi : i < d.sts.length) (hc : c < (stAt d.sts i).eds.length) (hk : k < (edAt (stAt d.sts i).eds c).src.length) (hd : bGet T (edAt (stAt d.sts i).eds c).to.toNat k = false) {w : List Int} (hw : ∀ x ∈ w, 0 ≤ x ∧ x ≤ 255) : searchD (deadD d i c k) w = searchD d w := by
  have s := simD_fold hL B hm hi hc hk hd (VC.new B hm) (simD_new (c := c) (k := k) hL hm hi) hw
  exact find_eq s.tags s.to
end

end Go.Proofs.Ytllemobnfpljfaa
