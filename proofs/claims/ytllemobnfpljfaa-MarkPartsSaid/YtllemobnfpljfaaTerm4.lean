/-
  term.Right, Up, Deep; the document's Right, Low, Up, Deep.
-/
import Derived.Test.YtllemobnfpljfaaTerm2
set_option linter.unusedSimpArgs false
namespace Go.Proofs.Ytllemobnfpljfaa
open Go Go.Hs
def L74 (r : Nat) : Option (List Nat) := kl r [(0, [0]), (1, [2])]
def O74 (r : Nat) : List Nat × OT := ordl r []
def L54 (r : Nat) : Option (List Nat) := kl r [(0, [0]), (1, [2])]
def O54 (r : Nat) : List Nat × OT := ordl r []
def L132 (r : Nat) : Option (List Nat) := kl r [(0, [0]), (1, [2])]
def O132 (r : Nat) : List Nat × OT := ordl r []

theorem tRows_frz (l : List Tm) : AC.frz.frzLL (tRows l) = tRows l := by
  show frzLL _ = _
  rw [frzLL_eq]
  simp [tRows, Tm.cs, frzL_eq, AC.frz]

def rightF (l : List Tm) : Bool := !(lowsF l).isEmpty

theorem Right_ok (l : List Tm) : Contract Try.prog 74 [.c (.sl 8 (tRows l))] (.c (.im (.bool (rightF l)))) := by
  (refine contract_of_awp (L := L74) Try.func74 rfl (by kernel_rfl) (by first | rfl | decide) (by first | rfl | kernel_rfl) ?_; simp only [Try.ntmps74, initEnv, Env.keys, List.map_nil, List.map_cons, List.append_nil, List.cons_append, List.nil_append])
  (repeat (first | (with_reducible (first | refine awp_seq ?_ | (refine awp_regionk ?_; intro KR hKR) | refine awp_block ?_ | refine awp_skip ?_ | refine awp_exit ?_ | refine awp_ret ?_ | refine awp_label ?_ | refine awp_goto ?_ | (refine awp_drawk O74 (by kernel_rfl) (by kernel_rfl) ?_; intro KR hKR; simp only [O74, ordl, ↓reduceIte, reduceCtorEq, Nat.reduceEqDiff]))) | ((with_reducible first | refine aops_step ?_ | refine rops_v ?_ | refine rops_l ?_ | refine rops_g ?_ | refine rops_e ?_ | refine altN_step ?_); intro K hK; simp (disch := omega) only [go_sem, seval, Tm.cs, binSet, length_tRows, tRows_ex, tRows_frz, getK, getA, getB, getN, getTm, getSet]; (try ((with_reducible first | refine gopO_t ?_ | refine gopO_v rfl ?_); simp (disch := omega) only [go_sem, seval, Tm.cs, binSet, length_tRows, tRows_ex, tRows_frz, getK, getA, getB, getN, getTm, getSet])); ((repeat (first | (intro (xb : Blk)) | (intro (xk : Nat)) | (intro hx) | (refine ⟨by (first | omega | (intro hg; simp [-List.getD_eq_getElem?_getD] at hg; omega) | assumption | decide), ?_⟩))); refine hK _ ?_; clear K hK)) | ((with_reducible first | refine aops_nil ?_ | refine rops_nil ?_); simp only [go_sem, seval, L54, O54, L74, O74, L132, O132]; refine hKR _ ?_; clear KR hKR) | (simp only [thenE, inB, ↓reduceIte, reduceCtorEq, Nat.reduceEqDiff])))
  ((with_reducible (first | refine aops_step ?_ | refine rops_g ?_ | refine rops_e ?_ | refine altN_step ?_)); intro K hK; simp (disch := omega) only [go_sem, seval, Tm.cs, binSet, length_tRows, tRows_ex, tRows_frz, getK, getA, getB, getN, getTm, getSet]; (try ((with_reducible refine gopO_t ?_); simp (disch := omega) only [go_sem, seval, Tm.cs, binSet, length_tRows, tRows_ex, tRows_frz, getK, getA, getB, getN, getTm, getSet])); refine ⟨[], by simp, by simp [Env.sel, Env.get, Env.keys, AV.isS], ?_⟩; simp (disch := omega) only [go_sem, seval, Tm.cs, binSet, length_tRows, tRows_ex, tRows_frz, getK, getA, getB, getN, getTm, getSet]; refine ⟨_, Low_ok l, ?_⟩; intro r H' hr hk; (try obtain rfl := keys_nil hk); (obtain ⟨b, rfl⟩ := hr); (try simp (disch := omega) only [AV.flat, AC.flat, AC.flat.flatL, AC.flat.flatLL, go_sem, seval, Tm.cs, binSet, length_tRows, tRows_ex, tRows_frz, getK, getA, getB, getN, getTm, getSet]); ((repeat (first | (intro (xb : Blk)) | (intro (xk : Nat)) | (intro hx) | (refine ⟨by (first | omega | (intro hg; simp [-List.getD_eq_getElem?_getD] at hg; omega) | assumption | decide), ?_⟩))); refine hK _ ?_; clear K hK))
  (repeat (first | (with_reducible (first | refine awp_seq ?_ | (refine awp_regionk ?_; intro KR hKR) | refine awp_block ?_ | refine awp_skip ?_ | refine awp_exit ?_ | refine awp_ret ?_ | refine awp_label ?_ | refine awp_goto ?_ | (refine awp_drawk O74 (by kernel_rfl) (by kernel_rfl) ?_; intro KR hKR; simp only [O74, ordl, ↓reduceIte, reduceCtorEq, Nat.reduceEqDiff]))) | ((with_reducible first | refine aops_step ?_ | refine rops_v ?_ | refine rops_l ?_ | refine rops_g ?_ | refine rops_e ?_ | refine altN_step ?_); intro K hK; simp (disch := omega) only [go_sem, seval, Tm.cs, binSet, length_tRows, tRows_ex, tRows_frz, getK, getA, getB, getN, getTm, getSet]; (try ((with_reducible first | refine gopO_t ?_ | refine gopO_v rfl ?_); simp (disch := omega) only [go_sem, seval, Tm.cs, binSet, length_tRows, tRows_ex, tRows_frz, getK, getA, getB, getN, getTm, getSet])); ((repeat (first | (intro (xb : Blk)) | (intro (xk : Nat)) | (intro hx) | (refine ⟨by (first | omega | (intro hg; simp [-List.getD_eq_getElem?_getD] at hg; omega) | assumption | decide), ?_⟩))); refine hK _ ?_; clear K hK)) | ((with_reducible first | refine aops_nil ?_ | refine rops_nil ?_); simp only [go_sem, seval, L54, O54, L74, O74, L132, O132]; refine hKR _ ?_; clear KR hKR) | (simp only [thenE, inB, ↓reduceIte, reduceCtorEq, Nat.reduceEqDiff])))
  (simp only [retQ, Try.results74]; simp (disch := omega) only [resK, resT, resAV, Env.sel, Env.keys, List.map_nil, List.map_cons, List.all_nil, List.all_cons, AV.isS, Bool.not_false, Bool.and_self, Option.map_some, List.length_cons, List.length_nil, Nat.zero_add, Nat.reduceAdd, not_false_eq_true, true_and, and_true, ne_eq, go_sem, seval, Tm.cs, binSet, length_tRows, tRows_ex, tRows_frz, getK, getA, getB, getN, getTm, getSet])
  cases h : lowsF l <;> simp [rightF, h]
end Go.Proofs.Ytllemobnfpljfaa
