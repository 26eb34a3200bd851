/-
  place.above's closure, which goes up from a node: what it does, whatever the loop's rounds do; in worlds.
-/
import Derived.Test.YtllemobnfpljfaaHty
import Derived.Test.YtllemobnfpljfaaHs18
import Derived.RangeFuncKeeps
import Derived.RangeFuncLeaves
import Derived.RangeFuncBox
import Derived.Shelf.Abstract
import Derived.WalkKit
import Derived.OwnWalkIn
import Derived.TacticsInMore
import Derived.LoopNIn
import Derived.LoopIn
set_option linter.unusedSimpArgs false
namespace Go.Proofs.Ytllemobnfpljfaa
open Go Go.Hs
open Go.RowKit

attribute [local go_sem] Oper.semAt_some

noncomputable def upMu (N : Int) (kq : Nat) (wr : World) : Nat := match wr.cell? ⟨kq, 0, none⟩ with
  | some (.int _ q) => if q < 0 then 0 else (N - q).toNat
  | _ => 0
theorem upMu_eq {N q : Int} {kq : Nat} {wr : World} {k : IntKind} (h : wr.cell? ⟨kq, 0, none⟩ = some (.int k q)) : upMu N kq wr = if q < 0 then 0 else (N - q).toNat := by
  unfold upMu; rw [h]

set_option maxRecDepth 100000 in
set_option maxHeartbeats 1000000 in
theorem above1_in (n : Nat) (hn : 1 ≤ n) (l kq ku : Nat) (N : Int) (J J2 : Int → World → Prop) (Jx : World → Prop)
    (hlt : ∀ q W, J q W → q < N) (hq : ∀ q W, J q W → W.cell? ⟨kq, 0, none⟩ = some (.int .i64 q))
    (hY : ∀ q W, J q W → 0 ≤ q → YieldAt Fence.wide (n - 1) Try.prog l #[.int .i64 q] W fun e W' => (e = .returned (.bool true) ∧ J2 q W') ∨ (e = .returned (.bool false) ∧ Jx W'))
    (hS : ∀ q W, J2 q W → 0 ≤ q → ∃ (q' : Int) (g nn cap : Nat), (q < q' ∨ q' < 0) ∧ W.cell? ⟨ku, 0, none⟩ = some (.slice (some ⟨g, 0, none⟩) nn cap) ∧ q.toNat < nn ∧ W.cell? ⟨g, q.toNat, none⟩ = some (.int .i64 q') ∧
      W.cell? ⟨kq, 0, none⟩ = some (.int .i64 q) ∧ W.frozen? ⟨kq, 0, none⟩ = false ∧ J q' (W.setCell ⟨kq, 0, none⟩ (.int .i64 q')))
    (q0 : Int) (W : World) (h0 : J q0 W) :
    CallsIn Fence.wide n Try.prog 157 #[.func (.yield l) #[] #[], .pointer (some ⟨kq, 0, none⟩), .pointer (some ⟨ku, 0, none⟩)] W fun e W' => (∃ v, e = .returned v) ∧ ((∃ q, q < 0 ∧ J q W') ∨ Jx W') := by
  refine callsIn_of_wp Try.func157 rfl trivial ?_ rfl
  simp only [Try.ntmps157, List.size_toArray, List.length_cons, List.length_nil, Nat.reduceAdd, Nat.reduceSub, Array.replicate_succ, Array.replicate_zero, List.push_toArray, List.append_toArray, List.nil_append, List.cons_append]
  gi_wp2
  gi_loopw [] (fun wr => ∃ q, J q wr) (fun wr => upMu N kq wr)
  case atStart => exact ⟨q0, h0⟩
  case round =>
    obtain ⟨q, hJ⟩ := hrel
    have c0 := hq q _ hJ
    by_cases hq0 : q < 0
    · gi_wp2
      go_end0
      exact ⟨⟨_, rfl⟩, .inl ⟨q, hq0, hJ⟩⟩
    · obtain ⟨fn, tmps, assign, body, hy, hR⟩ := hY q _ hJ (by omega)
      gi_wp2
      refine hR.mono ?_
      rintro e W3 (⟨rfl, hJ2⟩ | ⟨rfl, hJx⟩)
      · obtain ⟨q', g, nn, cap, hlt', c1, hnn, c2, c3, c4, hJ'⟩ := hS q _ hJ2 (by omega)
        gi_wp2
        go_roundw
        case rel => exact ⟨q', hJ'⟩
        case measure =>
          rw [upMu_eq c0, upMu_eq (hq _ _ hJ')]
          have := hlt q _ hJ
          have := hlt q' _ hJ'
          (repeat' split) <;> omega
      · gi_wp2
        refine bodyPost_ret (results_none rfl _ _ _) rfl ?_
        exact ⟨⟨_, rfl⟩, .inr hJx⟩

end Go.Proofs.Ytllemobnfpljfaa
