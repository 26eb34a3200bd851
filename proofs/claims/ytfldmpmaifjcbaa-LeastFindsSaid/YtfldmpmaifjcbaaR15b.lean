/-
  Parts of a proof, side by side.
-/
import Derived.Test.YtfldmpmaifjcbaaLsW
import Derived.Test.YtfldmpmaifjcbaaKidsP
import Derived.SizedLaws
import Derived.Test.YtfldmpmaifjcbaaRows
import Derived.Test.YtfldmpmaifjcbaaLaw15c
import Derived.JoinedCond
/-
  What a law's arguments read as: entries, bytes, frames.
-/
set_option linter.unusedSimpArgs false
set_option linter.unusedVariables false
set_option maxRecDepth 10000
namespace Go.Proofs.Ytfldmpmaifjcbaa
open Go Go.Hs

theorem lvU8 : lvs Try.prog 5 = some [5] := by kernel_rfl
section
variable {H : Type} {enc : TypeId × Value → H} {w : World} {v : Value} {d : DataW H} {ps : List MemPlace}

theorem rd_bytes (hok : Value.okWide Try.prog w .any 0 30 v) (h : DataW.Trod enc Try.prog w 0 (fun _ => true) true 30 v d ps) :
    ∃ l : List Int,(l.length ≤ maxLen ∧ ∀ m ∈ l,0 ≤ m ∧ m ≤ 255) ∧ RdS w (fun b => b < w.heap.size) v (.c (.sl 1 (kRows .u8 l))) := by
  obtain ⟨c,h1,h2⟩ := rd_arg 3 (by kernel_rfl) hok h
  obtain ⟨l,rfl,h3,h4⟩ := ok_ints Try.underlying30 lvU8 Try.underlying5 h1
  exact ⟨l,⟨h3,fun m hm => wf_u8' (h4 m hm)⟩,h2⟩
end

end Go.Proofs.Ytfldmpmaifjcbaa

/-
  How long a list of terms can be that came in: by the form's own reach.
-/
set_option maxRecDepth 10000
namespace Go.Proofs.Ytfldmpmaifjcbaa
open Go Go.Hs Go.ChangeShapes Go.WideShapes Go.ChangeAt Go.RowKit

theorem rd_terms_sz {H : Type} {enc : TypeId × Value → H} {w : World} {p : Nat → Prop} {v : Value} {d : DataW H} {ps : List MemPlace} {l : List Tm} (h : DataW.Trod enc Try.prog w 0 (fun _ => true) true 22 v d ps) (hr : RdS w p v (.c (.sl 8 (tRows l))))
    {ts : List TypeId} {ds : List (DataW H)} {j : Nat} (hz : (DataW.weightsEach Try.prog ts ds).all (· ≤ reachBytes) = true) (hi : ts[j]? = some 22) (hd : ds[j]? = some d) : l.length ≤ 2199023255552 := by
  have hb : Try.prog.bytesOf 38 = 64 := by kernel_rfl
  obtain ⟨fuel,hf⟩ := h
  have hr' : RdC w p v (.sl 8 (tRows l)) := hr
  have hlt := reachBytes_lt
  generalize hE : tRows l = E at hr'
  have hl : l.length = E.length := by rw [← hE,length_tRows]
  cases hr' with
  | nilS => rw [hl];simp
  | sl a n cap _ _ us hn h1 h2 h3 h4 h5 =>
    rcases DataW.trod_slice Try.underlying22 hf with ⟨hv,_⟩|⟨a',len,cap',elems,rest,m,_,hv,hx,_,_,_,hlen,_⟩
    · cases hv
    · cases hv
      have hd' : d = .slice (elems.map (·.1)) (rest.map (·.1)) := congrArg Prod.fst hx
      rw [hd'] at hd
      have := sized_slice hz hi hd Try.underlying22
      rw [hb] at this
      simp only [List.length_map] at this
      omega

section
variable {H : Type} {enc : TypeId × Value → H} {w : World} {v : Value} {d : DataW H} {ps : List MemPlace}
end

end Go.Proofs.Ytfldmpmaifjcbaa

/-
  The statement LeastFinds: whatever the input, the law returns true, and the input reads as it did.
-/
namespace Go.Proofs.Ytfldmpmaifjcbaa.LeastFindsRow
open Go Go.Hs Go.ChangeShapes Go.WideShapes Go.ChangeAt Go.RowKit

theorem ownKnobs : ownKnob Try.prog.godebug = none := by kernel_rfl
theorem laidOut : laidOutB Try.prog = true := by kernel_rfl

set_option maxRecDepth 100000 in
theorem lifted (os : Os) (started : os.Started) (H : Type) (enc : TypeId × Value → H) :
    ReturnsInHanded {} Try.checked os 10 .any (Rows.leastFindsSpec.pre6 enc Try.prog Try.f10 Rows.leastFindsRow.domain false) (Rows.leastFindsSpec.post enc Try.prog Try.f10 false true false false) := by
  refine returnsInHanded_of_change_sized (C := Try.checked) ownKnobs started (by kernel_rfl) Try.func10
    (ChangeSpec.witness6 (enc := enc) (C := Try.checked) false ⟨#[],#[.slice none 0 0,.slice none 0 0],[]⟩ 8 (by kernel_rfl) (by kernel_rfl) (by kernel_rfl) (by kernel_rfl)) ?_
  intro W base args ds gs before hval0 hW hcnd hsz _
  have hval : ∀ (j : Nat) t v,Try.f10.params[j]? = some t → args[j]? = some v → Value.okWide Try.prog W .any 0 t v := fun j t v h1 h2 => Value.okWide_any_base (hval0 j t v h1 h2)
  have hW' := hW
  obtain ⟨p,q,hA0,hV,rfl,hfz,hnd⟩ := hW
  have hA : DataW.TrodAll enc Try.prog W 0 (fun _ => true) true Try.f10.params.toList args.toList ds p := hA0
  rw [Try.params10] at hA hval
  obtain ⟨v0,v1,d0,d1,p0,p1,rfl,rfl,rfl,h0,h1⟩ := trodAll_two hA
  obtain ⟨x0,w0,r0⟩ := rd_terms (hval 0 22 v0 rfl rfl) h0
  obtain ⟨x1,w1,r1⟩ := rd_bytes (hval 1 30 v1 rfl rfl) h1
  have z0 : x0.length ≤ 2199023255552 := rd_terms_sz h0 r0 (j := 0) hsz (by rw [Try.params10];rfl) rfl
  exact law_done laidOut (by rw [Try.params10];decide +kernel) (by kernel_rfl) Try.underlying4 hW' rfl rfl (leastFinds_ok x0 x1 z0 w0.2 w1.2) (.cons r0 (.cons r1 .nil))

end Go.Proofs.Ytfldmpmaifjcbaa.LeastFindsRow
namespace Go.Proofs.Ytfldmpmaifjcbaa
theorem leastFinds_holds : Rows.LeastFindsSaid :=
  OpenClaim.holds_of_wide 10 Try.f10 rfl rfl rfl rfl rfl rfl rfl ⟨rfl,rfl,rfl,rfl,rfl⟩ rfl rfl rfl rfl rfl (by kernel_rfl) Try.func10 (by kernel_rfl)
    (of_decide_eq_true (by kernel_rfl)) (by unfold Func.isWrapper;first|(rw [if_pos (by decide +kernel)];kernel_rfl)|(rw [if_neg (by decide +kernel)];exact ⟨rfl,rfl⟩))
    (fun os started H enc _ => LeastFindsRow.lifted os started H enc)
end Go.Proofs.Ytfldmpmaifjcbaa
