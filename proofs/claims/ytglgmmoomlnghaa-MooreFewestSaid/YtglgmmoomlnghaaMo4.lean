/-
  moore.Classes.
-/
import Derived.Test.YtglgmmoomlnghaaMo3
set_option linter.unusedSimpArgs false
set_option linter.unusedVariables false
namespace Go.Proofs.Ytglgmmoomlnghaa
open Go Go.Hs

theorem lookL_pad {s : Sta} {cls : List Int} {i : Nat} : lookL s (padL cls) i = lookL s cls i := by
  have : edgeL (padL cls) = edgeL cls := by funext x;unfold edgeL;rw [padL_get]
  unfold lookL
  rw [padL_get,this]
theorem bytesS_inj {a b : List Int} (ha : ∀ x ∈ a,0 ≤ x ∧ x ≤ 255) (hb : ∀ x ∈ b,0 ≤ x ∧ x ≤ 255) (h : bytesS a = bytesS b) : a = b := by
  have h1 : a.map (fun n => UInt8.ofNat n.toNat) = b.map (fun n => UInt8.ofNat n.toNat) := by rw [← bytesS_data,← bytesS_data,h]
  have hl : a.length = b.length := by simpa using congrArg List.length h1
  refine List.ext_getElem hl fun i h2 h3 => ?_
  have := congrArg (fun l => l[i]?) h1
  simp only [List.getElem?_map,List.getElem?_eq_getElem h2,List.getElem?_eq_getElem h3,Option.map_some,Option.some.injEq] at this
  have := congrArg UInt8.toNat this
  have xa := ha _ (List.getElem_mem h2)
  have xb := hb _ (List.getElem_mem h3)
  simp only [UInt8.toNat_ofNat'] at this
  omega
theorem lookL_lo {d : Df} (B : Bd d) (hm : mB d = true) {cls : List Int} (hcl : ∀ j,0 ≤ cls.getD j 0) {i : Nat} (hi : i < d.sts.length) : ∀ x ∈ lookL (stAt d.sts i) cls i,-2 ≤ x := fun x hx => by
  obtain ⟨b1,b2,b3,b4,b5,b6⟩ := sig_bd B hm hi
  unfold lookL at hx
  rcases List.mem_cons.1 hx with h|h
  · have := hcl i;omega
  rcases List.mem_cons.1 h with h|h
  · omega
  rcases List.mem_cons.1 h with h|h
  · omega
  rcases List.mem_append.1 h with h|h
  · exact (b5 x h).1
  · obtain ⟨e,he,h⟩ := List.mem_flatMap.1 h
    obtain ⟨c,hc,ee⟩ := List.mem_iff_getElem.1 he
    have e2 : edAt (stAt d.sts i).eds c = e := by unfold edAt;rw [List.getD_eq_getElem?_getD,List.getElem?_eq_getElem hc];exact ee
    unfold edgeL at h
    rcases List.mem_cons.1 h with h|h
    · subst h;split
      · omega
      · have := hcl e.to.toNat;omega
    rcases List.mem_cons.1 h with h|h
    · omega
    · exact (b6 c hc x (by rw [e2];exact h)).1
theorem sig_key {d : Df} (B : Bd d) (hm : mB d = true) {cls : List Int} (hcl : ∀ j,0 ≤ cls.getD j 0) {i k : Nat} (hi : i < d.sts.length) (hk : k < d.sts.length) : sigK d cls i = sigK d cls k ↔ keyD d cls i = keyD d cls k := by
  unfold sigK sigS keyD
  rw [lookL_pad,lookL_pad]
  exact ⟨fun h => putL_inj (lookL_lo B hm hcl hi) (lookL_lo B hm hcl hk) (bytesS_inj putL_bytes putL_bytes h),fun h => by rw [h]⟩
theorem cls_nn {d : Df} {n : Nat} (j : Nat) : 0 ≤ (clsK d n).1.getD j 0 := by
  by_cases h : j < d.sts.length
  · exact (mcl_rng h).1
  · rw [List.getD_eq_getElem?_getD,List.getElem?_eq_none (by rw [mcl_len];omega)];exact Int.le_refl _
theorem finer_cls {d : Df} (B : Bd d) (hm : mB d = true) (n : Nat) : (canV (sigK d (clsK d n).1) d.sts.length).1 = (clsK d (n + 1)).1 := by
  show _ = (canV (keyD d (clsK d n).1) d.sts.length).1
  rw [can_congr d.sts.length fun i k hi hk => sig_key B hm cls_nn hi hk]
theorem finerK_ok (d : Df) (B : Bd d) (hm : mB d = true) (n : Nat) : Contract Try.prog 35 [.agg d.cs,.agg (iRow (padL (clsK d n).1))] (.agg (iRow (padL (clsK d (n + 1)).1))) := by
  have m400 : d.sts.length ≤ 400 := (mr_ok hm).1.2.2.2.2.1
  have := finer_ok d B hm (clsK d n).1 mcl_len (fun j hj => by
    rw [padL_get]
    refine ⟨cls_nn j,?_⟩
    by_cases h : j < d.sts.length
    · have := (mcl_rng (n := n) h).2
      have := mcl_le (d := d) (n := n)
      omega
    · rw [List.getD_eq_getElem?_getD,List.getElem?_eq_none (by rw [mcl_len];omega)]
      show (0 : Int) ≤ 400;omega)
  rw [finer_cls B hm n] at this
  exact this

end Go.Proofs.Ytglgmmoomlnghaa
