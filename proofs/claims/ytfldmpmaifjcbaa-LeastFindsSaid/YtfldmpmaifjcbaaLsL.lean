/-
  A slice in a struct that is lent, while its rows are handed over.
-/
import Derived.Test.YtfldmpmaifjcbaaHs17
set_option linter.unusedSimpArgs false
set_option linter.unusedVariables false
namespace Go.Hs
open Go

theorem RdAs.swap {w : World} {p p1 : Nat → Prop} {x y : AV} (hpp : ∀ b,p b → p1 b) (h : ∀ v,RdS w p v x → RdS w p1 v y) {post : List AV} : ∀ {pre : List AV} {vs : List Value},RdAs w p vs (pre ++ x :: post) → RdAs w p1 vs (pre ++ y :: post)
  | [],_,.cons h1 t => .cons (h _ h1) (t.mono hpp (KeepsOn.refl _ _))
  | _ :: pre,_,.cons h1 t => .cons (h1.mono hpp (KeepsOn.refl _ _)) (RdAs.swap hpp h (pre := pre) t)
theorem RdL.swap {w : World} {p p1 : Nat → Prop} {x y : AC} (hpp : ∀ b,p b → p1 b) (h : ∀ v,RdC w p v x → RdC w p1 v y) {post : List AC} : ∀ {pre : List AC} {vs : List Value},RdL w p vs (pre ++ x :: post) → RdL w p1 vs (pre ++ y :: post)
  | [],_,.cons h1 t => .cons (h _ h1) (t.mono hpp (KeepsOn.refl _ _))
  | _ :: pre,_,.cons h1 t => .cons (h1.mono hpp (KeepsOn.refl _ _)) (RdL.swap hpp h (pre := pre) t)

theorem ContractR.lendAgg {P : Program} {f : FuncId} {pre post : List AV} {c1 c2 : List AC} {g e sz n : Nat} {b : Blk} {es : List (List AC)} {R : AV → Prop} (hfl : ∀ r,R r → r.flat = true) (hn : es.length = n)
    (h : ContractR P f (pre ++ .agg (c1 ++ .sl sz (frzLL es) :: c2) :: post) R) :
    ContractH P f (pre ++ .agg (c1 ++ .ref g [] b sz 0 n :: c2) :: post) [(g,.row b e sz es)] (fun r H => R r ∧ H = [(g,.row b e sz es)]) := by
  refine ⟨h.callable,fun w p vs ow hp ha hO => ?_⟩
  have hm0 : (g,AV.row b e sz es) ∈ [(g,AV.row b e sz es)] := List.mem_cons_self
  have ob : RdOb w p ⟨b,e,sz,es⟩ (ow g) := (hO.vals g _ hm0).2 (.bool false)
  have hrow := ob.frzRow (p' := fun k => p k ∨ k ∈ ow g) (fun _ h => .inl h) (fun k hk => .inr hk)
  have ha1 : RdAs w (fun k => p k ∨ k ∈ ow g) vs (pre ++ .agg (c1 ++ .sl sz (frzLL es) :: c2) :: post) := by
    refine RdAs.swap (fun _ h => .inl h) (fun v hv => ?_) ha
    obtain ⟨us,h1,h2⟩ := hv
    refine ⟨us,h1,RdL.swap (fun _ h => .inl h) (fun u hu => ?_) h2⟩
    have hx := sliceV_extract hrow (frzLL_length _) (hu.mono (fun _ h => .inl h) (KeepsOn.refl _ _)) (by show 0 + n ≤ es.length;omega)
    have e1 : (frzLL es).extract 0 (0 + n) = frzLL es := by
      rw [List.extract_eq_take_drop,List.drop_zero,List.take_of_length_le (by rw [frzLL_length];omega)]
    rw [e1] at hx
    exact hx
  have hp1 : ∀ k,(p k ∨ k ∈ ow g) → k < w.heap.size := by
    rintro k (hk|hk)
    · exact hp k hk
    · exact (hO.fresh g _ hm0 k hk).1
  refine (h.calls w _ vs (fun _ => []) hp1 ha1 ⟨fun _ _ h => (by cases h),fun _ _ _ _ _ h => (by cases h),fun _ _ h => (by cases h),fun _ _ h => (by cases h)⟩).mono fun ex w' ⟨v,p',r,H',ow',O,hRr,hk,he,hch,hpp,hp',hr,hO',hnod,hO2,hfrom⟩ => ?_
  have same : ∀ k,k < w.heap.size → w'.heap[k]? = w.heap[k]? := fun k hk => hch.block k hk (by rintro ⟨d,v,hm,_⟩;cases hm)
  refine ⟨v,p,r,[(g,.row b e sz es)],ow,O,⟨hRr,rfl⟩,by simp,he,⟨hch.os,hch.tape,hch.output,hch.size,fun k hk _ => same k hk⟩,fun _ h => h,fun k hk => ⟨Nat.lt_of_lt_of_le (hp k hk) hch.size,.inl hk⟩,hr.flat (hfl r hRr),?_,hnod,?_,fun k hk => .inl hk⟩
  · refine ⟨fun g' v' hm => ⟨(hO.vals g' v' hm).1,fun u => ?_⟩,hO.sep,hO.nod,fun g' v' hm k hk => ⟨Nat.lt_of_lt_of_le (hO.fresh g' v' hm k hk).1 hch.size,(hO.fresh g' v' hm k hk).2⟩⟩
    exact ((hO.vals g' v' hm).2 u).mono (fun _ h => h) (fun k hk => same k (hp k hk)) (fun k hk => same k (hO.fresh g' v' hm k hk).1)
  · intro k hk
    obtain ⟨q1,q2,q3,q4⟩ := hO2 k hk
    have q5 : w.heap.size ≤ k := by
      rcases q3 with ⟨d,v,hm,_⟩|h
      · cases hm
      · exact h
    refine ⟨q1,fun h => by have := hp k h;omega,.inr q5,?_⟩
    rintro ⟨d,v',hm,hb⟩
    have := (hO.fresh d v' hm k hb).1
    omega

end Go.Hs
