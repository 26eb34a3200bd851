/-
  drive.own; a car's here, each, accepts, accept.
-/
import Derived.Test.YtglgmmoomlnghaaDrP
set_option linter.unusedSimpArgs false
set_option linter.unusedVariables false
namespace Go.Hs
open Go
theorem awp_ghk2 {P : Program} {n : Nat} {S : Env} {L : Nat → Option (List Nat)} {Q : Exit → Env → Prop} {id : Nat} {l : Array Oper} {d : Bool} (x : Gh) (h : ∀ K : Env → Prop,(∀ S',awp P n L (.region id l d) Q S' → K S') → ghK S x K) : awp P n L (.region id l d) Q S := awp_gh x (h _ fun _ h => h)
end Go.Hs
namespace Go.Proofs.Ytglgmmoomlnghaa
open Go Go.Hs
theorem edRows_frz2 : ∀ {l : List Ed},AC.frz.frzLL (edRows l) = edRows l
  | [] => rfl
  | x :: l => by
    have h := edRows_frz2 (l := l)
    have h2 := kRows_frz (k := .i64) (l := x.src)
    unfold edRows at h ⊢
    simp only [List.map_cons,Ed.cs,AC.frz.frzLL,AC.frz.frzL,AC.frz,h,h2]
theorem stRows_frz2 : ∀ {l : List Sta},AC.frz.frzLL (stRows l) = stRows l
  | [] => rfl
  | x :: l => by
    have h := stRows_frz2 (l := l)
    have h2 := kRows_frz (k := .i64) (l := x.acc)
    have h3 := edRows_frz2 (l := x.eds)
    unfold stRows at h ⊢
    simp only [List.map_cons,Sta.cs,AC.frz.frzLL,AC.frz.frzL,AC.frz,h,h2,h3]
theorem lenTake {α : Type} {l : List α} {i : Nat} (h : i ≤ l.length) : (l.take i).length = i := by rw [List.length_take];omega
theorem takeEd {l : List Ed} {i : Nat} (h : i < l.length) : l.take (i + 1) = l.take i ++ [edAt l i] := by
  unfold edAt
  rw [List.take_succ_eq_append_getElem h,List.getD_eq_getElem?_getD,List.getElem?_eq_getElem h];rfl
/-- Edges whose numbers are owned. -/
def edO (R : List (Blk × Ed)) : List (List AC) := R.map fun p => [.im (.int .i64 p.2.to),.own p.1 3 1 (kRows .i64 p.2.src)]
theorem length_edO {R : List (Blk × Ed)} : (edO R).length = R.length := by simp [edO]
theorem edO_frz : ∀ {R : List (Blk × Ed)},AC.frz.frzLL (edO R) = edRows (R.map (·.2))
  | [] => rfl
  | x :: R => by
    have h := edO_frz (R := R)
    have h2 := kRows_frz (k := .i64) (l := x.2.src)
    unfold edO edRows at h ⊢
    simp only [List.map_cons,Ed.cs,AC.frz.frzLL,AC.frz.frzL,AC.frz,h,h2]
theorem takeEO {R : List (Blk × Ed)} : (edO R).take R.length = edO R := List.take_of_length_le (by rw [length_edO];exact Nat.le_refl _)
theorem edOSnoc {R : List (Blk × Ed)} {b : Blk} {to : Int} {src : List Int} : edO R ++ [[.im (.int .i64 to),.own b 3 1 (kRows .i64 src)]] = edO (R ++ [(b,⟨to,src⟩)]) := by simp [edO]
theorem takeStP {l : List Sta} {i : Nat} : (stRows (l.take i)).take i = stRows (l.take i) := List.take_of_length_le (by rw [length_stRows,List.length_take];omega)
theorem stSnoc2 {l : List Sta} {n : Int} {acc : List Int} {es : List Ed} : stRows l ++ [[.im (.int .i64 n),.sl 1 (kRows .i64 acc),.sl 2 (edRows es)]] = stRows (l ++ [⟨n,acc,es⟩]) := by simp [stRows,Sta.cs]
attribute [local go_sem] AV.isS Ed.cs Sta.cs Df.cs Cr.cs length_edRows length_stRows length_eachF lenTake gEd0' gEd0 gEd1 gEdR gSt0' gSt0 gSt1 gSt2 gStR xltT xltF xleT xleF xeqT xeqF xbeT xbeF xbnT xbnF edRows_frz2 stRows_frz2 edO_frz length_edO takeEO edOSnoc takeStP stSnoc2

end Go.Proofs.Ytglgmmoomlnghaa
