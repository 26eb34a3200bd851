/-
  The document's stand, read.
-/
import Derived.Test.YtglgmmoomlnghaaPk12
set_option linter.unusedSimpArgs false
set_option linter.unusedVariables false
namespace Go.Proofs.Ytglgmmoomlnghaa
open Go Go.Hs
theorem wySnoc {l : List Wy} {x : Wy} : wyRows l ++ [[.im (.int .i64 x.to), .sl 2 (mvRows x.mv)]] = wyRows (l ++ [x]) := by simp [wyRows, Wy.cs]
theorem wyTake {l : List Wy} : List.take l.length (wyRows l) = wyRows l := List.take_of_length_le (by rw [length_wyRows]; exact Nat.le_refl _)
theorem wyTake1 {l : List Wy} {x : Wy} : List.take (l.length + 1) (wyRows (l ++ [x])) = wyRows (l ++ [x]) := List.take_of_length_le (by simp [length_wyRows])
theorem wyRows_frz {l : List Wy} : frzLL (wyRows l) = wyRows l := by
  rw [frzLL_eq]
  simp [wyRows, Wy.cs, frzL_eq, AC.frz]
theorem kTake1 {l : List Int} {x : Int} : List.take (l.length + 1) (l ++ [x]) = l ++ [x] := List.take_of_length_le (by simp)
theorem accF_eq {s : RS} : accF s = ((nextF 2097151 s).1 - 2, (nextF 2097151 s).2) := rfl
theorem standF_eq {s s1 s2 s3 s4 : RS} {n m : Int} {a : List Int} {w : List Wy} (h1 : nextF 19 s = (n, s1)) (h2 : many accF n.toNat [] s1 = (a, s2)) (h3 : nextF 256 s2 = (m, s3)) (h4 : many wayF m.toNat [] s3 = (w, s4)) : standF s = (⟨a, w⟩, s4) := by
  unfold standF bind ret
  simp only [h1, h2, h3, h4]
attribute [local go_sem] AV.isS length_mvRows length_wyRows xltT xltF xleT xleF xeqT xeqF xbeT xbeF xbnT xbnF wySnoc wyTake wyTake1 wyRows_frz kTake1

end Go.Proofs.Ytglgmmoomlnghaa
