/-
  The document's way, read.
-/
import Derived.Test.YtglgmmoomlnghaaPk11
import Derived.Test.YtglgmmoomlnghaaPk3
set_option linter.unusedSimpArgs false
set_option linter.unusedVariables false
namespace Go.Proofs.Ytglgmmoomlnghaa
open Go Go.Hs
theorem mvSnoc {l : List (Int × Int)} {a b : Int} : mvRows l ++ [[.im (.int .i64 a), .im (.int .i64 b)]] = mvRows (l ++ [(a, b)]) := by simp [mvRows, mvC]
theorem mvTake {l : List (Int × Int)} : List.take l.length (mvRows l) = mvRows l := List.take_of_length_le (by rw [length_mvRows]; exact Nat.le_refl _)
theorem mvTake1 {l : List (Int × Int)} {x : Int × Int} : List.take (l.length + 1) (mvRows (l ++ [x])) = mvRows (l ++ [x]) := List.take_of_length_le (by simp [length_mvRows])
theorem mvRows_frz {l : List (Int × Int)} : frzLL (mvRows l) = mvRows l := by
  rw [frzLL_eq]
  simp [mvRows, mvC, frzL_eq, AC.frz]
theorem wayF_eq {s : RS} : wayF s = (⟨(nextF 2097151 s).1 - 1, (many moveF (nextF 2434 (nextF 2097151 s).2).1.toNat [] (nextF 2434 (nextF 2097151 s).2).2).1⟩, (many moveF (nextF 2434 (nextF 2097151 s).2).1.toNat [] (nextF 2434 (nextF 2097151 s).2).2).2) := rfl
theorem moveF_eq {s : RS} : moveF s = (((nextF 2097151 s).1, (nextF 2097151 (nextF 2097151 s).2).1 - 1), (nextF 2097151 (nextF 2097151 s).2).2) := rfl
attribute [local go_sem] AV.isS length_mvRows length_wyRows xltT xltF xleT xleF xeqT xeqF xbeT xbeF xbnT xbnF mvSnoc mvTake mvTake1 mvRows_frz

end Go.Proofs.Ytglgmmoomlnghaa
