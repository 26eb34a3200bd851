/-
  The document's Decode.
-/
import Derived.Test.YtglgmmoomlnghaaPk13
import Derived.Test.YtglgmmoomlnghaaPk2
set_option linter.unusedSimpArgs false
set_option linter.unusedVariables false
namespace Go.Proofs.Ytglgmmoomlnghaa
open Go Go.Hs
theorem sdSnoc {l : List Sd} {s : Sd} : sdRows l ++ [[.sl 1 (kRows .i64 s.acc), .sl 2 (wyRows s.wy)]] = sdRows (l ++ [s]) := by simp [sdRows, Sd.cs]
theorem sdTake {l : List Sd} : List.take l.length (sdRows l) = sdRows l := List.take_of_length_le (by rw [length_sdRows]; exact Nat.le_refl _)
theorem sdTake1 {l : List Sd} {x : Sd} : List.take (l.length + 1) (sdRows (l ++ [x])) = sdRows (l ++ [x]) := List.take_of_length_le (by simp [length_sdRows])
theorem sdRows_frz {l : List Sd} : frzLL (sdRows l) = sdRows l := by
  rw [frzLL_eq]
  simp [sdRows, Sd.cs, frzL_eq, AC.frz]
theorem progF_eq {s s1 s2 s3 s4 s5 : RS} {t r n : Int} {c : List Int} {l : List Sd} (h1 : nextF 2097151 s = (t, s1)) (h2 : nextF 2097151 s1 = (r, s2)) (h3 : many (nextF 2097151) 256 [] s2 = (c, s3)) (h4 : nextF 400 s3 = (n, s4)) (h5 : many standF n.toNat [] s4 = (l, s5)) : progF s = (⟨t, r, c, l⟩, s5) := by
  unfold progF bind ret all21
  simp only [h1, h2, h3, h4, h5]
theorem decP_eq {b : List Int} {p : Pg} {s : RS} (h : progF (b, 0) = (p, s)) : decP b = if s.2 ≠ 0 then (Pg.z, s.2) else if 0 < s.1.length then (Pg.z, 12) else if pgB p = true then (p, 0) else (Pg.z, 11) := by
  unfold decP; rw [h]
theorem zero_upP : NLs [.im (.int .i64 0), .im (.int .i64 0), .nil, .nil] Pg.z.cs := .cons (.refl _) (.cons (.refl _) (.cons (.nil 1) (.cons (.nil 2) .nil)))
attribute [local go_sem] AV.isS length_mvRows length_wyRows length_sdRows xltT xltF xleT xleF xeqT xeqF xbeT xbeF xbnT xbnF sdSnoc sdTake sdTake1 sdRows_frz kTake1

end Go.Proofs.Ytglgmmoomlnghaa
