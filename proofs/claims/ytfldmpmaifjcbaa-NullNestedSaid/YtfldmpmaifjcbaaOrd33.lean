/-
  The order of a great region, checked in parts.
-/
import Derived.Test.YtfldmpmaifjcbaaNestP

namespace Go.Proofs.Ytfldmpmaifjcbaa
open Go Go.Hs


def fb (f : Func) : Code := f.body.getD .skip
def cL : Code → Code | .seq x _ => x | c => c
def cR : Code → Code | .seq _ y => y | c => c
def cX : Code → Code | .cond _ x _ => x | c => c
def cY : Code → Code | .cond _ _ y => y | c => c
def cB : Code → Code | .block _ c => c | .loop c => c | c => c
def cO : Code → Array Oper | .region _ l _ => l | _ => #[]
def mk1 : List (Bool × Nat) → OT → OT
  | [], r => r
  | (true, i) :: l, r => .load i (mk1 l r)
  | (false, i) :: l, r => .val i (mk1 l r)
def mks : List (List (Bool × Nat)) → OT → OT
  | [], r => r
  | l :: ls, r => mk1 l (mks ls r)
def mkL : List (Bool × Nat) → Array Bool → Array Bool
  | [], a => a
  | x :: l, a => mkL l (a.setIfInBounds x.2 true)
def mkLs : List (List (Bool × Nat)) → Array Bool → Array Bool
  | [], a => a
  | l :: ls, a => mkLs ls (mkL l a)
def mkB (ops : Array Oper) (E : List Nat) : List (Bool × Nat) → Array Bool → Bool
  | [], _ => true
  | (ld, i) :: l, a => (Region.ready .any ops a).contains i && Region.free .any ops a i && !E.contains i && (match ld with | true => E.all fun e => a.getD e true || waits .any ops i ops.size e | false => wlessAt ops i) && mkB ops E l (a.setIfInBounds i true)
theorem mk_ok {ops : Array Oper} {E : List Nat} {r : OT} : ∀ {l : List (Bool × Nat)} {a : Array Bool}, mkB ops E l a = true → ordB ops E r (mkL l a) = true → ordB ops E (mk1 l r) a = true
  | [], _, _, h => h
  | (true, i) :: l, a, h1, h2 => by
    simp only [mkB, Bool.and_eq_true] at h1
    simp only [mk1, ordB, Bool.and_eq_true]
    exact ⟨h1.1, mk_ok h1.2 h2⟩
  | (false, i) :: l, a, h1, h2 => by
    simp only [mkB, Bool.and_eq_true] at h1
    simp only [mk1, ordB, Bool.and_eq_true]
    exact ⟨h1.1, mk_ok h1.2 h2⟩
def cs33 : List (List (Bool × Nat)) := [[(false, 0), (false, 1), (false, 2), (true, 3), (false, 4), (false, 5), (false, 6), (false, 7), (false, 8), (true, 9)], [(false, 10), (false, 11), (false, 12), (false, 13), (false, 14), (false, 15), (false, 16), (false, 17), (true, 18), (false, 19)], [(true, 20), (false, 21), (false, 22), (false, 23), (false, 24), (false, 25), (false, 26), (false, 27), (true, 28), (false, 29)], [(true, 30), (false, 31), (false, 32), (false, 33), (false, 34), (false, 35), (false, 36), (false, 37), (true, 38), (false, 39)], [(false, 40), (false, 41), (false, 42), (false, 43), (true, 44), (false, 45), (false, 46), (false, 47), (false, 48), (false, 49)], [(false, 50), (true, 51), (false, 52), (false, 53), (false, 54), (false, 55), (false, 56), (false, 57), (false, 58), (false, 59)], [(false, 60), (true, 61), (false, 62), (true, 63), (false, 64), (false, 65), (false, 66), (false, 67), (false, 68), (false, 69)], [(false, 70), (true, 71), (false, 72), (false, 73), (false, 74), (false, 75), (false, 76), (true, 77), (false, 78), (false, 79)], [(false, 80), (false, 81), (false, 82), (false, 83), (false, 84), (false, 85), (false, 89), (false, 90), (false, 91), (false, 92)], [(false, 93), (true, 86), (false, 87), (true, 88), (true, 94), (false, 95), (true, 96), (false, 97), (false, 98), (false, 99)]]
theorem ck33_0 : mkB (cO (cL (cB (cL (cR (cB (cB (cR (cL (cR (cR (cR (cR (cR (cR (cR (cR (cR (cR (fb Try.f5)))))))))))))))))))) [] [(false, 0), (false, 1), (false, 2), (true, 3), (false, 4), (false, 5), (false, 6), (false, 7), (false, 8), (true, 9)] (mkLs (cs33.take 0) (Array.replicate 100 false)) = true := by kernel_rfl
theorem ck33_1 : mkB (cO (cL (cB (cL (cR (cB (cB (cR (cL (cR (cR (cR (cR (cR (cR (cR (cR (cR (cR (fb Try.f5)))))))))))))))))))) [] [(false, 10), (false, 11), (false, 12), (false, 13), (false, 14), (false, 15), (false, 16), (false, 17), (true, 18), (false, 19)] (mkLs (cs33.take 1) (Array.replicate 100 false)) = true := by kernel_rfl
theorem ck33_2 : mkB (cO (cL (cB (cL (cR (cB (cB (cR (cL (cR (cR (cR (cR (cR (cR (cR (cR (cR (cR (fb Try.f5)))))))))))))))))))) [] [(true, 20), (false, 21), (false, 22), (false, 23), (false, 24), (false, 25), (false, 26), (false, 27), (true, 28), (false, 29)] (mkLs (cs33.take 2) (Array.replicate 100 false)) = true := by kernel_rfl
theorem ck33_3 : mkB (cO (cL (cB (cL (cR (cB (cB (cR (cL (cR (cR (cR (cR (cR (cR (cR (cR (cR (cR (fb Try.f5)))))))))))))))))))) [] [(true, 30), (false, 31), (false, 32), (false, 33), (false, 34), (false, 35), (false, 36), (false, 37), (true, 38), (false, 39)] (mkLs (cs33.take 3) (Array.replicate 100 false)) = true := by kernel_rfl
theorem ck33_4 : mkB (cO (cL (cB (cL (cR (cB (cB (cR (cL (cR (cR (cR (cR (cR (cR (cR (cR (cR (cR (fb Try.f5)))))))))))))))))))) [] [(false, 40), (false, 41), (false, 42), (false, 43), (true, 44), (false, 45), (false, 46), (false, 47), (false, 48), (false, 49)] (mkLs (cs33.take 4) (Array.replicate 100 false)) = true := by kernel_rfl
theorem ck33_5 : mkB (cO (cL (cB (cL (cR (cB (cB (cR (cL (cR (cR (cR (cR (cR (cR (cR (cR (cR (cR (fb Try.f5)))))))))))))))))))) [] [(false, 50), (true, 51), (false, 52), (false, 53), (false, 54), (false, 55), (false, 56), (false, 57), (false, 58), (false, 59)] (mkLs (cs33.take 5) (Array.replicate 100 false)) = true := by kernel_rfl
theorem ck33_6 : mkB (cO (cL (cB (cL (cR (cB (cB (cR (cL (cR (cR (cR (cR (cR (cR (cR (cR (cR (cR (fb Try.f5)))))))))))))))))))) [] [(false, 60), (true, 61), (false, 62), (true, 63), (false, 64), (false, 65), (false, 66), (false, 67), (false, 68), (false, 69)] (mkLs (cs33.take 6) (Array.replicate 100 false)) = true := by kernel_rfl
theorem ck33_7 : mkB (cO (cL (cB (cL (cR (cB (cB (cR (cL (cR (cR (cR (cR (cR (cR (cR (cR (cR (cR (fb Try.f5)))))))))))))))))))) [] [(false, 70), (true, 71), (false, 72), (false, 73), (false, 74), (false, 75), (false, 76), (true, 77), (false, 78), (false, 79)] (mkLs (cs33.take 7) (Array.replicate 100 false)) = true := by kernel_rfl
theorem ck33_8 : mkB (cO (cL (cB (cL (cR (cB (cB (cR (cL (cR (cR (cR (cR (cR (cR (cR (cR (cR (cR (fb Try.f5)))))))))))))))))))) [] [(false, 80), (false, 81), (false, 82), (false, 83), (false, 84), (false, 85), (false, 89), (false, 90), (false, 91), (false, 92)] (mkLs (cs33.take 8) (Array.replicate 100 false)) = true := by kernel_rfl
theorem ck33_9 : mkB (cO (cL (cB (cL (cR (cB (cB (cR (cL (cR (cR (cR (cR (cR (cR (cR (cR (cR (cR (fb Try.f5)))))))))))))))))))) [] [(false, 93), (true, 86), (false, 87), (true, 88), (true, 94), (false, 95), (true, 96), (false, 97), (false, 98), (false, 99)] (mkLs (cs33.take 9) (Array.replicate 100 false)) = true := by kernel_rfl
theorem ord33 : ordB (cO (cL (cB (cL (cR (cB (cB (cR (cL (cR (cR (cR (cR (cR (cR (cR (cR (cR (cR (fb Try.f5)))))))))))))))))))) [] (mks cs33 .done) (Array.replicate 100 false) = true := by
  have e : ordB (cO (cL (cB (cL (cR (cB (cB (cR (cL (cR (cR (cR (cR (cR (cR (cR (cR (cR (cR (fb Try.f5)))))))))))))))))))) [] .done (mkLs cs33 (Array.replicate 100 false)) = true := by kernel_rfl
  have e : ordB (cO (cL (cB (cL (cR (cB (cB (cR (cL (cR (cR (cR (cR (cR (cR (cR (cR (cR (cR (fb Try.f5)))))))))))))))))))) [] (mks (cs33.drop 9) .done) (mkLs (cs33.take 9) (Array.replicate 100 false)) = true := mk_ok ck33_9 e
  have e : ordB (cO (cL (cB (cL (cR (cB (cB (cR (cL (cR (cR (cR (cR (cR (cR (cR (cR (cR (cR (fb Try.f5)))))))))))))))))))) [] (mks (cs33.drop 8) .done) (mkLs (cs33.take 8) (Array.replicate 100 false)) = true := mk_ok ck33_8 e
  have e : ordB (cO (cL (cB (cL (cR (cB (cB (cR (cL (cR (cR (cR (cR (cR (cR (cR (cR (cR (cR (fb Try.f5)))))))))))))))))))) [] (mks (cs33.drop 7) .done) (mkLs (cs33.take 7) (Array.replicate 100 false)) = true := mk_ok ck33_7 e
  have e : ordB (cO (cL (cB (cL (cR (cB (cB (cR (cL (cR (cR (cR (cR (cR (cR (cR (cR (cR (cR (fb Try.f5)))))))))))))))))))) [] (mks (cs33.drop 6) .done) (mkLs (cs33.take 6) (Array.replicate 100 false)) = true := mk_ok ck33_6 e
  have e : ordB (cO (cL (cB (cL (cR (cB (cB (cR (cL (cR (cR (cR (cR (cR (cR (cR (cR (cR (cR (fb Try.f5)))))))))))))))))))) [] (mks (cs33.drop 5) .done) (mkLs (cs33.take 5) (Array.replicate 100 false)) = true := mk_ok ck33_5 e
  have e : ordB (cO (cL (cB (cL (cR (cB (cB (cR (cL (cR (cR (cR (cR (cR (cR (cR (cR (cR (cR (fb Try.f5)))))))))))))))))))) [] (mks (cs33.drop 4) .done) (mkLs (cs33.take 4) (Array.replicate 100 false)) = true := mk_ok ck33_4 e
  have e : ordB (cO (cL (cB (cL (cR (cB (cB (cR (cL (cR (cR (cR (cR (cR (cR (cR (cR (cR (cR (fb Try.f5)))))))))))))))))))) [] (mks (cs33.drop 3) .done) (mkLs (cs33.take 3) (Array.replicate 100 false)) = true := mk_ok ck33_3 e
  have e : ordB (cO (cL (cB (cL (cR (cB (cB (cR (cL (cR (cR (cR (cR (cR (cR (cR (cR (cR (cR (fb Try.f5)))))))))))))))))))) [] (mks (cs33.drop 2) .done) (mkLs (cs33.take 2) (Array.replicate 100 false)) = true := mk_ok ck33_2 e
  have e : ordB (cO (cL (cB (cL (cR (cB (cB (cR (cL (cR (cR (cR (cR (cR (cR (cR (cR (cR (cR (fb Try.f5)))))))))))))))))))) [] (mks (cs33.drop 1) .done) (mkLs (cs33.take 1) (Array.replicate 100 false)) = true := mk_ok ck33_1 e
  have e : ordB (cO (cL (cB (cL (cR (cB (cB (cR (cL (cR (cR (cR (cR (cR (cR (cR (cR (cR (cR (fb Try.f5)))))))))))))))))))) [] (mks (cs33.drop 0) .done) (mkLs (cs33.take 0) (Array.replicate 100 false)) = true := mk_ok ck33_0 e
  exact e

def Oq (_ : Nat) : List Nat × OT := ([], .val 0 (.val 1 (.val 2 (.load 3 (.val 4 (.val 5 (.val 6 (.val 7 (.val 8 (.load 9 (.val 10 (.val 11 (.val 12 (.val 13 (.val 14 (.val 15 (.val 16 (.val 17 (.load 18 (.val 19 (.load 20 (.val 21 (.val 22 (.val 23 (.val 24 (.val 25 (.val 26 (.val 27 (.load 28 (.val 29 (.load 30 (.val 31 (.val 32 (.val 33 (.val 34 (.val 35 (.val 36 (.val 37 (.load 38 (.val 39 (.val 40 (.val 41 (.val 42 (.val 43 (.load 44 (.val 45 (.val 46 (.val 47 (.val 48 (.val 49 (.val 50 (.load 51 (.val 52 (.val 53 (.val 54 (.val 55 (.val 56 (.val 57 (.val 58 (.val 59 (.val 60 (.load 61 (.val 62 (.load 63 (.val 64 (.val 65 (.val 66 (.val 67 (.val 68 (.val 69 (.val 70 (.load 71 (.val 72 (.val 73 (.val 74 (.val 75 (.val 76 (.load 77 (.val 78 (.val 79 (.val 80 (.val 81 (.val 82 (.val 83 (.val 84 (.val 85 (.val 89 (.val 90 (.val 91 (.val 92 (.val 93 (.load 86 (.val 87 (.load 88 (.load 94 (.val 95 (.load 96 (.val 97 (.val 98 (.val 99 (.done)))))))))))))))))))))))))))))))))))))))))))))))))))))))))))))))))))))))))))))))))))))))))))))))))))))
theorem full33 : (Region.noSelect (cO (cL (cB (cL (cR (cB (cB (cR (cL (cR (cR (cR (cR (cR (cR (cR (cR (cR (cR (fb Try.f5)))))))))))))))))))) && (Oq 33).2.ok && (Oq 33).2.size == (cO (cL (cB (cL (cR (cB (cB (cR (cL (cR (cR (cR (cR (cR (cR (cR (cR (cR (cR (fb Try.f5)))))))))))))))))))).size && ordB (cO (cL (cB (cL (cR (cB (cB (cR (cL (cR (cR (cR (cR (cR (cR (cR (cR (cR (cR (fb Try.f5)))))))))))))))))))) (Oq 33).1 (Oq 33).2 (Array.replicate (cO (cL (cB (cL (cR (cB (cB (cR (cL (cR (cR (cR (cR (cR (cR (cR (cR (cR (cR (fb Try.f5)))))))))))))))))))).size false)) = true := by
  have h1 : Region.noSelect (cO (cL (cB (cL (cR (cB (cB (cR (cL (cR (cR (cR (cR (cR (cR (cR (cR (cR (cR (fb Try.f5)))))))))))))))))))) = true := by kernel_rfl
  have h2 : (Oq 33).2.ok = true := by kernel_rfl
  have h3 : ((Oq 33).2.size == (cO (cL (cB (cL (cR (cB (cB (cR (cL (cR (cR (cR (cR (cR (cR (cR (cR (cR (cR (fb Try.f5)))))))))))))))))))).size) = true := by kernel_rfl
  have h4 : (cO (cL (cB (cL (cR (cB (cB (cR (cL (cR (cR (cR (cR (cR (cR (cR (cR (cR (cR (fb Try.f5)))))))))))))))))))).size = 100 := by kernel_rfl
  have h5 : ordB (cO (cL (cB (cL (cR (cB (cB (cR (cL (cR (cR (cR (cR (cR (cR (cR (cR (cR (cR (fb Try.f5)))))))))))))))))))) (Oq 33).1 (Oq 33).2 (Array.replicate (cO (cL (cB (cL (cR (cB (cB (cR (cL (cR (cR (cR (cR (cR (cR (cR (cR (cR (cR (fb Try.f5)))))))))))))))))))).size false) = true := by rw [h4]; exact ord33
  rw [h1, h2, h3, h5]; rfl

end Go.Proofs.Ytfldmpmaifjcbaa
