/-
  No cell of these rows narrows 'for every input' (looked for: loops, veiled, ifaces, maps, wideKeys, modest, calm, conditions, laid).
  DERIVED. THE GIVEN ROWS OF THIS SEAT. 5 by the template 'for every input the law returns true; each argument reads behind the call as it read before'; 0 by the template 'total and deterministic' (their statements: YtglgmmoomlnghaaTotals.lean).
  GIVEN WITH THE SEED: the statements are not yours to turn. If you find one false, say at which input.
  Laid BY PROGRAM, IN A SANDBOX (cutbox-rows.mjs): the forced cells as the released guide's own fill.sh prints them over the translation 2ef386dfa8c1f509… (all of the seat's roots in one cut). By AI agents, Wed Nov 11 2026. No macro, syntax, notation, axiom, sorry.
-/
import Derived.Test.YtglgmmoomlnghaaChecked
import GoSem.Claim
import GoSem.ClaimJoined
import GoSem.ClaimMapViews
import Derived.JoinedTies
import Derived.KernelRfl
namespace Go.Proofs.Ytglgmmoomlnghaa
/- THE CELL 'sum', in the pinned program and in every row, IS THE sha256 OF THE DUMP (.gsa) THAT YtglgmmoomlnghaaProg.lean LOADS. Nothing in Lean hashes anything: it is a label: what it is worth is what the hold of that sum in a sandbox is worth. -/
noncomputable def Try.pinned : Pinned := { name := "ytglgmmoomlnghaa", sum := "2ef386dfa8c1f509dd3b6997ff3548cd4466844a281114110abf7f974972b759", checked := Try.checked }
namespace Rows
def none {H : Type} : Left H := { results := [], args := [] }

/-- 'gimletlaw29.MooreTells': WHATEVER THE INPUT: true; the input reads as it did. -/
def mooreTellsSpec : ChangeSpec := { name := "mooreTells", fn := fun _ => fun
  | [d1, d2, d3] => { results := [.lit (.bool true)], args := [d1, d2, d3] }
  | _ => none }
def mooreTellsRow : OpenClaim := { program := "ytglgmmoomlnghaa", sum := "2ef386dfa8c1f509dd3b6997ff3548cd4466844a281114110abf7f974972b759", func := "gimlet/gimletlaw29.MooreTells", spec := "mooreTells", inPlace := ["internal/abi.NoEscape"], unfollowed := true, recurses := true, apart := false }
def MooreTellsSaid : Prop := mooreTellsRow.holds Try.pinned (OpenSpec.ofChange mooreTellsSpec)

/-- ITS FALSE NEIGHBOUR: 'it returns false'. Refute it at one input. -/
def mooreTellsWrong : ChangeSpec := { name := "mooreTells", fn := fun _ => fun
  | [d1, d2, d3] => { results := [.lit (.bool false)], args := [d1, d2, d3] }
  | _ => none }
def MooreTellsWrongFalsely : Prop := mooreTellsRow.holds Try.pinned (OpenSpec.ofChange mooreTellsWrong)

/-- 'gimletlaw29.MooreFewest': WHATEVER THE INPUT: true; the input reads as it did. -/
def mooreFewestSpec : ChangeSpec := { name := "mooreFewest", fn := fun _ => fun
  | [d] => { results := [.lit (.bool true)], args := [d] }
  | _ => none }
def mooreFewestRow : OpenClaim := { program := "ytglgmmoomlnghaa", sum := "2ef386dfa8c1f509dd3b6997ff3548cd4466844a281114110abf7f974972b759", func := "gimlet/gimletlaw29.MooreFewest", spec := "mooreFewest", inPlace := ["internal/abi.NoEscape"], unfollowed := true, recurses := true, apart := false }
def MooreFewestSaid : Prop := mooreFewestRow.holds Try.pinned (OpenSpec.ofChange mooreFewestSpec)

/-- ITS FALSE NEIGHBOUR: 'it returns false'. Refute it at one input. -/
def mooreFewestWrong : ChangeSpec := { name := "mooreFewest", fn := fun _ => fun
  | [d] => { results := [.lit (.bool false)], args := [d] }
  | _ => none }
def MooreFewestWrongFalsely : Prop := mooreFewestRow.holds Try.pinned (OpenSpec.ofChange mooreFewestWrong)

/-- 'gimletlaw29.MooreSame': WHATEVER THE INPUT: true; the input reads as it did. -/
def mooreSameSpec : ChangeSpec := { name := "mooreSame", fn := fun _ => fun
  | [d1, d2] => { results := [.lit (.bool true)], args := [d1, d2] }
  | _ => none }
def mooreSameRow : OpenClaim := { program := "ytglgmmoomlnghaa", sum := "2ef386dfa8c1f509dd3b6997ff3548cd4466844a281114110abf7f974972b759", func := "gimlet/gimletlaw29.MooreSame", spec := "mooreSame", inPlace := ["internal/abi.NoEscape"], unfollowed := true, recurses := true, apart := false }
def MooreSameSaid : Prop := mooreSameRow.holds Try.pinned (OpenSpec.ofChange mooreSameSpec)

/-- ITS FALSE NEIGHBOUR: 'it returns false'. Refute it at one input. -/
def mooreSameWrong : ChangeSpec := { name := "mooreSame", fn := fun _ => fun
  | [d1, d2] => { results := [.lit (.bool false)], args := [d1, d2] }
  | _ => none }
def MooreSameWrongFalsely : Prop := mooreSameRow.holds Try.pinned (OpenSpec.ofChange mooreSameWrong)

/-- 'gimletlaw30.PackTells': WHATEVER THE INPUT: true; the input reads as it did. -/
def packTellsSpec : ChangeSpec := { name := "packTells", fn := fun _ => fun
  | [d1, d2] => { results := [.lit (.bool true)], args := [d1, d2] }
  | _ => none }
def packTellsRow : OpenClaim := { program := "ytglgmmoomlnghaa", sum := "2ef386dfa8c1f509dd3b6997ff3548cd4466844a281114110abf7f974972b759", func := "gimlet/gimletlaw30.PackTells", spec := "packTells", unfollowed := true, recurses := true, apart := false }
def PackTellsSaid : Prop := packTellsRow.holds Try.pinned (OpenSpec.ofChange packTellsSpec)

/-- ITS FALSE NEIGHBOUR: 'it returns false'. Refute it at one input. -/
def packTellsWrong : ChangeSpec := { name := "packTells", fn := fun _ => fun
  | [d1, d2] => { results := [.lit (.bool false)], args := [d1, d2] }
  | _ => none }
def PackTellsWrongFalsely : Prop := packTellsRow.holds Try.pinned (OpenSpec.ofChange packTellsWrong)

/-- 'gimletlaw30.PackBack': WHATEVER THE INPUT: true; the input reads as it did. -/
def packBackSpec : ChangeSpec := { name := "packBack", fn := fun _ => fun
  | [d1, d2, d3] => { results := [.lit (.bool true)], args := [d1, d2, d3] }
  | _ => none }
def packBackRow : OpenClaim := { program := "ytglgmmoomlnghaa", sum := "2ef386dfa8c1f509dd3b6997ff3548cd4466844a281114110abf7f974972b759", func := "gimlet/gimletlaw30.PackBack", spec := "packBack", unfollowed := true, recurses := true, apart := false }
def PackBackSaid : Prop := packBackRow.holds Try.pinned (OpenSpec.ofChange packBackSpec)

/-- ITS FALSE NEIGHBOUR: 'it returns false'. Refute it at one input. -/
def packBackWrong : ChangeSpec := { name := "packBack", fn := fun _ => fun
  | [d1, d2, d3] => { results := [.lit (.bool false)], args := [d1, d2, d3] }
  | _ => none }
def PackBackWrongFalsely : Prop := packBackRow.holds Try.pinned (OpenSpec.ofChange packBackWrong)

/- THE SECOND FORM. 'bulk': how many values and letters a reading holds, each counted each time it is reached (what is shared counts as often as it is met; a slice's spare places count too). A statement '..UptoSaid' is the law's where the arguments, and the package variables that the reading takes, are together of bulk at most 1048576: NARROWER than '..Said'. Prove '..Said' where nothing that the law and all that it calls make is longer than what came in: it says more and counts as full. Else prove '..UptoSaid'. A law counts once. -/
mutual
def uptoBulk {H : Type} : DataW H → Nat
  | .lit (.string bytes) => bytes.length + 1
  | .lit _ => 1
  | .nil => 1
  | .ptr d => uptoBulk d + 1
  | .slice elems spare => uptoBulkAll elems + uptoBulkAll spare + 1
  | .agg parts => uptoBulkAll parts + 1
  | .iface _ d => uptoBulk d + 1
  | .map entries => uptoBulkEntries entries + 1
  | .held _ => 1
def uptoBulkAll {H : Type} : List (DataW H) → Nat
  | [] => 0
  | d :: r => uptoBulk d + uptoBulkAll r
def uptoBulkEntries {H : Type} : List (Lit × DataW H) → Nat
  | [] => 0
  | x :: r => uptoBulkEntry x + uptoBulkEntries r
def uptoBulkEntry {H : Type} : Lit × DataW H → Nat
  | (.string bytes, d) => bytes.length + uptoBulk d + 1
  | (_, d) => uptoBulk d + 1
 end
def uptoSmall : (H : Type) → List (DataW H) → Bool := fun _ ds => decide (uptoBulkAll ds ≤ 1048576)
def OpenSpec.upto (s : _root_.Go.ChangeSpec) : _root_.Go.OpenSpec := { _root_.Go.OpenSpec.ofChange s with cond := some uptoSmall }

/-- 'gimletlaw29.MooreTells', WHERE WHAT IT READS IS OF BULK AT MOST 1048576: true; the input reads as it did. -/
def mooreTellsUptoRow : OpenClaim := { program := "ytglgmmoomlnghaa", sum := "2ef386dfa8c1f509dd3b6997ff3548cd4466844a281114110abf7f974972b759", func := "gimlet/gimletlaw29.MooreTells", spec := "mooreTells", inPlace := ["internal/abi.NoEscape"], unfollowed := true, recurses := true, apart := false, narrowed := true }
def MooreTellsUptoSaid : Prop := mooreTellsUptoRow.holds Try.pinned (OpenSpec.upto mooreTellsSpec)

/-- 'gimletlaw29.MooreFewest', WHERE WHAT IT READS IS OF BULK AT MOST 1048576: true; the input reads as it did. -/
def mooreFewestUptoRow : OpenClaim := { program := "ytglgmmoomlnghaa", sum := "2ef386dfa8c1f509dd3b6997ff3548cd4466844a281114110abf7f974972b759", func := "gimlet/gimletlaw29.MooreFewest", spec := "mooreFewest", inPlace := ["internal/abi.NoEscape"], unfollowed := true, recurses := true, apart := false, narrowed := true }
def MooreFewestUptoSaid : Prop := mooreFewestUptoRow.holds Try.pinned (OpenSpec.upto mooreFewestSpec)

/-- 'gimletlaw29.MooreSame', WHERE WHAT IT READS IS OF BULK AT MOST 1048576: true; the input reads as it did. -/
def mooreSameUptoRow : OpenClaim := { program := "ytglgmmoomlnghaa", sum := "2ef386dfa8c1f509dd3b6997ff3548cd4466844a281114110abf7f974972b759", func := "gimlet/gimletlaw29.MooreSame", spec := "mooreSame", inPlace := ["internal/abi.NoEscape"], unfollowed := true, recurses := true, apart := false, narrowed := true }
def MooreSameUptoSaid : Prop := mooreSameUptoRow.holds Try.pinned (OpenSpec.upto mooreSameSpec)

/-- 'gimletlaw30.PackTells', WHERE WHAT IT READS IS OF BULK AT MOST 1048576: true; the input reads as it did. -/
def packTellsUptoRow : OpenClaim := { program := "ytglgmmoomlnghaa", sum := "2ef386dfa8c1f509dd3b6997ff3548cd4466844a281114110abf7f974972b759", func := "gimlet/gimletlaw30.PackTells", spec := "packTells", unfollowed := true, recurses := true, apart := false, narrowed := true }
def PackTellsUptoSaid : Prop := packTellsUptoRow.holds Try.pinned (OpenSpec.upto packTellsSpec)

/-- 'gimletlaw30.PackBack', WHERE WHAT IT READS IS OF BULK AT MOST 1048576: true; the input reads as it did. -/
def packBackUptoRow : OpenClaim := { program := "ytglgmmoomlnghaa", sum := "2ef386dfa8c1f509dd3b6997ff3548cd4466844a281114110abf7f974972b759", func := "gimlet/gimletlaw30.PackBack", spec := "packBack", unfollowed := true, recurses := true, apart := false, narrowed := true }
def PackBackUptoSaid : Prop := packBackUptoRow.holds Try.pinned (OpenSpec.upto packBackSpec)

end Rows
end Go.Proofs.Ytglgmmoomlnghaa
