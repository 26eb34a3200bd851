/-
  No cell of these rows narrows 'for every input' (looked for: loops, veiled, ifaces, maps, wideKeys, modest, calm, conditions, laid).
  DERIVED. THE GIVEN ROWS OF THIS SEAT. 12 by the template 'for every input the law returns true; each argument reads behind the call as it read before'; 0 by the template 'total and deterministic' (their statements: YtllemobnfpljfaaTotals.lean).
  GIVEN WITH THE SEED: the statements are not yours to turn. If you find one false, say at which input.
  Laid BY PROGRAM, IN A SANDBOX (cutbox-rows.mjs): the forced cells as the released guide's own fill.sh prints them over the translation c89c53279f798f38… (all of the seat's roots in one cut). By AI agents, Wed Nov 11 2026. No macro, syntax, notation, axiom, sorry.
-/
import Derived.Test.YtllemobnfpljfaaChecked
import GoSem.Claim
import GoSem.ClaimJoined
import GoSem.ClaimMapViews
import Derived.JoinedTies
import Derived.KernelRfl
namespace Go.Proofs.Ytllemobnfpljfaa
/- THE CELL 'sum', in the pinned program and in every row, IS THE sha256 OF THE DUMP (.gsa) THAT YtllemobnfpljfaaProg.lean LOADS. Nothing in Lean hashes anything: it is a label: what it is worth is what the hold of that sum in a sandbox is worth. -/
noncomputable def Try.pinned : Pinned := { name := "ytllemobnfpljfaa", sum := "c89c53279f798f3827ee9bf60a393d10f061f23189df7da88e74d21553ba56c3", checked := Try.checked }
namespace Rows
def none {H : Type} : Left H := { results := [], args := [] }

/-- 'gimletlaw13.PartTells': WHATEVER THE INPUT: true; the input reads as it did. -/
def partTellsSpec : ChangeSpec := { name := "partTells", fn := fun _ => fun
  | [d1, d2] => { results := [.lit (.bool true)], args := [d1, d2] }
  | _ => none }
def partTellsRow : OpenClaim := { program := "ytllemobnfpljfaa", sum := "c89c53279f798f3827ee9bf60a393d10f061f23189df7da88e74d21553ba56c3", func := "gimlet/gimletlaw13.PartTells", spec := "partTells", inPlace := ["internal/abi.NoEscape"], apart := false }
def PartTellsSaid : Prop := partTellsRow.holds Try.pinned (OpenSpec.ofChange partTellsSpec)

/-- ITS FALSE NEIGHBOUR: 'it returns false'. Refute it at one input. -/
def partTellsWrong : ChangeSpec := { name := "partTells", fn := fun _ => fun
  | [d1, d2] => { results := [.lit (.bool false)], args := [d1, d2] }
  | _ => none }
def PartTellsWrongFalsely : Prop := partTellsRow.holds Try.pinned (OpenSpec.ofChange partTellsWrong)

/-- 'gimletlaw20.MarkTells': WHATEVER THE INPUT: true; the input reads as it did. -/
def markTellsSpec : ChangeSpec := { name := "markTells", fn := fun _ => fun
  | [d1, d2] => { results := [.lit (.bool true)], args := [d1, d2] }
  | _ => none }
def markTellsRow : OpenClaim := { program := "ytllemobnfpljfaa", sum := "c89c53279f798f3827ee9bf60a393d10f061f23189df7da88e74d21553ba56c3", func := "gimlet/gimletlaw20.MarkTells", spec := "markTells", unfollowed := true, recurses := true, apart := false }
def MarkTellsSaid : Prop := markTellsRow.holds Try.pinned (OpenSpec.ofChange markTellsSpec)

/-- ITS FALSE NEIGHBOUR: 'it returns false'. Refute it at one input. -/
def markTellsWrong : ChangeSpec := { name := "markTells", fn := fun _ => fun
  | [d1, d2] => { results := [.lit (.bool false)], args := [d1, d2] }
  | _ => none }
def MarkTellsWrongFalsely : Prop := markTellsRow.holds Try.pinned (OpenSpec.ofChange markTellsWrong)

/-- 'gimletlaw20.MarkApplies': WHATEVER THE INPUT: true; the input reads as it did. -/
def markAppliesSpec : ChangeSpec := { name := "markApplies", fn := fun _ => fun
  | [d] => { results := [.lit (.bool true)], args := [d] }
  | _ => none }
def markAppliesRow : OpenClaim := { program := "ytllemobnfpljfaa", sum := "c89c53279f798f3827ee9bf60a393d10f061f23189df7da88e74d21553ba56c3", func := "gimlet/gimletlaw20.MarkApplies", spec := "markApplies", unfollowed := true, recurses := true, apart := false }
def MarkAppliesSaid : Prop := markAppliesRow.holds Try.pinned (OpenSpec.ofChange markAppliesSpec)

/-- ITS FALSE NEIGHBOUR: 'it returns false'. Refute it at one input. -/
def markAppliesWrong : ChangeSpec := { name := "markApplies", fn := fun _ => fun
  | [d] => { results := [.lit (.bool false)], args := [d] }
  | _ => none }
def MarkAppliesWrongFalsely : Prop := markAppliesRow.holds Try.pinned (OpenSpec.ofChange markAppliesWrong)

/-- 'gimletlaw20.MarkTrees': WHATEVER THE INPUT: true; the input reads as it did. -/
def markTreesSpec : ChangeSpec := { name := "markTrees", fn := fun _ => fun
  | [d1, d2, d3] => { results := [.lit (.bool true)], args := [d1, d2, d3] }
  | _ => none }
def markTreesRow : OpenClaim := { program := "ytllemobnfpljfaa", sum := "c89c53279f798f3827ee9bf60a393d10f061f23189df7da88e74d21553ba56c3", func := "gimlet/gimletlaw20.MarkTrees", spec := "markTrees", unfollowed := true, recurses := true, apart := false }
def MarkTreesSaid : Prop := markTreesRow.holds Try.pinned (OpenSpec.ofChange markTreesSpec)

/-- ITS FALSE NEIGHBOUR: 'it returns false'. Refute it at one input. -/
def markTreesWrong : ChangeSpec := { name := "markTrees", fn := fun _ => fun
  | [d1, d2, d3] => { results := [.lit (.bool false)], args := [d1, d2, d3] }
  | _ => none }
def MarkTreesWrongFalsely : Prop := markTreesRow.holds Try.pinned (OpenSpec.ofChange markTreesWrong)

/-- 'gimletlaw20.MarkParts': WHATEVER THE INPUT: true; the input reads as it did. -/
def markPartsSpec : ChangeSpec := { name := "markParts", fn := fun _ => fun
  | [d1, d2, d3] => { results := [.lit (.bool true)], args := [d1, d2, d3] }
  | _ => none }
def markPartsRow : OpenClaim := { program := "ytllemobnfpljfaa", sum := "c89c53279f798f3827ee9bf60a393d10f061f23189df7da88e74d21553ba56c3", func := "gimlet/gimletlaw20.MarkParts", spec := "markParts", unfollowed := true, recurses := true, apart := false }
def MarkPartsSaid : Prop := markPartsRow.holds Try.pinned (OpenSpec.ofChange markPartsSpec)

/-- ITS FALSE NEIGHBOUR: 'it returns false'. Refute it at one input. -/
def markPartsWrong : ChangeSpec := { name := "markParts", fn := fun _ => fun
  | [d1, d2, d3] => { results := [.lit (.bool false)], args := [d1, d2, d3] }
  | _ => none }
def MarkPartsWrongFalsely : Prop := markPartsRow.holds Try.pinned (OpenSpec.ofChange markPartsWrong)

/-- 'gimletlaw19.RankTells': WHATEVER THE INPUT: true; the input reads as it did. -/
def rankTellsSpec : ChangeSpec := { name := "rankTells", fn := fun _ => fun
  | [d1, d2, d3] => { results := [.lit (.bool true)], args := [d1, d2, d3] }
  | _ => none }
def rankTellsRow : OpenClaim := { program := "ytllemobnfpljfaa", sum := "c89c53279f798f3827ee9bf60a393d10f061f23189df7da88e74d21553ba56c3", func := "gimlet/gimletlaw19.RankTells", spec := "rankTells", unfollowed := true, recurses := true, apart := false }
def RankTellsSaid : Prop := rankTellsRow.holds Try.pinned (OpenSpec.ofChange rankTellsSpec)

/-- ITS FALSE NEIGHBOUR: 'it returns false'. Refute it at one input. -/
def rankTellsWrong : ChangeSpec := { name := "rankTells", fn := fun _ => fun
  | [d1, d2, d3] => { results := [.lit (.bool false)], args := [d1, d2, d3] }
  | _ => none }
def RankTellsWrongFalsely : Prop := rankTellsRow.holds Try.pinned (OpenSpec.ofChange rankTellsWrong)

/-- 'gimletlaw19.RankGoes': WHATEVER THE INPUT: true; the input reads as it did. -/
def rankGoesSpec : ChangeSpec := { name := "rankGoes", fn := fun _ => fun
  | [d1, d2, d3] => { results := [.lit (.bool true)], args := [d1, d2, d3] }
  | _ => none }
def rankGoesRow : OpenClaim := { program := "ytllemobnfpljfaa", sum := "c89c53279f798f3827ee9bf60a393d10f061f23189df7da88e74d21553ba56c3", func := "gimlet/gimletlaw19.RankGoes", spec := "rankGoes", unfollowed := true, recurses := true, apart := false }
def RankGoesSaid : Prop := rankGoesRow.holds Try.pinned (OpenSpec.ofChange rankGoesSpec)

/-- ITS FALSE NEIGHBOUR: 'it returns false'. Refute it at one input. -/
def rankGoesWrong : ChangeSpec := { name := "rankGoes", fn := fun _ => fun
  | [d1, d2, d3] => { results := [.lit (.bool false)], args := [d1, d2, d3] }
  | _ => none }
def RankGoesWrongFalsely : Prop := rankGoesRow.holds Try.pinned (OpenSpec.ofChange rankGoesWrong)

/-- 'gimletlaw19.RankTraces': WHATEVER THE INPUT: true; the input reads as it did. -/
def rankTracesSpec : ChangeSpec := { name := "rankTraces", fn := fun _ => fun
  | [d1, d2, d3] => { results := [.lit (.bool true)], args := [d1, d2, d3] }
  | _ => none }
def rankTracesRow : OpenClaim := { program := "ytllemobnfpljfaa", sum := "c89c53279f798f3827ee9bf60a393d10f061f23189df7da88e74d21553ba56c3", func := "gimlet/gimletlaw19.RankTraces", spec := "rankTraces", unfollowed := true, recurses := true, apart := false }
def RankTracesSaid : Prop := rankTracesRow.holds Try.pinned (OpenSpec.ofChange rankTracesSpec)

/-- ITS FALSE NEIGHBOUR: 'it returns false'. Refute it at one input. -/
def rankTracesWrong : ChangeSpec := { name := "rankTraces", fn := fun _ => fun
  | [d1, d2, d3] => { results := [.lit (.bool false)], args := [d1, d2, d3] }
  | _ => none }
def RankTracesWrongFalsely : Prop := rankTracesRow.holds Try.pinned (OpenSpec.ofChange rankTracesWrong)

/-- 'gimletlaw19.RankKeeps': WHATEVER THE INPUT: true; the input reads as it did. -/
def rankKeepsSpec : ChangeSpec := { name := "rankKeeps", fn := fun _ => fun
  | [d1, d2, d3] => { results := [.lit (.bool true)], args := [d1, d2, d3] }
  | _ => none }
def rankKeepsRow : OpenClaim := { program := "ytllemobnfpljfaa", sum := "c89c53279f798f3827ee9bf60a393d10f061f23189df7da88e74d21553ba56c3", func := "gimlet/gimletlaw19.RankKeeps", spec := "rankKeeps", unfollowed := true, recurses := true, apart := false }
def RankKeepsSaid : Prop := rankKeepsRow.holds Try.pinned (OpenSpec.ofChange rankKeepsSpec)

/-- ITS FALSE NEIGHBOUR: 'it returns false'. Refute it at one input. -/
def rankKeepsWrong : ChangeSpec := { name := "rankKeeps", fn := fun _ => fun
  | [d1, d2, d3] => { results := [.lit (.bool false)], args := [d1, d2, d3] }
  | _ => none }
def RankKeepsWrongFalsely : Prop := rankKeepsRow.holds Try.pinned (OpenSpec.ofChange rankKeepsWrong)

/-- 'gimletlaw26.LiveTells': WHATEVER THE INPUT: true; the input reads as it did. -/
def liveTellsSpec : ChangeSpec := { name := "liveTells", fn := fun _ => fun
  | [d] => { results := [.lit (.bool true)], args := [d] }
  | _ => none }
def liveTellsRow : OpenClaim := { program := "ytllemobnfpljfaa", sum := "c89c53279f798f3827ee9bf60a393d10f061f23189df7da88e74d21553ba56c3", func := "gimlet/gimletlaw26.LiveTells", spec := "liveTells", unfollowed := true, recurses := true, apart := false }
def LiveTellsSaid : Prop := liveTellsRow.holds Try.pinned (OpenSpec.ofChange liveTellsSpec)

/-- ITS FALSE NEIGHBOUR: 'it returns false'. Refute it at one input. -/
def liveTellsWrong : ChangeSpec := { name := "liveTells", fn := fun _ => fun
  | [d] => { results := [.lit (.bool false)], args := [d] }
  | _ => none }
def LiveTellsWrongFalsely : Prop := liveTellsRow.holds Try.pinned (OpenSpec.ofChange liveTellsWrong)

/-- 'gimletlaw26.LiveSame': WHATEVER THE INPUT: true; the input reads as it did. -/
def liveSameSpec : ChangeSpec := { name := "liveSame", fn := fun _ => fun
  | [d1, d2] => { results := [.lit (.bool true)], args := [d1, d2] }
  | _ => none }
def liveSameRow : OpenClaim := { program := "ytllemobnfpljfaa", sum := "c89c53279f798f3827ee9bf60a393d10f061f23189df7da88e74d21553ba56c3", func := "gimlet/gimletlaw26.LiveSame", spec := "liveSame", unfollowed := true, recurses := true, apart := false }
def LiveSameSaid : Prop := liveSameRow.holds Try.pinned (OpenSpec.ofChange liveSameSpec)

/-- ITS FALSE NEIGHBOUR: 'it returns false'. Refute it at one input. -/
def liveSameWrong : ChangeSpec := { name := "liveSame", fn := fun _ => fun
  | [d1, d2] => { results := [.lit (.bool false)], args := [d1, d2] }
  | _ => none }
def LiveSameWrongFalsely : Prop := liveSameRow.holds Try.pinned (OpenSpec.ofChange liveSameWrong)

/-- 'gimletlaw26.LiveDead': WHATEVER THE INPUT: true; the input reads as it did. -/
def liveDeadSpec : ChangeSpec := { name := "liveDead", fn := fun _ => fun
  | [d1, d2, d3] => { results := [.lit (.bool true)], args := [d1, d2, d3] }
  | _ => none }
def liveDeadRow : OpenClaim := { program := "ytllemobnfpljfaa", sum := "c89c53279f798f3827ee9bf60a393d10f061f23189df7da88e74d21553ba56c3", func := "gimlet/gimletlaw26.LiveDead", spec := "liveDead", unfollowed := true, recurses := true, apart := false }
def LiveDeadSaid : Prop := liveDeadRow.holds Try.pinned (OpenSpec.ofChange liveDeadSpec)

/-- ITS FALSE NEIGHBOUR: 'it returns false'. Refute it at one input. -/
def liveDeadWrong : ChangeSpec := { name := "liveDead", fn := fun _ => fun
  | [d1, d2, d3] => { results := [.lit (.bool false)], args := [d1, d2, d3] }
  | _ => none }
def LiveDeadWrongFalsely : Prop := liveDeadRow.holds Try.pinned (OpenSpec.ofChange liveDeadWrong)

/- THE SECOND FORM. 'bulk': how many values and letters a reading holds, each counted each time it is reached (what is shared counts as often as it is met; a slice's spare places count too). A statement '..UptoSaid' is the law's where the arguments, and the package variables that the reading takes, are together of bulk at most 1048576: NARROWER than '..Said'. Prove '..Said' where nothing that the law and all that it calls make is longer than what came in: it says more and counts as full. Else prove '..UptoSaid'. A law counts once. -/
mutual
def uptoBulk {H : Type} : DataW H → Nat
  | .lit (.string bytes) => bytes.length + 1
  | .lit _ => 1
  | .nil => 1
  | .ptr d => uptoBulk d + 1
  | .slice elems spare => uptoBulkAll elems + uptoBulkAll spare + 1
  | .agg parts => uptoBulkAll parts + 1
  | .iface _ d => uptoBulk d + 1
  | .map entries => uptoBulkEntries entries + 1
  | .held _ => 1
def uptoBulkAll {H : Type} : List (DataW H) → Nat
  | [] => 0
  | d :: r => uptoBulk d + uptoBulkAll r
def uptoBulkEntries {H : Type} : List (Lit × DataW H) → Nat
  | [] => 0
  | x :: r => uptoBulkEntry x + uptoBulkEntries r
def uptoBulkEntry {H : Type} : Lit × DataW H → Nat
  | (.string bytes, d) => bytes.length + uptoBulk d + 1
  | (_, d) => uptoBulk d + 1
 end
def uptoSmall : (H : Type) → List (DataW H) → Bool := fun _ ds => decide (uptoBulkAll ds ≤ 1048576)
def OpenSpec.upto (s : _root_.Go.ChangeSpec) : _root_.Go.OpenSpec := { _root_.Go.OpenSpec.ofChange s with cond := some uptoSmall }

/-- 'gimletlaw13.PartTells', WHERE WHAT IT READS IS OF BULK AT MOST 1048576: true; the input reads as it did. -/
def partTellsUptoRow : OpenClaim := { program := "ytllemobnfpljfaa", sum := "c89c53279f798f3827ee9bf60a393d10f061f23189df7da88e74d21553ba56c3", func := "gimlet/gimletlaw13.PartTells", spec := "partTells", inPlace := ["internal/abi.NoEscape"], apart := false, narrowed := true }
def PartTellsUptoSaid : Prop := partTellsUptoRow.holds Try.pinned (OpenSpec.upto partTellsSpec)

/-- 'gimletlaw20.MarkTells', WHERE WHAT IT READS IS OF BULK AT MOST 1048576: true; the input reads as it did. -/
def markTellsUptoRow : OpenClaim := { program := "ytllemobnfpljfaa", sum := "c89c53279f798f3827ee9bf60a393d10f061f23189df7da88e74d21553ba56c3", func := "gimlet/gimletlaw20.MarkTells", spec := "markTells", unfollowed := true, recurses := true, apart := false, narrowed := true }
def MarkTellsUptoSaid : Prop := markTellsUptoRow.holds Try.pinned (OpenSpec.upto markTellsSpec)

/-- 'gimletlaw20.MarkApplies', WHERE WHAT IT READS IS OF BULK AT MOST 1048576: true; the input reads as it did. -/
def markAppliesUptoRow : OpenClaim := { program := "ytllemobnfpljfaa", sum := "c89c53279f798f3827ee9bf60a393d10f061f23189df7da88e74d21553ba56c3", func := "gimlet/gimletlaw20.MarkApplies", spec := "markApplies", unfollowed := true, recurses := true, apart := false, narrowed := true }
def MarkAppliesUptoSaid : Prop := markAppliesUptoRow.holds Try.pinned (OpenSpec.upto markAppliesSpec)

/-- 'gimletlaw20.MarkTrees', WHERE WHAT IT READS IS OF BULK AT MOST 1048576: true; the input reads as it did. -/
def markTreesUptoRow : OpenClaim := { program := "ytllemobnfpljfaa", sum := "c89c53279f798f3827ee9bf60a393d10f061f23189df7da88e74d21553ba56c3", func := "gimlet/gimletlaw20.MarkTrees", spec := "markTrees", unfollowed := true, recurses := true, apart := false, narrowed := true }
def MarkTreesUptoSaid : Prop := markTreesUptoRow.holds Try.pinned (OpenSpec.upto markTreesSpec)

/-- 'gimletlaw20.MarkParts', WHERE WHAT IT READS IS OF BULK AT MOST 1048576: true; the input reads as it did. -/
def markPartsUptoRow : OpenClaim := { program := "ytllemobnfpljfaa", sum := "c89c53279f798f3827ee9bf60a393d10f061f23189df7da88e74d21553ba56c3", func := "gimlet/gimletlaw20.MarkParts", spec := "markParts", unfollowed := true, recurses := true, apart := false, narrowed := true }
def MarkPartsUptoSaid : Prop := markPartsUptoRow.holds Try.pinned (OpenSpec.upto markPartsSpec)

/-- 'gimletlaw19.RankTells', WHERE WHAT IT READS IS OF BULK AT MOST 1048576: true; the input reads as it did. -/
def rankTellsUptoRow : OpenClaim := { program := "ytllemobnfpljfaa", sum := "c89c53279f798f3827ee9bf60a393d10f061f23189df7da88e74d21553ba56c3", func := "gimlet/gimletlaw19.RankTells", spec := "rankTells", unfollowed := true, recurses := true, apart := false, narrowed := true }
def RankTellsUptoSaid : Prop := rankTellsUptoRow.holds Try.pinned (OpenSpec.upto rankTellsSpec)

/-- 'gimletlaw19.RankGoes', WHERE WHAT IT READS IS OF BULK AT MOST 1048576: true; the input reads as it did. -/
def rankGoesUptoRow : OpenClaim := { program := "ytllemobnfpljfaa", sum := "c89c53279f798f3827ee9bf60a393d10f061f23189df7da88e74d21553ba56c3", func := "gimlet/gimletlaw19.RankGoes", spec := "rankGoes", unfollowed := true, recurses := true, apart := false, narrowed := true }
def RankGoesUptoSaid : Prop := rankGoesUptoRow.holds Try.pinned (OpenSpec.upto rankGoesSpec)

/-- 'gimletlaw19.RankTraces', WHERE WHAT IT READS IS OF BULK AT MOST 1048576: true; the input reads as it did. -/
def rankTracesUptoRow : OpenClaim := { program := "ytllemobnfpljfaa", sum := "c89c53279f798f3827ee9bf60a393d10f061f23189df7da88e74d21553ba56c3", func := "gimlet/gimletlaw19.RankTraces", spec := "rankTraces", unfollowed := true, recurses := true, apart := false, narrowed := true }
def RankTracesUptoSaid : Prop := rankTracesUptoRow.holds Try.pinned (OpenSpec.upto rankTracesSpec)

/-- 'gimletlaw19.RankKeeps', WHERE WHAT IT READS IS OF BULK AT MOST 1048576: true; the input reads as it did. -/
def rankKeepsUptoRow : OpenClaim := { program := "ytllemobnfpljfaa", sum := "c89c53279f798f3827ee9bf60a393d10f061f23189df7da88e74d21553ba56c3", func := "gimlet/gimletlaw19.RankKeeps", spec := "rankKeeps", unfollowed := true, recurses := true, apart := false, narrowed := true }
def RankKeepsUptoSaid : Prop := rankKeepsUptoRow.holds Try.pinned (OpenSpec.upto rankKeepsSpec)

/-- 'gimletlaw26.LiveTells', WHERE WHAT IT READS IS OF BULK AT MOST 1048576: true; the input reads as it did. -/
def liveTellsUptoRow : OpenClaim := { program := "ytllemobnfpljfaa", sum := "c89c53279f798f3827ee9bf60a393d10f061f23189df7da88e74d21553ba56c3", func := "gimlet/gimletlaw26.LiveTells", spec := "liveTells", unfollowed := true, recurses := true, apart := false, narrowed := true }
def LiveTellsUptoSaid : Prop := liveTellsUptoRow.holds Try.pinned (OpenSpec.upto liveTellsSpec)

/-- 'gimletlaw26.LiveSame', WHERE WHAT IT READS IS OF BULK AT MOST 1048576: true; the input reads as it did. -/
def liveSameUptoRow : OpenClaim := { program := "ytllemobnfpljfaa", sum := "c89c53279f798f3827ee9bf60a393d10f061f23189df7da88e74d21553ba56c3", func := "gimlet/gimletlaw26.LiveSame", spec := "liveSame", unfollowed := true, recurses := true, apart := false, narrowed := true }
def LiveSameUptoSaid : Prop := liveSameUptoRow.holds Try.pinned (OpenSpec.upto liveSameSpec)

/-- 'gimletlaw26.LiveDead', WHERE WHAT IT READS IS OF BULK AT MOST 1048576: true; the input reads as it did. -/
def liveDeadUptoRow : OpenClaim := { program := "ytllemobnfpljfaa", sum := "c89c53279f798f3827ee9bf60a393d10f061f23189df7da88e74d21553ba56c3", func := "gimlet/gimletlaw26.LiveDead", spec := "liveDead", unfollowed := true, recurses := true, apart := false, narrowed := true }
def LiveDeadUptoSaid : Prop := liveDeadUptoRow.holds Try.pinned (OpenSpec.upto liveDeadSpec)

end Rows
end Go.Proofs.Ytllemobnfpljfaa
