/-
  No cell of these rows narrows 'for every input' (looked for: loops, veiled, ifaces, maps, wideKeys, modest, calm, conditions, laid).
  DERIVED. THE GIVEN ROWS OF THIS SEAT. 12 by the template 'for every input the law returns true; each argument reads behind the call as it read before'; 0 by the template 'total and deterministic' (their statements: YtfldmpmaifjcbaaTotals.lean).
  GIVEN WITH THE SEED: the statements are not yours to turn. If you find one false, say at which input.
  Laid BY PROGRAM, IN A SANDBOX (cutbox-rows.mjs): the forced cells as the released guide's own fill.sh prints them over the translation 090d87f2ac7c5d53… (all of the seat's roots in one cut). By AI agents, Wed Nov 11 2026. No macro, syntax, notation, axiom, sorry.
-/
import Derived.Test.YtfldmpmaifjcbaaChecked
import GoSem.Claim
import GoSem.ClaimJoined
import GoSem.ClaimMapViews
import Derived.JoinedTies
import Derived.KernelRfl
namespace Go.Proofs.Ytfldmpmaifjcbaa
/- THE CELL 'sum', in the pinned program and in every row, IS THE sha256 OF THE DUMP (.gsa) THAT YtfldmpmaifjcbaaProg.lean LOADS. Nothing in Lean hashes anything: it is a label: what it is worth is what the hold of that sum in a sandbox is worth. -/
noncomputable def Try.pinned : Pinned := { name := "ytfldmpmaifjcbaa", sum := "090d87f2ac7c5d53d9d8159360f71bec26d757573e490ee06ff2a7f64398d643", checked := Try.checked }
namespace Rows
def none {H : Type} : Left H := { results := [], args := [] }

/-- 'gimletlaw12.NullTells': WHATEVER THE INPUT: true; the input reads as it did. -/
def nullTellsSpec : ChangeSpec := { name := "nullTells", fn := fun _ => fun
  | [d1, d2] => { results := [.lit (.bool true)], args := [d1, d2] }
  | _ => none }
def nullTellsRow : OpenClaim := { program := "ytfldmpmaifjcbaa", sum := "090d87f2ac7c5d53d9d8159360f71bec26d757573e490ee06ff2a7f64398d643", func := "gimlet/gimletlaw12.NullTells", spec := "nullTells", recurses := true, apart := false }
def NullTellsSaid : Prop := nullTellsRow.holds Try.pinned (OpenSpec.ofChange nullTellsSpec)

/-- ITS FALSE NEIGHBOUR: 'it returns false'. Refute it at one input. -/
def nullTellsWrong : ChangeSpec := { name := "nullTells", fn := fun _ => fun
  | [d1, d2] => { results := [.lit (.bool false)], args := [d1, d2] }
  | _ => none }
def NullTellsWrongFalsely : Prop := nullTellsRow.holds Try.pinned (OpenSpec.ofChange nullTellsWrong)

/-- 'gimletlaw12.NullWord': WHATEVER THE INPUT: true; the input reads as it did. -/
def nullWordSpec : ChangeSpec := { name := "nullWord", fn := fun _ => fun
  | [d] => { results := [.lit (.bool true)], args := [d] }
  | _ => none }
def nullWordRow : OpenClaim := { program := "ytfldmpmaifjcbaa", sum := "090d87f2ac7c5d53d9d8159360f71bec26d757573e490ee06ff2a7f64398d643", func := "gimlet/gimletlaw12.NullWord", spec := "nullWord", recurses := true, apart := false }
def NullWordSaid : Prop := nullWordRow.holds Try.pinned (OpenSpec.ofChange nullWordSpec)

/-- ITS FALSE NEIGHBOUR: 'it returns false'. Refute it at one input. -/
def nullWordWrong : ChangeSpec := { name := "nullWord", fn := fun _ => fun
  | [d] => { results := [.lit (.bool false)], args := [d] }
  | _ => none }
def NullWordWrongFalsely : Prop := nullWordRow.holds Try.pinned (OpenSpec.ofChange nullWordWrong)

/-- 'gimletlaw12.NullNested': WHATEVER THE INPUT: true; the input reads as it did. -/
def nullNestedSpec : ChangeSpec := { name := "nullNested", fn := fun _ => fun
  | [d1, d2] => { results := [.lit (.bool true)], args := [d1, d2] }
  | _ => none }
def nullNestedRow : OpenClaim := { program := "ytfldmpmaifjcbaa", sum := "090d87f2ac7c5d53d9d8159360f71bec26d757573e490ee06ff2a7f64398d643", func := "gimlet/gimletlaw12.NullNested", spec := "nullNested", recurses := true, apart := false }
def NullNestedSaid : Prop := nullNestedRow.holds Try.pinned (OpenSpec.ofChange nullNestedSpec)

/-- ITS FALSE NEIGHBOUR: 'it returns false'. Refute it at one input. -/
def nullNestedWrong : ChangeSpec := { name := "nullNested", fn := fun _ => fun
  | [d1, d2] => { results := [.lit (.bool false)], args := [d1, d2] }
  | _ => none }
def NullNestedWrongFalsely : Prop := nullNestedRow.holds Try.pinned (OpenSpec.ofChange nullNestedWrong)

/-- 'gimletlaw14.TreeAhead': WHATEVER THE INPUT: true; the input reads as it did. -/
def treeAheadSpec : ChangeSpec := { name := "treeAhead", fn := fun _ => fun
  | [d1, d2] => { results := [.lit (.bool true)], args := [d1, d2] }
  | _ => none }
def treeAheadRow : OpenClaim := { program := "ytfldmpmaifjcbaa", sum := "090d87f2ac7c5d53d9d8159360f71bec26d757573e490ee06ff2a7f64398d643", func := "gimlet/gimletlaw14.TreeAhead", spec := "treeAhead", unfollowed := true, recurses := true, apart := false }
def TreeAheadSaid : Prop := treeAheadRow.holds Try.pinned (OpenSpec.ofChange treeAheadSpec)

/-- ITS FALSE NEIGHBOUR: 'it returns false'. Refute it at one input. -/
def treeAheadWrong : ChangeSpec := { name := "treeAhead", fn := fun _ => fun
  | [d1, d2] => { results := [.lit (.bool false)], args := [d1, d2] }
  | _ => none }
def TreeAheadWrongFalsely : Prop := treeAheadRow.holds Try.pinned (OpenSpec.ofChange treeAheadWrong)

/-- 'gimletlaw14.TreeOrder': WHATEVER THE INPUT: true; the input reads as it did. -/
def treeOrderSpec : ChangeSpec := { name := "treeOrder", fn := fun _ => fun
  | [d1, d2, d3] => { results := [.lit (.bool true)], args := [d1, d2, d3] }
  | _ => none }
def treeOrderRow : OpenClaim := { program := "ytfldmpmaifjcbaa", sum := "090d87f2ac7c5d53d9d8159360f71bec26d757573e490ee06ff2a7f64398d643", func := "gimlet/gimletlaw14.TreeOrder", spec := "treeOrder", unfollowed := true, recurses := true, apart := false }
def TreeOrderSaid : Prop := treeOrderRow.holds Try.pinned (OpenSpec.ofChange treeOrderSpec)

/-- ITS FALSE NEIGHBOUR: 'it returns false'. Refute it at one input. -/
def treeOrderWrong : ChangeSpec := { name := "treeOrder", fn := fun _ => fun
  | [d1, d2, d3] => { results := [.lit (.bool false)], args := [d1, d2, d3] }
  | _ => none }
def TreeOrderWrongFalsely : Prop := treeOrderRow.holds Try.pinned (OpenSpec.ofChange treeOrderWrong)

/-- 'gimletlaw14.TreeFrames': WHATEVER THE INPUT: true; the input reads as it did. -/
def treeFramesSpec : ChangeSpec := { name := "treeFrames", fn := fun _ => fun
  | [d1, d2, d3] => { results := [.lit (.bool true)], args := [d1, d2, d3] }
  | _ => none }
def treeFramesRow : OpenClaim := { program := "ytfldmpmaifjcbaa", sum := "090d87f2ac7c5d53d9d8159360f71bec26d757573e490ee06ff2a7f64398d643", func := "gimlet/gimletlaw14.TreeFrames", spec := "treeFrames", unfollowed := true, recurses := true, apart := false }
def TreeFramesSaid : Prop := treeFramesRow.holds Try.pinned (OpenSpec.ofChange treeFramesSpec)

/-- ITS FALSE NEIGHBOUR: 'it returns false'. Refute it at one input. -/
def treeFramesWrong : ChangeSpec := { name := "treeFrames", fn := fun _ => fun
  | [d1, d2, d3] => { results := [.lit (.bool false)], args := [d1, d2, d3] }
  | _ => none }
def TreeFramesWrongFalsely : Prop := treeFramesRow.holds Try.pinned (OpenSpec.ofChange treeFramesWrong)

/-- 'gimletlaw14.TreeWithin': WHATEVER THE INPUT: true; the input reads as it did. -/
def treeWithinSpec : ChangeSpec := { name := "treeWithin", fn := fun _ => fun
  | [d1, d2, d3] => { results := [.lit (.bool true)], args := [d1, d2, d3] }
  | _ => none }
def treeWithinRow : OpenClaim := { program := "ytfldmpmaifjcbaa", sum := "090d87f2ac7c5d53d9d8159360f71bec26d757573e490ee06ff2a7f64398d643", func := "gimlet/gimletlaw14.TreeWithin", spec := "treeWithin", unfollowed := true, recurses := true, apart := false }
def TreeWithinSaid : Prop := treeWithinRow.holds Try.pinned (OpenSpec.ofChange treeWithinSpec)

/-- ITS FALSE NEIGHBOUR: 'it returns false'. Refute it at one input. -/
def treeWithinWrong : ChangeSpec := { name := "treeWithin", fn := fun _ => fun
  | [d1, d2, d3] => { results := [.lit (.bool false)], args := [d1, d2, d3] }
  | _ => none }
def TreeWithinWrongFalsely : Prop := treeWithinRow.holds Try.pinned (OpenSpec.ofChange treeWithinWrong)

/-- 'gimletlaw15.LeastFinds': WHATEVER THE INPUT: true; the input reads as it did. -/
def leastFindsSpec : ChangeSpec := { name := "leastFinds", fn := fun _ => fun
  | [d1, d2] => { results := [.lit (.bool true)], args := [d1, d2] }
  | _ => none }
def leastFindsRow : OpenClaim := { program := "ytfldmpmaifjcbaa", sum := "090d87f2ac7c5d53d9d8159360f71bec26d757573e490ee06ff2a7f64398d643", func := "gimlet/gimletlaw15.LeastFinds", spec := "leastFinds", recurses := true, apart := false }
def LeastFindsSaid : Prop := leastFindsRow.holds Try.pinned (OpenSpec.ofChange leastFindsSpec)

/-- ITS FALSE NEIGHBOUR: 'it returns false'. Refute it at one input. -/
def leastFindsWrong : ChangeSpec := { name := "leastFinds", fn := fun _ => fun
  | [d1, d2] => { results := [.lit (.bool false)], args := [d1, d2] }
  | _ => none }
def LeastFindsWrongFalsely : Prop := leastFindsRow.holds Try.pinned (OpenSpec.ofChange leastFindsWrong)

/-- 'gimletlaw15.LeastTells': WHATEVER THE INPUT: true; the input reads as it did. -/
def leastTellsSpec : ChangeSpec := { name := "leastTells", fn := fun _ => fun
  | [d1, d2, d3] => { results := [.lit (.bool true)], args := [d1, d2, d3] }
  | _ => none }
def leastTellsRow : OpenClaim := { program := "ytfldmpmaifjcbaa", sum := "090d87f2ac7c5d53d9d8159360f71bec26d757573e490ee06ff2a7f64398d643", func := "gimlet/gimletlaw15.LeastTells", spec := "leastTells", recurses := true, apart := false }
def LeastTellsSaid : Prop := leastTellsRow.holds Try.pinned (OpenSpec.ofChange leastTellsSpec)

/-- ITS FALSE NEIGHBOUR: 'it returns false'. Refute it at one input. -/
def leastTellsWrong : ChangeSpec := { name := "leastTells", fn := fun _ => fun
  | [d1, d2, d3] => { results := [.lit (.bool false)], args := [d1, d2, d3] }
  | _ => none }
def LeastTellsWrongFalsely : Prop := leastTellsRow.holds Try.pinned (OpenSpec.ofChange leastTellsWrong)

/-- 'gimletlaw15.LeastFirst': WHATEVER THE INPUT: true; the input reads as it did. -/
def leastFirstSpec : ChangeSpec := { name := "leastFirst", fn := fun _ => fun
  | [d1, d2, d3] => { results := [.lit (.bool true)], args := [d1, d2, d3] }
  | _ => none }
def leastFirstRow : OpenClaim := { program := "ytfldmpmaifjcbaa", sum := "090d87f2ac7c5d53d9d8159360f71bec26d757573e490ee06ff2a7f64398d643", func := "gimlet/gimletlaw15.LeastFirst", spec := "leastFirst", recurses := true, apart := false }
def LeastFirstSaid : Prop := leastFirstRow.holds Try.pinned (OpenSpec.ofChange leastFirstSpec)

/-- ITS FALSE NEIGHBOUR: 'it returns false'. Refute it at one input. -/
def leastFirstWrong : ChangeSpec := { name := "leastFirst", fn := fun _ => fun
  | [d1, d2, d3] => { results := [.lit (.bool false)], args := [d1, d2, d3] }
  | _ => none }
def LeastFirstWrongFalsely : Prop := leastFirstRow.holds Try.pinned (OpenSpec.ofChange leastFirstWrong)

/-- 'gimletlaw15.LeastWord': WHATEVER THE INPUT: true; the input reads as it did. -/
def leastWordSpec : ChangeSpec := { name := "leastWord", fn := fun _ => fun
  | [d1, d2] => { results := [.lit (.bool true)], args := [d1, d2] }
  | _ => none }
def leastWordRow : OpenClaim := { program := "ytfldmpmaifjcbaa", sum := "090d87f2ac7c5d53d9d8159360f71bec26d757573e490ee06ff2a7f64398d643", func := "gimlet/gimletlaw15.LeastWord", spec := "leastWord", recurses := true, apart := false }
def LeastWordSaid : Prop := leastWordRow.holds Try.pinned (OpenSpec.ofChange leastWordSpec)

/-- ITS FALSE NEIGHBOUR: 'it returns false'. Refute it at one input. -/
def leastWordWrong : ChangeSpec := { name := "leastWord", fn := fun _ => fun
  | [d1, d2] => { results := [.lit (.bool false)], args := [d1, d2] }
  | _ => none }
def LeastWordWrongFalsely : Prop := leastWordRow.holds Try.pinned (OpenSpec.ofChange leastWordWrong)

/-- 'gimletlaw15.LeastAhead': WHATEVER THE INPUT: true; the input reads as it did. -/
def leastAheadSpec : ChangeSpec := { name := "leastAhead", fn := fun _ => fun
  | [d1, d2, d3] => { results := [.lit (.bool true)], args := [d1, d2, d3] }
  | _ => none }
def leastAheadRow : OpenClaim := { program := "ytfldmpmaifjcbaa", sum := "090d87f2ac7c5d53d9d8159360f71bec26d757573e490ee06ff2a7f64398d643", func := "gimlet/gimletlaw15.LeastAhead", spec := "leastAhead", unfollowed := true, recurses := true, apart := false }
def LeastAheadSaid : Prop := leastAheadRow.holds Try.pinned (OpenSpec.ofChange leastAheadSpec)

/-- ITS FALSE NEIGHBOUR: 'it returns false'. Refute it at one input. -/
def leastAheadWrong : ChangeSpec := { name := "leastAhead", fn := fun _ => fun
  | [d1, d2, d3] => { results := [.lit (.bool false)], args := [d1, d2, d3] }
  | _ => none }
def LeastAheadWrongFalsely : Prop := leastAheadRow.holds Try.pinned (OpenSpec.ofChange leastAheadWrong)

/- THE SECOND FORM. 'bulk': how many values and letters a reading holds, each counted each time it is reached (what is shared counts as often as it is met; a slice's spare places count too). A statement '..UptoSaid' is the law's where the arguments, and the package variables that the reading takes, are together of bulk at most 1048576: NARROWER than '..Said'. Prove '..Said' where nothing that the law and all that it calls make is longer than what came in: it says more and counts as full. Else prove '..UptoSaid'. A law counts once. -/
mutual
def uptoBulk {H : Type} : DataW H → Nat
  | .lit (.string bytes) => bytes.length + 1
  | .lit _ => 1
  | .nil => 1
  | .ptr d => uptoBulk d + 1
  | .slice elems spare => uptoBulkAll elems + uptoBulkAll spare + 1
  | .agg parts => uptoBulkAll parts + 1
  | .iface _ d => uptoBulk d + 1
  | .map entries => uptoBulkEntries entries + 1
  | .held _ => 1
def uptoBulkAll {H : Type} : List (DataW H) → Nat
  | [] => 0
  | d :: r => uptoBulk d + uptoBulkAll r
def uptoBulkEntries {H : Type} : List (Lit × DataW H) → Nat
  | [] => 0
  | x :: r => uptoBulkEntry x + uptoBulkEntries r
def uptoBulkEntry {H : Type} : Lit × DataW H → Nat
  | (.string bytes, d) => bytes.length + uptoBulk d + 1
  | (_, d) => uptoBulk d + 1
 end
def uptoSmall : (H : Type) → List (DataW H) → Bool := fun _ ds => decide (uptoBulkAll ds ≤ 1048576)
def OpenSpec.upto (s : _root_.Go.ChangeSpec) : _root_.Go.OpenSpec := { _root_.Go.OpenSpec.ofChange s with cond := some uptoSmall }

/-- 'gimletlaw12.NullTells', WHERE WHAT IT READS IS OF BULK AT MOST 1048576: true; the input reads as it did. -/
def nullTellsUptoRow : OpenClaim := { program := "ytfldmpmaifjcbaa", sum := "090d87f2ac7c5d53d9d8159360f71bec26d757573e490ee06ff2a7f64398d643", func := "gimlet/gimletlaw12.NullTells", spec := "nullTells", recurses := true, apart := false, narrowed := true }
def NullTellsUptoSaid : Prop := nullTellsUptoRow.holds Try.pinned (OpenSpec.upto nullTellsSpec)

/-- 'gimletlaw12.NullWord', WHERE WHAT IT READS IS OF BULK AT MOST 1048576: true; the input reads as it did. -/
def nullWordUptoRow : OpenClaim := { program := "ytfldmpmaifjcbaa", sum := "090d87f2ac7c5d53d9d8159360f71bec26d757573e490ee06ff2a7f64398d643", func := "gimlet/gimletlaw12.NullWord", spec := "nullWord", recurses := true, apart := false, narrowed := true }
def NullWordUptoSaid : Prop := nullWordUptoRow.holds Try.pinned (OpenSpec.upto nullWordSpec)

/-- 'gimletlaw12.NullNested', WHERE WHAT IT READS IS OF BULK AT MOST 1048576: true; the input reads as it did. -/
def nullNestedUptoRow : OpenClaim := { program := "ytfldmpmaifjcbaa", sum := "090d87f2ac7c5d53d9d8159360f71bec26d757573e490ee06ff2a7f64398d643", func := "gimlet/gimletlaw12.NullNested", spec := "nullNested", recurses := true, apart := false, narrowed := true }
def NullNestedUptoSaid : Prop := nullNestedUptoRow.holds Try.pinned (OpenSpec.upto nullNestedSpec)

/-- 'gimletlaw14.TreeAhead', WHERE WHAT IT READS IS OF BULK AT MOST 1048576: true; the input reads as it did. -/
def treeAheadUptoRow : OpenClaim := { program := "ytfldmpmaifjcbaa", sum := "090d87f2ac7c5d53d9d8159360f71bec26d757573e490ee06ff2a7f64398d643", func := "gimlet/gimletlaw14.TreeAhead", spec := "treeAhead", unfollowed := true, recurses := true, apart := false, narrowed := true }
def TreeAheadUptoSaid : Prop := treeAheadUptoRow.holds Try.pinned (OpenSpec.upto treeAheadSpec)

/-- 'gimletlaw14.TreeOrder', WHERE WHAT IT READS IS OF BULK AT MOST 1048576: true; the input reads as it did. -/
def treeOrderUptoRow : OpenClaim := { program := "ytfldmpmaifjcbaa", sum := "090d87f2ac7c5d53d9d8159360f71bec26d757573e490ee06ff2a7f64398d643", func := "gimlet/gimletlaw14.TreeOrder", spec := "treeOrder", unfollowed := true, recurses := true, apart := false, narrowed := true }
def TreeOrderUptoSaid : Prop := treeOrderUptoRow.holds Try.pinned (OpenSpec.upto treeOrderSpec)

/-- 'gimletlaw14.TreeFrames', WHERE WHAT IT READS IS OF BULK AT MOST 1048576: true; the input reads as it did. -/
def treeFramesUptoRow : OpenClaim := { program := "ytfldmpmaifjcbaa", sum := "090d87f2ac7c5d53d9d8159360f71bec26d757573e490ee06ff2a7f64398d643", func := "gimlet/gimletlaw14.TreeFrames", spec := "treeFrames", unfollowed := true, recurses := true, apart := false, narrowed := true }
def TreeFramesUptoSaid : Prop := treeFramesUptoRow.holds Try.pinned (OpenSpec.upto treeFramesSpec)

/-- 'gimletlaw14.TreeWithin', WHERE WHAT IT READS IS OF BULK AT MOST 1048576: true; the input reads as it did. -/
def treeWithinUptoRow : OpenClaim := { program := "ytfldmpmaifjcbaa", sum := "090d87f2ac7c5d53d9d8159360f71bec26d757573e490ee06ff2a7f64398d643", func := "gimlet/gimletlaw14.TreeWithin", spec := "treeWithin", unfollowed := true, recurses := true, apart := false, narrowed := true }
def TreeWithinUptoSaid : Prop := treeWithinUptoRow.holds Try.pinned (OpenSpec.upto treeWithinSpec)

/-- 'gimletlaw15.LeastFinds', WHERE WHAT IT READS IS OF BULK AT MOST 1048576: true; the input reads as it did. -/
def leastFindsUptoRow : OpenClaim := { program := "ytfldmpmaifjcbaa", sum := "090d87f2ac7c5d53d9d8159360f71bec26d757573e490ee06ff2a7f64398d643", func := "gimlet/gimletlaw15.LeastFinds", spec := "leastFinds", recurses := true, apart := false, narrowed := true }
def LeastFindsUptoSaid : Prop := leastFindsUptoRow.holds Try.pinned (OpenSpec.upto leastFindsSpec)

/-- 'gimletlaw15.LeastTells', WHERE WHAT IT READS IS OF BULK AT MOST 1048576: true; the input reads as it did. -/
def leastTellsUptoRow : OpenClaim := { program := "ytfldmpmaifjcbaa", sum := "090d87f2ac7c5d53d9d8159360f71bec26d757573e490ee06ff2a7f64398d643", func := "gimlet/gimletlaw15.LeastTells", spec := "leastTells", recurses := true, apart := false, narrowed := true }
def LeastTellsUptoSaid : Prop := leastTellsUptoRow.holds Try.pinned (OpenSpec.upto leastTellsSpec)

/-- 'gimletlaw15.LeastFirst', WHERE WHAT IT READS IS OF BULK AT MOST 1048576: true; the input reads as it did. -/
def leastFirstUptoRow : OpenClaim := { program := "ytfldmpmaifjcbaa", sum := "090d87f2ac7c5d53d9d8159360f71bec26d757573e490ee06ff2a7f64398d643", func := "gimlet/gimletlaw15.LeastFirst", spec := "leastFirst", recurses := true, apart := false, narrowed := true }
def LeastFirstUptoSaid : Prop := leastFirstUptoRow.holds Try.pinned (OpenSpec.upto leastFirstSpec)

/-- 'gimletlaw15.LeastWord', WHERE WHAT IT READS IS OF BULK AT MOST 1048576: true; the input reads as it did. -/
def leastWordUptoRow : OpenClaim := { program := "ytfldmpmaifjcbaa", sum := "090d87f2ac7c5d53d9d8159360f71bec26d757573e490ee06ff2a7f64398d643", func := "gimlet/gimletlaw15.LeastWord", spec := "leastWord", recurses := true, apart := false, narrowed := true }
def LeastWordUptoSaid : Prop := leastWordUptoRow.holds Try.pinned (OpenSpec.upto leastWordSpec)

/-- 'gimletlaw15.LeastAhead', WHERE WHAT IT READS IS OF BULK AT MOST 1048576: true; the input reads as it did. -/
def leastAheadUptoRow : OpenClaim := { program := "ytfldmpmaifjcbaa", sum := "090d87f2ac7c5d53d9d8159360f71bec26d757573e490ee06ff2a7f64398d643", func := "gimlet/gimletlaw15.LeastAhead", spec := "leastAhead", unfollowed := true, recurses := true, apart := false, narrowed := true }
def LeastAheadUptoSaid : Prop := leastAheadUptoRow.holds Try.pinned (OpenSpec.upto leastAheadSpec)

end Rows
end Go.Proofs.Ytfldmpmaifjcbaa
