/-
  No cell of these rows narrows 'for every input' (looked for: loops, veiled, ifaces, maps, wideKeys, modest, calm, conditions, laid).
  DERIVED. THE GIVEN ROWS OF THIS SEAT. 12 by the template 'for every input the law returns true; each argument reads behind the call as it read before'; 0 by the template 'total and deterministic' (their statements: YtgiihapbgpnkkaaTotals.lean).
  GIVEN WITH THE SEED: the statements are not yours to turn. If you find one false, say at which input.
  Laid BY PROGRAM, IN A SANDBOX (cutbox-rows.mjs): the forced cells as the released guide's own fill.sh prints them over the translation 911b13fac78800dc… (all of the seat's roots in one cut). By AI agents, Wed Nov 11 2026. No macro, syntax, notation, axiom, sorry.
-/
import Derived.Test.YtgiihapbgpnkkaaChecked
import GoSem.Claim
import GoSem.ClaimJoined
import GoSem.ClaimMapViews
import Derived.JoinedTies
import Derived.KernelRfl
namespace Go.Proofs.Ytgiihapbgpnkkaa
/- THE CELL 'sum', in the pinned program and in every row, IS THE sha256 OF THE DUMP (.gsa) THAT YtgiihapbgpnkkaaProg.lean LOADS. Nothing in Lean hashes anything: it is a label: what it is worth is what the hold of that sum in a sandbox is worth. -/
noncomputable def Try.pinned : Pinned := { name := "ytgiihapbgpnkkaa", sum := "911b13fac78800dca1ca8d6483acdcfe9dd22beb23b7bb13b9e7e4be19fcee0a", checked := Try.checked }
namespace Rows
def none {H : Type} : Left H := { results := [], args := [] }

/-- 'gimletlaw30.PackNumbers': WHATEVER THE INPUT: true; the input reads as it did. -/
def packNumbersSpec : ChangeSpec := { name := "packNumbers", fn := fun _ => fun
  | [d1, d2] => { results := [.lit (.bool true)], args := [d1, d2] }
  | _ => none }
def packNumbersRow : OpenClaim := { program := "ytgiihapbgpnkkaa", sum := "911b13fac78800dca1ca8d6483acdcfe9dd22beb23b7bb13b9e7e4be19fcee0a", func := "gimlet/gimletlaw30.PackNumbers", spec := "packNumbers", apart := false }
def PackNumbersSaid : Prop := packNumbersRow.holds Try.pinned (OpenSpec.ofChange packNumbersSpec)

/-- ITS FALSE NEIGHBOUR: 'it returns false'. Refute it at one input. -/
def packNumbersWrong : ChangeSpec := { name := "packNumbers", fn := fun _ => fun
  | [d1, d2] => { results := [.lit (.bool false)], args := [d1, d2] }
  | _ => none }
def PackNumbersWrongFalsely : Prop := packNumbersRow.holds Try.pinned (OpenSpec.ofChange packNumbersWrong)

/-- 'gimletlaw30.PackSizes': WHATEVER THE INPUT: true; the input reads as it did. -/
def packSizesSpec : ChangeSpec := { name := "packSizes", fn := fun _ => fun
  | [d1, d2] => { results := [.lit (.bool true)], args := [d1, d2] }
  | _ => none }
def packSizesRow : OpenClaim := { program := "ytgiihapbgpnkkaa", sum := "911b13fac78800dca1ca8d6483acdcfe9dd22beb23b7bb13b9e7e4be19fcee0a", func := "gimlet/gimletlaw30.PackSizes", spec := "packSizes", apart := false }
def PackSizesSaid : Prop := packSizesRow.holds Try.pinned (OpenSpec.ofChange packSizesSpec)

/-- ITS FALSE NEIGHBOUR: 'it returns false'. Refute it at one input. -/
def packSizesWrong : ChangeSpec := { name := "packSizes", fn := fun _ => fun
  | [d1, d2] => { results := [.lit (.bool false)], args := [d1, d2] }
  | _ => none }
def PackSizesWrongFalsely : Prop := packSizesRow.holds Try.pinned (OpenSpec.ofChange packSizesWrong)

/-- 'gimletlaw13.PartRight': WHATEVER THE INPUT: true; the input reads as it did. -/
def partRightSpec : ChangeSpec := { name := "partRight", fn := fun _ => fun
  | [d] => { results := [.lit (.bool true)], args := [d] }
  | _ => none }
def partRightRow : OpenClaim := { program := "ytgiihapbgpnkkaa", sum := "911b13fac78800dca1ca8d6483acdcfe9dd22beb23b7bb13b9e7e4be19fcee0a", func := "gimlet/gimletlaw13.PartRight", spec := "partRight", inPlace := ["internal/abi.NoEscape"], apart := false }
def PartRightSaid : Prop := partRightRow.holds Try.pinned (OpenSpec.ofChange partRightSpec)

/-- ITS FALSE NEIGHBOUR: 'it returns false'. Refute it at one input. -/
def partRightWrong : ChangeSpec := { name := "partRight", fn := fun _ => fun
  | [d] => { results := [.lit (.bool false)], args := [d] }
  | _ => none }
def PartRightWrongFalsely : Prop := partRightRow.holds Try.pinned (OpenSpec.ofChange partRightWrong)

/-- 'gimletlaw13.PartApart': WHATEVER THE INPUT: true; the input reads as it did. -/
def partApartSpec : ChangeSpec := { name := "partApart", fn := fun _ => fun
  | [d1, d2, d3] => { results := [.lit (.bool true)], args := [d1, d2, d3] }
  | _ => none }
def partApartRow : OpenClaim := { program := "ytgiihapbgpnkkaa", sum := "911b13fac78800dca1ca8d6483acdcfe9dd22beb23b7bb13b9e7e4be19fcee0a", func := "gimlet/gimletlaw13.PartApart", spec := "partApart", inPlace := ["internal/abi.NoEscape"], apart := false }
def PartApartSaid : Prop := partApartRow.holds Try.pinned (OpenSpec.ofChange partApartSpec)

/-- ITS FALSE NEIGHBOUR: 'it returns false'. Refute it at one input. -/
def partApartWrong : ChangeSpec := { name := "partApart", fn := fun _ => fun
  | [d1, d2, d3] => { results := [.lit (.bool false)], args := [d1, d2, d3] }
  | _ => none }
def PartApartWrongFalsely : Prop := partApartRow.holds Try.pinned (OpenSpec.ofChange partApartWrong)

/-- 'gimletlaw13.PartFiner': WHATEVER THE INPUT: true; the input reads as it did. -/
def partFinerSpec : ChangeSpec := { name := "partFiner", fn := fun _ => fun
  | [d1, d2, d3] => { results := [.lit (.bool true)], args := [d1, d2, d3] }
  | _ => none }
def partFinerRow : OpenClaim := { program := "ytgiihapbgpnkkaa", sum := "911b13fac78800dca1ca8d6483acdcfe9dd22beb23b7bb13b9e7e4be19fcee0a", func := "gimlet/gimletlaw13.PartFiner", spec := "partFiner", inPlace := ["internal/abi.NoEscape"], apart := false }
def PartFinerSaid : Prop := partFinerRow.holds Try.pinned (OpenSpec.ofChange partFinerSpec)

/-- ITS FALSE NEIGHBOUR: 'it returns false'. Refute it at one input. -/
def partFinerWrong : ChangeSpec := { name := "partFiner", fn := fun _ => fun
  | [d1, d2, d3] => { results := [.lit (.bool false)], args := [d1, d2, d3] }
  | _ => none }
def PartFinerWrongFalsely : Prop := partFinerRow.holds Try.pinned (OpenSpec.ofChange partFinerWrong)

/-- 'gimletlaw10.TermTells': WHATEVER THE INPUT: true; the input reads as it did. -/
def termTellsSpec : ChangeSpec := { name := "termTells", fn := fun _ => fun
  | [d] => { results := [.lit (.bool true)], args := [d] }
  | _ => none }
def termTellsRow : OpenClaim := { program := "ytgiihapbgpnkkaa", sum := "911b13fac78800dca1ca8d6483acdcfe9dd22beb23b7bb13b9e7e4be19fcee0a", func := "gimlet/gimletlaw10.TermTells", spec := "termTells", apart := false }
def TermTellsSaid : Prop := termTellsRow.holds Try.pinned (OpenSpec.ofChange termTellsSpec)

/-- ITS FALSE NEIGHBOUR: 'it returns false'. Refute it at one input. -/
def termTellsWrong : ChangeSpec := { name := "termTells", fn := fun _ => fun
  | [d] => { results := [.lit (.bool false)], args := [d] }
  | _ => none }
def TermTellsWrongFalsely : Prop := termTellsRow.holds Try.pinned (OpenSpec.ofChange termTellsWrong)

/-- 'gimletlaw10.TermGroups': WHATEVER THE INPUT: true; the input reads as it did. -/
def termGroupsSpec : ChangeSpec := { name := "termGroups", fn := fun _ => fun
  | [d1, d2] => { results := [.lit (.bool true)], args := [d1, d2] }
  | _ => none }
def termGroupsRow : OpenClaim := { program := "ytgiihapbgpnkkaa", sum := "911b13fac78800dca1ca8d6483acdcfe9dd22beb23b7bb13b9e7e4be19fcee0a", func := "gimlet/gimletlaw10.TermGroups", spec := "termGroups", apart := false }
def TermGroupsSaid : Prop := termGroupsRow.holds Try.pinned (OpenSpec.ofChange termGroupsSpec)

/-- ITS FALSE NEIGHBOUR: 'it returns false'. Refute it at one input. -/
def termGroupsWrong : ChangeSpec := { name := "termGroups", fn := fun _ => fun
  | [d1, d2] => { results := [.lit (.bool false)], args := [d1, d2] }
  | _ => none }
def TermGroupsWrongFalsely : Prop := termGroupsRow.holds Try.pinned (OpenSpec.ofChange termGroupsWrong)

/-- 'gimletlaw10.TermParts': WHATEVER THE INPUT: true; the input reads as it did. -/
def termPartsSpec : ChangeSpec := { name := "termParts", fn := fun _ => fun
  | [d] => { results := [.lit (.bool true)], args := [d] }
  | _ => none }
def termPartsRow : OpenClaim := { program := "ytgiihapbgpnkkaa", sum := "911b13fac78800dca1ca8d6483acdcfe9dd22beb23b7bb13b9e7e4be19fcee0a", func := "gimlet/gimletlaw10.TermParts", spec := "termParts", apart := false }
def TermPartsSaid : Prop := termPartsRow.holds Try.pinned (OpenSpec.ofChange termPartsSpec)

/-- ITS FALSE NEIGHBOUR: 'it returns false'. Refute it at one input. -/
def termPartsWrong : ChangeSpec := { name := "termParts", fn := fun _ => fun
  | [d] => { results := [.lit (.bool false)], args := [d] }
  | _ => none }
def TermPartsWrongFalsely : Prop := termPartsRow.holds Try.pinned (OpenSpec.ofChange termPartsWrong)

/-- 'gimletlaw10.TermJoins': WHATEVER THE INPUT: true; the input reads as it did. -/
def termJoinsSpec : ChangeSpec := { name := "termJoins", fn := fun _ => fun
  | [d1, d2, d3] => { results := [.lit (.bool true)], args := [d1, d2, d3] }
  | _ => none }
def termJoinsRow : OpenClaim := { program := "ytgiihapbgpnkkaa", sum := "911b13fac78800dca1ca8d6483acdcfe9dd22beb23b7bb13b9e7e4be19fcee0a", func := "gimlet/gimletlaw10.TermJoins", spec := "termJoins", apart := false }
def TermJoinsSaid : Prop := termJoinsRow.holds Try.pinned (OpenSpec.ofChange termJoinsSpec)

/-- ITS FALSE NEIGHBOUR: 'it returns false'. Refute it at one input. -/
def termJoinsWrong : ChangeSpec := { name := "termJoins", fn := fun _ => fun
  | [d1, d2, d3] => { results := [.lit (.bool false)], args := [d1, d2, d3] }
  | _ => none }
def TermJoinsWrongFalsely : Prop := termJoinsRow.holds Try.pinned (OpenSpec.ofChange termJoinsWrong)

/-- 'gimletlaw16.PlaceTells': WHATEVER THE INPUT: true; the input reads as it did. -/
def placeTellsSpec : ChangeSpec := { name := "placeTells", fn := fun _ => fun
  | [d1, d2] => { results := [.lit (.bool true)], args := [d1, d2] }
  | _ => none }
def placeTellsRow : OpenClaim := { program := "ytgiihapbgpnkkaa", sum := "911b13fac78800dca1ca8d6483acdcfe9dd22beb23b7bb13b9e7e4be19fcee0a", func := "gimlet/gimletlaw16.PlaceTells", spec := "placeTells", unfollowed := true, recurses := true, apart := false }
def PlaceTellsSaid : Prop := placeTellsRow.holds Try.pinned (OpenSpec.ofChange placeTellsSpec)

/-- ITS FALSE NEIGHBOUR: 'it returns false'. Refute it at one input. -/
def placeTellsWrong : ChangeSpec := { name := "placeTells", fn := fun _ => fun
  | [d1, d2] => { results := [.lit (.bool false)], args := [d1, d2] }
  | _ => none }
def PlaceTellsWrongFalsely : Prop := placeTellsRow.holds Try.pinned (OpenSpec.ofChange placeTellsWrong)

/-- 'gimletlaw16.PlaceJoins': WHATEVER THE INPUT: true; the input reads as it did. -/
def placeJoinsSpec : ChangeSpec := { name := "placeJoins", fn := fun _ => fun
  | [d1, d2, d3] => { results := [.lit (.bool true)], args := [d1, d2, d3] }
  | _ => none }
def placeJoinsRow : OpenClaim := { program := "ytgiihapbgpnkkaa", sum := "911b13fac78800dca1ca8d6483acdcfe9dd22beb23b7bb13b9e7e4be19fcee0a", func := "gimlet/gimletlaw16.PlaceJoins", spec := "placeJoins", unfollowed := true, recurses := true, apart := false }
def PlaceJoinsSaid : Prop := placeJoinsRow.holds Try.pinned (OpenSpec.ofChange placeJoinsSpec)

/-- ITS FALSE NEIGHBOUR: 'it returns false'. Refute it at one input. -/
def placeJoinsWrong : ChangeSpec := { name := "placeJoins", fn := fun _ => fun
  | [d1, d2, d3] => { results := [.lit (.bool false)], args := [d1, d2, d3] }
  | _ => none }
def PlaceJoinsWrongFalsely : Prop := placeJoinsRow.holds Try.pinned (OpenSpec.ofChange placeJoinsWrong)

/-- 'gimletlaw16.PlaceEach': WHATEVER THE INPUT: true; the input reads as it did. -/
def placeEachSpec : ChangeSpec := { name := "placeEach", fn := fun _ => fun
  | [d1, d2, d3] => { results := [.lit (.bool true)], args := [d1, d2, d3] }
  | _ => none }
def placeEachRow : OpenClaim := { program := "ytgiihapbgpnkkaa", sum := "911b13fac78800dca1ca8d6483acdcfe9dd22beb23b7bb13b9e7e4be19fcee0a", func := "gimlet/gimletlaw16.PlaceEach", spec := "placeEach", unfollowed := true, recurses := true, apart := false }
def PlaceEachSaid : Prop := placeEachRow.holds Try.pinned (OpenSpec.ofChange placeEachSpec)

/-- ITS FALSE NEIGHBOUR: 'it returns false'. Refute it at one input. -/
def placeEachWrong : ChangeSpec := { name := "placeEach", fn := fun _ => fun
  | [d1, d2, d3] => { results := [.lit (.bool false)], args := [d1, d2, d3] }
  | _ => none }
def PlaceEachWrongFalsely : Prop := placeEachRow.holds Try.pinned (OpenSpec.ofChange placeEachWrong)

/- THE SECOND FORM. 'bulk': how many values and letters a reading holds, each counted each time it is reached (what is shared counts as often as it is met; a slice's spare places count too). A statement '..UptoSaid' is the law's where the arguments, and the package variables that the reading takes, are together of bulk at most 1048576: NARROWER than '..Said'. Prove '..Said' where nothing that the law and all that it calls make is longer than what came in: it says more and counts as full. Else prove '..UptoSaid'. A law counts once. -/
mutual
def uptoBulk {H : Type} : DataW H → Nat
  | .lit (.string bytes) => bytes.length + 1
  | .lit _ => 1
  | .nil => 1
  | .ptr d => uptoBulk d + 1
  | .slice elems spare => uptoBulkAll elems + uptoBulkAll spare + 1
  | .agg parts => uptoBulkAll parts + 1
  | .iface _ d => uptoBulk d + 1
  | .map entries => uptoBulkEntries entries + 1
  | .held _ => 1
def uptoBulkAll {H : Type} : List (DataW H) → Nat
  | [] => 0
  | d :: r => uptoBulk d + uptoBulkAll r
def uptoBulkEntries {H : Type} : List (Lit × DataW H) → Nat
  | [] => 0
  | x :: r => uptoBulkEntry x + uptoBulkEntries r
def uptoBulkEntry {H : Type} : Lit × DataW H → Nat
  | (.string bytes, d) => bytes.length + uptoBulk d + 1
  | (_, d) => uptoBulk d + 1
 end
def uptoSmall : (H : Type) → List (DataW H) → Bool := fun _ ds => decide (uptoBulkAll ds ≤ 1048576)
def OpenSpec.upto (s : _root_.Go.ChangeSpec) : _root_.Go.OpenSpec := { _root_.Go.OpenSpec.ofChange s with cond := some uptoSmall }

/-- 'gimletlaw30.PackNumbers', WHERE WHAT IT READS IS OF BULK AT MOST 1048576: true; the input reads as it did. -/
def packNumbersUptoRow : OpenClaim := { program := "ytgiihapbgpnkkaa", sum := "911b13fac78800dca1ca8d6483acdcfe9dd22beb23b7bb13b9e7e4be19fcee0a", func := "gimlet/gimletlaw30.PackNumbers", spec := "packNumbers", apart := false, narrowed := true }
def PackNumbersUptoSaid : Prop := packNumbersUptoRow.holds Try.pinned (OpenSpec.upto packNumbersSpec)

/-- 'gimletlaw30.PackSizes', WHERE WHAT IT READS IS OF BULK AT MOST 1048576: true; the input reads as it did. -/
def packSizesUptoRow : OpenClaim := { program := "ytgiihapbgpnkkaa", sum := "911b13fac78800dca1ca8d6483acdcfe9dd22beb23b7bb13b9e7e4be19fcee0a", func := "gimlet/gimletlaw30.PackSizes", spec := "packSizes", apart := false, narrowed := true }
def PackSizesUptoSaid : Prop := packSizesUptoRow.holds Try.pinned (OpenSpec.upto packSizesSpec)

/-- 'gimletlaw13.PartRight', WHERE WHAT IT READS IS OF BULK AT MOST 1048576: true; the input reads as it did. -/
def partRightUptoRow : OpenClaim := { program := "ytgiihapbgpnkkaa", sum := "911b13fac78800dca1ca8d6483acdcfe9dd22beb23b7bb13b9e7e4be19fcee0a", func := "gimlet/gimletlaw13.PartRight", spec := "partRight", inPlace := ["internal/abi.NoEscape"], apart := false, narrowed := true }
def PartRightUptoSaid : Prop := partRightUptoRow.holds Try.pinned (OpenSpec.upto partRightSpec)

/-- 'gimletlaw13.PartApart', WHERE WHAT IT READS IS OF BULK AT MOST 1048576: true; the input reads as it did. -/
def partApartUptoRow : OpenClaim := { program := "ytgiihapbgpnkkaa", sum := "911b13fac78800dca1ca8d6483acdcfe9dd22beb23b7bb13b9e7e4be19fcee0a", func := "gimlet/gimletlaw13.PartApart", spec := "partApart", inPlace := ["internal/abi.NoEscape"], apart := false, narrowed := true }
def PartApartUptoSaid : Prop := partApartUptoRow.holds Try.pinned (OpenSpec.upto partApartSpec)

/-- 'gimletlaw13.PartFiner', WHERE WHAT IT READS IS OF BULK AT MOST 1048576: true; the input reads as it did. -/
def partFinerUptoRow : OpenClaim := { program := "ytgiihapbgpnkkaa", sum := "911b13fac78800dca1ca8d6483acdcfe9dd22beb23b7bb13b9e7e4be19fcee0a", func := "gimlet/gimletlaw13.PartFiner", spec := "partFiner", inPlace := ["internal/abi.NoEscape"], apart := false, narrowed := true }
def PartFinerUptoSaid : Prop := partFinerUptoRow.holds Try.pinned (OpenSpec.upto partFinerSpec)

/-- 'gimletlaw10.TermTells', WHERE WHAT IT READS IS OF BULK AT MOST 1048576: true; the input reads as it did. -/
def termTellsUptoRow : OpenClaim := { program := "ytgiihapbgpnkkaa", sum := "911b13fac78800dca1ca8d6483acdcfe9dd22beb23b7bb13b9e7e4be19fcee0a", func := "gimlet/gimletlaw10.TermTells", spec := "termTells", apart := false, narrowed := true }
def TermTellsUptoSaid : Prop := termTellsUptoRow.holds Try.pinned (OpenSpec.upto termTellsSpec)

/-- 'gimletlaw10.TermGroups', WHERE WHAT IT READS IS OF BULK AT MOST 1048576: true; the input reads as it did. -/
def termGroupsUptoRow : OpenClaim := { program := "ytgiihapbgpnkkaa", sum := "911b13fac78800dca1ca8d6483acdcfe9dd22beb23b7bb13b9e7e4be19fcee0a", func := "gimlet/gimletlaw10.TermGroups", spec := "termGroups", apart := false, narrowed := true }
def TermGroupsUptoSaid : Prop := termGroupsUptoRow.holds Try.pinned (OpenSpec.upto termGroupsSpec)

/-- 'gimletlaw10.TermParts', WHERE WHAT IT READS IS OF BULK AT MOST 1048576: true; the input reads as it did. -/
def termPartsUptoRow : OpenClaim := { program := "ytgiihapbgpnkkaa", sum := "911b13fac78800dca1ca8d6483acdcfe9dd22beb23b7bb13b9e7e4be19fcee0a", func := "gimlet/gimletlaw10.TermParts", spec := "termParts", apart := false, narrowed := true }
def TermPartsUptoSaid : Prop := termPartsUptoRow.holds Try.pinned (OpenSpec.upto termPartsSpec)

/-- 'gimletlaw10.TermJoins', WHERE WHAT IT READS IS OF BULK AT MOST 1048576: true; the input reads as it did. -/
def termJoinsUptoRow : OpenClaim := { program := "ytgiihapbgpnkkaa", sum := "911b13fac78800dca1ca8d6483acdcfe9dd22beb23b7bb13b9e7e4be19fcee0a", func := "gimlet/gimletlaw10.TermJoins", spec := "termJoins", apart := false, narrowed := true }
def TermJoinsUptoSaid : Prop := termJoinsUptoRow.holds Try.pinned (OpenSpec.upto termJoinsSpec)

/-- 'gimletlaw16.PlaceTells', WHERE WHAT IT READS IS OF BULK AT MOST 1048576: true; the input reads as it did. -/
def placeTellsUptoRow : OpenClaim := { program := "ytgiihapbgpnkkaa", sum := "911b13fac78800dca1ca8d6483acdcfe9dd22beb23b7bb13b9e7e4be19fcee0a", func := "gimlet/gimletlaw16.PlaceTells", spec := "placeTells", unfollowed := true, recurses := true, apart := false, narrowed := true }
def PlaceTellsUptoSaid : Prop := placeTellsUptoRow.holds Try.pinned (OpenSpec.upto placeTellsSpec)

/-- 'gimletlaw16.PlaceJoins', WHERE WHAT IT READS IS OF BULK AT MOST 1048576: true; the input reads as it did. -/
def placeJoinsUptoRow : OpenClaim := { program := "ytgiihapbgpnkkaa", sum := "911b13fac78800dca1ca8d6483acdcfe9dd22beb23b7bb13b9e7e4be19fcee0a", func := "gimlet/gimletlaw16.PlaceJoins", spec := "placeJoins", unfollowed := true, recurses := true, apart := false, narrowed := true }
def PlaceJoinsUptoSaid : Prop := placeJoinsUptoRow.holds Try.pinned (OpenSpec.upto placeJoinsSpec)

/-- 'gimletlaw16.PlaceEach', WHERE WHAT IT READS IS OF BULK AT MOST 1048576: true; the input reads as it did. -/
def placeEachUptoRow : OpenClaim := { program := "ytgiihapbgpnkkaa", sum := "911b13fac78800dca1ca8d6483acdcfe9dd22beb23b7bb13b9e7e4be19fcee0a", func := "gimlet/gimletlaw16.PlaceEach", spec := "placeEach", unfollowed := true, recurses := true, apart := false, narrowed := true }
def PlaceEachUptoSaid : Prop := placeEachUptoRow.holds Try.pinned (OpenSpec.upto placeEachSpec)

end Rows
end Go.Proofs.Ytgiihapbgpnkkaa
