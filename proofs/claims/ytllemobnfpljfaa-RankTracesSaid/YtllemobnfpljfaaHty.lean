import Derived.Test.YtllemobnfpljfaaProg
import Derived.Test.YtllemobnfpljfaaHs16
set_option maxRecDepth 100000
set_option maxHeartbeats 8000000
namespace Go.Proofs.Ytllemobnfpljfaa
open Go Go.Hs
theorem sz2 : szOf Try.prog 2 = some 1 := by kernel_rfl
theorem ei2 : eInfo Try.prog 2 = some (1,8,[.im (.int .i64 0)]) := by kernel_rfl
theorem zi2 : zInt Try.prog 2 = true := by kernel_rfl
theorem ag2 : isAggT Try.prog 2 = false := by kernel_rfl
theorem sz3 : szOf Try.prog 3 = some 1 := by kernel_rfl
theorem ei3 : eInfo Try.prog 3 = some (1,8,[.im (.int .i64 0)]) := by kernel_rfl
theorem zi3 : zInt Try.prog 3 = true := by kernel_rfl
theorem ag3 : isAggT Try.prog 3 = false := by kernel_rfl
theorem sz4 : szOf Try.prog 4 = some 1 := by kernel_rfl
theorem ei4 : eInfo Try.prog 4 = some (1,1,[.im (.bool false)]) := by kernel_rfl
theorem ag4 : isAggT Try.prog 4 = false := by kernel_rfl
theorem sz5 : szOf Try.prog 5 = some 1 := by kernel_rfl
theorem ei5 : eInfo Try.prog 5 = some (1,1,[.im (.int .u8 0)]) := by kernel_rfl
theorem ag5 : isAggT Try.prog 5 = false := by kernel_rfl
theorem sz6 : szOf Try.prog 6 = some 1 := by kernel_rfl
theorem ei6 : eInfo Try.prog 6 = some (1,1,[.im (.int .u8 0)]) := by kernel_rfl
theorem ag6 : isAggT Try.prog 6 = false := by kernel_rfl
theorem sz7 : szOf Try.prog 7 = some 4 := by kernel_rfl
theorem ei7 : eInfo Try.prog 7 = some (4,24,[.im (.int .i64 0),.im (.int .i64 0),.im (.bool false),.im (.int .u8 0)]) := by kernel_rfl
theorem bi7 : bInfo Try.prog 7 = some ([.im (.int .i64 0),.im (.int .i64 0),.im (.bool false),.im (.int .u8 0)],.str [(0,1),(1,1),(2,1),(3,1)]) := by kernel_rfl
theorem za7 : zAgg Try.prog 7 = some [.im (.int .i64 0),.im (.int .i64 0),.im (.bool false),.im (.int .u8 0)] := by kernel_rfl
theorem ag7 : isAggT Try.prog 7 = true := by kernel_rfl
theorem sz8 : szOf Try.prog 8 = some 4 := by kernel_rfl
theorem ei8 : eInfo Try.prog 8 = some (4,24,[.im (.int .i64 0),.im (.int .i64 0),.im (.bool false),.im (.int .u8 0)]) := by kernel_rfl
theorem bi8 : bInfo Try.prog 8 = some ([.im (.int .i64 0),.im (.int .i64 0),.im (.bool false),.im (.int .u8 0)],.str [(0,1),(1,1),(2,1),(3,1)]) := by kernel_rfl
theorem za8 : zAgg Try.prog 8 = some [.im (.int .i64 0),.im (.int .i64 0),.im (.bool false),.im (.int .u8 0)] := by kernel_rfl
theorem ag8 : isAggT Try.prog 8 = true := by kernel_rfl
theorem sz9 : szOf Try.prog 9 = some 1 := by kernel_rfl
theorem ei9 : eInfo Try.prog 9 = some (1,16,[.im (.string .empty)]) := by kernel_rfl
theorem ag9 : isAggT Try.prog 9 = false := by kernel_rfl
theorem sz10 : szOf Try.prog 10 = some 1 := by kernel_rfl
theorem ei10 : eInfo Try.prog 10 = some (1,16,[.im (.string .empty)]) := by kernel_rfl
theorem ag10 : isAggT Try.prog 10 = false := by kernel_rfl
theorem sz11 : szOf Try.prog 11 = some 1 := by kernel_rfl
theorem ei11 : eInfo Try.prog 11 = some (1,16,[.im (.string .empty)]) := by kernel_rfl
theorem ag11 : isAggT Try.prog 11 = false := by kernel_rfl
theorem sz12 : szOf Try.prog 12 = some 1 := by kernel_rfl
theorem ei12 : eInfo Try.prog 12 = some (1,8,[.im (.int .u64 0)]) := by kernel_rfl
theorem ag12 : isAggT Try.prog 12 = false := by kernel_rfl
theorem sz13 : szOf Try.prog 13 = some 2 := by kernel_rfl
theorem ei13 : eInfo Try.prog 13 = some (2,24,[.im (.string .empty),.im (.int .u64 0)]) := by kernel_rfl
theorem bi13 : bInfo Try.prog 13 = some ([.im (.string .empty),.im (.int .u64 0)],.str [(0,1),(1,1)]) := by kernel_rfl
theorem za13 : zAgg Try.prog 13 = some [.im (.string .empty),.im (.int .u64 0)] := by kernel_rfl
theorem ag13 : isAggT Try.prog 13 = true := by kernel_rfl
theorem sz14 : szOf Try.prog 14 = some 2 := by kernel_rfl
theorem ei14 : eInfo Try.prog 14 = some (2,24,[.im (.string .empty),.im (.int .u64 0)]) := by kernel_rfl
theorem bi14 : bInfo Try.prog 14 = some ([.im (.string .empty),.im (.int .u64 0)],.str [(0,1),(1,1)]) := by kernel_rfl
theorem za14 : zAgg Try.prog 14 = some [.im (.string .empty),.im (.int .u64 0)] := by kernel_rfl
theorem ag14 : isAggT Try.prog 14 = true := by kernel_rfl
theorem sz15 : szOf Try.prog 15 = some 1 := by kernel_rfl
theorem ei15 : eInfo Try.prog 15 = some (1,8,[.im (.pointer none)]) := by kernel_rfl
theorem ag15 : isAggT Try.prog 15 = false := by kernel_rfl
theorem sz16 : szOf Try.prog 16 = some 1 := by kernel_rfl
theorem ei16 : eInfo Try.prog 16 = some (1,8,[.im (.pointer none)]) := by kernel_rfl
theorem ag16 : isAggT Try.prog 16 = false := by kernel_rfl
theorem sz17 : szOf Try.prog 17 = some 1 := by kernel_rfl
theorem ei17 : eInfo Try.prog 17 = some (1,8,[.im (.pointer none)]) := by kernel_rfl
theorem ag17 : isAggT Try.prog 17 = false := by kernel_rfl
theorem sz18 : szOf Try.prog 18 = some 1 := by kernel_rfl
theorem ei18 : eInfo Try.prog 18 = some (1,8,[.im (.pointer none)]) := by kernel_rfl
theorem bi18 : bInfo Try.prog 18 = some ([.im (.pointer none)],.str [(0,1)]) := by kernel_rfl
theorem za18 : zAgg Try.prog 18 = some [.im (.pointer none)] := by kernel_rfl
theorem ag18 : isAggT Try.prog 18 = true := by kernel_rfl
theorem sz19 : szOf Try.prog 19 = some 1 := by kernel_rfl
theorem ei19 : eInfo Try.prog 19 = some (1,8,[.im (.pointer none)]) := by kernel_rfl
theorem bi19 : bInfo Try.prog 19 = some ([.im (.pointer none)],.str [(0,1)]) := by kernel_rfl
theorem za19 : zAgg Try.prog 19 = some [.im (.pointer none)] := by kernel_rfl
theorem ag19 : isAggT Try.prog 19 = true := by kernel_rfl
theorem sz20 : szOf Try.prog 20 = some 1 := by kernel_rfl
theorem ei20 : eInfo Try.prog 20 = some (1,16,[.im .nilIface]) := by kernel_rfl
theorem ag20 : isAggT Try.prog 20 = false := by kernel_rfl
theorem sz21 : szOf Try.prog 21 = some 1 := by kernel_rfl
theorem ei21 : eInfo Try.prog 21 = some (1,4,[.im (.int .i32 0)]) := by kernel_rfl
theorem ag21 : isAggT Try.prog 21 = false := by kernel_rfl
theorem sz22 : szOf Try.prog 22 = some 1 := by kernel_rfl
theorem ei22 : eInfo Try.prog 22 = some (1,24,[.nil]) := by kernel_rfl
theorem ag22 : isAggT Try.prog 22 = false := by kernel_rfl
theorem sz23 : szOf Try.prog 23 = some 1 := by kernel_rfl
theorem ei23 : eInfo Try.prog 23 = some (1,24,[.nil]) := by kernel_rfl
theorem ag23 : isAggT Try.prog 23 = false := by kernel_rfl
theorem sz25 : szOf Try.prog 25 = some 1 := by kernel_rfl
theorem ei25 : eInfo Try.prog 25 = some (1,24,[.nil]) := by kernel_rfl
theorem ag25 : isAggT Try.prog 25 = false := by kernel_rfl
theorem sz34 : szOf Try.prog 34 = some 1 := by kernel_rfl
theorem ei34 : eInfo Try.prog 34 = some (1,24,[.nil]) := by kernel_rfl
theorem ag34 : isAggT Try.prog 34 = false := by kernel_rfl
theorem sz37 : szOf Try.prog 37 = some 5 := by kernel_rfl
theorem ei37 : eInfo Try.prog 37 = some (5,72,[.nil,.nil,.im (.int .i64 0),.im (.int .i64 0),.im (.int .i64 0)]) := by kernel_rfl
theorem bi37 : bInfo Try.prog 37 = some ([.nil,.nil,.im (.int .i64 0),.im (.int .i64 0),.im (.int .i64 0)],.str [(0,1),(1,1),(2,1),(3,1),(4,1)]) := by kernel_rfl
theorem za37 : zAgg Try.prog 37 = some [.nil,.nil,.im (.int .i64 0),.im (.int .i64 0),.im (.int .i64 0)] := by kernel_rfl
theorem ag37 : isAggT Try.prog 37 = true := by kernel_rfl
theorem sz38 : szOf Try.prog 38 = some 5 := by kernel_rfl
theorem ei38 : eInfo Try.prog 38 = some (5,72,[.nil,.nil,.im (.int .i64 0),.im (.int .i64 0),.im (.int .i64 0)]) := by kernel_rfl
theorem bi38 : bInfo Try.prog 38 = some ([.nil,.nil,.im (.int .i64 0),.im (.int .i64 0),.im (.int .i64 0)],.str [(0,1),(1,1),(2,1),(3,1),(4,1)]) := by kernel_rfl
theorem za38 : zAgg Try.prog 38 = some [.nil,.nil,.im (.int .i64 0),.im (.int .i64 0),.im (.int .i64 0)] := by kernel_rfl
theorem ag38 : isAggT Try.prog 38 = true := by kernel_rfl
theorem sz42 : szOf Try.prog 42 = some 1 := by kernel_rfl
theorem ei42 : eInfo Try.prog 42 = some (1,24,[.nil]) := by kernel_rfl
theorem ag42 : isAggT Try.prog 42 = false := by kernel_rfl
theorem sz45 : szOf Try.prog 45 = some 1 := by kernel_rfl
theorem ei45 : eInfo Try.prog 45 = some (1,24,[.nil]) := by kernel_rfl
theorem ag45 : isAggT Try.prog 45 = false := by kernel_rfl
theorem sz46 : szOf Try.prog 46 = some 1 := by kernel_rfl
theorem ei46 : eInfo Try.prog 46 = some (1,24,[.nil]) := by kernel_rfl
theorem ag46 : isAggT Try.prog 46 = false := by kernel_rfl
theorem sz48 : szOf Try.prog 48 = some 1 := by kernel_rfl
theorem ei48 : eInfo Try.prog 48 = some (1,24,[.nil]) := by kernel_rfl
theorem ag48 : isAggT Try.prog 48 = false := by kernel_rfl
theorem sz51 : szOf Try.prog 51 = some 2 := by kernel_rfl
theorem ei51 : eInfo Try.prog 51 = some (2,16,[.im (.int .i64 0),.im (.int .i64 0)]) := by kernel_rfl
theorem bi51 : bInfo Try.prog 51 = some ([.im (.int .i64 0),.im (.int .i64 0)],.str [(0,1),(1,1)]) := by kernel_rfl
theorem za51 : zAgg Try.prog 51 = some [.im (.int .i64 0),.im (.int .i64 0)] := by kernel_rfl
theorem ag51 : isAggT Try.prog 51 = true := by kernel_rfl
theorem sz52 : szOf Try.prog 52 = some 2 := by kernel_rfl
theorem ei52 : eInfo Try.prog 52 = some (2,16,[.im (.int .i64 0),.im (.int .i64 0)]) := by kernel_rfl
theorem bi52 : bInfo Try.prog 52 = some ([.im (.int .i64 0),.im (.int .i64 0)],.str [(0,1),(1,1)]) := by kernel_rfl
theorem za52 : zAgg Try.prog 52 = some [.im (.int .i64 0),.im (.int .i64 0)] := by kernel_rfl
theorem ag52 : isAggT Try.prog 52 = true := by kernel_rfl
theorem sz54 : szOf Try.prog 54 = some 2 := by kernel_rfl
theorem ei54 : eInfo Try.prog 54 = some (2,48,[.nil,.nil]) := by kernel_rfl
theorem bi54 : bInfo Try.prog 54 = some ([.nil,.nil],.str [(0,1),(1,1)]) := by kernel_rfl
theorem za54 : zAgg Try.prog 54 = some [.nil,.nil] := by kernel_rfl
theorem ag54 : isAggT Try.prog 54 = true := by kernel_rfl
theorem sz55 : szOf Try.prog 55 = some 2 := by kernel_rfl
theorem ei55 : eInfo Try.prog 55 = some (2,48,[.nil,.nil]) := by kernel_rfl
theorem bi55 : bInfo Try.prog 55 = some ([.nil,.nil],.str [(0,1),(1,1)]) := by kernel_rfl
theorem za55 : zAgg Try.prog 55 = some [.nil,.nil] := by kernel_rfl
theorem ag55 : isAggT Try.prog 55 = true := by kernel_rfl
theorem sz56 : szOf Try.prog 56 = some 1 := by kernel_rfl
theorem ei56 : eInfo Try.prog 56 = some (1,24,[.nil]) := by kernel_rfl
theorem ag56 : isAggT Try.prog 56 = false := by kernel_rfl
theorem sz57 : szOf Try.prog 57 = some 3 := by kernel_rfl
theorem ei57 : eInfo Try.prog 57 = some (3,56,[.nil,.nil,.im (.int .i64 0)]) := by kernel_rfl
theorem bi57 : bInfo Try.prog 57 = some ([.nil,.nil,.im (.int .i64 0)],.str [(0,1),(1,1),(2,1)]) := by kernel_rfl
theorem za57 : zAgg Try.prog 57 = some [.nil,.nil,.im (.int .i64 0)] := by kernel_rfl
theorem ag57 : isAggT Try.prog 57 = true := by kernel_rfl
theorem sz58 : szOf Try.prog 58 = some 3 := by kernel_rfl
theorem ei58 : eInfo Try.prog 58 = some (3,56,[.nil,.nil,.im (.int .i64 0)]) := by kernel_rfl
theorem bi58 : bInfo Try.prog 58 = some ([.nil,.nil,.im (.int .i64 0)],.str [(0,1),(1,1),(2,1)]) := by kernel_rfl
theorem za58 : zAgg Try.prog 58 = some [.nil,.nil,.im (.int .i64 0)] := by kernel_rfl
theorem ag58 : isAggT Try.prog 58 = true := by kernel_rfl
theorem sz68 : szOf Try.prog 68 = some 3 := by kernel_rfl
theorem ei68 : eInfo Try.prog 68 = some (3,40,[.im (.int .i64 0),.im (.int .i64 0),.nil]) := by kernel_rfl
theorem bi68 : bInfo Try.prog 68 = some ([.im (.int .i64 0),.im (.int .i64 0),.nil],.str [(0,1),(1,1),(2,1)]) := by kernel_rfl
theorem za68 : zAgg Try.prog 68 = some [.im (.int .i64 0),.im (.int .i64 0),.nil] := by kernel_rfl
theorem ag68 : isAggT Try.prog 68 = true := by kernel_rfl
theorem sz69 : szOf Try.prog 69 = some 3 := by kernel_rfl
theorem ei69 : eInfo Try.prog 69 = some (3,40,[.im (.int .i64 0),.im (.int .i64 0),.nil]) := by kernel_rfl
theorem bi69 : bInfo Try.prog 69 = some ([.im (.int .i64 0),.im (.int .i64 0),.nil],.str [(0,1),(1,1),(2,1)]) := by kernel_rfl
theorem za69 : zAgg Try.prog 69 = some [.im (.int .i64 0),.im (.int .i64 0),.nil] := by kernel_rfl
theorem ag69 : isAggT Try.prog 69 = true := by kernel_rfl
theorem sz79 : szOf Try.prog 79 = some 1 := by kernel_rfl
theorem ei79 : eInfo Try.prog 79 = some (1,24,[.nil]) := by kernel_rfl
theorem ag79 : isAggT Try.prog 79 = false := by kernel_rfl
theorem sz80 : szOf Try.prog 80 = some 3 := by kernel_rfl
theorem ei80 : eInfo Try.prog 80 = some (3,56,[.im (.int .i64 0),.nil,.nil]) := by kernel_rfl
theorem bi80 : bInfo Try.prog 80 = some ([.im (.int .i64 0),.nil,.nil],.str [(0,1),(1,1),(2,1)]) := by kernel_rfl
theorem za80 : zAgg Try.prog 80 = some [.im (.int .i64 0),.nil,.nil] := by kernel_rfl
theorem ag80 : isAggT Try.prog 80 = true := by kernel_rfl
theorem sz81 : szOf Try.prog 81 = some 3 := by kernel_rfl
theorem ei81 : eInfo Try.prog 81 = some (3,56,[.im (.int .i64 0),.nil,.nil]) := by kernel_rfl
theorem bi81 : bInfo Try.prog 81 = some ([.im (.int .i64 0),.nil,.nil],.str [(0,1),(1,1),(2,1)]) := by kernel_rfl
theorem za81 : zAgg Try.prog 81 = some [.im (.int .i64 0),.nil,.nil] := by kernel_rfl
theorem ag81 : isAggT Try.prog 81 = true := by kernel_rfl
theorem sz83 : szOf Try.prog 83 = some 1 := by kernel_rfl
theorem ei83 : eInfo Try.prog 83 = some (1,24,[.nil]) := by kernel_rfl
theorem ag83 : isAggT Try.prog 83 = false := by kernel_rfl
theorem sz85 : szOf Try.prog 85 = some 1 := by kernel_rfl
theorem ei85 : eInfo Try.prog 85 = some (1,24,[.nil]) := by kernel_rfl
theorem ag85 : isAggT Try.prog 85 = false := by kernel_rfl
theorem sz86 : szOf Try.prog 86 = some 1 := by kernel_rfl
theorem ei86 : eInfo Try.prog 86 = some (1,8,[.im (.int .i64 0)]) := by kernel_rfl
theorem zi86 : zInt Try.prog 86 = true := by kernel_rfl
theorem ag86 : isAggT Try.prog 86 = false := by kernel_rfl
theorem sz96 : szOf Try.prog 96 = some 1 := by kernel_rfl
theorem ei96 : eInfo Try.prog 96 = some (1,2,[.im (.int .u16 0)]) := by kernel_rfl
theorem ag96 : isAggT Try.prog 96 = false := by kernel_rfl
theorem sz97 : szOf Try.prog 97 = some 3 := by kernel_rfl
theorem ei97 : eInfo Try.prog 97 = some (3,6,[.im (.int .u16 0),.im (.int .u16 0),.im (.int .u16 0)]) := by kernel_rfl
theorem bi97 : bInfo Try.prog 97 = some ([.im (.int .u16 0),.im (.int .u16 0),.im (.int .u16 0)],.arr 1) := by kernel_rfl
theorem ag97 : isAggT Try.prog 97 = true := by kernel_rfl
theorem sz98 : szOf Try.prog 98 = some 1 := by kernel_rfl
theorem ei98 : eInfo Try.prog 98 = some (1,24,[.nil]) := by kernel_rfl
theorem ag98 : isAggT Try.prog 98 = false := by kernel_rfl
theorem sz99 : szOf Try.prog 99 = some 3 := by kernel_rfl
theorem ei99 : eInfo Try.prog 99 = some (3,56,[.im (.int .i64 0),.nil,.nil]) := by kernel_rfl
theorem bi99 : bInfo Try.prog 99 = some ([.im (.int .i64 0),.nil,.nil],.str [(0,1),(1,1),(2,1)]) := by kernel_rfl
theorem za99 : zAgg Try.prog 99 = some [.im (.int .i64 0),.nil,.nil] := by kernel_rfl
theorem ag99 : isAggT Try.prog 99 = true := by kernel_rfl
theorem sz100 : szOf Try.prog 100 = some 3 := by kernel_rfl
theorem ei100 : eInfo Try.prog 100 = some (3,56,[.im (.int .i64 0),.nil,.nil]) := by kernel_rfl
theorem bi100 : bInfo Try.prog 100 = some ([.im (.int .i64 0),.nil,.nil],.str [(0,1),(1,1),(2,1)]) := by kernel_rfl
theorem za100 : zAgg Try.prog 100 = some [.im (.int .i64 0),.nil,.nil] := by kernel_rfl
theorem ag100 : isAggT Try.prog 100 = true := by kernel_rfl
theorem sz101 : szOf Try.prog 101 = some 2 := by kernel_rfl
theorem ei101 : eInfo Try.prog 101 = some (2,32,[.im (.int .i64 0),.nil]) := by kernel_rfl
theorem bi101 : bInfo Try.prog 101 = some ([.im (.int .i64 0),.nil],.str [(0,1),(1,1)]) := by kernel_rfl
theorem za101 : zAgg Try.prog 101 = some [.im (.int .i64 0),.nil] := by kernel_rfl
theorem ag101 : isAggT Try.prog 101 = true := by kernel_rfl
theorem sz102 : szOf Try.prog 102 = some 2 := by kernel_rfl
theorem ei102 : eInfo Try.prog 102 = some (2,32,[.im (.int .i64 0),.nil]) := by kernel_rfl
theorem bi102 : bInfo Try.prog 102 = some ([.im (.int .i64 0),.nil],.str [(0,1),(1,1)]) := by kernel_rfl
theorem za102 : zAgg Try.prog 102 = some [.im (.int .i64 0),.nil] := by kernel_rfl
theorem ag102 : isAggT Try.prog 102 = true := by kernel_rfl
theorem sz104 : szOf Try.prog 104 = some 1 := by kernel_rfl
theorem ei104 : eInfo Try.prog 104 = some (1,8,[.im (.int .u64 0)]) := by kernel_rfl
theorem ag104 : isAggT Try.prog 104 = false := by kernel_rfl
theorem sz105 : szOf Try.prog 105 = some 4 := by kernel_rfl
theorem ei105 : eInfo Try.prog 105 = some (4,32,[.im (.int .u64 0),.im (.int .u64 0),.im (.int .u64 0),.im (.int .u64 0)]) := by kernel_rfl
theorem bi105 : bInfo Try.prog 105 = some ([.im (.int .u64 0),.im (.int .u64 0),.im (.int .u64 0),.im (.int .u64 0)],.arr 1) := by kernel_rfl
theorem ag105 : isAggT Try.prog 105 = true := by kernel_rfl
theorem sz106 : szOf Try.prog 106 = some 4 := by kernel_rfl
theorem ei106 : eInfo Try.prog 106 = some (4,32,[.im (.int .u64 0),.im (.int .u64 0),.im (.int .u64 0),.im (.int .u64 0)]) := by kernel_rfl
theorem bi106 : bInfo Try.prog 106 = some ([.im (.int .u64 0),.im (.int .u64 0),.im (.int .u64 0),.im (.int .u64 0)],.arr 1) := by kernel_rfl
theorem ag106 : isAggT Try.prog 106 = true := by kernel_rfl
theorem sz109 : szOf Try.prog 109 = some 1 := by kernel_rfl
theorem ei109 : eInfo Try.prog 109 = some (1,8,[.im (.map none)]) := by kernel_rfl
theorem ag109 : isAggT Try.prog 109 = false := by kernel_rfl
theorem sz113 : szOf Try.prog 113 = some 8 := by kernel_rfl
theorem ei113 : eInfo Try.prog 113 = some (8,64,[.im (.int .i64 0),.im (.int .i64 0),.im (.int .i64 0),.im (.int .i64 0),.im (.int .u64 0),.im (.int .u64 0),.im (.int .u64 0),.im (.int .u64 0)]) := by kernel_rfl
theorem bi113 : bInfo Try.prog 113 = some ([.im (.int .i64 0),.im (.int .i64 0),.im (.int .i64 0),.im (.int .i64 0),.im (.int .u64 0),.im (.int .u64 0),.im (.int .u64 0),.im (.int .u64 0)],.str [(0,1),(1,1),(2,1),(3,1),(4,4)]) := by kernel_rfl
theorem za113 : zAgg Try.prog 113 = some [.im (.int .i64 0),.im (.int .i64 0),.im (.int .i64 0),.im (.int .i64 0),.im (.int .u64 0),.im (.int .u64 0),.im (.int .u64 0),.im (.int .u64 0)] := by kernel_rfl
theorem ag113 : isAggT Try.prog 113 = true := by kernel_rfl
theorem sz114 : szOf Try.prog 114 = some 8 := by kernel_rfl
theorem ei114 : eInfo Try.prog 114 = some (8,64,[.im (.int .i64 0),.im (.int .i64 0),.im (.int .i64 0),.im (.int .i64 0),.im (.int .u64 0),.im (.int .u64 0),.im (.int .u64 0),.im (.int .u64 0)]) := by kernel_rfl
theorem bi114 : bInfo Try.prog 114 = some ([.im (.int .i64 0),.im (.int .i64 0),.im (.int .i64 0),.im (.int .i64 0),.im (.int .u64 0),.im (.int .u64 0),.im (.int .u64 0),.im (.int .u64 0)],.str [(0,1),(1,1),(2,1),(3,1),(4,4)]) := by kernel_rfl
theorem za114 : zAgg Try.prog 114 = some [.im (.int .i64 0),.im (.int .i64 0),.im (.int .i64 0),.im (.int .i64 0),.im (.int .u64 0),.im (.int .u64 0),.im (.int .u64 0),.im (.int .u64 0)] := by kernel_rfl
theorem ag114 : isAggT Try.prog 114 = true := by kernel_rfl
theorem sz116 : szOf Try.prog 116 = some 2 := by kernel_rfl
theorem ei116 : eInfo Try.prog 116 = some (2,16,[.im (.int .i64 0),.im (.int .i64 0)]) := by kernel_rfl
theorem bi116 : bInfo Try.prog 116 = some ([.im (.int .i64 0),.im (.int .i64 0)],.str [(0,1),(1,1)]) := by kernel_rfl
theorem za116 : zAgg Try.prog 116 = some [.im (.int .i64 0),.im (.int .i64 0)] := by kernel_rfl
theorem ag116 : isAggT Try.prog 116 = true := by kernel_rfl
theorem sz117 : szOf Try.prog 117 = some 2 := by kernel_rfl
theorem ei117 : eInfo Try.prog 117 = some (2,16,[.im (.int .i64 0),.im (.int .i64 0)]) := by kernel_rfl
theorem bi117 : bInfo Try.prog 117 = some ([.im (.int .i64 0),.im (.int .i64 0)],.str [(0,1),(1,1)]) := by kernel_rfl
theorem za117 : zAgg Try.prog 117 = some [.im (.int .i64 0),.im (.int .i64 0)] := by kernel_rfl
theorem ag117 : isAggT Try.prog 117 = true := by kernel_rfl
theorem sz121 : szOf Try.prog 121 = some 1 := by kernel_rfl
theorem ei121 : eInfo Try.prog 121 = some (1,16,[.im .nilIface]) := by kernel_rfl
theorem ag121 : isAggT Try.prog 121 = false := by kernel_rfl
theorem sz122 : szOf Try.prog 122 = some 1 := by kernel_rfl
theorem ei122 : eInfo Try.prog 122 = some (1,16,[.im .nilIface]) := by kernel_rfl
theorem ag122 : isAggT Try.prog 122 = false := by kernel_rfl
theorem sz125 : szOf Try.prog 125 = some 1 := by kernel_rfl
theorem ei125 : eInfo Try.prog 125 = some (1,8,[.im (.pointer none)]) := by kernel_rfl
theorem ag125 : isAggT Try.prog 125 = false := by kernel_rfl
theorem sz129 : szOf Try.prog 129 = some 4 := by kernel_rfl
theorem ei129 : eInfo Try.prog 129 = some (4,32,[.im (.int .i64 0),.im (.int .i64 0),.im (.int .i64 0),.im (.int .i64 0)]) := by kernel_rfl
theorem bi129 : bInfo Try.prog 129 = some ([.im (.int .i64 0),.im (.int .i64 0),.im (.int .i64 0),.im (.int .i64 0)],.str [(0,1),(1,1),(2,1),(3,1)]) := by kernel_rfl
theorem za129 : zAgg Try.prog 129 = some [.im (.int .i64 0),.im (.int .i64 0),.im (.int .i64 0),.im (.int .i64 0)] := by kernel_rfl
theorem ag129 : isAggT Try.prog 129 = true := by kernel_rfl
theorem sz130 : szOf Try.prog 130 = some 4 := by kernel_rfl
theorem ei130 : eInfo Try.prog 130 = some (4,32,[.im (.int .i64 0),.im (.int .i64 0),.im (.int .i64 0),.im (.int .i64 0)]) := by kernel_rfl
theorem bi130 : bInfo Try.prog 130 = some ([.im (.int .i64 0),.im (.int .i64 0),.im (.int .i64 0),.im (.int .i64 0)],.str [(0,1),(1,1),(2,1),(3,1)]) := by kernel_rfl
theorem za130 : zAgg Try.prog 130 = some [.im (.int .i64 0),.im (.int .i64 0),.im (.int .i64 0),.im (.int .i64 0)] := by kernel_rfl
theorem ag130 : isAggT Try.prog 130 = true := by kernel_rfl
theorem sz138 : szOf Try.prog 138 = some 4 := by kernel_rfl
theorem ei138 : eInfo Try.prog 138 = some (4,96,[.nil,.nil,.nil,.nil]) := by kernel_rfl
theorem bi138 : bInfo Try.prog 138 = some ([.nil,.nil,.nil,.nil],.str [(0,2),(2,1),(3,1)]) := by kernel_rfl
theorem za138 : zAgg Try.prog 138 = some [.nil,.nil,.nil,.nil] := by kernel_rfl
theorem ag138 : isAggT Try.prog 138 = true := by kernel_rfl
theorem sz139 : szOf Try.prog 139 = some 4 := by kernel_rfl
theorem ei139 : eInfo Try.prog 139 = some (4,96,[.nil,.nil,.nil,.nil]) := by kernel_rfl
theorem bi139 : bInfo Try.prog 139 = some ([.nil,.nil,.nil,.nil],.str [(0,2),(2,1),(3,1)]) := by kernel_rfl
theorem za139 : zAgg Try.prog 139 = some [.nil,.nil,.nil,.nil] := by kernel_rfl
theorem ag139 : isAggT Try.prog 139 = true := by kernel_rfl
theorem sz155 : szOf Try.prog 155 = some 1 := by kernel_rfl
theorem ei155 : eInfo Try.prog 155 = some (1,8,[.im (.pointer none)]) := by kernel_rfl
theorem ag155 : isAggT Try.prog 155 = false := by kernel_rfl
theorem sz159 : szOf Try.prog 159 = some 1 := by kernel_rfl
theorem ei159 : eInfo Try.prog 159 = some (1,8,[.im (.pointer none)]) := by kernel_rfl
theorem ag159 : isAggT Try.prog 159 = false := by kernel_rfl
theorem sz160 : szOf Try.prog 160 = some 2 := by kernel_rfl
theorem ei160 : eInfo Try.prog 160 = some (2,32,[.im (.pointer none),.nil]) := by kernel_rfl
theorem bi160 : bInfo Try.prog 160 = some ([.im (.pointer none),.nil],.str [(0,1),(1,1)]) := by kernel_rfl
theorem za160 : zAgg Try.prog 160 = some [.im (.pointer none),.nil] := by kernel_rfl
theorem ag160 : isAggT Try.prog 160 = true := by kernel_rfl
theorem sz161 : szOf Try.prog 161 = some 2 := by kernel_rfl
theorem ei161 : eInfo Try.prog 161 = some (2,32,[.im (.pointer none),.nil]) := by kernel_rfl
theorem bi161 : bInfo Try.prog 161 = some ([.im (.pointer none),.nil],.str [(0,1),(1,1)]) := by kernel_rfl
theorem za161 : zAgg Try.prog 161 = some [.im (.pointer none),.nil] := by kernel_rfl
theorem ag161 : isAggT Try.prog 161 = true := by kernel_rfl
theorem sz163 : szOf Try.prog 163 = some 1 := by kernel_rfl
theorem ei163 : eInfo Try.prog 163 = some (1,16,[.im .nilIface]) := by kernel_rfl
theorem ag163 : isAggT Try.prog 163 = false := by kernel_rfl
theorem sz164 : szOf Try.prog 164 = some 1 := by kernel_rfl
theorem ei164 : eInfo Try.prog 164 = some (1,16,[.im .nilIface]) := by kernel_rfl
theorem ag164 : isAggT Try.prog 164 = false := by kernel_rfl
theorem sz169 : szOf Try.prog 169 = some 1 := by kernel_rfl
theorem ei169 : eInfo Try.prog 169 = some (1,8,[.im (.int .i64 0)]) := by kernel_rfl
theorem bi169 : bInfo Try.prog 169 = some ([.im (.int .i64 0)],.str [(0,1)]) := by kernel_rfl
theorem za169 : zAgg Try.prog 169 = some [.im (.int .i64 0)] := by kernel_rfl
theorem ag169 : isAggT Try.prog 169 = true := by kernel_rfl
theorem sz170 : szOf Try.prog 170 = some 1 := by kernel_rfl
theorem ei170 : eInfo Try.prog 170 = some (1,8,[.im (.int .i64 0)]) := by kernel_rfl
theorem bi170 : bInfo Try.prog 170 = some ([.im (.int .i64 0)],.str [(0,1)]) := by kernel_rfl
theorem za170 : zAgg Try.prog 170 = some [.im (.int .i64 0)] := by kernel_rfl
theorem ag170 : isAggT Try.prog 170 = true := by kernel_rfl
theorem sz171 : szOf Try.prog 171 = some 1 := by kernel_rfl
theorem ei171 : eInfo Try.prog 171 = some (1,8,[.im (.int .i64 0)]) := by kernel_rfl
theorem bi171 : bInfo Try.prog 171 = some ([.im (.int .i64 0)],.str [(0,1)]) := by kernel_rfl
theorem za171 : zAgg Try.prog 171 = some [.im (.int .i64 0)] := by kernel_rfl
theorem ag171 : isAggT Try.prog 171 = true := by kernel_rfl
theorem sz172 : szOf Try.prog 172 = some 1 := by kernel_rfl
theorem ei172 : eInfo Try.prog 172 = some (1,8,[.im (.int .i64 0)]) := by kernel_rfl
theorem bi172 : bInfo Try.prog 172 = some ([.im (.int .i64 0)],.str [(0,1)]) := by kernel_rfl
theorem za172 : zAgg Try.prog 172 = some [.im (.int .i64 0)] := by kernel_rfl
theorem ag172 : isAggT Try.prog 172 = true := by kernel_rfl
theorem sz173 : szOf Try.prog 173 = some 1 := by kernel_rfl
theorem ei173 : eInfo Try.prog 173 = some (1,8,[.im (.int .i64 0)]) := by kernel_rfl
theorem bi173 : bInfo Try.prog 173 = some ([.im (.int .i64 0)],.str [(0,1)]) := by kernel_rfl
theorem za173 : zAgg Try.prog 173 = some [.im (.int .i64 0)] := by kernel_rfl
theorem ag173 : isAggT Try.prog 173 = true := by kernel_rfl
theorem sz174 : szOf Try.prog 174 = some 1 := by kernel_rfl
theorem ei174 : eInfo Try.prog 174 = some (1,8,[.im (.int .u64 0)]) := by kernel_rfl
theorem ag174 : isAggT Try.prog 174 = false := by kernel_rfl
theorem sz197 : szOf Try.prog 197 = some 2 := by kernel_rfl
theorem ei197 : eInfo Try.prog 197 = some (2,32,[.nil,.im (.int .i64 0)]) := by kernel_rfl
theorem bi197 : bInfo Try.prog 197 = some ([.nil,.im (.int .i64 0)],.str [(0,1),(1,1)]) := by kernel_rfl
theorem za197 : zAgg Try.prog 197 = some [.nil,.im (.int .i64 0)] := by kernel_rfl
theorem ag197 : isAggT Try.prog 197 = true := by kernel_rfl
theorem sz198 : szOf Try.prog 198 = some 2 := by kernel_rfl
theorem ei198 : eInfo Try.prog 198 = some (2,32,[.nil,.im (.int .i64 0)]) := by kernel_rfl
theorem bi198 : bInfo Try.prog 198 = some ([.nil,.im (.int .i64 0)],.str [(0,1),(1,1)]) := by kernel_rfl
theorem za198 : zAgg Try.prog 198 = some [.nil,.im (.int .i64 0)] := by kernel_rfl
theorem ag198 : isAggT Try.prog 198 = true := by kernel_rfl
theorem sz199 : szOf Try.prog 199 = some 9 := by kernel_rfl
theorem ei199 : eInfo Try.prog 199 = some (9,136,[.nil,.im (.int .i64 0),.im (.int .i64 0),.nil,.nil,.im (.int .i64 0),.im (.int .i64 0),.im (.int .i64 0),.nil]) := by kernel_rfl
theorem bi199 : bInfo Try.prog 199 = some ([.nil,.im (.int .i64 0),.im (.int .i64 0),.nil,.nil,.im (.int .i64 0),.im (.int .i64 0),.im (.int .i64 0),.nil],.str [(0,2),(2,3),(5,1),(6,1),(7,1),(8,1)]) := by kernel_rfl
theorem za199 : zAgg Try.prog 199 = some [.nil,.im (.int .i64 0),.im (.int .i64 0),.nil,.nil,.im (.int .i64 0),.im (.int .i64 0),.im (.int .i64 0),.nil] := by kernel_rfl
theorem ag199 : isAggT Try.prog 199 = true := by kernel_rfl
theorem sz200 : szOf Try.prog 200 = some 9 := by kernel_rfl
theorem ei200 : eInfo Try.prog 200 = some (9,136,[.nil,.im (.int .i64 0),.im (.int .i64 0),.nil,.nil,.im (.int .i64 0),.im (.int .i64 0),.im (.int .i64 0),.nil]) := by kernel_rfl
theorem bi200 : bInfo Try.prog 200 = some ([.nil,.im (.int .i64 0),.im (.int .i64 0),.nil,.nil,.im (.int .i64 0),.im (.int .i64 0),.im (.int .i64 0),.nil],.str [(0,2),(2,3),(5,1),(6,1),(7,1),(8,1)]) := by kernel_rfl
theorem za200 : zAgg Try.prog 200 = some [.nil,.im (.int .i64 0),.im (.int .i64 0),.nil,.nil,.im (.int .i64 0),.im (.int .i64 0),.im (.int .i64 0),.nil] := by kernel_rfl
theorem ag200 : isAggT Try.prog 200 = true := by kernel_rfl
theorem sz201 : szOf Try.prog 201 = some 1 := by kernel_rfl
theorem ei201 : eInfo Try.prog 201 = some (1,8,[.im (.pointer none)]) := by kernel_rfl
theorem ag201 : isAggT Try.prog 201 = false := by kernel_rfl
theorem sz205 : szOf Try.prog 205 = some 10 := by kernel_rfl
theorem ei205 : eInfo Try.prog 205 = some (10,10,[.im (.bool false),.im (.bool false),.im (.bool false),.im (.bool false),.im (.bool false),.im (.bool false),.im (.bool false),.im (.bool false),.im (.bool false),.im (.bool false)]) := by kernel_rfl
theorem bi205 : bInfo Try.prog 205 = some ([.im (.bool false),.im (.bool false),.im (.bool false),.im (.bool false),.im (.bool false),.im (.bool false),.im (.bool false),.im (.bool false),.im (.bool false),.im (.bool false)],.arr 1) := by kernel_rfl
theorem ag205 : isAggT Try.prog 205 = true := by kernel_rfl
theorem sz206 : szOf Try.prog 206 = some 1 := by kernel_rfl
theorem ei206 : eInfo Try.prog 206 = some (1,4,[.im (.int .u32 0)]) := by kernel_rfl
theorem ag206 : isAggT Try.prog 206 = false := by kernel_rfl
theorem sz216 : szOf Try.prog 216 = some 1 := by kernel_rfl
theorem ei216 : eInfo Try.prog 216 = some (1,8,[.im (.pointer none)]) := by kernel_rfl
theorem ag216 : isAggT Try.prog 216 = false := by kernel_rfl
theorem sz217 : szOf Try.prog 217 = some 1 := by kernel_rfl
theorem ei217 : eInfo Try.prog 217 = some (1,8,[.im (.pointer none)]) := by kernel_rfl
theorem ag217 : isAggT Try.prog 217 = false := by kernel_rfl
theorem sz220 : szOf Try.prog 220 = some 4 := by kernel_rfl
theorem ei220 : eInfo Try.prog 220 = some (4,40,[.im (.pointer none),.im (.pointer none),.im (.pointer none),.im (.string .empty)]) := by kernel_rfl
theorem bi220 : bInfo Try.prog 220 = some ([.im (.pointer none),.im (.pointer none),.im (.pointer none),.im (.string .empty)],.str [(0,1),(1,1),(2,1),(3,1)]) := by kernel_rfl
theorem za220 : zAgg Try.prog 220 = some [.im (.pointer none),.im (.pointer none),.im (.pointer none),.im (.string .empty)] := by kernel_rfl
theorem ag220 : isAggT Try.prog 220 = true := by kernel_rfl
theorem sz221 : szOf Try.prog 221 = some 4 := by kernel_rfl
theorem ei221 : eInfo Try.prog 221 = some (4,40,[.im (.pointer none),.im (.pointer none),.im (.pointer none),.im (.string .empty)]) := by kernel_rfl
theorem bi221 : bInfo Try.prog 221 = some ([.im (.pointer none),.im (.pointer none),.im (.pointer none),.im (.string .empty)],.str [(0,1),(1,1),(2,1),(3,1)]) := by kernel_rfl
theorem za221 : zAgg Try.prog 221 = some [.im (.pointer none),.im (.pointer none),.im (.pointer none),.im (.string .empty)] := by kernel_rfl
theorem ag221 : isAggT Try.prog 221 = true := by kernel_rfl
theorem sz222 : szOf Try.prog 222 = some 0 := by kernel_rfl
theorem ei222 : eInfo Try.prog 222 = some (0,0,[]) := by kernel_rfl
theorem bi222 : bInfo Try.prog 222 = some ([],.arr 1) := by kernel_rfl
theorem ag222 : isAggT Try.prog 222 = true := by kernel_rfl
theorem sz223 : szOf Try.prog 223 = some 0 := by kernel_rfl
theorem ei223 : eInfo Try.prog 223 = some (0,0,[]) := by kernel_rfl
theorem bi223 : bInfo Try.prog 223 = some ([],.str [(0,0)]) := by kernel_rfl
theorem za223 : zAgg Try.prog 223 = some [] := by kernel_rfl
theorem ag223 : isAggT Try.prog 223 = true := by kernel_rfl
theorem sz224 : szOf Try.prog 224 = some 0 := by kernel_rfl
theorem ei224 : eInfo Try.prog 224 = some (0,0,[]) := by kernel_rfl
theorem bi224 : bInfo Try.prog 224 = some ([],.str [(0,0)]) := by kernel_rfl
theorem za224 : zAgg Try.prog 224 = some [] := by kernel_rfl
theorem ag224 : isAggT Try.prog 224 = true := by kernel_rfl
theorem sz226 : szOf Try.prog 226 = some 1 := by kernel_rfl
theorem ei226 : eInfo Try.prog 226 = some (1,1,[.im (.int .u8 0)]) := by kernel_rfl
theorem ag226 : isAggT Try.prog 226 = false := by kernel_rfl
theorem sz227 : szOf Try.prog 227 = some 1 := by kernel_rfl
theorem ei227 : eInfo Try.prog 227 = some (1,1,[.im (.int .u8 0)]) := by kernel_rfl
theorem ag227 : isAggT Try.prog 227 = false := by kernel_rfl
theorem sz229 : szOf Try.prog 229 = some 1 := by kernel_rfl
theorem ei229 : eInfo Try.prog 229 = some (1,4,[.im (.int .i32 0)]) := by kernel_rfl
theorem ag229 : isAggT Try.prog 229 = false := by kernel_rfl
theorem sz230 : szOf Try.prog 230 = some 1 := by kernel_rfl
theorem ei230 : eInfo Try.prog 230 = some (1,4,[.im (.int .i32 0)]) := by kernel_rfl
theorem ag230 : isAggT Try.prog 230 = false := by kernel_rfl
theorem sz231 : szOf Try.prog 231 = some 11 := by kernel_rfl
theorem ei231 : eInfo Try.prog 231 = some (11,48,[.im (.int .u64 0),.im (.int .u64 0),.im (.int .u32 0),.im (.int .u8 0),.im (.int .u8 0),.im (.int .u8 0),.im (.int .u8 0),.im .nilFunc,.im (.pointer none),.im (.int .i32 0),.im (.int .i32 0)]) := by kernel_rfl
theorem bi231 : bInfo Try.prog 231 = some ([.im (.int .u64 0),.im (.int .u64 0),.im (.int .u32 0),.im (.int .u8 0),.im (.int .u8 0),.im (.int .u8 0),.im (.int .u8 0),.im .nilFunc,.im (.pointer none),.im (.int .i32 0),.im (.int .i32 0)],.str [(0,1),(1,1),(2,1),(3,1),(4,1),(5,1),(6,1),(7,1),(8,1),(9,1),(10,1)]) := by kernel_rfl
theorem za231 : zAgg Try.prog 231 = some [.im (.int .u64 0),.im (.int .u64 0),.im (.int .u32 0),.im (.int .u8 0),.im (.int .u8 0),.im (.int .u8 0),.im (.int .u8 0),.im .nilFunc,.im (.pointer none),.im (.int .i32 0),.im (.int .i32 0)] := by kernel_rfl
theorem ag231 : isAggT Try.prog 231 = true := by kernel_rfl
theorem sz232 : szOf Try.prog 232 = some 11 := by kernel_rfl
theorem ei232 : eInfo Try.prog 232 = some (11,48,[.im (.int .u64 0),.im (.int .u64 0),.im (.int .u32 0),.im (.int .u8 0),.im (.int .u8 0),.im (.int .u8 0),.im (.int .u8 0),.im .nilFunc,.im (.pointer none),.im (.int .i32 0),.im (.int .i32 0)]) := by kernel_rfl
theorem bi232 : bInfo Try.prog 232 = some ([.im (.int .u64 0),.im (.int .u64 0),.im (.int .u32 0),.im (.int .u8 0),.im (.int .u8 0),.im (.int .u8 0),.im (.int .u8 0),.im .nilFunc,.im (.pointer none),.im (.int .i32 0),.im (.int .i32 0)],.str [(0,1),(1,1),(2,1),(3,1),(4,1),(5,1),(6,1),(7,1),(8,1),(9,1),(10,1)]) := by kernel_rfl
theorem za232 : zAgg Try.prog 232 = some [.im (.int .u64 0),.im (.int .u64 0),.im (.int .u32 0),.im (.int .u8 0),.im (.int .u8 0),.im (.int .u8 0),.im (.int .u8 0),.im .nilFunc,.im (.pointer none),.im (.int .i32 0),.im (.int .i32 0)] := by kernel_rfl
theorem ag232 : isAggT Try.prog 232 = true := by kernel_rfl
attribute [go_sem] Try.underlying2 sz2 ei2 zi2 ag2 Try.underlying3 sz3 ei3 zi3 ag3 Try.underlying4 sz4 ei4 ag4 Try.underlying5 sz5 ei5 ag5 Try.underlying6 sz6 ei6 ag6 Try.underlying7 sz7 ei7 bi7 za7 ag7 Try.underlying8 sz8 ei8 bi8 za8 ag8 Try.underlying9 sz9 ei9 ag9 Try.underlying10 sz10 ei10 ag10 Try.underlying11 sz11 ei11 ag11 Try.underlying12 sz12 ei12 ag12 Try.underlying13 sz13 ei13 bi13 za13 ag13 Try.underlying14 sz14 ei14 bi14 za14 ag14 Try.underlying15 sz15 ei15 ag15 Try.underlying16 sz16 ei16 ag16 Try.underlying17 sz17 ei17 ag17 Try.underlying18 sz18 ei18 bi18 za18 ag18 Try.underlying19 sz19 ei19 bi19 za19 ag19 Try.underlying20 sz20 ei20 ag20 Try.underlying21 sz21 ei21 ag21 Try.underlying22 sz22 ei22 ag22 Try.underlying23 sz23 ei23 ag23 Try.underlying25 sz25 ei25 ag25 Try.underlying34 sz34 ei34 ag34 Try.underlying37 sz37 ei37 bi37 za37 ag37 Try.underlying38 sz38 ei38 bi38 za38 ag38 Try.underlying42 sz42 ei42 ag42 Try.underlying45 sz45 ei45 ag45 Try.underlying46 sz46 ei46 ag46 Try.underlying48 sz48 ei48 ag48 Try.underlying51 sz51 ei51 bi51 za51 ag51 Try.underlying52 sz52 ei52 bi52 za52 ag52 Try.underlying54 sz54 ei54 bi54 za54 ag54 Try.underlying55 sz55 ei55 bi55 za55 ag55 Try.underlying56 sz56 ei56 ag56 Try.underlying57 sz57 ei57 bi57 za57 ag57 Try.underlying58 sz58 ei58 bi58 za58 ag58 Try.underlying68 sz68 ei68 bi68 za68 ag68 Try.underlying69 sz69 ei69 bi69 za69 ag69 Try.underlying79 sz79 ei79 ag79 Try.underlying80 sz80 ei80 bi80 za80 ag80 Try.underlying81 sz81 ei81 bi81 za81 ag81 Try.underlying83 sz83 ei83 ag83 Try.underlying85 sz85 ei85 ag85 Try.underlying86 sz86 ei86 zi86 ag86 Try.underlying96 sz96 ei96 ag96 Try.underlying97 sz97 ei97 bi97 ag97 Try.underlying98 sz98 ei98 ag98 Try.underlying99 sz99 ei99 bi99 za99 ag99 Try.underlying100 sz100 ei100 bi100 za100 ag100 Try.underlying101 sz101 ei101 bi101 za101 ag101 Try.underlying102 sz102 ei102 bi102 za102 ag102 Try.underlying104 sz104 ei104 ag104 Try.underlying105 sz105 ei105 bi105 ag105 Try.underlying106 sz106 ei106 bi106 ag106 Try.underlying109 sz109 ei109 ag109 Try.underlying113 sz113 ei113 bi113 za113 ag113 Try.underlying114 sz114 ei114 bi114 za114 ag114 Try.underlying116 sz116 ei116 bi116 za116 ag116 Try.underlying117 sz117 ei117 bi117 za117 ag117 Try.underlying121 sz121 ei121 ag121 Try.underlying122 sz122 ei122 ag122 Try.underlying125 sz125 ei125 ag125 Try.underlying129 sz129 ei129 bi129 za129 ag129 Try.underlying130 sz130 ei130 bi130 za130 ag130 Try.underlying138 sz138 ei138 bi138 za138 ag138 Try.underlying139 sz139 ei139 bi139 za139 ag139 Try.underlying155 sz155 ei155 ag155 Try.underlying159 sz159 ei159 ag159 Try.underlying160 sz160 ei160 bi160 za160 ag160 Try.underlying161 sz161 ei161 bi161 za161 ag161 Try.underlying163 sz163 ei163 ag163 Try.underlying164 sz164 ei164 ag164 Try.underlying169 sz169 ei169 bi169 za169 ag169 Try.underlying170 sz170 ei170 bi170 za170 ag170 Try.underlying171 sz171 ei171 bi171 za171 ag171 Try.underlying172 sz172 ei172 bi172 za172 ag172 Try.underlying173 sz173 ei173 bi173 za173 ag173 Try.underlying174 sz174 ei174 ag174 Try.underlying197 sz197 ei197 bi197 za197 ag197 Try.underlying198 sz198 ei198 bi198 za198 ag198 Try.underlying199 sz199 ei199 bi199 za199 ag199 Try.underlying200 sz200 ei200 bi200 za200 ag200 Try.underlying201 sz201 ei201 ag201 Try.underlying205 sz205 ei205 bi205 ag205 Try.underlying206 sz206 ei206 ag206 Try.underlying216 sz216 ei216 ag216 Try.underlying217 sz217 ei217 ag217 Try.underlying220 sz220 ei220 bi220 za220 ag220 Try.underlying221 sz221 ei221 bi221 za221 ag221 Try.underlying222 sz222 ei222 bi222 ag222 Try.underlying223 sz223 ei223 bi223 za223 ag223 Try.underlying224 sz224 ei224 bi224 za224 ag224 Try.underlying226 sz226 ei226 ag226 Try.underlying227 sz227 ei227 ag227 Try.underlying229 sz229 ei229 ag229 Try.underlying230 sz230 ei230 ag230 Try.underlying231 sz231 ei231 bi231 za231 ag231 Try.underlying232 sz232 ei232 bi232 za232 ag232
end Go.Proofs.Ytllemobnfpljfaa
