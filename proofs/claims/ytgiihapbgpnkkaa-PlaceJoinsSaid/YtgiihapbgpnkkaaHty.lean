/-
  OF EACH TYPE OF THE TRANSLATION: its cells, its bytes, its zero, where the parts of a literal lie. Printed by program (gen_hty.py).
-/
import Derived.Test.YtgiihapbgpnkkaaProg
import Derived.Test.YtgiihapbgpnkkaaHs16
namespace Go.Proofs.Ytgiihapbgpnkkaa
open Go Go.Hs
theorem sz1 : szOf Try.prog 1 = some 1 := by kernel_rfl
theorem ei1 : eInfo Try.prog 1 = some (1, 8, [.im .nilFunc]) := by kernel_rfl
theorem ag1 : isAggT Try.prog 1 = false := by kernel_rfl
theorem sz2 : szOf Try.prog 2 = some 1 := by kernel_rfl
theorem ei2 : eInfo Try.prog 2 = some (1, 8, [.im (.int .i64 0)]) := by kernel_rfl
theorem zi2 : zInt Try.prog 2 = true := by kernel_rfl
theorem ag2 : isAggT Try.prog 2 = false := by kernel_rfl
theorem sz3 : szOf Try.prog 3 = some 1 := by kernel_rfl
theorem ei3 : eInfo Try.prog 3 = some (1, 8, [.im (.int .i64 0)]) := by kernel_rfl
theorem zi3 : zInt Try.prog 3 = true := by kernel_rfl
theorem ag3 : isAggT Try.prog 3 = false := by kernel_rfl
theorem sz4 : szOf Try.prog 4 = some 1 := by kernel_rfl
theorem ei4 : eInfo Try.prog 4 = some (1, 1, [.im (.bool false)]) := by kernel_rfl
theorem ag4 : isAggT Try.prog 4 = false := by kernel_rfl
theorem sz5 : szOf Try.prog 5 = some 1 := by kernel_rfl
theorem ei5 : eInfo Try.prog 5 = some (1, 1, [.im (.int .u8 0)]) := by kernel_rfl
theorem ag5 : isAggT Try.prog 5 = false := by kernel_rfl
theorem sz6 : szOf Try.prog 6 = some 1 := by kernel_rfl
theorem ei6 : eInfo Try.prog 6 = some (1, 1, [.im (.int .u8 0)]) := by kernel_rfl
theorem ag6 : isAggT Try.prog 6 = false := by kernel_rfl
theorem sz7 : szOf Try.prog 7 = some 4 := by kernel_rfl
theorem ei7 : eInfo Try.prog 7 = some (4, 24, [.im (.int .i64 0), .im (.int .i64 0), .im (.bool false), .im (.int .u8 0)]) := by kernel_rfl
theorem bi7 : bInfo Try.prog 7 = some ([.im (.int .i64 0), .im (.int .i64 0), .im (.bool false), .im (.int .u8 0)], .str [(0, 1), (1, 1), (2, 1), (3, 1)]) := by kernel_rfl
theorem za7 : zAgg Try.prog 7 = some [.im (.int .i64 0), .im (.int .i64 0), .im (.bool false), .im (.int .u8 0)] := by kernel_rfl
theorem ag7 : isAggT Try.prog 7 = true := by kernel_rfl
theorem sz8 : szOf Try.prog 8 = some 4 := by kernel_rfl
theorem ei8 : eInfo Try.prog 8 = some (4, 24, [.im (.int .i64 0), .im (.int .i64 0), .im (.bool false), .im (.int .u8 0)]) := by kernel_rfl
theorem bi8 : bInfo Try.prog 8 = some ([.im (.int .i64 0), .im (.int .i64 0), .im (.bool false), .im (.int .u8 0)], .str [(0, 1), (1, 1), (2, 1), (3, 1)]) := by kernel_rfl
theorem za8 : zAgg Try.prog 8 = some [.im (.int .i64 0), .im (.int .i64 0), .im (.bool false), .im (.int .u8 0)] := by kernel_rfl
theorem ag8 : isAggT Try.prog 8 = true := by kernel_rfl
theorem sz9 : szOf Try.prog 9 = some 1 := by kernel_rfl
theorem ei9 : eInfo Try.prog 9 = some (1, 16, [.im (.string .empty)]) := by kernel_rfl
theorem ag9 : isAggT Try.prog 9 = false := by kernel_rfl
theorem sz10 : szOf Try.prog 10 = some 1 := by kernel_rfl
theorem ei10 : eInfo Try.prog 10 = some (1, 16, [.im (.string .empty)]) := by kernel_rfl
theorem ag10 : isAggT Try.prog 10 = false := by kernel_rfl
theorem sz11 : szOf Try.prog 11 = some 1 := by kernel_rfl
theorem ei11 : eInfo Try.prog 11 = some (1, 16, [.im (.string .empty)]) := by kernel_rfl
theorem ag11 : isAggT Try.prog 11 = false := by kernel_rfl
theorem sz12 : szOf Try.prog 12 = some 1 := by kernel_rfl
theorem ei12 : eInfo Try.prog 12 = some (1, 8, [.im (.int .u64 0)]) := by kernel_rfl
theorem ag12 : isAggT Try.prog 12 = false := by kernel_rfl
theorem sz13 : szOf Try.prog 13 = some 2 := by kernel_rfl
theorem ei13 : eInfo Try.prog 13 = some (2, 24, [.im (.string .empty), .im (.int .u64 0)]) := by kernel_rfl
theorem bi13 : bInfo Try.prog 13 = some ([.im (.string .empty), .im (.int .u64 0)], .str [(0, 1), (1, 1)]) := by kernel_rfl
theorem za13 : zAgg Try.prog 13 = some [.im (.string .empty), .im (.int .u64 0)] := by kernel_rfl
theorem ag13 : isAggT Try.prog 13 = true := by kernel_rfl
theorem sz14 : szOf Try.prog 14 = some 2 := by kernel_rfl
theorem ei14 : eInfo Try.prog 14 = some (2, 24, [.im (.string .empty), .im (.int .u64 0)]) := by kernel_rfl
theorem bi14 : bInfo Try.prog 14 = some ([.im (.string .empty), .im (.int .u64 0)], .str [(0, 1), (1, 1)]) := by kernel_rfl
theorem za14 : zAgg Try.prog 14 = some [.im (.string .empty), .im (.int .u64 0)] := by kernel_rfl
theorem ag14 : isAggT Try.prog 14 = true := by kernel_rfl
theorem sz15 : szOf Try.prog 15 = some 1 := by kernel_rfl
theorem ei15 : eInfo Try.prog 15 = some (1, 8, [.im (.pointer none)]) := by kernel_rfl
theorem ag15 : isAggT Try.prog 15 = false := by kernel_rfl
theorem sz16 : szOf Try.prog 16 = some 1 := by kernel_rfl
theorem ei16 : eInfo Try.prog 16 = some (1, 8, [.im (.pointer none)]) := by kernel_rfl
theorem ag16 : isAggT Try.prog 16 = false := by kernel_rfl
theorem sz17 : szOf Try.prog 17 = some 1 := by kernel_rfl
theorem ei17 : eInfo Try.prog 17 = some (1, 8, [.im (.pointer none)]) := by kernel_rfl
theorem ag17 : isAggT Try.prog 17 = false := by kernel_rfl
theorem sz18 : szOf Try.prog 18 = some 1 := by kernel_rfl
theorem ei18 : eInfo Try.prog 18 = some (1, 8, [.im (.pointer none)]) := by kernel_rfl
theorem bi18 : bInfo Try.prog 18 = some ([.im (.pointer none)], .str [(0, 1)]) := by kernel_rfl
theorem za18 : zAgg Try.prog 18 = some [.im (.pointer none)] := by kernel_rfl
theorem ag18 : isAggT Try.prog 18 = true := by kernel_rfl
theorem sz19 : szOf Try.prog 19 = some 1 := by kernel_rfl
theorem ei19 : eInfo Try.prog 19 = some (1, 8, [.im (.pointer none)]) := by kernel_rfl
theorem bi19 : bInfo Try.prog 19 = some ([.im (.pointer none)], .str [(0, 1)]) := by kernel_rfl
theorem za19 : zAgg Try.prog 19 = some [.im (.pointer none)] := by kernel_rfl
theorem ag19 : isAggT Try.prog 19 = true := by kernel_rfl
theorem sz20 : szOf Try.prog 20 = some 1 := by kernel_rfl
theorem ei20 : eInfo Try.prog 20 = some (1, 16, [.im .nilIface]) := by kernel_rfl
theorem ag20 : isAggT Try.prog 20 = false := by kernel_rfl
theorem sz21 : szOf Try.prog 21 = some 1 := by kernel_rfl
theorem ei21 : eInfo Try.prog 21 = some (1, 4, [.im (.int .i32 0)]) := by kernel_rfl
theorem ag21 : isAggT Try.prog 21 = false := by kernel_rfl
theorem sz22 : szOf Try.prog 22 = some 1 := by kernel_rfl
theorem ei22 : eInfo Try.prog 22 = some (1, 24, [.nil]) := by kernel_rfl
theorem ag22 : isAggT Try.prog 22 = false := by kernel_rfl
theorem sz23 : szOf Try.prog 23 = some 1 := by kernel_rfl
theorem ei23 : eInfo Try.prog 23 = some (1, 24, [.nil]) := by kernel_rfl
theorem ag23 : isAggT Try.prog 23 = false := by kernel_rfl
theorem sz24 : szOf Try.prog 24 = some 1 := by kernel_rfl
theorem ei24 : eInfo Try.prog 24 = some (1, 8, [.im .nilFunc]) := by kernel_rfl
theorem ag24 : isAggT Try.prog 24 = false := by kernel_rfl
theorem sz25 : szOf Try.prog 25 = some 1 := by kernel_rfl
theorem ei25 : eInfo Try.prog 25 = some (1, 8, [.im .nilFunc]) := by kernel_rfl
theorem ag25 : isAggT Try.prog 25 = false := by kernel_rfl
theorem sz26 : szOf Try.prog 26 = some 1 := by kernel_rfl
theorem ei26 : eInfo Try.prog 26 = some (1, 8, [.im (.int .i64 0)]) := by kernel_rfl
theorem zi26 : zInt Try.prog 26 = true := by kernel_rfl
theorem ag26 : isAggT Try.prog 26 = false := by kernel_rfl
theorem sz28 : szOf Try.prog 28 = some 1 := by kernel_rfl
theorem ei28 : eInfo Try.prog 28 = some (1, 8, [.im .nilFunc]) := by kernel_rfl
theorem ag28 : isAggT Try.prog 28 = false := by kernel_rfl
theorem sz30 : szOf Try.prog 30 = some 1 := by kernel_rfl
theorem ei30 : eInfo Try.prog 30 = some (1, 8, [.im .nilFunc]) := by kernel_rfl
theorem ag30 : isAggT Try.prog 30 = false := by kernel_rfl
theorem sz31 : szOf Try.prog 31 = some 1 := by kernel_rfl
theorem ei31 : eInfo Try.prog 31 = some (1, 8, [.im .nilFunc]) := by kernel_rfl
theorem ag31 : isAggT Try.prog 31 = false := by kernel_rfl
theorem sz32 : szOf Try.prog 32 = some 1 := by kernel_rfl
theorem ei32 : eInfo Try.prog 32 = some (1, 8, [.im .nilFunc]) := by kernel_rfl
theorem ag32 : isAggT Try.prog 32 = false := by kernel_rfl
theorem sz33 : szOf Try.prog 33 = some 1 := by kernel_rfl
theorem ei33 : eInfo Try.prog 33 = some (1, 8, [.im .nilFunc]) := by kernel_rfl
theorem ag33 : isAggT Try.prog 33 = false := by kernel_rfl
theorem sz34 : szOf Try.prog 34 = some 1 := by kernel_rfl
theorem ei34 : eInfo Try.prog 34 = some (1, 8, [.im .nilFunc]) := by kernel_rfl
theorem ag34 : isAggT Try.prog 34 = false := by kernel_rfl
theorem sz35 : szOf Try.prog 35 = some 1 := by kernel_rfl
theorem ei35 : eInfo Try.prog 35 = some (1, 8, [.im .nilFunc]) := by kernel_rfl
theorem ag35 : isAggT Try.prog 35 = false := by kernel_rfl
theorem sz36 : szOf Try.prog 36 = some 1 := by kernel_rfl
theorem ei36 : eInfo Try.prog 36 = some (1, 24, [.nil]) := by kernel_rfl
theorem ag36 : isAggT Try.prog 36 = false := by kernel_rfl
theorem sz38 : szOf Try.prog 38 = some 1 := by kernel_rfl
theorem ei38 : eInfo Try.prog 38 = some (1, 8, [.im .nilFunc]) := by kernel_rfl
theorem ag38 : isAggT Try.prog 38 = false := by kernel_rfl
theorem sz39 : szOf Try.prog 39 = some 1 := by kernel_rfl
theorem ei39 : eInfo Try.prog 39 = some (1, 8, [.im .nilFunc]) := by kernel_rfl
theorem ag39 : isAggT Try.prog 39 = false := by kernel_rfl
theorem sz40 : szOf Try.prog 40 = some 1 := by kernel_rfl
theorem ei40 : eInfo Try.prog 40 = some (1, 8, [.im (.int .u64 0)]) := by kernel_rfl
theorem ag40 : isAggT Try.prog 40 = false := by kernel_rfl
theorem sz41 : szOf Try.prog 41 = some 4 := by kernel_rfl
theorem ei41 : eInfo Try.prog 41 = some (4, 32, [.im (.int .u64 0), .im (.int .u64 0), .im (.int .u64 0), .im (.int .u64 0)]) := by kernel_rfl
theorem bi41 : bInfo Try.prog 41 = some ([.im (.int .u64 0), .im (.int .u64 0), .im (.int .u64 0), .im (.int .u64 0)], .arr 1) := by kernel_rfl
theorem ag41 : isAggT Try.prog 41 = true := by kernel_rfl
theorem sz42 : szOf Try.prog 42 = some 4 := by kernel_rfl
theorem ei42 : eInfo Try.prog 42 = some (4, 32, [.im (.int .u64 0), .im (.int .u64 0), .im (.int .u64 0), .im (.int .u64 0)]) := by kernel_rfl
theorem bi42 : bInfo Try.prog 42 = some ([.im (.int .u64 0), .im (.int .u64 0), .im (.int .u64 0), .im (.int .u64 0)], .arr 1) := by kernel_rfl
theorem ag42 : isAggT Try.prog 42 = true := by kernel_rfl
theorem sz43 : szOf Try.prog 43 = some 1 := by kernel_rfl
theorem ei43 : eInfo Try.prog 43 = some (1, 8, [.im .nilFunc]) := by kernel_rfl
theorem ag43 : isAggT Try.prog 43 = false := by kernel_rfl
theorem sz44 : szOf Try.prog 44 = some 2 := by kernel_rfl
theorem ei44 : eInfo Try.prog 44 = some (2, 2, [.im (.int .u8 0), .im (.int .u8 0)]) := by kernel_rfl
theorem bi44 : bInfo Try.prog 44 = some ([.im (.int .u8 0), .im (.int .u8 0)], .arr 1) := by kernel_rfl
theorem ag44 : isAggT Try.prog 44 = true := by kernel_rfl
theorem sz45 : szOf Try.prog 45 = some 1 := by kernel_rfl
theorem ei45 : eInfo Try.prog 45 = some (1, 8, [.im .nilFunc]) := by kernel_rfl
theorem ag45 : isAggT Try.prog 45 = false := by kernel_rfl
theorem sz46 : szOf Try.prog 46 = some 1 := by kernel_rfl
theorem ei46 : eInfo Try.prog 46 = some (1, 8, [.im .nilFunc]) := by kernel_rfl
theorem ag46 : isAggT Try.prog 46 = false := by kernel_rfl
theorem sz47 : szOf Try.prog 47 = some 1 := by kernel_rfl
theorem ei47 : eInfo Try.prog 47 = some (1, 24, [.nil]) := by kernel_rfl
theorem ag47 : isAggT Try.prog 47 = false := by kernel_rfl
theorem sz48 : szOf Try.prog 48 = some 1 := by kernel_rfl
theorem ei48 : eInfo Try.prog 48 = some (1, 8, [.im .nilFunc]) := by kernel_rfl
theorem ag48 : isAggT Try.prog 48 = false := by kernel_rfl
theorem sz49 : szOf Try.prog 49 = some 1 := by kernel_rfl
theorem ei49 : eInfo Try.prog 49 = some (1, 8, [.im .nilFunc]) := by kernel_rfl
theorem ag49 : isAggT Try.prog 49 = false := by kernel_rfl
theorem sz50 : szOf Try.prog 50 = some 1 := by kernel_rfl
theorem ei50 : eInfo Try.prog 50 = some (1, 8, [.im .nilFunc]) := by kernel_rfl
theorem ag50 : isAggT Try.prog 50 = false := by kernel_rfl
theorem sz51 : szOf Try.prog 51 = some 1 := by kernel_rfl
theorem ei51 : eInfo Try.prog 51 = some (1, 8, [.im .nilFunc]) := by kernel_rfl
theorem ag51 : isAggT Try.prog 51 = false := by kernel_rfl
theorem sz52 : szOf Try.prog 52 = some 1 := by kernel_rfl
theorem ei52 : eInfo Try.prog 52 = some (1, 8, [.im .nilFunc]) := by kernel_rfl
theorem ag52 : isAggT Try.prog 52 = false := by kernel_rfl
theorem sz53 : szOf Try.prog 53 = some 8 := by kernel_rfl
theorem ei53 : eInfo Try.prog 53 = some (8, 64, [.im (.int .i64 0), .im (.int .i64 0), .im (.int .i64 0), .im (.int .i64 0), .im (.int .u64 0), .im (.int .u64 0), .im (.int .u64 0), .im (.int .u64 0)]) := by kernel_rfl
theorem bi53 : bInfo Try.prog 53 = some ([.im (.int .i64 0), .im (.int .i64 0), .im (.int .i64 0), .im (.int .i64 0), .im (.int .u64 0), .im (.int .u64 0), .im (.int .u64 0), .im (.int .u64 0)], .str [(0, 1), (1, 1), (2, 1), (3, 1), (4, 4)]) := by kernel_rfl
theorem za53 : zAgg Try.prog 53 = some [.im (.int .i64 0), .im (.int .i64 0), .im (.int .i64 0), .im (.int .i64 0), .im (.int .u64 0), .im (.int .u64 0), .im (.int .u64 0), .im (.int .u64 0)] := by kernel_rfl
theorem ag53 : isAggT Try.prog 53 = true := by kernel_rfl
theorem sz54 : szOf Try.prog 54 = some 8 := by kernel_rfl
theorem ei54 : eInfo Try.prog 54 = some (8, 64, [.im (.int .i64 0), .im (.int .i64 0), .im (.int .i64 0), .im (.int .i64 0), .im (.int .u64 0), .im (.int .u64 0), .im (.int .u64 0), .im (.int .u64 0)]) := by kernel_rfl
theorem bi54 : bInfo Try.prog 54 = some ([.im (.int .i64 0), .im (.int .i64 0), .im (.int .i64 0), .im (.int .i64 0), .im (.int .u64 0), .im (.int .u64 0), .im (.int .u64 0), .im (.int .u64 0)], .str [(0, 1), (1, 1), (2, 1), (3, 1), (4, 4)]) := by kernel_rfl
theorem za54 : zAgg Try.prog 54 = some [.im (.int .i64 0), .im (.int .i64 0), .im (.int .i64 0), .im (.int .i64 0), .im (.int .u64 0), .im (.int .u64 0), .im (.int .u64 0), .im (.int .u64 0)] := by kernel_rfl
theorem ag54 : isAggT Try.prog 54 = true := by kernel_rfl
theorem sz55 : szOf Try.prog 55 = some 1 := by kernel_rfl
theorem ei55 : eInfo Try.prog 55 = some (1, 8, [.im .nilFunc]) := by kernel_rfl
theorem ag55 : isAggT Try.prog 55 = false := by kernel_rfl
theorem sz56 : szOf Try.prog 56 = some 3 := by kernel_rfl
theorem ei56 : eInfo Try.prog 56 = some (3, 24, [.im (.int .i64 0), .im (.int .i64 0), .im (.int .i64 0)]) := by kernel_rfl
theorem bi56 : bInfo Try.prog 56 = some ([.im (.int .i64 0), .im (.int .i64 0), .im (.int .i64 0)], .arr 1) := by kernel_rfl
theorem ag56 : isAggT Try.prog 56 = true := by kernel_rfl
theorem sz57 : szOf Try.prog 57 = some 1 := by kernel_rfl
theorem ei57 : eInfo Try.prog 57 = some (1, 8, [.im .nilFunc]) := by kernel_rfl
theorem ag57 : isAggT Try.prog 57 = false := by kernel_rfl
theorem sz58 : szOf Try.prog 58 = some 1 := by kernel_rfl
theorem ei58 : eInfo Try.prog 58 = some (1, 8, [.im .nilFunc]) := by kernel_rfl
theorem ag58 : isAggT Try.prog 58 = false := by kernel_rfl
theorem sz59 : szOf Try.prog 59 = some 1 := by kernel_rfl
theorem ei59 : eInfo Try.prog 59 = some (1, 8, [.im .nilFunc]) := by kernel_rfl
theorem ag59 : isAggT Try.prog 59 = false := by kernel_rfl
theorem sz60 : szOf Try.prog 60 = some 1 := by kernel_rfl
theorem ei60 : eInfo Try.prog 60 = some (1, 8, [.im .nilFunc]) := by kernel_rfl
theorem ag60 : isAggT Try.prog 60 = false := by kernel_rfl
theorem sz61 : szOf Try.prog 61 = some 1 := by kernel_rfl
theorem ei61 : eInfo Try.prog 61 = some (1, 8, [.im (.map none)]) := by kernel_rfl
theorem ag61 : isAggT Try.prog 61 = false := by kernel_rfl
theorem sz62 : szOf Try.prog 62 = some 1 := by kernel_rfl
theorem ei62 : eInfo Try.prog 62 = some (1, 8, [.im .nilFunc]) := by kernel_rfl
theorem ag62 : isAggT Try.prog 62 = false := by kernel_rfl
theorem sz64 : szOf Try.prog 64 = some 1 := by kernel_rfl
theorem ei64 : eInfo Try.prog 64 = some (1, 8, [.im .nilFunc]) := by kernel_rfl
theorem ag64 : isAggT Try.prog 64 = false := by kernel_rfl
theorem sz65 : szOf Try.prog 65 = some 1 := by kernel_rfl
theorem ei65 : eInfo Try.prog 65 = some (1, 8, [.im .nilFunc]) := by kernel_rfl
theorem ag65 : isAggT Try.prog 65 = false := by kernel_rfl
theorem sz66 : szOf Try.prog 66 = some 1 := by kernel_rfl
theorem ei66 : eInfo Try.prog 66 = some (1, 8, [.im .nilFunc]) := by kernel_rfl
theorem ag66 : isAggT Try.prog 66 = false := by kernel_rfl
theorem sz67 : szOf Try.prog 67 = some 10 := by kernel_rfl
theorem ei67 : eInfo Try.prog 67 = some (10, 10, [.im (.bool false), .im (.bool false), .im (.bool false), .im (.bool false), .im (.bool false), .im (.bool false), .im (.bool false), .im (.bool false), .im (.bool false), .im (.bool false)]) := by kernel_rfl
theorem bi67 : bInfo Try.prog 67 = some ([.im (.bool false), .im (.bool false), .im (.bool false), .im (.bool false), .im (.bool false), .im (.bool false), .im (.bool false), .im (.bool false), .im (.bool false), .im (.bool false)], .arr 1) := by kernel_rfl
theorem ag67 : isAggT Try.prog 67 = true := by kernel_rfl
theorem sz68 : szOf Try.prog 68 = some 1 := by kernel_rfl
theorem ei68 : eInfo Try.prog 68 = some (1, 8, [.im .nilFunc]) := by kernel_rfl
theorem ag68 : isAggT Try.prog 68 = false := by kernel_rfl
theorem sz69 : szOf Try.prog 69 = some 1 := by kernel_rfl
theorem ei69 : eInfo Try.prog 69 = some (1, 8, [.im .nilFunc]) := by kernel_rfl
theorem ag69 : isAggT Try.prog 69 = false := by kernel_rfl
theorem sz70 : szOf Try.prog 70 = some 1 := by kernel_rfl
theorem ei70 : eInfo Try.prog 70 = some (1, 8, [.im .nilFunc]) := by kernel_rfl
theorem ag70 : isAggT Try.prog 70 = false := by kernel_rfl
theorem sz71 : szOf Try.prog 71 = some 1 := by kernel_rfl
theorem ei71 : eInfo Try.prog 71 = some (1, 8, [.im (.pointer none)]) := by kernel_rfl
theorem ag71 : isAggT Try.prog 71 = false := by kernel_rfl
theorem sz72 : szOf Try.prog 72 = some 2 := by kernel_rfl
theorem ei72 : eInfo Try.prog 72 = some (2, 32, [.im (.pointer none), .nil]) := by kernel_rfl
theorem bi72 : bInfo Try.prog 72 = some ([.im (.pointer none), .nil], .str [(0, 1), (1, 1)]) := by kernel_rfl
theorem za72 : zAgg Try.prog 72 = some [.im (.pointer none), .nil] := by kernel_rfl
theorem ag72 : isAggT Try.prog 72 = true := by kernel_rfl
theorem sz73 : szOf Try.prog 73 = some 2 := by kernel_rfl
theorem ei73 : eInfo Try.prog 73 = some (2, 32, [.im (.pointer none), .nil]) := by kernel_rfl
theorem bi73 : bInfo Try.prog 73 = some ([.im (.pointer none), .nil], .str [(0, 1), (1, 1)]) := by kernel_rfl
theorem za73 : zAgg Try.prog 73 = some [.im (.pointer none), .nil] := by kernel_rfl
theorem ag73 : isAggT Try.prog 73 = true := by kernel_rfl
theorem sz74 : szOf Try.prog 74 = some 1 := by kernel_rfl
theorem ei74 : eInfo Try.prog 74 = some (1, 16, [.im .nilIface]) := by kernel_rfl
theorem ag74 : isAggT Try.prog 74 = false := by kernel_rfl
theorem sz75 : szOf Try.prog 75 = some 1 := by kernel_rfl
theorem ei75 : eInfo Try.prog 75 = some (1, 16, [.im .nilIface]) := by kernel_rfl
theorem ag75 : isAggT Try.prog 75 = false := by kernel_rfl
theorem sz76 : szOf Try.prog 76 = some 1 := by kernel_rfl
theorem ei76 : eInfo Try.prog 76 = some (1, 8, [.im .nilFunc]) := by kernel_rfl
theorem ag76 : isAggT Try.prog 76 = false := by kernel_rfl
theorem sz77 : szOf Try.prog 77 = some 1 := by kernel_rfl
theorem ei77 : eInfo Try.prog 77 = some (1, 8, [.im .nilFunc]) := by kernel_rfl
theorem ag77 : isAggT Try.prog 77 = false := by kernel_rfl
theorem sz79 : szOf Try.prog 79 = some 1 := by kernel_rfl
theorem ei79 : eInfo Try.prog 79 = some (1, 8, [.im .nilFunc]) := by kernel_rfl
theorem ag79 : isAggT Try.prog 79 = false := by kernel_rfl
theorem sz80 : szOf Try.prog 80 = some 1 := by kernel_rfl
theorem ei80 : eInfo Try.prog 80 = some (1, 8, [.im .nilFunc]) := by kernel_rfl
theorem ag80 : isAggT Try.prog 80 = false := by kernel_rfl
theorem sz81 : szOf Try.prog 81 = some 1 := by kernel_rfl
theorem ei81 : eInfo Try.prog 81 = some (1, 8, [.im (.pointer none)]) := by kernel_rfl
theorem ag81 : isAggT Try.prog 81 = false := by kernel_rfl
theorem sz82 : szOf Try.prog 82 = some 1 := by kernel_rfl
theorem ei82 : eInfo Try.prog 82 = some (1, 8, [.im (.pointer none)]) := by kernel_rfl
theorem ag82 : isAggT Try.prog 82 = false := by kernel_rfl
theorem sz83 : szOf Try.prog 83 = some 1 := by kernel_rfl
theorem ei83 : eInfo Try.prog 83 = some (1, 8, [.im .nilFunc]) := by kernel_rfl
theorem ag83 : isAggT Try.prog 83 = false := by kernel_rfl
theorem sz84 : szOf Try.prog 84 = some 4 := by kernel_rfl
theorem ei84 : eInfo Try.prog 84 = some (4, 40, [.im (.pointer none), .im (.pointer none), .im (.pointer none), .im (.string .empty)]) := by kernel_rfl
theorem bi84 : bInfo Try.prog 84 = some ([.im (.pointer none), .im (.pointer none), .im (.pointer none), .im (.string .empty)], .str [(0, 1), (1, 1), (2, 1), (3, 1)]) := by kernel_rfl
theorem za84 : zAgg Try.prog 84 = some [.im (.pointer none), .im (.pointer none), .im (.pointer none), .im (.string .empty)] := by kernel_rfl
theorem ag84 : isAggT Try.prog 84 = true := by kernel_rfl
theorem sz85 : szOf Try.prog 85 = some 4 := by kernel_rfl
theorem ei85 : eInfo Try.prog 85 = some (4, 40, [.im (.pointer none), .im (.pointer none), .im (.pointer none), .im (.string .empty)]) := by kernel_rfl
theorem bi85 : bInfo Try.prog 85 = some ([.im (.pointer none), .im (.pointer none), .im (.pointer none), .im (.string .empty)], .str [(0, 1), (1, 1), (2, 1), (3, 1)]) := by kernel_rfl
theorem za85 : zAgg Try.prog 85 = some [.im (.pointer none), .im (.pointer none), .im (.pointer none), .im (.string .empty)] := by kernel_rfl
theorem ag85 : isAggT Try.prog 85 = true := by kernel_rfl
theorem sz86 : szOf Try.prog 86 = some 0 := by kernel_rfl
theorem ei86 : eInfo Try.prog 86 = some (0, 0, []) := by kernel_rfl
theorem bi86 : bInfo Try.prog 86 = some ([], .arr 1) := by kernel_rfl
theorem ag86 : isAggT Try.prog 86 = true := by kernel_rfl
theorem sz87 : szOf Try.prog 87 = some 0 := by kernel_rfl
theorem ei87 : eInfo Try.prog 87 = some (0, 0, []) := by kernel_rfl
theorem bi87 : bInfo Try.prog 87 = some ([], .str [(0, 0)]) := by kernel_rfl
theorem za87 : zAgg Try.prog 87 = some [] := by kernel_rfl
theorem ag87 : isAggT Try.prog 87 = true := by kernel_rfl
theorem sz88 : szOf Try.prog 88 = some 0 := by kernel_rfl
theorem ei88 : eInfo Try.prog 88 = some (0, 0, []) := by kernel_rfl
theorem bi88 : bInfo Try.prog 88 = some ([], .str [(0, 0)]) := by kernel_rfl
theorem za88 : zAgg Try.prog 88 = some [] := by kernel_rfl
theorem ag88 : isAggT Try.prog 88 = true := by kernel_rfl
theorem sz89 : szOf Try.prog 89 = some 1 := by kernel_rfl
theorem ei89 : eInfo Try.prog 89 = some (1, 8, [.im .nilFunc]) := by kernel_rfl
theorem ag89 : isAggT Try.prog 89 = false := by kernel_rfl
theorem sz90 : szOf Try.prog 90 = some 1 := by kernel_rfl
theorem ei90 : eInfo Try.prog 90 = some (1, 4, [.im (.int .u32 0)]) := by kernel_rfl
theorem ag90 : isAggT Try.prog 90 = false := by kernel_rfl
theorem sz91 : szOf Try.prog 91 = some 1 := by kernel_rfl
theorem ei91 : eInfo Try.prog 91 = some (1, 1, [.im (.int .u8 0)]) := by kernel_rfl
theorem ag91 : isAggT Try.prog 91 = false := by kernel_rfl
theorem sz92 : szOf Try.prog 92 = some 1 := by kernel_rfl
theorem ei92 : eInfo Try.prog 92 = some (1, 1, [.im (.int .u8 0)]) := by kernel_rfl
theorem ag92 : isAggT Try.prog 92 = false := by kernel_rfl
theorem sz93 : szOf Try.prog 93 = some 1 := by kernel_rfl
theorem ei93 : eInfo Try.prog 93 = some (1, 8, [.im .nilFunc]) := by kernel_rfl
theorem ag93 : isAggT Try.prog 93 = false := by kernel_rfl
theorem sz94 : szOf Try.prog 94 = some 1 := by kernel_rfl
theorem ei94 : eInfo Try.prog 94 = some (1, 4, [.im (.int .i32 0)]) := by kernel_rfl
theorem ag94 : isAggT Try.prog 94 = false := by kernel_rfl
theorem sz95 : szOf Try.prog 95 = some 1 := by kernel_rfl
theorem ei95 : eInfo Try.prog 95 = some (1, 4, [.im (.int .i32 0)]) := by kernel_rfl
theorem ag95 : isAggT Try.prog 95 = false := by kernel_rfl
theorem sz96 : szOf Try.prog 96 = some 11 := by kernel_rfl
theorem ei96 : eInfo Try.prog 96 = some (11, 48, [.im (.int .u64 0), .im (.int .u64 0), .im (.int .u32 0), .im (.int .u8 0), .im (.int .u8 0), .im (.int .u8 0), .im (.int .u8 0), .im .nilFunc, .im (.pointer none), .im (.int .i32 0), .im (.int .i32 0)]) := by kernel_rfl
theorem bi96 : bInfo Try.prog 96 = some ([.im (.int .u64 0), .im (.int .u64 0), .im (.int .u32 0), .im (.int .u8 0), .im (.int .u8 0), .im (.int .u8 0), .im (.int .u8 0), .im .nilFunc, .im (.pointer none), .im (.int .i32 0), .im (.int .i32 0)], .str [(0, 1), (1, 1), (2, 1), (3, 1), (4, 1), (5, 1), (6, 1), (7, 1), (8, 1), (9, 1), (10, 1)]) := by kernel_rfl
theorem za96 : zAgg Try.prog 96 = some [.im (.int .u64 0), .im (.int .u64 0), .im (.int .u32 0), .im (.int .u8 0), .im (.int .u8 0), .im (.int .u8 0), .im (.int .u8 0), .im .nilFunc, .im (.pointer none), .im (.int .i32 0), .im (.int .i32 0)] := by kernel_rfl
theorem ag96 : isAggT Try.prog 96 = true := by kernel_rfl
theorem sz97 : szOf Try.prog 97 = some 11 := by kernel_rfl
theorem ei97 : eInfo Try.prog 97 = some (11, 48, [.im (.int .u64 0), .im (.int .u64 0), .im (.int .u32 0), .im (.int .u8 0), .im (.int .u8 0), .im (.int .u8 0), .im (.int .u8 0), .im .nilFunc, .im (.pointer none), .im (.int .i32 0), .im (.int .i32 0)]) := by kernel_rfl
theorem bi97 : bInfo Try.prog 97 = some ([.im (.int .u64 0), .im (.int .u64 0), .im (.int .u32 0), .im (.int .u8 0), .im (.int .u8 0), .im (.int .u8 0), .im (.int .u8 0), .im .nilFunc, .im (.pointer none), .im (.int .i32 0), .im (.int .i32 0)], .str [(0, 1), (1, 1), (2, 1), (3, 1), (4, 1), (5, 1), (6, 1), (7, 1), (8, 1), (9, 1), (10, 1)]) := by kernel_rfl
theorem za97 : zAgg Try.prog 97 = some [.im (.int .u64 0), .im (.int .u64 0), .im (.int .u32 0), .im (.int .u8 0), .im (.int .u8 0), .im (.int .u8 0), .im (.int .u8 0), .im .nilFunc, .im (.pointer none), .im (.int .i32 0), .im (.int .i32 0)] := by kernel_rfl
theorem ag97 : isAggT Try.prog 97 = true := by kernel_rfl
attribute [go_sem] Try.underlying1 sz1 ei1 ag1 Try.underlying2 sz2 ei2 zi2 ag2 Try.underlying3 sz3 ei3 zi3 ag3 Try.underlying4 sz4 ei4 ag4 Try.underlying5 sz5 ei5 ag5 Try.underlying6 sz6 ei6 ag6 Try.underlying7 sz7 ei7 bi7 za7 ag7 Try.underlying8 sz8 ei8 bi8 za8 ag8 Try.underlying9 sz9 ei9 ag9 Try.underlying10 sz10 ei10 ag10 Try.underlying11 sz11 ei11 ag11 Try.underlying12 sz12 ei12 ag12 Try.underlying13 sz13 ei13 bi13 za13 ag13 Try.underlying14 sz14 ei14 bi14 za14 ag14 Try.underlying15 sz15 ei15 ag15 Try.underlying16 sz16 ei16 ag16 Try.underlying17 sz17 ei17 ag17 Try.underlying18 sz18 ei18 bi18 za18 ag18 Try.underlying19 sz19 ei19 bi19 za19 ag19 Try.underlying20 sz20 ei20 ag20 Try.underlying21 sz21 ei21 ag21 Try.underlying22 sz22 ei22 ag22 Try.underlying23 sz23 ei23 ag23 Try.underlying24 sz24 ei24 ag24 Try.underlying25 sz25 ei25 ag25 Try.underlying26 sz26 ei26 zi26 ag26 Try.underlying28 sz28 ei28 ag28 Try.underlying30 sz30 ei30 ag30 Try.underlying31 sz31 ei31 ag31 Try.underlying32 sz32 ei32 ag32 Try.underlying33 sz33 ei33 ag33 Try.underlying34 sz34 ei34 ag34 Try.underlying35 sz35 ei35 ag35 Try.underlying36 sz36 ei36 ag36 Try.underlying38 sz38 ei38 ag38 Try.underlying39 sz39 ei39 ag39 Try.underlying40 sz40 ei40 ag40 Try.underlying41 sz41 ei41 bi41 ag41 Try.underlying42 sz42 ei42 bi42 ag42 Try.underlying43 sz43 ei43 ag43 Try.underlying44 sz44 ei44 bi44 ag44 Try.underlying45 sz45 ei45 ag45 Try.underlying46 sz46 ei46 ag46 Try.underlying47 sz47 ei47 ag47 Try.underlying48 sz48 ei48 ag48 Try.underlying49 sz49 ei49 ag49 Try.underlying50 sz50 ei50 ag50 Try.underlying51 sz51 ei51 ag51 Try.underlying52 sz52 ei52 ag52 Try.underlying53 sz53 ei53 bi53 za53 ag53 Try.underlying54 sz54 ei54 bi54 za54 ag54 Try.underlying55 sz55 ei55 ag55 Try.underlying56 sz56 ei56 bi56 ag56 Try.underlying57 sz57 ei57 ag57 Try.underlying58 sz58 ei58 ag58 Try.underlying59 sz59 ei59 ag59 Try.underlying60 sz60 ei60 ag60 Try.underlying61 sz61 ei61 ag61 Try.underlying62 sz62 ei62 ag62 Try.underlying64 sz64 ei64 ag64 Try.underlying65 sz65 ei65 ag65 Try.underlying66 sz66 ei66 ag66 Try.underlying67 sz67 ei67 bi67 ag67 Try.underlying68 sz68 ei68 ag68 Try.underlying69 sz69 ei69 ag69 Try.underlying70 sz70 ei70 ag70 Try.underlying71 sz71 ei71 ag71 Try.underlying72 sz72 ei72 bi72 za72 ag72 Try.underlying73 sz73 ei73 bi73 za73 ag73 Try.underlying74 sz74 ei74 ag74 Try.underlying75 sz75 ei75 ag75 Try.underlying76 sz76 ei76 ag76 Try.underlying77 sz77 ei77 ag77 Try.underlying79 sz79 ei79 ag79 Try.underlying80 sz80 ei80 ag80 Try.underlying81 sz81 ei81 ag81 Try.underlying82 sz82 ei82 ag82 Try.underlying83 sz83 ei83 ag83 Try.underlying84 sz84 ei84 bi84 za84 ag84 Try.underlying85 sz85 ei85 bi85 za85 ag85 Try.underlying86 sz86 ei86 bi86 ag86 Try.underlying87 sz87 ei87 bi87 za87 ag87 Try.underlying88 sz88 ei88 bi88 za88 ag88 Try.underlying89 sz89 ei89 ag89 Try.underlying90 sz90 ei90 ag90 Try.underlying91 sz91 ei91 ag91 Try.underlying92 sz92 ei92 ag92 Try.underlying93 sz93 ei93 ag93 Try.underlying94 sz94 ei94 ag94 Try.underlying95 sz95 ei95 ag95 Try.underlying96 sz96 ei96 bi96 za96 ag96 Try.underlying97 sz97 ei97 bi97 za97 ag97
end Go.Proofs.Ytgiihapbgpnkkaa
