/-
  OF EACH TYPE OF THE TRANSLATION: its cells, its bytes, its zero, where the parts of a literal lie. Printed by program (gen_hty.py).
-/
import Derived.Test.YtllemobnfpljfaaProg
import Derived.Test.YtllemobnfpljfaaHs16
namespace Go.Proofs.Ytllemobnfpljfaa
open Go Go.Hs
theorem sz1 : szOf Try.prog 1 = some 1 := by kernel_rfl
theorem ei1 : eInfo Try.prog 1 = some (1, 8, [.im .nilFunc]) := by kernel_rfl
theorem ag1 : isAggT Try.prog 1 = false := by kernel_rfl
theorem sz2 : szOf Try.prog 2 = some 1 := by kernel_rfl
theorem ei2 : eInfo Try.prog 2 = some (1, 8, [.im (.int .i64 0)]) := by kernel_rfl
theorem zi2 : zInt Try.prog 2 = true := by kernel_rfl
theorem ag2 : isAggT Try.prog 2 = false := by kernel_rfl
theorem sz3 : szOf Try.prog 3 = some 1 := by kernel_rfl
theorem ei3 : eInfo Try.prog 3 = some (1, 8, [.im (.int .i64 0)]) := by kernel_rfl
theorem zi3 : zInt Try.prog 3 = true := by kernel_rfl
theorem ag3 : isAggT Try.prog 3 = false := by kernel_rfl
theorem sz4 : szOf Try.prog 4 = some 1 := by kernel_rfl
theorem ei4 : eInfo Try.prog 4 = some (1, 1, [.im (.bool false)]) := by kernel_rfl
theorem ag4 : isAggT Try.prog 4 = false := by kernel_rfl
theorem sz5 : szOf Try.prog 5 = some 1 := by kernel_rfl
theorem ei5 : eInfo Try.prog 5 = some (1, 1, [.im (.int .u8 0)]) := by kernel_rfl
theorem ag5 : isAggT Try.prog 5 = false := by kernel_rfl
theorem sz6 : szOf Try.prog 6 = some 1 := by kernel_rfl
theorem ei6 : eInfo Try.prog 6 = some (1, 1, [.im (.int .u8 0)]) := by kernel_rfl
theorem ag6 : isAggT Try.prog 6 = false := by kernel_rfl
theorem sz7 : szOf Try.prog 7 = some 4 := by kernel_rfl
theorem ei7 : eInfo Try.prog 7 = some (4, 24, [.im (.int .i64 0), .im (.int .i64 0), .im (.bool false), .im (.int .u8 0)]) := by kernel_rfl
theorem bi7 : bInfo Try.prog 7 = some ([.im (.int .i64 0), .im (.int .i64 0), .im (.bool false), .im (.int .u8 0)], .str [(0, 1), (1, 1), (2, 1), (3, 1)]) := by kernel_rfl
theorem za7 : zAgg Try.prog 7 = some [.im (.int .i64 0), .im (.int .i64 0), .im (.bool false), .im (.int .u8 0)] := by kernel_rfl
theorem ag7 : isAggT Try.prog 7 = true := by kernel_rfl
theorem sz8 : szOf Try.prog 8 = some 4 := by kernel_rfl
theorem ei8 : eInfo Try.prog 8 = some (4, 24, [.im (.int .i64 0), .im (.int .i64 0), .im (.bool false), .im (.int .u8 0)]) := by kernel_rfl
theorem bi8 : bInfo Try.prog 8 = some ([.im (.int .i64 0), .im (.int .i64 0), .im (.bool false), .im (.int .u8 0)], .str [(0, 1), (1, 1), (2, 1), (3, 1)]) := by kernel_rfl
theorem za8 : zAgg Try.prog 8 = some [.im (.int .i64 0), .im (.int .i64 0), .im (.bool false), .im (.int .u8 0)] := by kernel_rfl
theorem ag8 : isAggT Try.prog 8 = true := by kernel_rfl
theorem sz9 : szOf Try.prog 9 = some 1 := by kernel_rfl
theorem ei9 : eInfo Try.prog 9 = some (1, 16, [.im (.string .empty)]) := by kernel_rfl
theorem ag9 : isAggT Try.prog 9 = false := by kernel_rfl
theorem sz10 : szOf Try.prog 10 = some 1 := by kernel_rfl
theorem ei10 : eInfo Try.prog 10 = some (1, 16, [.im (.string .empty)]) := by kernel_rfl
theorem ag10 : isAggT Try.prog 10 = false := by kernel_rfl
theorem sz11 : szOf Try.prog 11 = some 1 := by kernel_rfl
theorem ei11 : eInfo Try.prog 11 = some (1, 16, [.im (.string .empty)]) := by kernel_rfl
theorem ag11 : isAggT Try.prog 11 = false := by kernel_rfl
theorem sz12 : szOf Try.prog 12 = some 1 := by kernel_rfl
theorem ei12 : eInfo Try.prog 12 = some (1, 8, [.im (.int .u64 0)]) := by kernel_rfl
theorem ag12 : isAggT Try.prog 12 = false := by kernel_rfl
theorem sz13 : szOf Try.prog 13 = some 2 := by kernel_rfl
theorem ei13 : eInfo Try.prog 13 = some (2, 24, [.im (.string .empty), .im (.int .u64 0)]) := by kernel_rfl
theorem bi13 : bInfo Try.prog 13 = some ([.im (.string .empty), .im (.int .u64 0)], .str [(0, 1), (1, 1)]) := by kernel_rfl
theorem za13 : zAgg Try.prog 13 = some [.im (.string .empty), .im (.int .u64 0)] := by kernel_rfl
theorem ag13 : isAggT Try.prog 13 = true := by kernel_rfl
theorem sz14 : szOf Try.prog 14 = some 2 := by kernel_rfl
theorem ei14 : eInfo Try.prog 14 = some (2, 24, [.im (.string .empty), .im (.int .u64 0)]) := by kernel_rfl
theorem bi14 : bInfo Try.prog 14 = some ([.im (.string .empty), .im (.int .u64 0)], .str [(0, 1), (1, 1)]) := by kernel_rfl
theorem za14 : zAgg Try.prog 14 = some [.im (.string .empty), .im (.int .u64 0)] := by kernel_rfl
theorem ag14 : isAggT Try.prog 14 = true := by kernel_rfl
theorem sz15 : szOf Try.prog 15 = some 1 := by kernel_rfl
theorem ei15 : eInfo Try.prog 15 = some (1, 8, [.im (.pointer none)]) := by kernel_rfl
theorem ag15 : isAggT Try.prog 15 = false := by kernel_rfl
theorem sz16 : szOf Try.prog 16 = some 1 := by kernel_rfl
theorem ei16 : eInfo Try.prog 16 = some (1, 8, [.im (.pointer none)]) := by kernel_rfl
theorem ag16 : isAggT Try.prog 16 = false := by kernel_rfl
theorem sz17 : szOf Try.prog 17 = some 1 := by kernel_rfl
theorem ei17 : eInfo Try.prog 17 = some (1, 8, [.im (.pointer none)]) := by kernel_rfl
theorem ag17 : isAggT Try.prog 17 = false := by kernel_rfl
theorem sz18 : szOf Try.prog 18 = some 1 := by kernel_rfl
theorem ei18 : eInfo Try.prog 18 = some (1, 8, [.im (.pointer none)]) := by kernel_rfl
theorem bi18 : bInfo Try.prog 18 = some ([.im (.pointer none)], .str [(0, 1)]) := by kernel_rfl
theorem za18 : zAgg Try.prog 18 = some [.im (.pointer none)] := by kernel_rfl
theorem ag18 : isAggT Try.prog 18 = true := by kernel_rfl
theorem sz19 : szOf Try.prog 19 = some 1 := by kernel_rfl
theorem ei19 : eInfo Try.prog 19 = some (1, 8, [.im (.pointer none)]) := by kernel_rfl
theorem bi19 : bInfo Try.prog 19 = some ([.im (.pointer none)], .str [(0, 1)]) := by kernel_rfl
theorem za19 : zAgg Try.prog 19 = some [.im (.pointer none)] := by kernel_rfl
theorem ag19 : isAggT Try.prog 19 = true := by kernel_rfl
theorem sz20 : szOf Try.prog 20 = some 1 := by kernel_rfl
theorem ei20 : eInfo Try.prog 20 = some (1, 16, [.im .nilIface]) := by kernel_rfl
theorem ag20 : isAggT Try.prog 20 = false := by kernel_rfl
theorem sz21 : szOf Try.prog 21 = some 1 := by kernel_rfl
theorem ei21 : eInfo Try.prog 21 = some (1, 4, [.im (.int .i32 0)]) := by kernel_rfl
theorem ag21 : isAggT Try.prog 21 = false := by kernel_rfl
theorem sz22 : szOf Try.prog 22 = some 1 := by kernel_rfl
theorem ei22 : eInfo Try.prog 22 = some (1, 24, [.nil]) := by kernel_rfl
theorem ag22 : isAggT Try.prog 22 = false := by kernel_rfl
theorem sz23 : szOf Try.prog 23 = some 1 := by kernel_rfl
theorem ei23 : eInfo Try.prog 23 = some (1, 24, [.nil]) := by kernel_rfl
theorem ag23 : isAggT Try.prog 23 = false := by kernel_rfl
theorem sz24 : szOf Try.prog 24 = some 1 := by kernel_rfl
theorem ei24 : eInfo Try.prog 24 = some (1, 8, [.im .nilFunc]) := by kernel_rfl
theorem ag24 : isAggT Try.prog 24 = false := by kernel_rfl
theorem sz25 : szOf Try.prog 25 = some 1 := by kernel_rfl
theorem ei25 : eInfo Try.prog 25 = some (1, 24, [.nil]) := by kernel_rfl
theorem ag25 : isAggT Try.prog 25 = false := by kernel_rfl
theorem sz27 : szOf Try.prog 27 = some 1 := by kernel_rfl
theorem ei27 : eInfo Try.prog 27 = some (1, 8, [.im .nilFunc]) := by kernel_rfl
theorem ag27 : isAggT Try.prog 27 = false := by kernel_rfl
theorem sz28 : szOf Try.prog 28 = some 1 := by kernel_rfl
theorem ei28 : eInfo Try.prog 28 = some (1, 8, [.im .nilFunc]) := by kernel_rfl
theorem ag28 : isAggT Try.prog 28 = false := by kernel_rfl
theorem sz29 : szOf Try.prog 29 = some 1 := by kernel_rfl
theorem ei29 : eInfo Try.prog 29 = some (1, 8, [.im .nilFunc]) := by kernel_rfl
theorem ag29 : isAggT Try.prog 29 = false := by kernel_rfl
theorem sz30 : szOf Try.prog 30 = some 1 := by kernel_rfl
theorem ei30 : eInfo Try.prog 30 = some (1, 8, [.im .nilFunc]) := by kernel_rfl
theorem ag30 : isAggT Try.prog 30 = false := by kernel_rfl
theorem sz31 : szOf Try.prog 31 = some 1 := by kernel_rfl
theorem ei31 : eInfo Try.prog 31 = some (1, 8, [.im .nilFunc]) := by kernel_rfl
theorem ag31 : isAggT Try.prog 31 = false := by kernel_rfl
theorem sz32 : szOf Try.prog 32 = some 1 := by kernel_rfl
theorem ei32 : eInfo Try.prog 32 = some (1, 8, [.im .nilFunc]) := by kernel_rfl
theorem ag32 : isAggT Try.prog 32 = false := by kernel_rfl
theorem sz33 : szOf Try.prog 33 = some 1 := by kernel_rfl
theorem ei33 : eInfo Try.prog 33 = some (1, 8, [.im .nilFunc]) := by kernel_rfl
theorem ag33 : isAggT Try.prog 33 = false := by kernel_rfl
theorem sz34 : szOf Try.prog 34 = some 1 := by kernel_rfl
theorem ei34 : eInfo Try.prog 34 = some (1, 24, [.nil]) := by kernel_rfl
theorem ag34 : isAggT Try.prog 34 = false := by kernel_rfl
theorem sz35 : szOf Try.prog 35 = some 1 := by kernel_rfl
theorem ei35 : eInfo Try.prog 35 = some (1, 8, [.im .nilFunc]) := by kernel_rfl
theorem ag35 : isAggT Try.prog 35 = false := by kernel_rfl
theorem sz36 : szOf Try.prog 36 = some 1 := by kernel_rfl
theorem ei36 : eInfo Try.prog 36 = some (1, 8, [.im .nilFunc]) := by kernel_rfl
theorem ag36 : isAggT Try.prog 36 = false := by kernel_rfl
theorem sz37 : szOf Try.prog 37 = some 5 := by kernel_rfl
theorem ei37 : eInfo Try.prog 37 = some (5, 72, [.nil, .nil, .im (.int .i64 0), .im (.int .i64 0), .im (.int .i64 0)]) := by kernel_rfl
theorem bi37 : bInfo Try.prog 37 = some ([.nil, .nil, .im (.int .i64 0), .im (.int .i64 0), .im (.int .i64 0)], .str [(0, 1), (1, 1), (2, 1), (3, 1), (4, 1)]) := by kernel_rfl
theorem za37 : zAgg Try.prog 37 = some [.nil, .nil, .im (.int .i64 0), .im (.int .i64 0), .im (.int .i64 0)] := by kernel_rfl
theorem ag37 : isAggT Try.prog 37 = true := by kernel_rfl
theorem sz38 : szOf Try.prog 38 = some 5 := by kernel_rfl
theorem ei38 : eInfo Try.prog 38 = some (5, 72, [.nil, .nil, .im (.int .i64 0), .im (.int .i64 0), .im (.int .i64 0)]) := by kernel_rfl
theorem bi38 : bInfo Try.prog 38 = some ([.nil, .nil, .im (.int .i64 0), .im (.int .i64 0), .im (.int .i64 0)], .str [(0, 1), (1, 1), (2, 1), (3, 1), (4, 1)]) := by kernel_rfl
theorem za38 : zAgg Try.prog 38 = some [.nil, .nil, .im (.int .i64 0), .im (.int .i64 0), .im (.int .i64 0)] := by kernel_rfl
theorem ag38 : isAggT Try.prog 38 = true := by kernel_rfl
theorem sz39 : szOf Try.prog 39 = some 1 := by kernel_rfl
theorem ei39 : eInfo Try.prog 39 = some (1, 8, [.im .nilFunc]) := by kernel_rfl
theorem ag39 : isAggT Try.prog 39 = false := by kernel_rfl
theorem sz40 : szOf Try.prog 40 = some 1 := by kernel_rfl
theorem ei40 : eInfo Try.prog 40 = some (1, 8, [.im .nilFunc]) := by kernel_rfl
theorem ag40 : isAggT Try.prog 40 = false := by kernel_rfl
theorem sz41 : szOf Try.prog 41 = some 1 := by kernel_rfl
theorem ei41 : eInfo Try.prog 41 = some (1, 8, [.im .nilFunc]) := by kernel_rfl
theorem ag41 : isAggT Try.prog 41 = false := by kernel_rfl
theorem sz42 : szOf Try.prog 42 = some 1 := by kernel_rfl
theorem ei42 : eInfo Try.prog 42 = some (1, 24, [.nil]) := by kernel_rfl
theorem ag42 : isAggT Try.prog 42 = false := by kernel_rfl
theorem sz43 : szOf Try.prog 43 = some 1 := by kernel_rfl
theorem ei43 : eInfo Try.prog 43 = some (1, 8, [.im .nilFunc]) := by kernel_rfl
theorem ag43 : isAggT Try.prog 43 = false := by kernel_rfl
theorem sz44 : szOf Try.prog 44 = some 1 := by kernel_rfl
theorem ei44 : eInfo Try.prog 44 = some (1, 8, [.im .nilFunc]) := by kernel_rfl
theorem ag44 : isAggT Try.prog 44 = false := by kernel_rfl
theorem sz45 : szOf Try.prog 45 = some 1 := by kernel_rfl
theorem ei45 : eInfo Try.prog 45 = some (1, 24, [.nil]) := by kernel_rfl
theorem ag45 : isAggT Try.prog 45 = false := by kernel_rfl
theorem sz46 : szOf Try.prog 46 = some 1 := by kernel_rfl
theorem ei46 : eInfo Try.prog 46 = some (1, 24, [.nil]) := by kernel_rfl
theorem ag46 : isAggT Try.prog 46 = false := by kernel_rfl
theorem sz47 : szOf Try.prog 47 = some 1 := by kernel_rfl
theorem ei47 : eInfo Try.prog 47 = some (1, 8, [.im .nilFunc]) := by kernel_rfl
theorem ag47 : isAggT Try.prog 47 = false := by kernel_rfl
theorem sz48 : szOf Try.prog 48 = some 1 := by kernel_rfl
theorem ei48 : eInfo Try.prog 48 = some (1, 24, [.nil]) := by kernel_rfl
theorem ag48 : isAggT Try.prog 48 = false := by kernel_rfl
theorem sz49 : szOf Try.prog 49 = some 1 := by kernel_rfl
theorem ei49 : eInfo Try.prog 49 = some (1, 8, [.im .nilFunc]) := by kernel_rfl
theorem ag49 : isAggT Try.prog 49 = false := by kernel_rfl
theorem sz50 : szOf Try.prog 50 = some 1 := by kernel_rfl
theorem ei50 : eInfo Try.prog 50 = some (1, 8, [.im .nilFunc]) := by kernel_rfl
theorem ag50 : isAggT Try.prog 50 = false := by kernel_rfl
theorem sz51 : szOf Try.prog 51 = some 2 := by kernel_rfl
theorem ei51 : eInfo Try.prog 51 = some (2, 16, [.im (.int .i64 0), .im (.int .i64 0)]) := by kernel_rfl
theorem bi51 : bInfo Try.prog 51 = some ([.im (.int .i64 0), .im (.int .i64 0)], .str [(0, 1), (1, 1)]) := by kernel_rfl
theorem za51 : zAgg Try.prog 51 = some [.im (.int .i64 0), .im (.int .i64 0)] := by kernel_rfl
theorem ag51 : isAggT Try.prog 51 = true := by kernel_rfl
theorem sz52 : szOf Try.prog 52 = some 2 := by kernel_rfl
theorem ei52 : eInfo Try.prog 52 = some (2, 16, [.im (.int .i64 0), .im (.int .i64 0)]) := by kernel_rfl
theorem bi52 : bInfo Try.prog 52 = some ([.im (.int .i64 0), .im (.int .i64 0)], .str [(0, 1), (1, 1)]) := by kernel_rfl
theorem za52 : zAgg Try.prog 52 = some [.im (.int .i64 0), .im (.int .i64 0)] := by kernel_rfl
theorem ag52 : isAggT Try.prog 52 = true := by kernel_rfl
theorem sz53 : szOf Try.prog 53 = some 1 := by kernel_rfl
theorem ei53 : eInfo Try.prog 53 = some (1, 8, [.im .nilFunc]) := by kernel_rfl
theorem ag53 : isAggT Try.prog 53 = false := by kernel_rfl
theorem sz54 : szOf Try.prog 54 = some 2 := by kernel_rfl
theorem ei54 : eInfo Try.prog 54 = some (2, 48, [.nil, .nil]) := by kernel_rfl
theorem bi54 : bInfo Try.prog 54 = some ([.nil, .nil], .str [(0, 1), (1, 1)]) := by kernel_rfl
theorem za54 : zAgg Try.prog 54 = some [.nil, .nil] := by kernel_rfl
theorem ag54 : isAggT Try.prog 54 = true := by kernel_rfl
theorem sz55 : szOf Try.prog 55 = some 2 := by kernel_rfl
theorem ei55 : eInfo Try.prog 55 = some (2, 48, [.nil, .nil]) := by kernel_rfl
theorem bi55 : bInfo Try.prog 55 = some ([.nil, .nil], .str [(0, 1), (1, 1)]) := by kernel_rfl
theorem za55 : zAgg Try.prog 55 = some [.nil, .nil] := by kernel_rfl
theorem ag55 : isAggT Try.prog 55 = true := by kernel_rfl
theorem sz56 : szOf Try.prog 56 = some 1 := by kernel_rfl
theorem ei56 : eInfo Try.prog 56 = some (1, 24, [.nil]) := by kernel_rfl
theorem ag56 : isAggT Try.prog 56 = false := by kernel_rfl
theorem sz57 : szOf Try.prog 57 = some 3 := by kernel_rfl
theorem ei57 : eInfo Try.prog 57 = some (3, 56, [.nil, .nil, .im (.int .i64 0)]) := by kernel_rfl
theorem bi57 : bInfo Try.prog 57 = some ([.nil, .nil, .im (.int .i64 0)], .str [(0, 1), (1, 1), (2, 1)]) := by kernel_rfl
theorem za57 : zAgg Try.prog 57 = some [.nil, .nil, .im (.int .i64 0)] := by kernel_rfl
theorem ag57 : isAggT Try.prog 57 = true := by kernel_rfl
theorem sz58 : szOf Try.prog 58 = some 3 := by kernel_rfl
theorem ei58 : eInfo Try.prog 58 = some (3, 56, [.nil, .nil, .im (.int .i64 0)]) := by kernel_rfl
theorem bi58 : bInfo Try.prog 58 = some ([.nil, .nil, .im (.int .i64 0)], .str [(0, 1), (1, 1), (2, 1)]) := by kernel_rfl
theorem za58 : zAgg Try.prog 58 = some [.nil, .nil, .im (.int .i64 0)] := by kernel_rfl
theorem ag58 : isAggT Try.prog 58 = true := by kernel_rfl
theorem sz59 : szOf Try.prog 59 = some 1 := by kernel_rfl
theorem ei59 : eInfo Try.prog 59 = some (1, 8, [.im .nilFunc]) := by kernel_rfl
theorem ag59 : isAggT Try.prog 59 = false := by kernel_rfl
theorem sz60 : szOf Try.prog 60 = some 1 := by kernel_rfl
theorem ei60 : eInfo Try.prog 60 = some (1, 8, [.im .nilFunc]) := by kernel_rfl
theorem ag60 : isAggT Try.prog 60 = false := by kernel_rfl
theorem sz61 : szOf Try.prog 61 = some 1 := by kernel_rfl
theorem ei61 : eInfo Try.prog 61 = some (1, 8, [.im .nilFunc]) := by kernel_rfl
theorem ag61 : isAggT Try.prog 61 = false := by kernel_rfl
theorem sz62 : szOf Try.prog 62 = some 1 := by kernel_rfl
theorem ei62 : eInfo Try.prog 62 = some (1, 8, [.im .nilFunc]) := by kernel_rfl
theorem ag62 : isAggT Try.prog 62 = false := by kernel_rfl
theorem sz63 : szOf Try.prog 63 = some 1 := by kernel_rfl
theorem ei63 : eInfo Try.prog 63 = some (1, 8, [.im .nilFunc]) := by kernel_rfl
theorem ag63 : isAggT Try.prog 63 = false := by kernel_rfl
theorem sz64 : szOf Try.prog 64 = some 1 := by kernel_rfl
theorem ei64 : eInfo Try.prog 64 = some (1, 8, [.im .nilFunc]) := by kernel_rfl
theorem ag64 : isAggT Try.prog 64 = false := by kernel_rfl
theorem sz65 : szOf Try.prog 65 = some 1 := by kernel_rfl
theorem ei65 : eInfo Try.prog 65 = some (1, 8, [.im .nilFunc]) := by kernel_rfl
theorem ag65 : isAggT Try.prog 65 = false := by kernel_rfl
theorem sz67 : szOf Try.prog 67 = some 1 := by kernel_rfl
theorem ei67 : eInfo Try.prog 67 = some (1, 8, [.im .nilFunc]) := by kernel_rfl
theorem ag67 : isAggT Try.prog 67 = false := by kernel_rfl
theorem sz68 : szOf Try.prog 68 = some 3 := by kernel_rfl
theorem ei68 : eInfo Try.prog 68 = some (3, 40, [.im (.int .i64 0), .im (.int .i64 0), .nil]) := by kernel_rfl
theorem bi68 : bInfo Try.prog 68 = some ([.im (.int .i64 0), .im (.int .i64 0), .nil], .str [(0, 1), (1, 1), (2, 1)]) := by kernel_rfl
theorem za68 : zAgg Try.prog 68 = some [.im (.int .i64 0), .im (.int .i64 0), .nil] := by kernel_rfl
theorem ag68 : isAggT Try.prog 68 = true := by kernel_rfl
theorem sz69 : szOf Try.prog 69 = some 3 := by kernel_rfl
theorem ei69 : eInfo Try.prog 69 = some (3, 40, [.im (.int .i64 0), .im (.int .i64 0), .nil]) := by kernel_rfl
theorem bi69 : bInfo Try.prog 69 = some ([.im (.int .i64 0), .im (.int .i64 0), .nil], .str [(0, 1), (1, 1), (2, 1)]) := by kernel_rfl
theorem za69 : zAgg Try.prog 69 = some [.im (.int .i64 0), .im (.int .i64 0), .nil] := by kernel_rfl
theorem ag69 : isAggT Try.prog 69 = true := by kernel_rfl
theorem sz70 : szOf Try.prog 70 = some 1 := by kernel_rfl
theorem ei70 : eInfo Try.prog 70 = some (1, 8, [.im .nilFunc]) := by kernel_rfl
theorem ag70 : isAggT Try.prog 70 = false := by kernel_rfl
theorem sz71 : szOf Try.prog 71 = some 1 := by kernel_rfl
theorem ei71 : eInfo Try.prog 71 = some (1, 8, [.im .nilFunc]) := by kernel_rfl
theorem ag71 : isAggT Try.prog 71 = false := by kernel_rfl
theorem sz72 : szOf Try.prog 72 = some 1 := by kernel_rfl
theorem ei72 : eInfo Try.prog 72 = some (1, 8, [.im .nilFunc]) := by kernel_rfl
theorem ag72 : isAggT Try.prog 72 = false := by kernel_rfl
theorem sz73 : szOf Try.prog 73 = some 1 := by kernel_rfl
theorem ei73 : eInfo Try.prog 73 = some (1, 8, [.im .nilFunc]) := by kernel_rfl
theorem ag73 : isAggT Try.prog 73 = false := by kernel_rfl
theorem sz75 : szOf Try.prog 75 = some 1 := by kernel_rfl
theorem ei75 : eInfo Try.prog 75 = some (1, 8, [.im .nilFunc]) := by kernel_rfl
theorem ag75 : isAggT Try.prog 75 = false := by kernel_rfl
theorem sz76 : szOf Try.prog 76 = some 1 := by kernel_rfl
theorem ei76 : eInfo Try.prog 76 = some (1, 8, [.im .nilFunc]) := by kernel_rfl
theorem ag76 : isAggT Try.prog 76 = false := by kernel_rfl
theorem sz77 : szOf Try.prog 77 = some 1 := by kernel_rfl
theorem ei77 : eInfo Try.prog 77 = some (1, 8, [.im .nilFunc]) := by kernel_rfl
theorem ag77 : isAggT Try.prog 77 = false := by kernel_rfl
theorem sz78 : szOf Try.prog 78 = some 1 := by kernel_rfl
theorem ei78 : eInfo Try.prog 78 = some (1, 8, [.im .nilFunc]) := by kernel_rfl
theorem ag78 : isAggT Try.prog 78 = false := by kernel_rfl
theorem sz79 : szOf Try.prog 79 = some 1 := by kernel_rfl
theorem ei79 : eInfo Try.prog 79 = some (1, 24, [.nil]) := by kernel_rfl
theorem ag79 : isAggT Try.prog 79 = false := by kernel_rfl
theorem sz80 : szOf Try.prog 80 = some 3 := by kernel_rfl
theorem ei80 : eInfo Try.prog 80 = some (3, 56, [.im (.int .i64 0), .nil, .nil]) := by kernel_rfl
theorem bi80 : bInfo Try.prog 80 = some ([.im (.int .i64 0), .nil, .nil], .str [(0, 1), (1, 1), (2, 1)]) := by kernel_rfl
theorem za80 : zAgg Try.prog 80 = some [.im (.int .i64 0), .nil, .nil] := by kernel_rfl
theorem ag80 : isAggT Try.prog 80 = true := by kernel_rfl
theorem sz81 : szOf Try.prog 81 = some 3 := by kernel_rfl
theorem ei81 : eInfo Try.prog 81 = some (3, 56, [.im (.int .i64 0), .nil, .nil]) := by kernel_rfl
theorem bi81 : bInfo Try.prog 81 = some ([.im (.int .i64 0), .nil, .nil], .str [(0, 1), (1, 1), (2, 1)]) := by kernel_rfl
theorem za81 : zAgg Try.prog 81 = some [.im (.int .i64 0), .nil, .nil] := by kernel_rfl
theorem ag81 : isAggT Try.prog 81 = true := by kernel_rfl
theorem sz82 : szOf Try.prog 82 = some 1 := by kernel_rfl
theorem ei82 : eInfo Try.prog 82 = some (1, 8, [.im .nilFunc]) := by kernel_rfl
theorem ag82 : isAggT Try.prog 82 = false := by kernel_rfl
theorem sz83 : szOf Try.prog 83 = some 1 := by kernel_rfl
theorem ei83 : eInfo Try.prog 83 = some (1, 24, [.nil]) := by kernel_rfl
theorem ag83 : isAggT Try.prog 83 = false := by kernel_rfl
theorem sz84 : szOf Try.prog 84 = some 1 := by kernel_rfl
theorem ei84 : eInfo Try.prog 84 = some (1, 8, [.im .nilFunc]) := by kernel_rfl
theorem ag84 : isAggT Try.prog 84 = false := by kernel_rfl
theorem sz85 : szOf Try.prog 85 = some 1 := by kernel_rfl
theorem ei85 : eInfo Try.prog 85 = some (1, 24, [.nil]) := by kernel_rfl
theorem ag85 : isAggT Try.prog 85 = false := by kernel_rfl
theorem sz86 : szOf Try.prog 86 = some 1 := by kernel_rfl
theorem ei86 : eInfo Try.prog 86 = some (1, 8, [.im (.int .i64 0)]) := by kernel_rfl
theorem zi86 : zInt Try.prog 86 = true := by kernel_rfl
theorem ag86 : isAggT Try.prog 86 = false := by kernel_rfl
theorem sz88 : szOf Try.prog 88 = some 1 := by kernel_rfl
theorem ei88 : eInfo Try.prog 88 = some (1, 8, [.im .nilFunc]) := by kernel_rfl
theorem ag88 : isAggT Try.prog 88 = false := by kernel_rfl
theorem sz90 : szOf Try.prog 90 = some 1 := by kernel_rfl
theorem ei90 : eInfo Try.prog 90 = some (1, 8, [.im .nilFunc]) := by kernel_rfl
theorem ag90 : isAggT Try.prog 90 = false := by kernel_rfl
theorem sz91 : szOf Try.prog 91 = some 1 := by kernel_rfl
theorem ei91 : eInfo Try.prog 91 = some (1, 8, [.im .nilFunc]) := by kernel_rfl
theorem ag91 : isAggT Try.prog 91 = false := by kernel_rfl
theorem sz92 : szOf Try.prog 92 = some 1 := by kernel_rfl
theorem ei92 : eInfo Try.prog 92 = some (1, 8, [.im .nilFunc]) := by kernel_rfl
theorem ag92 : isAggT Try.prog 92 = false := by kernel_rfl
theorem sz94 : szOf Try.prog 94 = some 1 := by kernel_rfl
theorem ei94 : eInfo Try.prog 94 = some (1, 8, [.im .nilFunc]) := by kernel_rfl
theorem ag94 : isAggT Try.prog 94 = false := by kernel_rfl
theorem sz95 : szOf Try.prog 95 = some 1 := by kernel_rfl
theorem ei95 : eInfo Try.prog 95 = some (1, 8, [.im .nilFunc]) := by kernel_rfl
theorem ag95 : isAggT Try.prog 95 = false := by kernel_rfl
theorem sz96 : szOf Try.prog 96 = some 1 := by kernel_rfl
theorem ei96 : eInfo Try.prog 96 = some (1, 2, [.im (.int .u16 0)]) := by kernel_rfl
theorem ag96 : isAggT Try.prog 96 = false := by kernel_rfl
theorem sz97 : szOf Try.prog 97 = some 3 := by kernel_rfl
theorem ei97 : eInfo Try.prog 97 = some (3, 6, [.im (.int .u16 0), .im (.int .u16 0), .im (.int .u16 0)]) := by kernel_rfl
theorem bi97 : bInfo Try.prog 97 = some ([.im (.int .u16 0), .im (.int .u16 0), .im (.int .u16 0)], .arr 1) := by kernel_rfl
theorem ag97 : isAggT Try.prog 97 = true := by kernel_rfl
theorem sz98 : szOf Try.prog 98 = some 1 := by kernel_rfl
theorem ei98 : eInfo Try.prog 98 = some (1, 24, [.nil]) := by kernel_rfl
theorem ag98 : isAggT Try.prog 98 = false := by kernel_rfl
theorem sz99 : szOf Try.prog 99 = some 3 := by kernel_rfl
theorem ei99 : eInfo Try.prog 99 = some (3, 56, [.im (.int .i64 0), .nil, .nil]) := by kernel_rfl
theorem bi99 : bInfo Try.prog 99 = some ([.im (.int .i64 0), .nil, .nil], .str [(0, 1), (1, 1), (2, 1)]) := by kernel_rfl
theorem za99 : zAgg Try.prog 99 = some [.im (.int .i64 0), .nil, .nil] := by kernel_rfl
theorem ag99 : isAggT Try.prog 99 = true := by kernel_rfl
theorem sz100 : szOf Try.prog 100 = some 3 := by kernel_rfl
theorem ei100 : eInfo Try.prog 100 = some (3, 56, [.im (.int .i64 0), .nil, .nil]) := by kernel_rfl
theorem bi100 : bInfo Try.prog 100 = some ([.im (.int .i64 0), .nil, .nil], .str [(0, 1), (1, 1), (2, 1)]) := by kernel_rfl
theorem za100 : zAgg Try.prog 100 = some [.im (.int .i64 0), .nil, .nil] := by kernel_rfl
theorem ag100 : isAggT Try.prog 100 = true := by kernel_rfl
theorem sz101 : szOf Try.prog 101 = some 2 := by kernel_rfl
theorem ei101 : eInfo Try.prog 101 = some (2, 32, [.im (.int .i64 0), .nil]) := by kernel_rfl
theorem bi101 : bInfo Try.prog 101 = some ([.im (.int .i64 0), .nil], .str [(0, 1), (1, 1)]) := by kernel_rfl
theorem za101 : zAgg Try.prog 101 = some [.im (.int .i64 0), .nil] := by kernel_rfl
theorem ag101 : isAggT Try.prog 101 = true := by kernel_rfl
theorem sz102 : szOf Try.prog 102 = some 2 := by kernel_rfl
theorem ei102 : eInfo Try.prog 102 = some (2, 32, [.im (.int .i64 0), .nil]) := by kernel_rfl
theorem bi102 : bInfo Try.prog 102 = some ([.im (.int .i64 0), .nil], .str [(0, 1), (1, 1)]) := by kernel_rfl
theorem za102 : zAgg Try.prog 102 = some [.im (.int .i64 0), .nil] := by kernel_rfl
theorem ag102 : isAggT Try.prog 102 = true := by kernel_rfl
theorem sz103 : szOf Try.prog 103 = some 1 := by kernel_rfl
theorem ei103 : eInfo Try.prog 103 = some (1, 8, [.im .nilFunc]) := by kernel_rfl
theorem ag103 : isAggT Try.prog 103 = false := by kernel_rfl
theorem sz104 : szOf Try.prog 104 = some 1 := by kernel_rfl
theorem ei104 : eInfo Try.prog 104 = some (1, 8, [.im (.int .u64 0)]) := by kernel_rfl
theorem ag104 : isAggT Try.prog 104 = false := by kernel_rfl
theorem sz105 : szOf Try.prog 105 = some 4 := by kernel_rfl
theorem ei105 : eInfo Try.prog 105 = some (4, 32, [.im (.int .u64 0), .im (.int .u64 0), .im (.int .u64 0), .im (.int .u64 0)]) := by kernel_rfl
theorem bi105 : bInfo Try.prog 105 = some ([.im (.int .u64 0), .im (.int .u64 0), .im (.int .u64 0), .im (.int .u64 0)], .arr 1) := by kernel_rfl
theorem ag105 : isAggT Try.prog 105 = true := by kernel_rfl
theorem sz106 : szOf Try.prog 106 = some 4 := by kernel_rfl
theorem ei106 : eInfo Try.prog 106 = some (4, 32, [.im (.int .u64 0), .im (.int .u64 0), .im (.int .u64 0), .im (.int .u64 0)]) := by kernel_rfl
theorem bi106 : bInfo Try.prog 106 = some ([.im (.int .u64 0), .im (.int .u64 0), .im (.int .u64 0), .im (.int .u64 0)], .arr 1) := by kernel_rfl
theorem ag106 : isAggT Try.prog 106 = true := by kernel_rfl
theorem sz107 : szOf Try.prog 107 = some 1 := by kernel_rfl
theorem ei107 : eInfo Try.prog 107 = some (1, 8, [.im .nilFunc]) := by kernel_rfl
theorem ag107 : isAggT Try.prog 107 = false := by kernel_rfl
theorem sz108 : szOf Try.prog 108 = some 1 := by kernel_rfl
theorem ei108 : eInfo Try.prog 108 = some (1, 8, [.im .nilFunc]) := by kernel_rfl
theorem ag108 : isAggT Try.prog 108 = false := by kernel_rfl
theorem sz109 : szOf Try.prog 109 = some 1 := by kernel_rfl
theorem ei109 : eInfo Try.prog 109 = some (1, 8, [.im (.map none)]) := by kernel_rfl
theorem ag109 : isAggT Try.prog 109 = false := by kernel_rfl
theorem sz110 : szOf Try.prog 110 = some 1 := by kernel_rfl
theorem ei110 : eInfo Try.prog 110 = some (1, 8, [.im .nilFunc]) := by kernel_rfl
theorem ag110 : isAggT Try.prog 110 = false := by kernel_rfl
theorem sz112 : szOf Try.prog 112 = some 1 := by kernel_rfl
theorem ei112 : eInfo Try.prog 112 = some (1, 8, [.im .nilFunc]) := by kernel_rfl
theorem ag112 : isAggT Try.prog 112 = false := by kernel_rfl
theorem sz113 : szOf Try.prog 113 = some 8 := by kernel_rfl
theorem ei113 : eInfo Try.prog 113 = some (8, 64, [.im (.int .i64 0), .im (.int .i64 0), .im (.int .i64 0), .im (.int .i64 0), .im (.int .u64 0), .im (.int .u64 0), .im (.int .u64 0), .im (.int .u64 0)]) := by kernel_rfl
theorem bi113 : bInfo Try.prog 113 = some ([.im (.int .i64 0), .im (.int .i64 0), .im (.int .i64 0), .im (.int .i64 0), .im (.int .u64 0), .im (.int .u64 0), .im (.int .u64 0), .im (.int .u64 0)], .str [(0, 1), (1, 1), (2, 1), (3, 1), (4, 4)]) := by kernel_rfl
theorem za113 : zAgg Try.prog 113 = some [.im (.int .i64 0), .im (.int .i64 0), .im (.int .i64 0), .im (.int .i64 0), .im (.int .u64 0), .im (.int .u64 0), .im (.int .u64 0), .im (.int .u64 0)] := by kernel_rfl
theorem ag113 : isAggT Try.prog 113 = true := by kernel_rfl
theorem sz114 : szOf Try.prog 114 = some 8 := by kernel_rfl
theorem ei114 : eInfo Try.prog 114 = some (8, 64, [.im (.int .i64 0), .im (.int .i64 0), .im (.int .i64 0), .im (.int .i64 0), .im (.int .u64 0), .im (.int .u64 0), .im (.int .u64 0), .im (.int .u64 0)]) := by kernel_rfl
theorem bi114 : bInfo Try.prog 114 = some ([.im (.int .i64 0), .im (.int .i64 0), .im (.int .i64 0), .im (.int .i64 0), .im (.int .u64 0), .im (.int .u64 0), .im (.int .u64 0), .im (.int .u64 0)], .str [(0, 1), (1, 1), (2, 1), (3, 1), (4, 4)]) := by kernel_rfl
theorem za114 : zAgg Try.prog 114 = some [.im (.int .i64 0), .im (.int .i64 0), .im (.int .i64 0), .im (.int .i64 0), .im (.int .u64 0), .im (.int .u64 0), .im (.int .u64 0), .im (.int .u64 0)] := by kernel_rfl
theorem ag114 : isAggT Try.prog 114 = true := by kernel_rfl
theorem sz115 : szOf Try.prog 115 = some 1 := by kernel_rfl
theorem ei115 : eInfo Try.prog 115 = some (1, 8, [.im .nilFunc]) := by kernel_rfl
theorem ag115 : isAggT Try.prog 115 = false := by kernel_rfl
theorem sz116 : szOf Try.prog 116 = some 2 := by kernel_rfl
theorem ei116 : eInfo Try.prog 116 = some (2, 16, [.im (.int .i64 0), .im (.int .i64 0)]) := by kernel_rfl
theorem bi116 : bInfo Try.prog 116 = some ([.im (.int .i64 0), .im (.int .i64 0)], .str [(0, 1), (1, 1)]) := by kernel_rfl
theorem za116 : zAgg Try.prog 116 = some [.im (.int .i64 0), .im (.int .i64 0)] := by kernel_rfl
theorem ag116 : isAggT Try.prog 116 = true := by kernel_rfl
theorem sz117 : szOf Try.prog 117 = some 2 := by kernel_rfl
theorem ei117 : eInfo Try.prog 117 = some (2, 16, [.im (.int .i64 0), .im (.int .i64 0)]) := by kernel_rfl
theorem bi117 : bInfo Try.prog 117 = some ([.im (.int .i64 0), .im (.int .i64 0)], .str [(0, 1), (1, 1)]) := by kernel_rfl
theorem za117 : zAgg Try.prog 117 = some [.im (.int .i64 0), .im (.int .i64 0)] := by kernel_rfl
theorem ag117 : isAggT Try.prog 117 = true := by kernel_rfl
theorem sz118 : szOf Try.prog 118 = some 1 := by kernel_rfl
theorem ei118 : eInfo Try.prog 118 = some (1, 8, [.im .nilFunc]) := by kernel_rfl
theorem ag118 : isAggT Try.prog 118 = false := by kernel_rfl
theorem sz119 : szOf Try.prog 119 = some 1 := by kernel_rfl
theorem ei119 : eInfo Try.prog 119 = some (1, 8, [.im .nilFunc]) := by kernel_rfl
theorem ag119 : isAggT Try.prog 119 = false := by kernel_rfl
theorem sz120 : szOf Try.prog 120 = some 1 := by kernel_rfl
theorem ei120 : eInfo Try.prog 120 = some (1, 8, [.im .nilFunc]) := by kernel_rfl
theorem ag120 : isAggT Try.prog 120 = false := by kernel_rfl
theorem sz121 : szOf Try.prog 121 = some 1 := by kernel_rfl
theorem ei121 : eInfo Try.prog 121 = some (1, 16, [.im .nilIface]) := by kernel_rfl
theorem ag121 : isAggT Try.prog 121 = false := by kernel_rfl
theorem sz122 : szOf Try.prog 122 = some 1 := by kernel_rfl
theorem ei122 : eInfo Try.prog 122 = some (1, 16, [.im .nilIface]) := by kernel_rfl
theorem ag122 : isAggT Try.prog 122 = false := by kernel_rfl
theorem sz123 : szOf Try.prog 123 = some 1 := by kernel_rfl
theorem ei123 : eInfo Try.prog 123 = some (1, 8, [.im .nilFunc]) := by kernel_rfl
theorem ag123 : isAggT Try.prog 123 = false := by kernel_rfl
theorem sz124 : szOf Try.prog 124 = some 1 := by kernel_rfl
theorem ei124 : eInfo Try.prog 124 = some (1, 8, [.im .nilFunc]) := by kernel_rfl
theorem ag124 : isAggT Try.prog 124 = false := by kernel_rfl
theorem sz125 : szOf Try.prog 125 = some 1 := by kernel_rfl
theorem ei125 : eInfo Try.prog 125 = some (1, 8, [.im (.pointer none)]) := by kernel_rfl
theorem ag125 : isAggT Try.prog 125 = false := by kernel_rfl
theorem sz126 : szOf Try.prog 126 = some 1 := by kernel_rfl
theorem ei126 : eInfo Try.prog 126 = some (1, 8, [.im .nilFunc]) := by kernel_rfl
theorem ag126 : isAggT Try.prog 126 = false := by kernel_rfl
theorem sz127 : szOf Try.prog 127 = some 1 := by kernel_rfl
theorem ei127 : eInfo Try.prog 127 = some (1, 8, [.im .nilFunc]) := by kernel_rfl
theorem ag127 : isAggT Try.prog 127 = false := by kernel_rfl
theorem sz128 : szOf Try.prog 128 = some 1 := by kernel_rfl
theorem ei128 : eInfo Try.prog 128 = some (1, 8, [.im .nilFunc]) := by kernel_rfl
theorem ag128 : isAggT Try.prog 128 = false := by kernel_rfl
theorem sz129 : szOf Try.prog 129 = some 4 := by kernel_rfl
theorem ei129 : eInfo Try.prog 129 = some (4, 32, [.im (.int .i64 0), .im (.int .i64 0), .im (.int .i64 0), .im (.int .i64 0)]) := by kernel_rfl
theorem bi129 : bInfo Try.prog 129 = some ([.im (.int .i64 0), .im (.int .i64 0), .im (.int .i64 0), .im (.int .i64 0)], .str [(0, 1), (1, 1), (2, 1), (3, 1)]) := by kernel_rfl
theorem za129 : zAgg Try.prog 129 = some [.im (.int .i64 0), .im (.int .i64 0), .im (.int .i64 0), .im (.int .i64 0)] := by kernel_rfl
theorem ag129 : isAggT Try.prog 129 = true := by kernel_rfl
theorem sz130 : szOf Try.prog 130 = some 4 := by kernel_rfl
theorem ei130 : eInfo Try.prog 130 = some (4, 32, [.im (.int .i64 0), .im (.int .i64 0), .im (.int .i64 0), .im (.int .i64 0)]) := by kernel_rfl
theorem bi130 : bInfo Try.prog 130 = some ([.im (.int .i64 0), .im (.int .i64 0), .im (.int .i64 0), .im (.int .i64 0)], .str [(0, 1), (1, 1), (2, 1), (3, 1)]) := by kernel_rfl
theorem za130 : zAgg Try.prog 130 = some [.im (.int .i64 0), .im (.int .i64 0), .im (.int .i64 0), .im (.int .i64 0)] := by kernel_rfl
theorem ag130 : isAggT Try.prog 130 = true := by kernel_rfl
theorem sz131 : szOf Try.prog 131 = some 1 := by kernel_rfl
theorem ei131 : eInfo Try.prog 131 = some (1, 8, [.im .nilFunc]) := by kernel_rfl
theorem ag131 : isAggT Try.prog 131 = false := by kernel_rfl
theorem sz132 : szOf Try.prog 132 = some 1 := by kernel_rfl
theorem ei132 : eInfo Try.prog 132 = some (1, 8, [.im .nilFunc]) := by kernel_rfl
theorem ag132 : isAggT Try.prog 132 = false := by kernel_rfl
theorem sz133 : szOf Try.prog 133 = some 1 := by kernel_rfl
theorem ei133 : eInfo Try.prog 133 = some (1, 8, [.im .nilFunc]) := by kernel_rfl
theorem ag133 : isAggT Try.prog 133 = false := by kernel_rfl
theorem sz134 : szOf Try.prog 134 = some 1 := by kernel_rfl
theorem ei134 : eInfo Try.prog 134 = some (1, 8, [.im .nilFunc]) := by kernel_rfl
theorem ag134 : isAggT Try.prog 134 = false := by kernel_rfl
theorem sz135 : szOf Try.prog 135 = some 1 := by kernel_rfl
theorem ei135 : eInfo Try.prog 135 = some (1, 8, [.im .nilFunc]) := by kernel_rfl
theorem ag135 : isAggT Try.prog 135 = false := by kernel_rfl
theorem sz136 : szOf Try.prog 136 = some 1 := by kernel_rfl
theorem ei136 : eInfo Try.prog 136 = some (1, 8, [.im .nilFunc]) := by kernel_rfl
theorem ag136 : isAggT Try.prog 136 = false := by kernel_rfl
theorem sz137 : szOf Try.prog 137 = some 1 := by kernel_rfl
theorem ei137 : eInfo Try.prog 137 = some (1, 8, [.im .nilFunc]) := by kernel_rfl
theorem ag137 : isAggT Try.prog 137 = false := by kernel_rfl
theorem sz138 : szOf Try.prog 138 = some 4 := by kernel_rfl
theorem ei138 : eInfo Try.prog 138 = some (4, 96, [.nil, .nil, .nil, .nil]) := by kernel_rfl
theorem bi138 : bInfo Try.prog 138 = some ([.nil, .nil, .nil, .nil], .str [(0, 2), (2, 1), (3, 1)]) := by kernel_rfl
theorem za138 : zAgg Try.prog 138 = some [.nil, .nil, .nil, .nil] := by kernel_rfl
theorem ag138 : isAggT Try.prog 138 = true := by kernel_rfl
theorem sz139 : szOf Try.prog 139 = some 4 := by kernel_rfl
theorem ei139 : eInfo Try.prog 139 = some (4, 96, [.nil, .nil, .nil, .nil]) := by kernel_rfl
theorem bi139 : bInfo Try.prog 139 = some ([.nil, .nil, .nil, .nil], .str [(0, 2), (2, 1), (3, 1)]) := by kernel_rfl
theorem za139 : zAgg Try.prog 139 = some [.nil, .nil, .nil, .nil] := by kernel_rfl
theorem ag139 : isAggT Try.prog 139 = true := by kernel_rfl
theorem sz140 : szOf Try.prog 140 = some 1 := by kernel_rfl
theorem ei140 : eInfo Try.prog 140 = some (1, 8, [.im .nilFunc]) := by kernel_rfl
theorem ag140 : isAggT Try.prog 140 = false := by kernel_rfl
theorem sz141 : szOf Try.prog 141 = some 1 := by kernel_rfl
theorem ei141 : eInfo Try.prog 141 = some (1, 8, [.im .nilFunc]) := by kernel_rfl
theorem ag141 : isAggT Try.prog 141 = false := by kernel_rfl
theorem sz142 : szOf Try.prog 142 = some 1 := by kernel_rfl
theorem ei142 : eInfo Try.prog 142 = some (1, 8, [.im .nilFunc]) := by kernel_rfl
theorem ag142 : isAggT Try.prog 142 = false := by kernel_rfl
theorem sz143 : szOf Try.prog 143 = some 1 := by kernel_rfl
theorem ei143 : eInfo Try.prog 143 = some (1, 8, [.im .nilFunc]) := by kernel_rfl
theorem ag143 : isAggT Try.prog 143 = false := by kernel_rfl
theorem sz144 : szOf Try.prog 144 = some 1 := by kernel_rfl
theorem ei144 : eInfo Try.prog 144 = some (1, 8, [.im .nilFunc]) := by kernel_rfl
theorem ag144 : isAggT Try.prog 144 = false := by kernel_rfl
theorem sz146 : szOf Try.prog 146 = some 1 := by kernel_rfl
theorem ei146 : eInfo Try.prog 146 = some (1, 8, [.im .nilFunc]) := by kernel_rfl
theorem ag146 : isAggT Try.prog 146 = false := by kernel_rfl
theorem sz147 : szOf Try.prog 147 = some 1 := by kernel_rfl
theorem ei147 : eInfo Try.prog 147 = some (1, 8, [.im .nilFunc]) := by kernel_rfl
theorem ag147 : isAggT Try.prog 147 = false := by kernel_rfl
theorem sz148 : szOf Try.prog 148 = some 1 := by kernel_rfl
theorem ei148 : eInfo Try.prog 148 = some (1, 8, [.im .nilFunc]) := by kernel_rfl
theorem ag148 : isAggT Try.prog 148 = false := by kernel_rfl
theorem sz149 : szOf Try.prog 149 = some 1 := by kernel_rfl
theorem ei149 : eInfo Try.prog 149 = some (1, 8, [.im .nilFunc]) := by kernel_rfl
theorem ag149 : isAggT Try.prog 149 = false := by kernel_rfl
theorem sz150 : szOf Try.prog 150 = some 1 := by kernel_rfl
theorem ei150 : eInfo Try.prog 150 = some (1, 8, [.im .nilFunc]) := by kernel_rfl
theorem ag150 : isAggT Try.prog 150 = false := by kernel_rfl
theorem sz151 : szOf Try.prog 151 = some 1 := by kernel_rfl
theorem ei151 : eInfo Try.prog 151 = some (1, 8, [.im .nilFunc]) := by kernel_rfl
theorem ag151 : isAggT Try.prog 151 = false := by kernel_rfl
theorem sz152 : szOf Try.prog 152 = some 1 := by kernel_rfl
theorem ei152 : eInfo Try.prog 152 = some (1, 8, [.im .nilFunc]) := by kernel_rfl
theorem ag152 : isAggT Try.prog 152 = false := by kernel_rfl
theorem sz153 : szOf Try.prog 153 = some 1 := by kernel_rfl
theorem ei153 : eInfo Try.prog 153 = some (1, 8, [.im .nilFunc]) := by kernel_rfl
theorem ag153 : isAggT Try.prog 153 = false := by kernel_rfl
theorem sz154 : szOf Try.prog 154 = some 1 := by kernel_rfl
theorem ei154 : eInfo Try.prog 154 = some (1, 8, [.im .nilFunc]) := by kernel_rfl
theorem ag154 : isAggT Try.prog 154 = false := by kernel_rfl
theorem sz155 : szOf Try.prog 155 = some 1 := by kernel_rfl
theorem ei155 : eInfo Try.prog 155 = some (1, 8, [.im (.pointer none)]) := by kernel_rfl
theorem ag155 : isAggT Try.prog 155 = false := by kernel_rfl
theorem sz157 : szOf Try.prog 157 = some 1 := by kernel_rfl
theorem ei157 : eInfo Try.prog 157 = some (1, 8, [.im .nilFunc]) := by kernel_rfl
theorem ag157 : isAggT Try.prog 157 = false := by kernel_rfl
theorem sz158 : szOf Try.prog 158 = some 1 := by kernel_rfl
theorem ei158 : eInfo Try.prog 158 = some (1, 8, [.im .nilFunc]) := by kernel_rfl
theorem ag158 : isAggT Try.prog 158 = false := by kernel_rfl
theorem sz159 : szOf Try.prog 159 = some 1 := by kernel_rfl
theorem ei159 : eInfo Try.prog 159 = some (1, 8, [.im (.pointer none)]) := by kernel_rfl
theorem ag159 : isAggT Try.prog 159 = false := by kernel_rfl
theorem sz160 : szOf Try.prog 160 = some 2 := by kernel_rfl
theorem ei160 : eInfo Try.prog 160 = some (2, 32, [.im (.pointer none), .nil]) := by kernel_rfl
theorem bi160 : bInfo Try.prog 160 = some ([.im (.pointer none), .nil], .str [(0, 1), (1, 1)]) := by kernel_rfl
theorem za160 : zAgg Try.prog 160 = some [.im (.pointer none), .nil] := by kernel_rfl
theorem ag160 : isAggT Try.prog 160 = true := by kernel_rfl
theorem sz161 : szOf Try.prog 161 = some 2 := by kernel_rfl
theorem ei161 : eInfo Try.prog 161 = some (2, 32, [.im (.pointer none), .nil]) := by kernel_rfl
theorem bi161 : bInfo Try.prog 161 = some ([.im (.pointer none), .nil], .str [(0, 1), (1, 1)]) := by kernel_rfl
theorem za161 : zAgg Try.prog 161 = some [.im (.pointer none), .nil] := by kernel_rfl
theorem ag161 : isAggT Try.prog 161 = true := by kernel_rfl
theorem sz162 : szOf Try.prog 162 = some 1 := by kernel_rfl
theorem ei162 : eInfo Try.prog 162 = some (1, 8, [.im .nilFunc]) := by kernel_rfl
theorem ag162 : isAggT Try.prog 162 = false := by kernel_rfl
theorem sz163 : szOf Try.prog 163 = some 1 := by kernel_rfl
theorem ei163 : eInfo Try.prog 163 = some (1, 16, [.im .nilIface]) := by kernel_rfl
theorem ag163 : isAggT Try.prog 163 = false := by kernel_rfl
theorem sz164 : szOf Try.prog 164 = some 1 := by kernel_rfl
theorem ei164 : eInfo Try.prog 164 = some (1, 16, [.im .nilIface]) := by kernel_rfl
theorem ag164 : isAggT Try.prog 164 = false := by kernel_rfl
theorem sz165 : szOf Try.prog 165 = some 1 := by kernel_rfl
theorem ei165 : eInfo Try.prog 165 = some (1, 8, [.im .nilFunc]) := by kernel_rfl
theorem ag165 : isAggT Try.prog 165 = false := by kernel_rfl
theorem sz166 : szOf Try.prog 166 = some 1 := by kernel_rfl
theorem ei166 : eInfo Try.prog 166 = some (1, 8, [.im .nilFunc]) := by kernel_rfl
theorem ag166 : isAggT Try.prog 166 = false := by kernel_rfl
theorem sz167 : szOf Try.prog 167 = some 1 := by kernel_rfl
theorem ei167 : eInfo Try.prog 167 = some (1, 8, [.im .nilFunc]) := by kernel_rfl
theorem ag167 : isAggT Try.prog 167 = false := by kernel_rfl
theorem sz168 : szOf Try.prog 168 = some 1 := by kernel_rfl
theorem ei168 : eInfo Try.prog 168 = some (1, 8, [.im .nilFunc]) := by kernel_rfl
theorem ag168 : isAggT Try.prog 168 = false := by kernel_rfl
theorem sz169 : szOf Try.prog 169 = some 1 := by kernel_rfl
theorem ei169 : eInfo Try.prog 169 = some (1, 8, [.im (.int .i64 0)]) := by kernel_rfl
theorem bi169 : bInfo Try.prog 169 = some ([.im (.int .i64 0)], .str [(0, 1)]) := by kernel_rfl
theorem za169 : zAgg Try.prog 169 = some [.im (.int .i64 0)] := by kernel_rfl
theorem ag169 : isAggT Try.prog 169 = true := by kernel_rfl
theorem sz170 : szOf Try.prog 170 = some 1 := by kernel_rfl
theorem ei170 : eInfo Try.prog 170 = some (1, 8, [.im (.int .i64 0)]) := by kernel_rfl
theorem bi170 : bInfo Try.prog 170 = some ([.im (.int .i64 0)], .str [(0, 1)]) := by kernel_rfl
theorem za170 : zAgg Try.prog 170 = some [.im (.int .i64 0)] := by kernel_rfl
theorem ag170 : isAggT Try.prog 170 = true := by kernel_rfl
theorem sz171 : szOf Try.prog 171 = some 1 := by kernel_rfl
theorem ei171 : eInfo Try.prog 171 = some (1, 8, [.im (.int .i64 0)]) := by kernel_rfl
theorem bi171 : bInfo Try.prog 171 = some ([.im (.int .i64 0)], .str [(0, 1)]) := by kernel_rfl
theorem za171 : zAgg Try.prog 171 = some [.im (.int .i64 0)] := by kernel_rfl
theorem ag171 : isAggT Try.prog 171 = true := by kernel_rfl
theorem sz172 : szOf Try.prog 172 = some 1 := by kernel_rfl
theorem ei172 : eInfo Try.prog 172 = some (1, 8, [.im (.int .i64 0)]) := by kernel_rfl
theorem bi172 : bInfo Try.prog 172 = some ([.im (.int .i64 0)], .str [(0, 1)]) := by kernel_rfl
theorem za172 : zAgg Try.prog 172 = some [.im (.int .i64 0)] := by kernel_rfl
theorem ag172 : isAggT Try.prog 172 = true := by kernel_rfl
theorem sz173 : szOf Try.prog 173 = some 1 := by kernel_rfl
theorem ei173 : eInfo Try.prog 173 = some (1, 8, [.im (.int .i64 0)]) := by kernel_rfl
theorem bi173 : bInfo Try.prog 173 = some ([.im (.int .i64 0)], .str [(0, 1)]) := by kernel_rfl
theorem za173 : zAgg Try.prog 173 = some [.im (.int .i64 0)] := by kernel_rfl
theorem ag173 : isAggT Try.prog 173 = true := by kernel_rfl
theorem sz174 : szOf Try.prog 174 = some 1 := by kernel_rfl
theorem ei174 : eInfo Try.prog 174 = some (1, 8, [.im (.int .u64 0)]) := by kernel_rfl
theorem ag174 : isAggT Try.prog 174 = false := by kernel_rfl
theorem sz176 : szOf Try.prog 176 = some 1 := by kernel_rfl
theorem ei176 : eInfo Try.prog 176 = some (1, 8, [.im .nilFunc]) := by kernel_rfl
theorem ag176 : isAggT Try.prog 176 = false := by kernel_rfl
theorem sz177 : szOf Try.prog 177 = some 1 := by kernel_rfl
theorem ei177 : eInfo Try.prog 177 = some (1, 8, [.im .nilFunc]) := by kernel_rfl
theorem ag177 : isAggT Try.prog 177 = false := by kernel_rfl
theorem sz178 : szOf Try.prog 178 = some 1 := by kernel_rfl
theorem ei178 : eInfo Try.prog 178 = some (1, 8, [.im .nilFunc]) := by kernel_rfl
theorem ag178 : isAggT Try.prog 178 = false := by kernel_rfl
theorem sz179 : szOf Try.prog 179 = some 1 := by kernel_rfl
theorem ei179 : eInfo Try.prog 179 = some (1, 8, [.im .nilFunc]) := by kernel_rfl
theorem ag179 : isAggT Try.prog 179 = false := by kernel_rfl
theorem sz180 : szOf Try.prog 180 = some 1 := by kernel_rfl
theorem ei180 : eInfo Try.prog 180 = some (1, 8, [.im .nilFunc]) := by kernel_rfl
theorem ag180 : isAggT Try.prog 180 = false := by kernel_rfl
theorem sz182 : szOf Try.prog 182 = some 1 := by kernel_rfl
theorem ei182 : eInfo Try.prog 182 = some (1, 8, [.im .nilFunc]) := by kernel_rfl
theorem ag182 : isAggT Try.prog 182 = false := by kernel_rfl
theorem sz184 : szOf Try.prog 184 = some 1 := by kernel_rfl
theorem ei184 : eInfo Try.prog 184 = some (1, 8, [.im .nilFunc]) := by kernel_rfl
theorem ag184 : isAggT Try.prog 184 = false := by kernel_rfl
theorem sz185 : szOf Try.prog 185 = some 1 := by kernel_rfl
theorem ei185 : eInfo Try.prog 185 = some (1, 8, [.im .nilFunc]) := by kernel_rfl
theorem ag185 : isAggT Try.prog 185 = false := by kernel_rfl
theorem sz186 : szOf Try.prog 186 = some 1 := by kernel_rfl
theorem ei186 : eInfo Try.prog 186 = some (1, 8, [.im .nilFunc]) := by kernel_rfl
theorem ag186 : isAggT Try.prog 186 = false := by kernel_rfl
theorem sz188 : szOf Try.prog 188 = some 1 := by kernel_rfl
theorem ei188 : eInfo Try.prog 188 = some (1, 8, [.im .nilFunc]) := by kernel_rfl
theorem ag188 : isAggT Try.prog 188 = false := by kernel_rfl
theorem sz190 : szOf Try.prog 190 = some 1 := by kernel_rfl
theorem ei190 : eInfo Try.prog 190 = some (1, 8, [.im .nilFunc]) := by kernel_rfl
theorem ag190 : isAggT Try.prog 190 = false := by kernel_rfl
theorem sz191 : szOf Try.prog 191 = some 1 := by kernel_rfl
theorem ei191 : eInfo Try.prog 191 = some (1, 8, [.im .nilFunc]) := by kernel_rfl
theorem ag191 : isAggT Try.prog 191 = false := by kernel_rfl
theorem sz192 : szOf Try.prog 192 = some 1 := by kernel_rfl
theorem ei192 : eInfo Try.prog 192 = some (1, 8, [.im .nilFunc]) := by kernel_rfl
theorem ag192 : isAggT Try.prog 192 = false := by kernel_rfl
theorem sz193 : szOf Try.prog 193 = some 1 := by kernel_rfl
theorem ei193 : eInfo Try.prog 193 = some (1, 8, [.im .nilFunc]) := by kernel_rfl
theorem ag193 : isAggT Try.prog 193 = false := by kernel_rfl
theorem sz194 : szOf Try.prog 194 = some 1 := by kernel_rfl
theorem ei194 : eInfo Try.prog 194 = some (1, 8, [.im .nilFunc]) := by kernel_rfl
theorem ag194 : isAggT Try.prog 194 = false := by kernel_rfl
theorem sz196 : szOf Try.prog 196 = some 1 := by kernel_rfl
theorem ei196 : eInfo Try.prog 196 = some (1, 8, [.im .nilFunc]) := by kernel_rfl
theorem ag196 : isAggT Try.prog 196 = false := by kernel_rfl
theorem sz197 : szOf Try.prog 197 = some 2 := by kernel_rfl
theorem ei197 : eInfo Try.prog 197 = some (2, 32, [.nil, .im (.int .i64 0)]) := by kernel_rfl
theorem bi197 : bInfo Try.prog 197 = some ([.nil, .im (.int .i64 0)], .str [(0, 1), (1, 1)]) := by kernel_rfl
theorem za197 : zAgg Try.prog 197 = some [.nil, .im (.int .i64 0)] := by kernel_rfl
theorem ag197 : isAggT Try.prog 197 = true := by kernel_rfl
theorem sz198 : szOf Try.prog 198 = some 2 := by kernel_rfl
theorem ei198 : eInfo Try.prog 198 = some (2, 32, [.nil, .im (.int .i64 0)]) := by kernel_rfl
theorem bi198 : bInfo Try.prog 198 = some ([.nil, .im (.int .i64 0)], .str [(0, 1), (1, 1)]) := by kernel_rfl
theorem za198 : zAgg Try.prog 198 = some [.nil, .im (.int .i64 0)] := by kernel_rfl
theorem ag198 : isAggT Try.prog 198 = true := by kernel_rfl
theorem sz199 : szOf Try.prog 199 = some 9 := by kernel_rfl
theorem ei199 : eInfo Try.prog 199 = some (9, 136, [.nil, .im (.int .i64 0), .im (.int .i64 0), .nil, .nil, .im (.int .i64 0), .im (.int .i64 0), .im (.int .i64 0), .nil]) := by kernel_rfl
theorem bi199 : bInfo Try.prog 199 = some ([.nil, .im (.int .i64 0), .im (.int .i64 0), .nil, .nil, .im (.int .i64 0), .im (.int .i64 0), .im (.int .i64 0), .nil], .str [(0, 2), (2, 3), (5, 1), (6, 1), (7, 1), (8, 1)]) := by kernel_rfl
theorem za199 : zAgg Try.prog 199 = some [.nil, .im (.int .i64 0), .im (.int .i64 0), .nil, .nil, .im (.int .i64 0), .im (.int .i64 0), .im (.int .i64 0), .nil] := by kernel_rfl
theorem ag199 : isAggT Try.prog 199 = true := by kernel_rfl
theorem sz200 : szOf Try.prog 200 = some 9 := by kernel_rfl
theorem ei200 : eInfo Try.prog 200 = some (9, 136, [.nil, .im (.int .i64 0), .im (.int .i64 0), .nil, .nil, .im (.int .i64 0), .im (.int .i64 0), .im (.int .i64 0), .nil]) := by kernel_rfl
theorem bi200 : bInfo Try.prog 200 = some ([.nil, .im (.int .i64 0), .im (.int .i64 0), .nil, .nil, .im (.int .i64 0), .im (.int .i64 0), .im (.int .i64 0), .nil], .str [(0, 2), (2, 3), (5, 1), (6, 1), (7, 1), (8, 1)]) := by kernel_rfl
theorem za200 : zAgg Try.prog 200 = some [.nil, .im (.int .i64 0), .im (.int .i64 0), .nil, .nil, .im (.int .i64 0), .im (.int .i64 0), .im (.int .i64 0), .nil] := by kernel_rfl
theorem ag200 : isAggT Try.prog 200 = true := by kernel_rfl
theorem sz201 : szOf Try.prog 201 = some 1 := by kernel_rfl
theorem ei201 : eInfo Try.prog 201 = some (1, 8, [.im (.pointer none)]) := by kernel_rfl
theorem ag201 : isAggT Try.prog 201 = false := by kernel_rfl
theorem sz202 : szOf Try.prog 202 = some 1 := by kernel_rfl
theorem ei202 : eInfo Try.prog 202 = some (1, 8, [.im .nilFunc]) := by kernel_rfl
theorem ag202 : isAggT Try.prog 202 = false := by kernel_rfl
theorem sz203 : szOf Try.prog 203 = some 1 := by kernel_rfl
theorem ei203 : eInfo Try.prog 203 = some (1, 8, [.im .nilFunc]) := by kernel_rfl
theorem ag203 : isAggT Try.prog 203 = false := by kernel_rfl
theorem sz204 : szOf Try.prog 204 = some 1 := by kernel_rfl
theorem ei204 : eInfo Try.prog 204 = some (1, 8, [.im .nilFunc]) := by kernel_rfl
theorem ag204 : isAggT Try.prog 204 = false := by kernel_rfl
theorem sz205 : szOf Try.prog 205 = some 10 := by kernel_rfl
theorem ei205 : eInfo Try.prog 205 = some (10, 10, [.im (.bool false), .im (.bool false), .im (.bool false), .im (.bool false), .im (.bool false), .im (.bool false), .im (.bool false), .im (.bool false), .im (.bool false), .im (.bool false)]) := by kernel_rfl
theorem bi205 : bInfo Try.prog 205 = some ([.im (.bool false), .im (.bool false), .im (.bool false), .im (.bool false), .im (.bool false), .im (.bool false), .im (.bool false), .im (.bool false), .im (.bool false), .im (.bool false)], .arr 1) := by kernel_rfl
theorem ag205 : isAggT Try.prog 205 = true := by kernel_rfl
theorem sz206 : szOf Try.prog 206 = some 1 := by kernel_rfl
theorem ei206 : eInfo Try.prog 206 = some (1, 4, [.im (.int .u32 0)]) := by kernel_rfl
theorem ag206 : isAggT Try.prog 206 = false := by kernel_rfl
theorem sz208 : szOf Try.prog 208 = some 1 := by kernel_rfl
theorem ei208 : eInfo Try.prog 208 = some (1, 8, [.im .nilFunc]) := by kernel_rfl
theorem ag208 : isAggT Try.prog 208 = false := by kernel_rfl
theorem sz210 : szOf Try.prog 210 = some 1 := by kernel_rfl
theorem ei210 : eInfo Try.prog 210 = some (1, 8, [.im .nilFunc]) := by kernel_rfl
theorem ag210 : isAggT Try.prog 210 = false := by kernel_rfl
theorem sz211 : szOf Try.prog 211 = some 1 := by kernel_rfl
theorem ei211 : eInfo Try.prog 211 = some (1, 8, [.im .nilFunc]) := by kernel_rfl
theorem ag211 : isAggT Try.prog 211 = false := by kernel_rfl
theorem sz212 : szOf Try.prog 212 = some 1 := by kernel_rfl
theorem ei212 : eInfo Try.prog 212 = some (1, 8, [.im .nilFunc]) := by kernel_rfl
theorem ag212 : isAggT Try.prog 212 = false := by kernel_rfl
theorem sz213 : szOf Try.prog 213 = some 1 := by kernel_rfl
theorem ei213 : eInfo Try.prog 213 = some (1, 8, [.im .nilFunc]) := by kernel_rfl
theorem ag213 : isAggT Try.prog 213 = false := by kernel_rfl
theorem sz214 : szOf Try.prog 214 = some 1 := by kernel_rfl
theorem ei214 : eInfo Try.prog 214 = some (1, 8, [.im .nilFunc]) := by kernel_rfl
theorem ag214 : isAggT Try.prog 214 = false := by kernel_rfl
theorem sz215 : szOf Try.prog 215 = some 1 := by kernel_rfl
theorem ei215 : eInfo Try.prog 215 = some (1, 8, [.im .nilFunc]) := by kernel_rfl
theorem ag215 : isAggT Try.prog 215 = false := by kernel_rfl
theorem sz216 : szOf Try.prog 216 = some 1 := by kernel_rfl
theorem ei216 : eInfo Try.prog 216 = some (1, 8, [.im (.pointer none)]) := by kernel_rfl
theorem ag216 : isAggT Try.prog 216 = false := by kernel_rfl
theorem sz217 : szOf Try.prog 217 = some 1 := by kernel_rfl
theorem ei217 : eInfo Try.prog 217 = some (1, 8, [.im (.pointer none)]) := by kernel_rfl
theorem ag217 : isAggT Try.prog 217 = false := by kernel_rfl
theorem sz218 : szOf Try.prog 218 = some 1 := by kernel_rfl
theorem ei218 : eInfo Try.prog 218 = some (1, 8, [.im .nilFunc]) := by kernel_rfl
theorem ag218 : isAggT Try.prog 218 = false := by kernel_rfl
theorem sz219 : szOf Try.prog 219 = some 1 := by kernel_rfl
theorem ei219 : eInfo Try.prog 219 = some (1, 8, [.im .nilFunc]) := by kernel_rfl
theorem ag219 : isAggT Try.prog 219 = false := by kernel_rfl
theorem sz220 : szOf Try.prog 220 = some 4 := by kernel_rfl
theorem ei220 : eInfo Try.prog 220 = some (4, 40, [.im (.pointer none), .im (.pointer none), .im (.pointer none), .im (.string .empty)]) := by kernel_rfl
theorem bi220 : bInfo Try.prog 220 = some ([.im (.pointer none), .im (.pointer none), .im (.pointer none), .im (.string .empty)], .str [(0, 1), (1, 1), (2, 1), (3, 1)]) := by kernel_rfl
theorem za220 : zAgg Try.prog 220 = some [.im (.pointer none), .im (.pointer none), .im (.pointer none), .im (.string .empty)] := by kernel_rfl
theorem ag220 : isAggT Try.prog 220 = true := by kernel_rfl
theorem sz221 : szOf Try.prog 221 = some 4 := by kernel_rfl
theorem ei221 : eInfo Try.prog 221 = some (4, 40, [.im (.pointer none), .im (.pointer none), .im (.pointer none), .im (.string .empty)]) := by kernel_rfl
theorem bi221 : bInfo Try.prog 221 = some ([.im (.pointer none), .im (.pointer none), .im (.pointer none), .im (.string .empty)], .str [(0, 1), (1, 1), (2, 1), (3, 1)]) := by kernel_rfl
theorem za221 : zAgg Try.prog 221 = some [.im (.pointer none), .im (.pointer none), .im (.pointer none), .im (.string .empty)] := by kernel_rfl
theorem ag221 : isAggT Try.prog 221 = true := by kernel_rfl
theorem sz222 : szOf Try.prog 222 = some 0 := by kernel_rfl
theorem ei222 : eInfo Try.prog 222 = some (0, 0, []) := by kernel_rfl
theorem bi222 : bInfo Try.prog 222 = some ([], .arr 1) := by kernel_rfl
theorem ag222 : isAggT Try.prog 222 = true := by kernel_rfl
theorem sz223 : szOf Try.prog 223 = some 0 := by kernel_rfl
theorem ei223 : eInfo Try.prog 223 = some (0, 0, []) := by kernel_rfl
theorem bi223 : bInfo Try.prog 223 = some ([], .str [(0, 0)]) := by kernel_rfl
theorem za223 : zAgg Try.prog 223 = some [] := by kernel_rfl
theorem ag223 : isAggT Try.prog 223 = true := by kernel_rfl
theorem sz224 : szOf Try.prog 224 = some 0 := by kernel_rfl
theorem ei224 : eInfo Try.prog 224 = some (0, 0, []) := by kernel_rfl
theorem bi224 : bInfo Try.prog 224 = some ([], .str [(0, 0)]) := by kernel_rfl
theorem za224 : zAgg Try.prog 224 = some [] := by kernel_rfl
theorem ag224 : isAggT Try.prog 224 = true := by kernel_rfl
theorem sz225 : szOf Try.prog 225 = some 1 := by kernel_rfl
theorem ei225 : eInfo Try.prog 225 = some (1, 8, [.im .nilFunc]) := by kernel_rfl
theorem ag225 : isAggT Try.prog 225 = false := by kernel_rfl
theorem sz226 : szOf Try.prog 226 = some 1 := by kernel_rfl
theorem ei226 : eInfo Try.prog 226 = some (1, 1, [.im (.int .u8 0)]) := by kernel_rfl
theorem ag226 : isAggT Try.prog 226 = false := by kernel_rfl
theorem sz227 : szOf Try.prog 227 = some 1 := by kernel_rfl
theorem ei227 : eInfo Try.prog 227 = some (1, 1, [.im (.int .u8 0)]) := by kernel_rfl
theorem ag227 : isAggT Try.prog 227 = false := by kernel_rfl
theorem sz228 : szOf Try.prog 228 = some 1 := by kernel_rfl
theorem ei228 : eInfo Try.prog 228 = some (1, 8, [.im .nilFunc]) := by kernel_rfl
theorem ag228 : isAggT Try.prog 228 = false := by kernel_rfl
theorem sz229 : szOf Try.prog 229 = some 1 := by kernel_rfl
theorem ei229 : eInfo Try.prog 229 = some (1, 4, [.im (.int .i32 0)]) := by kernel_rfl
theorem ag229 : isAggT Try.prog 229 = false := by kernel_rfl
theorem sz230 : szOf Try.prog 230 = some 1 := by kernel_rfl
theorem ei230 : eInfo Try.prog 230 = some (1, 4, [.im (.int .i32 0)]) := by kernel_rfl
theorem ag230 : isAggT Try.prog 230 = false := by kernel_rfl
theorem sz231 : szOf Try.prog 231 = some 11 := by kernel_rfl
theorem ei231 : eInfo Try.prog 231 = some (11, 48, [.im (.int .u64 0), .im (.int .u64 0), .im (.int .u32 0), .im (.int .u8 0), .im (.int .u8 0), .im (.int .u8 0), .im (.int .u8 0), .im .nilFunc, .im (.pointer none), .im (.int .i32 0), .im (.int .i32 0)]) := by kernel_rfl
theorem bi231 : bInfo Try.prog 231 = some ([.im (.int .u64 0), .im (.int .u64 0), .im (.int .u32 0), .im (.int .u8 0), .im (.int .u8 0), .im (.int .u8 0), .im (.int .u8 0), .im .nilFunc, .im (.pointer none), .im (.int .i32 0), .im (.int .i32 0)], .str [(0, 1), (1, 1), (2, 1), (3, 1), (4, 1), (5, 1), (6, 1), (7, 1), (8, 1), (9, 1), (10, 1)]) := by kernel_rfl
theorem za231 : zAgg Try.prog 231 = some [.im (.int .u64 0), .im (.int .u64 0), .im (.int .u32 0), .im (.int .u8 0), .im (.int .u8 0), .im (.int .u8 0), .im (.int .u8 0), .im .nilFunc, .im (.pointer none), .im (.int .i32 0), .im (.int .i32 0)] := by kernel_rfl
theorem ag231 : isAggT Try.prog 231 = true := by kernel_rfl
theorem sz232 : szOf Try.prog 232 = some 11 := by kernel_rfl
theorem ei232 : eInfo Try.prog 232 = some (11, 48, [.im (.int .u64 0), .im (.int .u64 0), .im (.int .u32 0), .im (.int .u8 0), .im (.int .u8 0), .im (.int .u8 0), .im (.int .u8 0), .im .nilFunc, .im (.pointer none), .im (.int .i32 0), .im (.int .i32 0)]) := by kernel_rfl
theorem bi232 : bInfo Try.prog 232 = some ([.im (.int .u64 0), .im (.int .u64 0), .im (.int .u32 0), .im (.int .u8 0), .im (.int .u8 0), .im (.int .u8 0), .im (.int .u8 0), .im .nilFunc, .im (.pointer none), .im (.int .i32 0), .im (.int .i32 0)], .str [(0, 1), (1, 1), (2, 1), (3, 1), (4, 1), (5, 1), (6, 1), (7, 1), (8, 1), (9, 1), (10, 1)]) := by kernel_rfl
theorem za232 : zAgg Try.prog 232 = some [.im (.int .u64 0), .im (.int .u64 0), .im (.int .u32 0), .im (.int .u8 0), .im (.int .u8 0), .im (.int .u8 0), .im (.int .u8 0), .im .nilFunc, .im (.pointer none), .im (.int .i32 0), .im (.int .i32 0)] := by kernel_rfl
theorem ag232 : isAggT Try.prog 232 = true := by kernel_rfl
attribute [go_sem] Try.underlying1 sz1 ei1 ag1 Try.underlying2 sz2 ei2 zi2 ag2 Try.underlying3 sz3 ei3 zi3 ag3 Try.underlying4 sz4 ei4 ag4 Try.underlying5 sz5 ei5 ag5 Try.underlying6 sz6 ei6 ag6 Try.underlying7 sz7 ei7 bi7 za7 ag7 Try.underlying8 sz8 ei8 bi8 za8 ag8 Try.underlying9 sz9 ei9 ag9 Try.underlying10 sz10 ei10 ag10 Try.underlying11 sz11 ei11 ag11 Try.underlying12 sz12 ei12 ag12 Try.underlying13 sz13 ei13 bi13 za13 ag13 Try.underlying14 sz14 ei14 bi14 za14 ag14 Try.underlying15 sz15 ei15 ag15 Try.underlying16 sz16 ei16 ag16 Try.underlying17 sz17 ei17 ag17 Try.underlying18 sz18 ei18 bi18 za18 ag18 Try.underlying19 sz19 ei19 bi19 za19 ag19 Try.underlying20 sz20 ei20 ag20 Try.underlying21 sz21 ei21 ag21 Try.underlying22 sz22 ei22 ag22 Try.underlying23 sz23 ei23 ag23 Try.underlying24 sz24 ei24 ag24 Try.underlying25 sz25 ei25 ag25 Try.underlying27 sz27 ei27 ag27 Try.underlying28 sz28 ei28 ag28 Try.underlying29 sz29 ei29 ag29 Try.underlying30 sz30 ei30 ag30 Try.underlying31 sz31 ei31 ag31 Try.underlying32 sz32 ei32 ag32 Try.underlying33 sz33 ei33 ag33 Try.underlying34 sz34 ei34 ag34 Try.underlying35 sz35 ei35 ag35 Try.underlying36 sz36 ei36 ag36 Try.underlying37 sz37 ei37 bi37 za37 ag37 Try.underlying38 sz38 ei38 bi38 za38 ag38 Try.underlying39 sz39 ei39 ag39 Try.underlying40 sz40 ei40 ag40 Try.underlying41 sz41 ei41 ag41 Try.underlying42 sz42 ei42 ag42 Try.underlying43 sz43 ei43 ag43 Try.underlying44 sz44 ei44 ag44 Try.underlying45 sz45 ei45 ag45 Try.underlying46 sz46 ei46 ag46 Try.underlying47 sz47 ei47 ag47 Try.underlying48 sz48 ei48 ag48 Try.underlying49 sz49 ei49 ag49 Try.underlying50 sz50 ei50 ag50 Try.underlying51 sz51 ei51 bi51 za51 ag51 Try.underlying52 sz52 ei52 bi52 za52 ag52 Try.underlying53 sz53 ei53 ag53 Try.underlying54 sz54 ei54 bi54 za54 ag54 Try.underlying55 sz55 ei55 bi55 za55 ag55 Try.underlying56 sz56 ei56 ag56 Try.underlying57 sz57 ei57 bi57 za57 ag57 Try.underlying58 sz58 ei58 bi58 za58 ag58 Try.underlying59 sz59 ei59 ag59 Try.underlying60 sz60 ei60 ag60 Try.underlying61 sz61 ei61 ag61 Try.underlying62 sz62 ei62 ag62 Try.underlying63 sz63 ei63 ag63 Try.underlying64 sz64 ei64 ag64 Try.underlying65 sz65 ei65 ag65 Try.underlying67 sz67 ei67 ag67 Try.underlying68 sz68 ei68 bi68 za68 ag68 Try.underlying69 sz69 ei69 bi69 za69 ag69 Try.underlying70 sz70 ei70 ag70 Try.underlying71 sz71 ei71 ag71 Try.underlying72 sz72 ei72 ag72 Try.underlying73 sz73 ei73 ag73 Try.underlying75 sz75 ei75 ag75 Try.underlying76 sz76 ei76 ag76 Try.underlying77 sz77 ei77 ag77 Try.underlying78 sz78 ei78 ag78 Try.underlying79 sz79 ei79 ag79 Try.underlying80 sz80 ei80 bi80 za80 ag80 Try.underlying81 sz81 ei81 bi81 za81 ag81 Try.underlying82 sz82 ei82 ag82 Try.underlying83 sz83 ei83 ag83 Try.underlying84 sz84 ei84 ag84 Try.underlying85 sz85 ei85 ag85 Try.underlying86 sz86 ei86 zi86 ag86 Try.underlying88 sz88 ei88 ag88 Try.underlying90 sz90 ei90 ag90 Try.underlying91 sz91 ei91 ag91 Try.underlying92 sz92 ei92 ag92 Try.underlying94 sz94 ei94 ag94 Try.underlying95 sz95 ei95 ag95 Try.underlying96 sz96 ei96 ag96 Try.underlying97 sz97 ei97 bi97 ag97 Try.underlying98 sz98 ei98 ag98 Try.underlying99 sz99 ei99 bi99 za99 ag99 Try.underlying100 sz100 ei100 bi100 za100 ag100 Try.underlying101 sz101 ei101 bi101 za101 ag101 Try.underlying102 sz102 ei102 bi102 za102 ag102 Try.underlying103 sz103 ei103 ag103 Try.underlying104 sz104 ei104 ag104 Try.underlying105 sz105 ei105 bi105 ag105 Try.underlying106 sz106 ei106 bi106 ag106 Try.underlying107 sz107 ei107 ag107 Try.underlying108 sz108 ei108 ag108 Try.underlying109 sz109 ei109 ag109 Try.underlying110 sz110 ei110 ag110 Try.underlying112 sz112 ei112 ag112 Try.underlying113 sz113 ei113 bi113 za113 ag113 Try.underlying114 sz114 ei114 bi114 za114 ag114 Try.underlying115 sz115 ei115 ag115 Try.underlying116 sz116 ei116 bi116 za116 ag116 Try.underlying117 sz117 ei117 bi117 za117 ag117 Try.underlying118 sz118 ei118 ag118 Try.underlying119 sz119 ei119 ag119 Try.underlying120 sz120 ei120 ag120 Try.underlying121 sz121 ei121 ag121 Try.underlying122 sz122 ei122 ag122 Try.underlying123 sz123 ei123 ag123 Try.underlying124 sz124 ei124 ag124 Try.underlying125 sz125 ei125 ag125 Try.underlying126 sz126 ei126 ag126 Try.underlying127 sz127 ei127 ag127 Try.underlying128 sz128 ei128 ag128 Try.underlying129 sz129 ei129 bi129 za129 ag129 Try.underlying130 sz130 ei130 bi130 za130 ag130 Try.underlying131 sz131 ei131 ag131 Try.underlying132 sz132 ei132 ag132 Try.underlying133 sz133 ei133 ag133 Try.underlying134 sz134 ei134 ag134 Try.underlying135 sz135 ei135 ag135 Try.underlying136 sz136 ei136 ag136 Try.underlying137 sz137 ei137 ag137 Try.underlying138 sz138 ei138 bi138 za138 ag138 Try.underlying139 sz139 ei139 bi139 za139 ag139 Try.underlying140 sz140 ei140 ag140 Try.underlying141 sz141 ei141 ag141 Try.underlying142 sz142 ei142 ag142 Try.underlying143 sz143 ei143 ag143 Try.underlying144 sz144 ei144 ag144 Try.underlying146 sz146 ei146 ag146 Try.underlying147 sz147 ei147 ag147 Try.underlying148 sz148 ei148 ag148 Try.underlying149 sz149 ei149 ag149 Try.underlying150 sz150 ei150 ag150 Try.underlying151 sz151 ei151 ag151 Try.underlying152 sz152 ei152 ag152 Try.underlying153 sz153 ei153 ag153 Try.underlying154 sz154 ei154 ag154 Try.underlying155 sz155 ei155 ag155 Try.underlying157 sz157 ei157 ag157 Try.underlying158 sz158 ei158 ag158 Try.underlying159 sz159 ei159 ag159 Try.underlying160 sz160 ei160 bi160 za160 ag160 Try.underlying161 sz161 ei161 bi161 za161 ag161 Try.underlying162 sz162 ei162 ag162 Try.underlying163 sz163 ei163 ag163 Try.underlying164 sz164 ei164 ag164 Try.underlying165 sz165 ei165 ag165 Try.underlying166 sz166 ei166 ag166 Try.underlying167 sz167 ei167 ag167 Try.underlying168 sz168 ei168 ag168 Try.underlying169 sz169 ei169 bi169 za169 ag169 Try.underlying170 sz170 ei170 bi170 za170 ag170 Try.underlying171 sz171 ei171 bi171 za171 ag171 Try.underlying172 sz172 ei172 bi172 za172 ag172 Try.underlying173 sz173 ei173 bi173 za173 ag173 Try.underlying174 sz174 ei174 ag174 Try.underlying176 sz176 ei176 ag176 Try.underlying177 sz177 ei177 ag177 Try.underlying178 sz178 ei178 ag178 Try.underlying179 sz179 ei179 ag179 Try.underlying180 sz180 ei180 ag180 Try.underlying182 sz182 ei182 ag182 Try.underlying184 sz184 ei184 ag184 Try.underlying185 sz185 ei185 ag185 Try.underlying186 sz186 ei186 ag186 Try.underlying188 sz188 ei188 ag188 Try.underlying190 sz190 ei190 ag190 Try.underlying191 sz191 ei191 ag191 Try.underlying192 sz192 ei192 ag192 Try.underlying193 sz193 ei193 ag193 Try.underlying194 sz194 ei194 ag194 Try.underlying196 sz196 ei196 ag196 Try.underlying197 sz197 ei197 bi197 za197 ag197 Try.underlying198 sz198 ei198 bi198 za198 ag198 Try.underlying199 sz199 ei199 bi199 za199 ag199 Try.underlying200 sz200 ei200 bi200 za200 ag200 Try.underlying201 sz201 ei201 ag201 Try.underlying202 sz202 ei202 ag202 Try.underlying203 sz203 ei203 ag203 Try.underlying204 sz204 ei204 ag204 Try.underlying205 sz205 ei205 bi205 ag205 Try.underlying206 sz206 ei206 ag206 Try.underlying208 sz208 ei208 ag208 Try.underlying210 sz210 ei210 ag210 Try.underlying211 sz211 ei211 ag211 Try.underlying212 sz212 ei212 ag212 Try.underlying213 sz213 ei213 ag213 Try.underlying214 sz214 ei214 ag214 Try.underlying215 sz215 ei215 ag215 Try.underlying216 sz216 ei216 ag216 Try.underlying217 sz217 ei217 ag217 Try.underlying218 sz218 ei218 ag218 Try.underlying219 sz219 ei219 ag219 Try.underlying220 sz220 ei220 bi220 za220 ag220 Try.underlying221 sz221 ei221 bi221 za221 ag221 Try.underlying222 sz222 ei222 bi222 ag222 Try.underlying223 sz223 ei223 bi223 za223 ag223 Try.underlying224 sz224 ei224 bi224 za224 ag224 Try.underlying225 sz225 ei225 ag225 Try.underlying226 sz226 ei226 ag226 Try.underlying227 sz227 ei227 ag227 Try.underlying228 sz228 ei228 ag228 Try.underlying229 sz229 ei229 ag229 Try.underlying230 sz230 ei230 ag230 Try.underlying231 sz231 ei231 bi231 za231 ag231 Try.underlying232 sz232 ei232 bi232 za232 ag232
end Go.Proofs.Ytllemobnfpljfaa
