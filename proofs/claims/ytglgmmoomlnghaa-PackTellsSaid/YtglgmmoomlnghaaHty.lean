/-
  OF EACH TYPE OF THE TRANSLATION: its cells, its bytes, its zero, where the parts of a literal lie. Printed by program (gen_hty.py).
-/
import Derived.Test.YtglgmmoomlnghaaProg
import Derived.Test.YtglgmmoomlnghaaHs16
namespace Go.Proofs.Ytglgmmoomlnghaa
open Go Go.Hs
theorem sz2 : szOf Try.prog 2 = some 1 := by kernel_rfl
theorem ei2 : eInfo Try.prog 2 = some (1,8,[.im (.int .i64 0)]) := by kernel_rfl
theorem zi2 : zInt Try.prog 2 = true := by kernel_rfl
theorem ag2 : isAggT Try.prog 2 = false := by kernel_rfl
theorem sz3 : szOf Try.prog 3 = some 1 := by kernel_rfl
theorem ei3 : eInfo Try.prog 3 = some (1,8,[.im (.int .i64 0)]) := by kernel_rfl
theorem zi3 : zInt Try.prog 3 = true := by kernel_rfl
theorem ag3 : isAggT Try.prog 3 = false := by kernel_rfl
theorem sz4 : szOf Try.prog 4 = some 1 := by kernel_rfl
theorem ei4 : eInfo Try.prog 4 = some (1,1,[.im (.bool false)]) := by kernel_rfl
theorem ag4 : isAggT Try.prog 4 = false := by kernel_rfl
theorem sz5 : szOf Try.prog 5 = some 1 := by kernel_rfl
theorem ei5 : eInfo Try.prog 5 = some (1,1,[.im (.int .u8 0)]) := by kernel_rfl
theorem ag5 : isAggT Try.prog 5 = false := by kernel_rfl
theorem sz6 : szOf Try.prog 6 = some 1 := by kernel_rfl
theorem ei6 : eInfo Try.prog 6 = some (1,1,[.im (.int .u8 0)]) := by kernel_rfl
theorem ag6 : isAggT Try.prog 6 = false := by kernel_rfl
theorem sz7 : szOf Try.prog 7 = some 4 := by kernel_rfl
theorem ei7 : eInfo Try.prog 7 = some (4,24,[.im (.int .i64 0),.im (.int .i64 0),.im (.bool false),.im (.int .u8 0)]) := by kernel_rfl
theorem bi7 : bInfo Try.prog 7 = some ([.im (.int .i64 0),.im (.int .i64 0),.im (.bool false),.im (.int .u8 0)],.str [(0,1),(1,1),(2,1),(3,1)]) := by kernel_rfl
theorem za7 : zAgg Try.prog 7 = some [.im (.int .i64 0),.im (.int .i64 0),.im (.bool false),.im (.int .u8 0)] := by kernel_rfl
theorem ag7 : isAggT Try.prog 7 = true := by kernel_rfl
theorem sz8 : szOf Try.prog 8 = some 4 := by kernel_rfl
theorem ei8 : eInfo Try.prog 8 = some (4,24,[.im (.int .i64 0),.im (.int .i64 0),.im (.bool false),.im (.int .u8 0)]) := by kernel_rfl
theorem bi8 : bInfo Try.prog 8 = some ([.im (.int .i64 0),.im (.int .i64 0),.im (.bool false),.im (.int .u8 0)],.str [(0,1),(1,1),(2,1),(3,1)]) := by kernel_rfl
theorem za8 : zAgg Try.prog 8 = some [.im (.int .i64 0),.im (.int .i64 0),.im (.bool false),.im (.int .u8 0)] := by kernel_rfl
theorem ag8 : isAggT Try.prog 8 = true := by kernel_rfl
theorem sz9 : szOf Try.prog 9 = some 1 := by kernel_rfl
theorem ei9 : eInfo Try.prog 9 = some (1,16,[.im (.string .empty)]) := by kernel_rfl
theorem ag9 : isAggT Try.prog 9 = false := by kernel_rfl
theorem sz10 : szOf Try.prog 10 = some 1 := by kernel_rfl
theorem ei10 : eInfo Try.prog 10 = some (1,16,[.im (.string .empty)]) := by kernel_rfl
theorem ag10 : isAggT Try.prog 10 = false := by kernel_rfl
theorem sz11 : szOf Try.prog 11 = some 1 := by kernel_rfl
theorem ei11 : eInfo Try.prog 11 = some (1,16,[.im (.string .empty)]) := by kernel_rfl
theorem ag11 : isAggT Try.prog 11 = false := by kernel_rfl
theorem sz12 : szOf Try.prog 12 = some 1 := by kernel_rfl
theorem ei12 : eInfo Try.prog 12 = some (1,8,[.im (.int .u64 0)]) := by kernel_rfl
theorem ag12 : isAggT Try.prog 12 = false := by kernel_rfl
theorem sz13 : szOf Try.prog 13 = some 2 := by kernel_rfl
theorem ei13 : eInfo Try.prog 13 = some (2,24,[.im (.string .empty),.im (.int .u64 0)]) := by kernel_rfl
theorem bi13 : bInfo Try.prog 13 = some ([.im (.string .empty),.im (.int .u64 0)],.str [(0,1),(1,1)]) := by kernel_rfl
theorem za13 : zAgg Try.prog 13 = some [.im (.string .empty),.im (.int .u64 0)] := by kernel_rfl
theorem ag13 : isAggT Try.prog 13 = true := by kernel_rfl
theorem sz14 : szOf Try.prog 14 = some 2 := by kernel_rfl
theorem ei14 : eInfo Try.prog 14 = some (2,24,[.im (.string .empty),.im (.int .u64 0)]) := by kernel_rfl
theorem bi14 : bInfo Try.prog 14 = some ([.im (.string .empty),.im (.int .u64 0)],.str [(0,1),(1,1)]) := by kernel_rfl
theorem za14 : zAgg Try.prog 14 = some [.im (.string .empty),.im (.int .u64 0)] := by kernel_rfl
theorem ag14 : isAggT Try.prog 14 = true := by kernel_rfl
theorem sz15 : szOf Try.prog 15 = some 1 := by kernel_rfl
theorem ei15 : eInfo Try.prog 15 = some (1,8,[.im (.pointer none)]) := by kernel_rfl
theorem ag15 : isAggT Try.prog 15 = false := by kernel_rfl
theorem sz16 : szOf Try.prog 16 = some 1 := by kernel_rfl
theorem ei16 : eInfo Try.prog 16 = some (1,8,[.im (.pointer none)]) := by kernel_rfl
theorem ag16 : isAggT Try.prog 16 = false := by kernel_rfl
theorem sz17 : szOf Try.prog 17 = some 1 := by kernel_rfl
theorem ei17 : eInfo Try.prog 17 = some (1,8,[.im (.pointer none)]) := by kernel_rfl
theorem ag17 : isAggT Try.prog 17 = false := by kernel_rfl
theorem sz18 : szOf Try.prog 18 = some 1 := by kernel_rfl
theorem ei18 : eInfo Try.prog 18 = some (1,8,[.im (.pointer none)]) := by kernel_rfl
theorem bi18 : bInfo Try.prog 18 = some ([.im (.pointer none)],.str [(0,1)]) := by kernel_rfl
theorem za18 : zAgg Try.prog 18 = some [.im (.pointer none)] := by kernel_rfl
theorem ag18 : isAggT Try.prog 18 = true := by kernel_rfl
theorem sz19 : szOf Try.prog 19 = some 1 := by kernel_rfl
theorem ei19 : eInfo Try.prog 19 = some (1,8,[.im (.pointer none)]) := by kernel_rfl
theorem bi19 : bInfo Try.prog 19 = some ([.im (.pointer none)],.str [(0,1)]) := by kernel_rfl
theorem za19 : zAgg Try.prog 19 = some [.im (.pointer none)] := by kernel_rfl
theorem ag19 : isAggT Try.prog 19 = true := by kernel_rfl
theorem sz20 : szOf Try.prog 20 = some 1 := by kernel_rfl
theorem ei20 : eInfo Try.prog 20 = some (1,16,[.im .nilIface]) := by kernel_rfl
theorem ag20 : isAggT Try.prog 20 = false := by kernel_rfl
theorem sz21 : szOf Try.prog 21 = some 1 := by kernel_rfl
theorem ei21 : eInfo Try.prog 21 = some (1,4,[.im (.int .i32 0)]) := by kernel_rfl
theorem ag21 : isAggT Try.prog 21 = false := by kernel_rfl
theorem sz22 : szOf Try.prog 22 = some 1 := by kernel_rfl
theorem ei22 : eInfo Try.prog 22 = some (1,24,[.nil]) := by kernel_rfl
theorem ag22 : isAggT Try.prog 22 = false := by kernel_rfl
theorem sz23 : szOf Try.prog 23 = some 1 := by kernel_rfl
theorem ei23 : eInfo Try.prog 23 = some (1,24,[.nil]) := by kernel_rfl
theorem ag23 : isAggT Try.prog 23 = false := by kernel_rfl
theorem sz24 : szOf Try.prog 24 = some 3 := by kernel_rfl
theorem ei24 : eInfo Try.prog 24 = some (3,56,[.im (.int .i64 0),.nil,.nil]) := by kernel_rfl
theorem bi24 : bInfo Try.prog 24 = some ([.im (.int .i64 0),.nil,.nil],.str [(0,1),(1,1),(2,1)]) := by kernel_rfl
theorem za24 : zAgg Try.prog 24 = some [.im (.int .i64 0),.nil,.nil] := by kernel_rfl
theorem ag24 : isAggT Try.prog 24 = true := by kernel_rfl
theorem sz25 : szOf Try.prog 25 = some 3 := by kernel_rfl
theorem ei25 : eInfo Try.prog 25 = some (3,56,[.im (.int .i64 0),.nil,.nil]) := by kernel_rfl
theorem bi25 : bInfo Try.prog 25 = some ([.im (.int .i64 0),.nil,.nil],.str [(0,1),(1,1),(2,1)]) := by kernel_rfl
theorem za25 : zAgg Try.prog 25 = some [.im (.int .i64 0),.nil,.nil] := by kernel_rfl
theorem ag25 : isAggT Try.prog 25 = true := by kernel_rfl
theorem sz29 : szOf Try.prog 29 = some 1 := by kernel_rfl
theorem ei29 : eInfo Try.prog 29 = some (1,8,[.im (.int .i64 0)]) := by kernel_rfl
theorem zi29 : zInt Try.prog 29 = true := by kernel_rfl
theorem ag29 : isAggT Try.prog 29 = false := by kernel_rfl
theorem sz37 : szOf Try.prog 37 = some 1 := by kernel_rfl
theorem ei37 : eInfo Try.prog 37 = some (1,24,[.nil]) := by kernel_rfl
theorem ag37 : isAggT Try.prog 37 = false := by kernel_rfl
theorem sz38 : szOf Try.prog 38 = some 1 := by kernel_rfl
theorem ei38 : eInfo Try.prog 38 = some (1,8,[.im (.pointer none)]) := by kernel_rfl
theorem ag38 : isAggT Try.prog 38 = false := by kernel_rfl
theorem sz41 : szOf Try.prog 41 = some 1 := by kernel_rfl
theorem ei41 : eInfo Try.prog 41 = some (1,24,[.nil]) := by kernel_rfl
theorem ag41 : isAggT Try.prog 41 = false := by kernel_rfl
theorem sz44 : szOf Try.prog 44 = some 2 := by kernel_rfl
theorem ei44 : eInfo Try.prog 44 = some (2,32,[.nil,.im (.int .i64 0)]) := by kernel_rfl
theorem bi44 : bInfo Try.prog 44 = some ([.nil,.im (.int .i64 0)],.str [(0,1),(1,1)]) := by kernel_rfl
theorem za44 : zAgg Try.prog 44 = some [.nil,.im (.int .i64 0)] := by kernel_rfl
theorem ag44 : isAggT Try.prog 44 = true := by kernel_rfl
theorem sz45 : szOf Try.prog 45 = some 2 := by kernel_rfl
theorem ei45 : eInfo Try.prog 45 = some (2,32,[.nil,.im (.int .i64 0)]) := by kernel_rfl
theorem bi45 : bInfo Try.prog 45 = some ([.nil,.im (.int .i64 0)],.str [(0,1),(1,1)]) := by kernel_rfl
theorem za45 : zAgg Try.prog 45 = some [.nil,.im (.int .i64 0)] := by kernel_rfl
theorem ag45 : isAggT Try.prog 45 = true := by kernel_rfl
theorem sz46 : szOf Try.prog 46 = some 9 := by kernel_rfl
theorem ei46 : eInfo Try.prog 46 = some (9,136,[.nil,.im (.int .i64 0),.im (.int .i64 0),.nil,.nil,.im (.int .i64 0),.im (.int .i64 0),.im (.int .i64 0),.nil]) := by kernel_rfl
theorem bi46 : bInfo Try.prog 46 = some ([.nil,.im (.int .i64 0),.im (.int .i64 0),.nil,.nil,.im (.int .i64 0),.im (.int .i64 0),.im (.int .i64 0),.nil],.str [(0,2),(2,3),(5,1),(6,1),(7,1),(8,1)]) := by kernel_rfl
theorem za46 : zAgg Try.prog 46 = some [.nil,.im (.int .i64 0),.im (.int .i64 0),.nil,.nil,.im (.int .i64 0),.im (.int .i64 0),.im (.int .i64 0),.nil] := by kernel_rfl
theorem ag46 : isAggT Try.prog 46 = true := by kernel_rfl
theorem sz47 : szOf Try.prog 47 = some 9 := by kernel_rfl
theorem ei47 : eInfo Try.prog 47 = some (9,136,[.nil,.im (.int .i64 0),.im (.int .i64 0),.nil,.nil,.im (.int .i64 0),.im (.int .i64 0),.im (.int .i64 0),.nil]) := by kernel_rfl
theorem bi47 : bInfo Try.prog 47 = some ([.nil,.im (.int .i64 0),.im (.int .i64 0),.nil,.nil,.im (.int .i64 0),.im (.int .i64 0),.im (.int .i64 0),.nil],.str [(0,2),(2,3),(5,1),(6,1),(7,1),(8,1)]) := by kernel_rfl
theorem za47 : zAgg Try.prog 47 = some [.nil,.im (.int .i64 0),.im (.int .i64 0),.nil,.nil,.im (.int .i64 0),.im (.int .i64 0),.im (.int .i64 0),.nil] := by kernel_rfl
theorem ag47 : isAggT Try.prog 47 = true := by kernel_rfl
theorem sz53 : szOf Try.prog 53 = some 1 := by kernel_rfl
theorem ei53 : eInfo Try.prog 53 = some (1,24,[.nil]) := by kernel_rfl
theorem ag53 : isAggT Try.prog 53 = false := by kernel_rfl
theorem sz54 : szOf Try.prog 54 = some 4 := by kernel_rfl
theorem ei54 : eInfo Try.prog 54 = some (4,64,[.im (.int .i64 0),.im (.int .i64 0),.nil,.nil]) := by kernel_rfl
theorem bi54 : bInfo Try.prog 54 = some ([.im (.int .i64 0),.im (.int .i64 0),.nil,.nil],.str [(0,1),(1,1),(2,1),(3,1)]) := by kernel_rfl
theorem za54 : zAgg Try.prog 54 = some [.im (.int .i64 0),.im (.int .i64 0),.nil,.nil] := by kernel_rfl
theorem ag54 : isAggT Try.prog 54 = true := by kernel_rfl
theorem sz55 : szOf Try.prog 55 = some 4 := by kernel_rfl
theorem ei55 : eInfo Try.prog 55 = some (4,64,[.im (.int .i64 0),.im (.int .i64 0),.nil,.nil]) := by kernel_rfl
theorem bi55 : bInfo Try.prog 55 = some ([.im (.int .i64 0),.im (.int .i64 0),.nil,.nil],.str [(0,1),(1,1),(2,1),(3,1)]) := by kernel_rfl
theorem za55 : zAgg Try.prog 55 = some [.im (.int .i64 0),.im (.int .i64 0),.nil,.nil] := by kernel_rfl
theorem ag55 : isAggT Try.prog 55 = true := by kernel_rfl
theorem sz68 : szOf Try.prog 68 = some 1 := by kernel_rfl
theorem ei68 : eInfo Try.prog 68 = some (1,24,[.nil]) := by kernel_rfl
theorem ag68 : isAggT Try.prog 68 = false := by kernel_rfl
theorem sz69 : szOf Try.prog 69 = some 3 := by kernel_rfl
theorem ei69 : eInfo Try.prog 69 = some (3,56,[.im (.int .i64 0),.nil,.nil]) := by kernel_rfl
theorem bi69 : bInfo Try.prog 69 = some ([.im (.int .i64 0),.nil,.nil],.str [(0,1),(1,1),(2,1)]) := by kernel_rfl
theorem za69 : zAgg Try.prog 69 = some [.im (.int .i64 0),.nil,.nil] := by kernel_rfl
theorem ag69 : isAggT Try.prog 69 = true := by kernel_rfl
theorem sz70 : szOf Try.prog 70 = some 3 := by kernel_rfl
theorem ei70 : eInfo Try.prog 70 = some (3,56,[.im (.int .i64 0),.nil,.nil]) := by kernel_rfl
theorem bi70 : bInfo Try.prog 70 = some ([.im (.int .i64 0),.nil,.nil],.str [(0,1),(1,1),(2,1)]) := by kernel_rfl
theorem za70 : zAgg Try.prog 70 = some [.im (.int .i64 0),.nil,.nil] := by kernel_rfl
theorem ag70 : isAggT Try.prog 70 = true := by kernel_rfl
theorem sz71 : szOf Try.prog 71 = some 2 := by kernel_rfl
theorem ei71 : eInfo Try.prog 71 = some (2,32,[.im (.int .i64 0),.nil]) := by kernel_rfl
theorem bi71 : bInfo Try.prog 71 = some ([.im (.int .i64 0),.nil],.str [(0,1),(1,1)]) := by kernel_rfl
theorem za71 : zAgg Try.prog 71 = some [.im (.int .i64 0),.nil] := by kernel_rfl
theorem ag71 : isAggT Try.prog 71 = true := by kernel_rfl
theorem sz72 : szOf Try.prog 72 = some 2 := by kernel_rfl
theorem ei72 : eInfo Try.prog 72 = some (2,32,[.im (.int .i64 0),.nil]) := by kernel_rfl
theorem bi72 : bInfo Try.prog 72 = some ([.im (.int .i64 0),.nil],.str [(0,1),(1,1)]) := by kernel_rfl
theorem za72 : zAgg Try.prog 72 = some [.im (.int .i64 0),.nil] := by kernel_rfl
theorem ag72 : isAggT Try.prog 72 = true := by kernel_rfl
theorem sz74 : szOf Try.prog 74 = some 400 := by kernel_rfl
theorem ei74 : eInfo Try.prog 74 = some (400,3200,List.replicate 400 (.im (.int .i64 0))) := by kernel_rfl
theorem bi74 : bInfo Try.prog 74 = some (List.replicate 400 (.im (.int .i64 0)),.arr 1) := by kernel_rfl
theorem ag74 : isAggT Try.prog 74 = true := by kernel_rfl
theorem sz75 : szOf Try.prog 75 = some 400 := by kernel_rfl
theorem ei75 : eInfo Try.prog 75 = some (400,3200,List.replicate 400 (.im (.int .i64 0))) := by kernel_rfl
theorem bi75 : bInfo Try.prog 75 = some (List.replicate 400 (.im (.int .i64 0)),.arr 1) := by kernel_rfl
theorem ag75 : isAggT Try.prog 75 = true := by kernel_rfl
theorem sz85 : szOf Try.prog 85 = some 1 := by kernel_rfl
theorem ei85 : eInfo Try.prog 85 = some (1,8,[.im (.pointer none)]) := by kernel_rfl
theorem ag85 : isAggT Try.prog 85 = false := by kernel_rfl
theorem sz87 : szOf Try.prog 87 = some 2 := by kernel_rfl
theorem ei87 : eInfo Try.prog 87 = some (2,16,[.im (.int .i64 0),.im (.int .i64 0)]) := by kernel_rfl
theorem bi87 : bInfo Try.prog 87 = some ([.im (.int .i64 0),.im (.int .i64 0)],.str [(0,1),(1,1)]) := by kernel_rfl
theorem za87 : zAgg Try.prog 87 = some [.im (.int .i64 0),.im (.int .i64 0)] := by kernel_rfl
theorem ag87 : isAggT Try.prog 87 = true := by kernel_rfl
theorem sz88 : szOf Try.prog 88 = some 2 := by kernel_rfl
theorem ei88 : eInfo Try.prog 88 = some (2,16,[.im (.int .i64 0),.im (.int .i64 0)]) := by kernel_rfl
theorem bi88 : bInfo Try.prog 88 = some ([.im (.int .i64 0),.im (.int .i64 0)],.str [(0,1),(1,1)]) := by kernel_rfl
theorem za88 : zAgg Try.prog 88 = some [.im (.int .i64 0),.im (.int .i64 0)] := by kernel_rfl
theorem ag88 : isAggT Try.prog 88 = true := by kernel_rfl
theorem sz89 : szOf Try.prog 89 = some 1 := by kernel_rfl
theorem ei89 : eInfo Try.prog 89 = some (1,24,[.nil]) := by kernel_rfl
theorem ag89 : isAggT Try.prog 89 = false := by kernel_rfl
theorem sz90 : szOf Try.prog 90 = some 2 := by kernel_rfl
theorem ei90 : eInfo Try.prog 90 = some (2,48,[.nil,.nil]) := by kernel_rfl
theorem bi90 : bInfo Try.prog 90 = some ([.nil,.nil],.str [(0,1),(1,1)]) := by kernel_rfl
theorem za90 : zAgg Try.prog 90 = some [.nil,.nil] := by kernel_rfl
theorem ag90 : isAggT Try.prog 90 = true := by kernel_rfl
theorem sz91 : szOf Try.prog 91 = some 2 := by kernel_rfl
theorem ei91 : eInfo Try.prog 91 = some (2,48,[.nil,.nil]) := by kernel_rfl
theorem bi91 : bInfo Try.prog 91 = some ([.nil,.nil],.str [(0,1),(1,1)]) := by kernel_rfl
theorem za91 : zAgg Try.prog 91 = some [.nil,.nil] := by kernel_rfl
theorem ag91 : isAggT Try.prog 91 = true := by kernel_rfl
theorem sz92 : szOf Try.prog 92 = some 1 := by kernel_rfl
theorem ei92 : eInfo Try.prog 92 = some (1,24,[.nil]) := by kernel_rfl
theorem ag92 : isAggT Try.prog 92 = false := by kernel_rfl
theorem sz93 : szOf Try.prog 93 = some 2 := by kernel_rfl
theorem ei93 : eInfo Try.prog 93 = some (2,32,[.im (.int .i64 0),.nil]) := by kernel_rfl
theorem bi93 : bInfo Try.prog 93 = some ([.im (.int .i64 0),.nil],.str [(0,1),(1,1)]) := by kernel_rfl
theorem za93 : zAgg Try.prog 93 = some [.im (.int .i64 0),.nil] := by kernel_rfl
theorem ag93 : isAggT Try.prog 93 = true := by kernel_rfl
theorem sz94 : szOf Try.prog 94 = some 2 := by kernel_rfl
theorem ei94 : eInfo Try.prog 94 = some (2,32,[.im (.int .i64 0),.nil]) := by kernel_rfl
theorem bi94 : bInfo Try.prog 94 = some ([.im (.int .i64 0),.nil],.str [(0,1),(1,1)]) := by kernel_rfl
theorem za94 : zAgg Try.prog 94 = some [.im (.int .i64 0),.nil] := by kernel_rfl
theorem ag94 : isAggT Try.prog 94 = true := by kernel_rfl
theorem sz99 : szOf Try.prog 99 = some 2 := by kernel_rfl
theorem ei99 : eInfo Try.prog 99 = some (2,16,[.im (.int .i64 0),.im (.int .i64 0)]) := by kernel_rfl
theorem bi99 : bInfo Try.prog 99 = some ([.im (.int .i64 0),.im (.int .i64 0)],.str [(0,1),(1,1)]) := by kernel_rfl
theorem za99 : zAgg Try.prog 99 = some [.im (.int .i64 0),.im (.int .i64 0)] := by kernel_rfl
theorem ag99 : isAggT Try.prog 99 = true := by kernel_rfl
theorem sz100 : szOf Try.prog 100 = some 2 := by kernel_rfl
theorem ei100 : eInfo Try.prog 100 = some (2,16,[.im (.int .i64 0),.im (.int .i64 0)]) := by kernel_rfl
theorem bi100 : bInfo Try.prog 100 = some ([.im (.int .i64 0),.im (.int .i64 0)],.str [(0,1),(1,1)]) := by kernel_rfl
theorem za100 : zAgg Try.prog 100 = some [.im (.int .i64 0),.im (.int .i64 0)] := by kernel_rfl
theorem ag100 : isAggT Try.prog 100 = true := by kernel_rfl
theorem sz103 : szOf Try.prog 103 = some 1 := by kernel_rfl
theorem ei103 : eInfo Try.prog 103 = some (1,8,[.im (.pointer none)]) := by kernel_rfl
theorem ag103 : isAggT Try.prog 103 = false := by kernel_rfl
theorem sz104 : szOf Try.prog 104 = some 2 := by kernel_rfl
theorem ei104 : eInfo Try.prog 104 = some (2,16,[.im .nilFunc,.im (.pointer none)]) := by kernel_rfl
theorem bi104 : bInfo Try.prog 104 = some ([.im .nilFunc,.im (.pointer none)],.str [(0,1),(1,1)]) := by kernel_rfl
theorem za104 : zAgg Try.prog 104 = some [.im .nilFunc,.im (.pointer none)] := by kernel_rfl
theorem ag104 : isAggT Try.prog 104 = true := by kernel_rfl
theorem sz105 : szOf Try.prog 105 = some 2 := by kernel_rfl
theorem ei105 : eInfo Try.prog 105 = some (2,16,[.im .nilFunc,.im (.pointer none)]) := by kernel_rfl
theorem bi105 : bInfo Try.prog 105 = some ([.im .nilFunc,.im (.pointer none)],.str [(0,1),(1,1)]) := by kernel_rfl
theorem za105 : zAgg Try.prog 105 = some [.im .nilFunc,.im (.pointer none)] := by kernel_rfl
theorem ag105 : isAggT Try.prog 105 = true := by kernel_rfl
theorem sz109 : szOf Try.prog 109 = some 2 := by kernel_rfl
theorem ei109 : eInfo Try.prog 109 = some (2,32,[.nil,.im (.int .i64 0)]) := by kernel_rfl
theorem bi109 : bInfo Try.prog 109 = some ([.nil,.im (.int .i64 0)],.str [(0,1),(1,1)]) := by kernel_rfl
theorem za109 : zAgg Try.prog 109 = some [.nil,.im (.int .i64 0)] := by kernel_rfl
theorem ag109 : isAggT Try.prog 109 = true := by kernel_rfl
theorem sz110 : szOf Try.prog 110 = some 2 := by kernel_rfl
theorem ei110 : eInfo Try.prog 110 = some (2,32,[.nil,.im (.int .i64 0)]) := by kernel_rfl
theorem bi110 : bInfo Try.prog 110 = some ([.nil,.im (.int .i64 0)],.str [(0,1),(1,1)]) := by kernel_rfl
theorem za110 : zAgg Try.prog 110 = some [.nil,.im (.int .i64 0)] := by kernel_rfl
theorem ag110 : isAggT Try.prog 110 = true := by kernel_rfl
theorem sz119 : szOf Try.prog 119 = some 1 := by kernel_rfl
theorem ei119 : eInfo Try.prog 119 = some (1,8,[.im (.map none)]) := by kernel_rfl
theorem ag119 : isAggT Try.prog 119 = false := by kernel_rfl
theorem sz135 : szOf Try.prog 135 = some 1 := by kernel_rfl
theorem ei135 : eInfo Try.prog 135 = some (1,8,[.im (.pointer none)]) := by kernel_rfl
theorem ag135 : isAggT Try.prog 135 = false := by kernel_rfl
theorem sz136 : szOf Try.prog 136 = some 2 := by kernel_rfl
theorem ei136 : eInfo Try.prog 136 = some (2,32,[.im (.pointer none),.nil]) := by kernel_rfl
theorem bi136 : bInfo Try.prog 136 = some ([.im (.pointer none),.nil],.str [(0,1),(1,1)]) := by kernel_rfl
theorem za136 : zAgg Try.prog 136 = some [.im (.pointer none),.nil] := by kernel_rfl
theorem ag136 : isAggT Try.prog 136 = true := by kernel_rfl
theorem sz137 : szOf Try.prog 137 = some 2 := by kernel_rfl
theorem ei137 : eInfo Try.prog 137 = some (2,32,[.im (.pointer none),.nil]) := by kernel_rfl
theorem bi137 : bInfo Try.prog 137 = some ([.im (.pointer none),.nil],.str [(0,1),(1,1)]) := by kernel_rfl
theorem za137 : zAgg Try.prog 137 = some [.im (.pointer none),.nil] := by kernel_rfl
theorem ag137 : isAggT Try.prog 137 = true := by kernel_rfl
theorem sz145 : szOf Try.prog 145 = some 1 := by kernel_rfl
theorem ei145 : eInfo Try.prog 145 = some (1,16,[.im .nilIface]) := by kernel_rfl
theorem ag145 : isAggT Try.prog 145 = false := by kernel_rfl
theorem sz146 : szOf Try.prog 146 = some 1 := by kernel_rfl
theorem ei146 : eInfo Try.prog 146 = some (1,16,[.im .nilIface]) := by kernel_rfl
theorem ag146 : isAggT Try.prog 146 = false := by kernel_rfl
theorem sz148 : szOf Try.prog 148 = some 1 := by kernel_rfl
theorem ei148 : eInfo Try.prog 148 = some (1,8,[.im (.pointer none)]) := by kernel_rfl
theorem ag148 : isAggT Try.prog 148 = false := by kernel_rfl
theorem sz150 : szOf Try.prog 150 = some 1 := by kernel_rfl
theorem ei150 : eInfo Try.prog 150 = some (1,8,[.im (.pointer none)]) := by kernel_rfl
theorem ag150 : isAggT Try.prog 150 = false := by kernel_rfl
theorem sz152 : szOf Try.prog 152 = some 4 := by kernel_rfl
theorem ei152 : eInfo Try.prog 152 = some (4,40,[.im (.pointer none),.im (.pointer none),.im (.pointer none),.im (.string .empty)]) := by kernel_rfl
theorem bi152 : bInfo Try.prog 152 = some ([.im (.pointer none),.im (.pointer none),.im (.pointer none),.im (.string .empty)],.str [(0,1),(1,1),(2,1),(3,1)]) := by kernel_rfl
theorem za152 : zAgg Try.prog 152 = some [.im (.pointer none),.im (.pointer none),.im (.pointer none),.im (.string .empty)] := by kernel_rfl
theorem ag152 : isAggT Try.prog 152 = true := by kernel_rfl
theorem sz153 : szOf Try.prog 153 = some 4 := by kernel_rfl
theorem ei153 : eInfo Try.prog 153 = some (4,40,[.im (.pointer none),.im (.pointer none),.im (.pointer none),.im (.string .empty)]) := by kernel_rfl
theorem bi153 : bInfo Try.prog 153 = some ([.im (.pointer none),.im (.pointer none),.im (.pointer none),.im (.string .empty)],.str [(0,1),(1,1),(2,1),(3,1)]) := by kernel_rfl
theorem za153 : zAgg Try.prog 153 = some [.im (.pointer none),.im (.pointer none),.im (.pointer none),.im (.string .empty)] := by kernel_rfl
theorem ag153 : isAggT Try.prog 153 = true := by kernel_rfl
theorem sz154 : szOf Try.prog 154 = some 0 := by kernel_rfl
theorem ei154 : eInfo Try.prog 154 = some (0,0,[]) := by kernel_rfl
theorem bi154 : bInfo Try.prog 154 = some ([],.arr 1) := by kernel_rfl
theorem ag154 : isAggT Try.prog 154 = true := by kernel_rfl
theorem sz155 : szOf Try.prog 155 = some 0 := by kernel_rfl
theorem ei155 : eInfo Try.prog 155 = some (0,0,[]) := by kernel_rfl
theorem bi155 : bInfo Try.prog 155 = some ([],.str [(0,0)]) := by kernel_rfl
theorem za155 : zAgg Try.prog 155 = some [] := by kernel_rfl
theorem ag155 : isAggT Try.prog 155 = true := by kernel_rfl
theorem sz156 : szOf Try.prog 156 = some 0 := by kernel_rfl
theorem ei156 : eInfo Try.prog 156 = some (0,0,[]) := by kernel_rfl
theorem bi156 : bInfo Try.prog 156 = some ([],.str [(0,0)]) := by kernel_rfl
theorem za156 : zAgg Try.prog 156 = some [] := by kernel_rfl
theorem ag156 : isAggT Try.prog 156 = true := by kernel_rfl
theorem sz157 : szOf Try.prog 157 = some 1 := by kernel_rfl
theorem ei157 : eInfo Try.prog 157 = some (1,4,[.im (.int .u32 0)]) := by kernel_rfl
theorem ag157 : isAggT Try.prog 157 = false := by kernel_rfl
theorem sz158 : szOf Try.prog 158 = some 1 := by kernel_rfl
theorem ei158 : eInfo Try.prog 158 = some (1,1,[.im (.int .u8 0)]) := by kernel_rfl
theorem ag158 : isAggT Try.prog 158 = false := by kernel_rfl
theorem sz159 : szOf Try.prog 159 = some 1 := by kernel_rfl
theorem ei159 : eInfo Try.prog 159 = some (1,1,[.im (.int .u8 0)]) := by kernel_rfl
theorem ag159 : isAggT Try.prog 159 = false := by kernel_rfl
theorem sz161 : szOf Try.prog 161 = some 1 := by kernel_rfl
theorem ei161 : eInfo Try.prog 161 = some (1,4,[.im (.int .i32 0)]) := by kernel_rfl
theorem ag161 : isAggT Try.prog 161 = false := by kernel_rfl
theorem sz162 : szOf Try.prog 162 = some 1 := by kernel_rfl
theorem ei162 : eInfo Try.prog 162 = some (1,4,[.im (.int .i32 0)]) := by kernel_rfl
theorem ag162 : isAggT Try.prog 162 = false := by kernel_rfl
theorem sz163 : szOf Try.prog 163 = some 11 := by kernel_rfl
theorem ei163 : eInfo Try.prog 163 = some (11,48,[.im (.int .u64 0),.im (.int .u64 0),.im (.int .u32 0),.im (.int .u8 0),.im (.int .u8 0),.im (.int .u8 0),.im (.int .u8 0),.im .nilFunc,.im (.pointer none),.im (.int .i32 0),.im (.int .i32 0)]) := by kernel_rfl
theorem bi163 : bInfo Try.prog 163 = some ([.im (.int .u64 0),.im (.int .u64 0),.im (.int .u32 0),.im (.int .u8 0),.im (.int .u8 0),.im (.int .u8 0),.im (.int .u8 0),.im .nilFunc,.im (.pointer none),.im (.int .i32 0),.im (.int .i32 0)],.str [(0,1),(1,1),(2,1),(3,1),(4,1),(5,1),(6,1),(7,1),(8,1),(9,1),(10,1)]) := by kernel_rfl
theorem za163 : zAgg Try.prog 163 = some [.im (.int .u64 0),.im (.int .u64 0),.im (.int .u32 0),.im (.int .u8 0),.im (.int .u8 0),.im (.int .u8 0),.im (.int .u8 0),.im .nilFunc,.im (.pointer none),.im (.int .i32 0),.im (.int .i32 0)] := by kernel_rfl
theorem ag163 : isAggT Try.prog 163 = true := by kernel_rfl
theorem sz164 : szOf Try.prog 164 = some 11 := by kernel_rfl
theorem ei164 : eInfo Try.prog 164 = some (11,48,[.im (.int .u64 0),.im (.int .u64 0),.im (.int .u32 0),.im (.int .u8 0),.im (.int .u8 0),.im (.int .u8 0),.im (.int .u8 0),.im .nilFunc,.im (.pointer none),.im (.int .i32 0),.im (.int .i32 0)]) := by kernel_rfl
theorem bi164 : bInfo Try.prog 164 = some ([.im (.int .u64 0),.im (.int .u64 0),.im (.int .u32 0),.im (.int .u8 0),.im (.int .u8 0),.im (.int .u8 0),.im (.int .u8 0),.im .nilFunc,.im (.pointer none),.im (.int .i32 0),.im (.int .i32 0)],.str [(0,1),(1,1),(2,1),(3,1),(4,1),(5,1),(6,1),(7,1),(8,1),(9,1),(10,1)]) := by kernel_rfl
theorem za164 : zAgg Try.prog 164 = some [.im (.int .u64 0),.im (.int .u64 0),.im (.int .u32 0),.im (.int .u8 0),.im (.int .u8 0),.im (.int .u8 0),.im (.int .u8 0),.im .nilFunc,.im (.pointer none),.im (.int .i32 0),.im (.int .i32 0)] := by kernel_rfl
theorem ag164 : isAggT Try.prog 164 = true := by kernel_rfl
attribute [go_sem] Try.underlying2 sz2 ei2 zi2 ag2 Try.underlying3 sz3 ei3 zi3 ag3 Try.underlying4 sz4 ei4 ag4 Try.underlying5 sz5 ei5 ag5 Try.underlying6 sz6 ei6 ag6 Try.underlying7 sz7 ei7 bi7 za7 ag7 Try.underlying8 sz8 ei8 bi8 za8 ag8 Try.underlying9 sz9 ei9 ag9 Try.underlying10 sz10 ei10 ag10 Try.underlying11 sz11 ei11 ag11 Try.underlying12 sz12 ei12 ag12 Try.underlying13 sz13 ei13 bi13 za13 ag13 Try.underlying14 sz14 ei14 bi14 za14 ag14 Try.underlying15 sz15 ei15 ag15 Try.underlying16 sz16 ei16 ag16 Try.underlying17 sz17 ei17 ag17 Try.underlying18 sz18 ei18 bi18 za18 ag18 Try.underlying19 sz19 ei19 bi19 za19 ag19 Try.underlying20 sz20 ei20 ag20 Try.underlying21 sz21 ei21 ag21 Try.underlying22 sz22 ei22 ag22 Try.underlying23 sz23 ei23 ag23 Try.underlying24 sz24 ei24 bi24 za24 ag24 Try.underlying25 sz25 ei25 bi25 za25 ag25 Try.underlying29 sz29 ei29 zi29 ag29 Try.underlying37 sz37 ei37 ag37 Try.underlying38 sz38 ei38 ag38 Try.underlying41 sz41 ei41 ag41 Try.underlying44 sz44 ei44 bi44 za44 ag44 Try.underlying45 sz45 ei45 bi45 za45 ag45 Try.underlying46 sz46 ei46 bi46 za46 ag46 Try.underlying47 sz47 ei47 bi47 za47 ag47 Try.underlying53 sz53 ei53 ag53 Try.underlying54 sz54 ei54 bi54 za54 ag54 Try.underlying55 sz55 ei55 bi55 za55 ag55 Try.underlying68 sz68 ei68 ag68 Try.underlying69 sz69 ei69 bi69 za69 ag69 Try.underlying70 sz70 ei70 bi70 za70 ag70 Try.underlying71 sz71 ei71 bi71 za71 ag71 Try.underlying72 sz72 ei72 bi72 za72 ag72 Try.underlying74 sz74 ei74 bi74 ag74 Try.underlying75 sz75 ei75 bi75 ag75 Try.underlying85 sz85 ei85 ag85 Try.underlying87 sz87 ei87 bi87 za87 ag87 Try.underlying88 sz88 ei88 bi88 za88 ag88 Try.underlying89 sz89 ei89 ag89 Try.underlying90 sz90 ei90 bi90 za90 ag90 Try.underlying91 sz91 ei91 bi91 za91 ag91 Try.underlying92 sz92 ei92 ag92 Try.underlying93 sz93 ei93 bi93 za93 ag93 Try.underlying94 sz94 ei94 bi94 za94 ag94 Try.underlying99 sz99 ei99 bi99 za99 ag99 Try.underlying100 sz100 ei100 bi100 za100 ag100 Try.underlying103 sz103 ei103 ag103 Try.underlying104 sz104 ei104 bi104 za104 ag104 Try.underlying105 sz105 ei105 bi105 za105 ag105 Try.underlying109 sz109 ei109 bi109 za109 ag109 Try.underlying110 sz110 ei110 bi110 za110 ag110 Try.underlying119 sz119 ei119 ag119 Try.underlying135 sz135 ei135 ag135 Try.underlying136 sz136 ei136 bi136 za136 ag136 Try.underlying137 sz137 ei137 bi137 za137 ag137 Try.underlying145 sz145 ei145 ag145 Try.underlying146 sz146 ei146 ag146 Try.underlying148 sz148 ei148 ag148 Try.underlying150 sz150 ei150 ag150 Try.underlying152 sz152 ei152 bi152 za152 ag152 Try.underlying153 sz153 ei153 bi153 za153 ag153 Try.underlying154 sz154 ei154 bi154 ag154 Try.underlying155 sz155 ei155 bi155 za155 ag155 Try.underlying156 sz156 ei156 bi156 za156 ag156 Try.underlying157 sz157 ei157 ag157 Try.underlying158 sz158 ei158 ag158 Try.underlying159 sz159 ei159 ag159 Try.underlying161 sz161 ei161 ag161 Try.underlying162 sz162 ei162 ag162 Try.underlying163 sz163 ei163 bi163 za163 ag163 Try.underlying164 sz164 ei164 bi164 za164 ag164
end Go.Proofs.Ytglgmmoomlnghaa
