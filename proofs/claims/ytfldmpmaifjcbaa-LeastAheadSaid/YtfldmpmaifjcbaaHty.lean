/-
  OF EACH TYPE OF THE TRANSLATION: its cells, its bytes, its zero, where the parts of a literal lie. Printed by program (gen_hty.py).
-/
import Derived.Test.YtfldmpmaifjcbaaProg
import Derived.Test.YtfldmpmaifjcbaaHs16
namespace Go.Proofs.Ytfldmpmaifjcbaa
open Go Go.Hs
theorem sz2 : szOf Try.prog 2 = some 1 := by kernel_rfl
theorem ei2 : eInfo Try.prog 2 = some (1,8,[.im (.int .i64 0)]) := by kernel_rfl
theorem zi2 : zInt Try.prog 2 = true := by kernel_rfl
theorem ag2 : isAggT Try.prog 2 = false := by kernel_rfl
theorem sz3 : szOf Try.prog 3 = some 1 := by kernel_rfl
theorem ei3 : eInfo Try.prog 3 = some (1,8,[.im (.int .i64 0)]) := by kernel_rfl
theorem zi3 : zInt Try.prog 3 = true := by kernel_rfl
theorem ag3 : isAggT Try.prog 3 = false := by kernel_rfl
theorem sz4 : szOf Try.prog 4 = some 1 := by kernel_rfl
theorem ei4 : eInfo Try.prog 4 = some (1,1,[.im (.bool false)]) := by kernel_rfl
theorem ag4 : isAggT Try.prog 4 = false := by kernel_rfl
theorem sz5 : szOf Try.prog 5 = some 1 := by kernel_rfl
theorem ei5 : eInfo Try.prog 5 = some (1,1,[.im (.int .u8 0)]) := by kernel_rfl
theorem ag5 : isAggT Try.prog 5 = false := by kernel_rfl
theorem sz6 : szOf Try.prog 6 = some 1 := by kernel_rfl
theorem ei6 : eInfo Try.prog 6 = some (1,1,[.im (.int .u8 0)]) := by kernel_rfl
theorem ag6 : isAggT Try.prog 6 = false := by kernel_rfl
theorem sz7 : szOf Try.prog 7 = some 4 := by kernel_rfl
theorem ei7 : eInfo Try.prog 7 = some (4,24,[.im (.int .i64 0),.im (.int .i64 0),.im (.bool false),.im (.int .u8 0)]) := by kernel_rfl
theorem bi7 : bInfo Try.prog 7 = some ([.im (.int .i64 0),.im (.int .i64 0),.im (.bool false),.im (.int .u8 0)],.str [(0,1),(1,1),(2,1),(3,1)]) := by kernel_rfl
theorem za7 : zAgg Try.prog 7 = some [.im (.int .i64 0),.im (.int .i64 0),.im (.bool false),.im (.int .u8 0)] := by kernel_rfl
theorem ag7 : isAggT Try.prog 7 = true := by kernel_rfl
theorem sz8 : szOf Try.prog 8 = some 4 := by kernel_rfl
theorem ei8 : eInfo Try.prog 8 = some (4,24,[.im (.int .i64 0),.im (.int .i64 0),.im (.bool false),.im (.int .u8 0)]) := by kernel_rfl
theorem bi8 : bInfo Try.prog 8 = some ([.im (.int .i64 0),.im (.int .i64 0),.im (.bool false),.im (.int .u8 0)],.str [(0,1),(1,1),(2,1),(3,1)]) := by kernel_rfl
theorem za8 : zAgg Try.prog 8 = some [.im (.int .i64 0),.im (.int .i64 0),.im (.bool false),.im (.int .u8 0)] := by kernel_rfl
theorem ag8 : isAggT Try.prog 8 = true := by kernel_rfl
theorem sz9 : szOf Try.prog 9 = some 1 := by kernel_rfl
theorem ei9 : eInfo Try.prog 9 = some (1,16,[.im (.string .empty)]) := by kernel_rfl
theorem ag9 : isAggT Try.prog 9 = false := by kernel_rfl
theorem sz10 : szOf Try.prog 10 = some 1 := by kernel_rfl
theorem ei10 : eInfo Try.prog 10 = some (1,16,[.im (.string .empty)]) := by kernel_rfl
theorem ag10 : isAggT Try.prog 10 = false := by kernel_rfl
theorem sz11 : szOf Try.prog 11 = some 1 := by kernel_rfl
theorem ei11 : eInfo Try.prog 11 = some (1,16,[.im (.string .empty)]) := by kernel_rfl
theorem ag11 : isAggT Try.prog 11 = false := by kernel_rfl
theorem sz12 : szOf Try.prog 12 = some 1 := by kernel_rfl
theorem ei12 : eInfo Try.prog 12 = some (1,8,[.im (.int .u64 0)]) := by kernel_rfl
theorem ag12 : isAggT Try.prog 12 = false := by kernel_rfl
theorem sz13 : szOf Try.prog 13 = some 2 := by kernel_rfl
theorem ei13 : eInfo Try.prog 13 = some (2,24,[.im (.string .empty),.im (.int .u64 0)]) := by kernel_rfl
theorem bi13 : bInfo Try.prog 13 = some ([.im (.string .empty),.im (.int .u64 0)],.str [(0,1),(1,1)]) := by kernel_rfl
theorem za13 : zAgg Try.prog 13 = some [.im (.string .empty),.im (.int .u64 0)] := by kernel_rfl
theorem ag13 : isAggT Try.prog 13 = true := by kernel_rfl
theorem sz14 : szOf Try.prog 14 = some 2 := by kernel_rfl
theorem ei14 : eInfo Try.prog 14 = some (2,24,[.im (.string .empty),.im (.int .u64 0)]) := by kernel_rfl
theorem bi14 : bInfo Try.prog 14 = some ([.im (.string .empty),.im (.int .u64 0)],.str [(0,1),(1,1)]) := by kernel_rfl
theorem za14 : zAgg Try.prog 14 = some [.im (.string .empty),.im (.int .u64 0)] := by kernel_rfl
theorem ag14 : isAggT Try.prog 14 = true := by kernel_rfl
theorem sz15 : szOf Try.prog 15 = some 1 := by kernel_rfl
theorem ei15 : eInfo Try.prog 15 = some (1,8,[.im (.pointer none)]) := by kernel_rfl
theorem ag15 : isAggT Try.prog 15 = false := by kernel_rfl
theorem sz16 : szOf Try.prog 16 = some 1 := by kernel_rfl
theorem ei16 : eInfo Try.prog 16 = some (1,8,[.im (.pointer none)]) := by kernel_rfl
theorem ag16 : isAggT Try.prog 16 = false := by kernel_rfl
theorem sz17 : szOf Try.prog 17 = some 1 := by kernel_rfl
theorem ei17 : eInfo Try.prog 17 = some (1,8,[.im (.pointer none)]) := by kernel_rfl
theorem ag17 : isAggT Try.prog 17 = false := by kernel_rfl
theorem sz18 : szOf Try.prog 18 = some 1 := by kernel_rfl
theorem ei18 : eInfo Try.prog 18 = some (1,8,[.im (.pointer none)]) := by kernel_rfl
theorem bi18 : bInfo Try.prog 18 = some ([.im (.pointer none)],.str [(0,1)]) := by kernel_rfl
theorem za18 : zAgg Try.prog 18 = some [.im (.pointer none)] := by kernel_rfl
theorem ag18 : isAggT Try.prog 18 = true := by kernel_rfl
theorem sz19 : szOf Try.prog 19 = some 1 := by kernel_rfl
theorem ei19 : eInfo Try.prog 19 = some (1,8,[.im (.pointer none)]) := by kernel_rfl
theorem bi19 : bInfo Try.prog 19 = some ([.im (.pointer none)],.str [(0,1)]) := by kernel_rfl
theorem za19 : zAgg Try.prog 19 = some [.im (.pointer none)] := by kernel_rfl
theorem ag19 : isAggT Try.prog 19 = true := by kernel_rfl
theorem sz20 : szOf Try.prog 20 = some 1 := by kernel_rfl
theorem ei20 : eInfo Try.prog 20 = some (1,16,[.im .nilIface]) := by kernel_rfl
theorem ag20 : isAggT Try.prog 20 = false := by kernel_rfl
theorem sz21 : szOf Try.prog 21 = some 1 := by kernel_rfl
theorem ei21 : eInfo Try.prog 21 = some (1,4,[.im (.int .i32 0)]) := by kernel_rfl
theorem ag21 : isAggT Try.prog 21 = false := by kernel_rfl
theorem sz22 : szOf Try.prog 22 = some 1 := by kernel_rfl
theorem ei22 : eInfo Try.prog 22 = some (1,24,[.nil]) := by kernel_rfl
theorem ag22 : isAggT Try.prog 22 = false := by kernel_rfl
theorem sz24 : szOf Try.prog 24 = some 1 := by kernel_rfl
theorem ei24 : eInfo Try.prog 24 = some (1,24,[.nil]) := by kernel_rfl
theorem ag24 : isAggT Try.prog 24 = false := by kernel_rfl
theorem sz27 : szOf Try.prog 27 = some 1 := by kernel_rfl
theorem ei27 : eInfo Try.prog 27 = some (1,24,[.nil]) := by kernel_rfl
theorem ag27 : isAggT Try.prog 27 = false := by kernel_rfl
theorem sz30 : szOf Try.prog 30 = some 1 := by kernel_rfl
theorem ei30 : eInfo Try.prog 30 = some (1,24,[.nil]) := by kernel_rfl
theorem ag30 : isAggT Try.prog 30 = false := by kernel_rfl
theorem sz34 : szOf Try.prog 34 = some 1 := by kernel_rfl
theorem ei34 : eInfo Try.prog 34 = some (1,8,[.im (.int .u64 0)]) := by kernel_rfl
theorem ag34 : isAggT Try.prog 34 = false := by kernel_rfl
theorem sz35 : szOf Try.prog 35 = some 4 := by kernel_rfl
theorem ei35 : eInfo Try.prog 35 = some (4,32,[.im (.int .u64 0),.im (.int .u64 0),.im (.int .u64 0),.im (.int .u64 0)]) := by kernel_rfl
theorem bi35 : bInfo Try.prog 35 = some ([.im (.int .u64 0),.im (.int .u64 0),.im (.int .u64 0),.im (.int .u64 0)],.arr 1) := by kernel_rfl
theorem ag35 : isAggT Try.prog 35 = true := by kernel_rfl
theorem sz36 : szOf Try.prog 36 = some 4 := by kernel_rfl
theorem ei36 : eInfo Try.prog 36 = some (4,32,[.im (.int .u64 0),.im (.int .u64 0),.im (.int .u64 0),.im (.int .u64 0)]) := by kernel_rfl
theorem bi36 : bInfo Try.prog 36 = some ([.im (.int .u64 0),.im (.int .u64 0),.im (.int .u64 0),.im (.int .u64 0)],.arr 1) := by kernel_rfl
theorem ag36 : isAggT Try.prog 36 = true := by kernel_rfl
theorem sz37 : szOf Try.prog 37 = some 8 := by kernel_rfl
theorem ei37 : eInfo Try.prog 37 = some (8,64,[.im (.int .i64 0),.im (.int .i64 0),.im (.int .i64 0),.im (.int .i64 0),.im (.int .u64 0),.im (.int .u64 0),.im (.int .u64 0),.im (.int .u64 0)]) := by kernel_rfl
theorem bi37 : bInfo Try.prog 37 = some ([.im (.int .i64 0),.im (.int .i64 0),.im (.int .i64 0),.im (.int .i64 0),.im (.int .u64 0),.im (.int .u64 0),.im (.int .u64 0),.im (.int .u64 0)],.str [(0,1),(1,1),(2,1),(3,1),(4,4)]) := by kernel_rfl
theorem za37 : zAgg Try.prog 37 = some [.im (.int .i64 0),.im (.int .i64 0),.im (.int .i64 0),.im (.int .i64 0),.im (.int .u64 0),.im (.int .u64 0),.im (.int .u64 0),.im (.int .u64 0)] := by kernel_rfl
theorem ag37 : isAggT Try.prog 37 = true := by kernel_rfl
theorem sz38 : szOf Try.prog 38 = some 8 := by kernel_rfl
theorem ei38 : eInfo Try.prog 38 = some (8,64,[.im (.int .i64 0),.im (.int .i64 0),.im (.int .i64 0),.im (.int .i64 0),.im (.int .u64 0),.im (.int .u64 0),.im (.int .u64 0),.im (.int .u64 0)]) := by kernel_rfl
theorem bi38 : bInfo Try.prog 38 = some ([.im (.int .i64 0),.im (.int .i64 0),.im (.int .i64 0),.im (.int .i64 0),.im (.int .u64 0),.im (.int .u64 0),.im (.int .u64 0),.im (.int .u64 0)],.str [(0,1),(1,1),(2,1),(3,1),(4,4)]) := by kernel_rfl
theorem za38 : zAgg Try.prog 38 = some [.im (.int .i64 0),.im (.int .i64 0),.im (.int .i64 0),.im (.int .i64 0),.im (.int .u64 0),.im (.int .u64 0),.im (.int .u64 0),.im (.int .u64 0)] := by kernel_rfl
theorem ag38 : isAggT Try.prog 38 = true := by kernel_rfl
theorem sz39 : szOf Try.prog 39 = some 1 := by kernel_rfl
theorem ei39 : eInfo Try.prog 39 = some (1,24,[.nil]) := by kernel_rfl
theorem ag39 : isAggT Try.prog 39 = false := by kernel_rfl
theorem sz43 : szOf Try.prog 43 = some 1 := by kernel_rfl
theorem ei43 : eInfo Try.prog 43 = some (1,24,[.nil]) := by kernel_rfl
theorem ag43 : isAggT Try.prog 43 = false := by kernel_rfl
theorem sz44 : szOf Try.prog 44 = some 2 := by kernel_rfl
theorem ei44 : eInfo Try.prog 44 = some (2,48,[.nil,.nil]) := by kernel_rfl
theorem bi44 : bInfo Try.prog 44 = some ([.nil,.nil],.str [(0,1),(1,1)]) := by kernel_rfl
theorem za44 : zAgg Try.prog 44 = some [.nil,.nil] := by kernel_rfl
theorem ag44 : isAggT Try.prog 44 = true := by kernel_rfl
theorem sz45 : szOf Try.prog 45 = some 2 := by kernel_rfl
theorem ei45 : eInfo Try.prog 45 = some (2,48,[.nil,.nil]) := by kernel_rfl
theorem bi45 : bInfo Try.prog 45 = some ([.nil,.nil],.str [(0,1),(1,1)]) := by kernel_rfl
theorem za45 : zAgg Try.prog 45 = some [.nil,.nil] := by kernel_rfl
theorem ag45 : isAggT Try.prog 45 = true := by kernel_rfl
theorem sz51 : szOf Try.prog 51 = some 1 := by kernel_rfl
theorem ei51 : eInfo Try.prog 51 = some (1,24,[.nil]) := by kernel_rfl
theorem ag51 : isAggT Try.prog 51 = false := by kernel_rfl
theorem sz53 : szOf Try.prog 53 = some 2 := by kernel_rfl
theorem ei53 : eInfo Try.prog 53 = some (2,16,[.im (.int .i64 0),.im (.int .i64 0)]) := by kernel_rfl
theorem bi53 : bInfo Try.prog 53 = some ([.im (.int .i64 0),.im (.int .i64 0)],.str [(0,1),(1,1)]) := by kernel_rfl
theorem za53 : zAgg Try.prog 53 = some [.im (.int .i64 0),.im (.int .i64 0)] := by kernel_rfl
theorem ag53 : isAggT Try.prog 53 = true := by kernel_rfl
theorem sz54 : szOf Try.prog 54 = some 2 := by kernel_rfl
theorem ei54 : eInfo Try.prog 54 = some (2,16,[.im (.int .i64 0),.im (.int .i64 0)]) := by kernel_rfl
theorem bi54 : bInfo Try.prog 54 = some ([.im (.int .i64 0),.im (.int .i64 0)],.str [(0,1),(1,1)]) := by kernel_rfl
theorem za54 : zAgg Try.prog 54 = some [.im (.int .i64 0),.im (.int .i64 0)] := by kernel_rfl
theorem ag54 : isAggT Try.prog 54 = true := by kernel_rfl
theorem sz55 : szOf Try.prog 55 = some 4 := by kernel_rfl
theorem ei55 : eInfo Try.prog 55 = some (4,32,[.im (.int .i64 0),.im (.int .i64 0),.im (.int .i64 0),.im (.int .i64 0)]) := by kernel_rfl
theorem bi55 : bInfo Try.prog 55 = some ([.im (.int .i64 0),.im (.int .i64 0),.im (.int .i64 0),.im (.int .i64 0)],.str [(0,1),(1,1),(2,1),(3,1)]) := by kernel_rfl
theorem za55 : zAgg Try.prog 55 = some [.im (.int .i64 0),.im (.int .i64 0),.im (.int .i64 0),.im (.int .i64 0)] := by kernel_rfl
theorem ag55 : isAggT Try.prog 55 = true := by kernel_rfl
theorem sz56 : szOf Try.prog 56 = some 4 := by kernel_rfl
theorem ei56 : eInfo Try.prog 56 = some (4,32,[.im (.int .i64 0),.im (.int .i64 0),.im (.int .i64 0),.im (.int .i64 0)]) := by kernel_rfl
theorem bi56 : bInfo Try.prog 56 = some ([.im (.int .i64 0),.im (.int .i64 0),.im (.int .i64 0),.im (.int .i64 0)],.str [(0,1),(1,1),(2,1),(3,1)]) := by kernel_rfl
theorem za56 : zAgg Try.prog 56 = some [.im (.int .i64 0),.im (.int .i64 0),.im (.int .i64 0),.im (.int .i64 0)] := by kernel_rfl
theorem ag56 : isAggT Try.prog 56 = true := by kernel_rfl
theorem sz58 : szOf Try.prog 58 = some 1 := by kernel_rfl
theorem ei58 : eInfo Try.prog 58 = some (1,8,[.im (.int .i64 0)]) := by kernel_rfl
theorem zi58 : zInt Try.prog 58 = true := by kernel_rfl
theorem ag58 : isAggT Try.prog 58 = false := by kernel_rfl
theorem sz64 : szOf Try.prog 64 = some 3 := by kernel_rfl
theorem ei64 : eInfo Try.prog 64 = some (3,24,[.im (.int .i64 0),.im (.int .i64 0),.im (.int .i64 0)]) := by kernel_rfl
theorem bi64 : bInfo Try.prog 64 = some ([.im (.int .i64 0),.im (.int .i64 0),.im (.int .i64 0)],.str [(0,1),(1,2)]) := by kernel_rfl
theorem za64 : zAgg Try.prog 64 = some [.im (.int .i64 0),.im (.int .i64 0),.im (.int .i64 0)] := by kernel_rfl
theorem ag64 : isAggT Try.prog 64 = true := by kernel_rfl
theorem sz65 : szOf Try.prog 65 = some 3 := by kernel_rfl
theorem ei65 : eInfo Try.prog 65 = some (3,24,[.im (.int .i64 0),.im (.int .i64 0),.im (.int .i64 0)]) := by kernel_rfl
theorem bi65 : bInfo Try.prog 65 = some ([.im (.int .i64 0),.im (.int .i64 0),.im (.int .i64 0)],.str [(0,1),(1,2)]) := by kernel_rfl
theorem za65 : zAgg Try.prog 65 = some [.im (.int .i64 0),.im (.int .i64 0),.im (.int .i64 0)] := by kernel_rfl
theorem ag65 : isAggT Try.prog 65 = true := by kernel_rfl
theorem sz78 : szOf Try.prog 78 = some 1 := by kernel_rfl
theorem ei78 : eInfo Try.prog 78 = some (1,24,[.nil]) := by kernel_rfl
theorem ag78 : isAggT Try.prog 78 = false := by kernel_rfl
theorem sz79 : szOf Try.prog 79 = some 2 := by kernel_rfl
theorem ei79 : eInfo Try.prog 79 = some (2,24,[.im (.string .empty),.im (.bool false)]) := by kernel_rfl
theorem bi79 : bInfo Try.prog 79 = some ([.im (.string .empty),.im (.bool false)],.str [(0,1),(1,1)]) := by kernel_rfl
theorem za79 : zAgg Try.prog 79 = some [.im (.string .empty),.im (.bool false)] := by kernel_rfl
theorem ag79 : isAggT Try.prog 79 = true := by kernel_rfl
theorem sz80 : szOf Try.prog 80 = some 2 := by kernel_rfl
theorem ei80 : eInfo Try.prog 80 = some (2,24,[.im (.string .empty),.im (.bool false)]) := by kernel_rfl
theorem bi80 : bInfo Try.prog 80 = some ([.im (.string .empty),.im (.bool false)],.str [(0,1),(1,1)]) := by kernel_rfl
theorem za80 : zAgg Try.prog 80 = some [.im (.string .empty),.im (.bool false)] := by kernel_rfl
theorem ag80 : isAggT Try.prog 80 = true := by kernel_rfl
theorem sz83 : szOf Try.prog 83 = some 1 := by kernel_rfl
theorem ei83 : eInfo Try.prog 83 = some (1,24,[.nil]) := by kernel_rfl
theorem ag83 : isAggT Try.prog 83 = false := by kernel_rfl
theorem sz89 : szOf Try.prog 89 = some 4 := by kernel_rfl
theorem ei89 : eInfo Try.prog 89 = some (4,32,[.im (.int .i64 0),.im (.int .i64 0),.im (.int .i64 0),.im (.int .i64 0)]) := by kernel_rfl
theorem bi89 : bInfo Try.prog 89 = some ([.im (.int .i64 0),.im (.int .i64 0),.im (.int .i64 0),.im (.int .i64 0)],.str [(0,1),(1,1),(2,1),(3,1)]) := by kernel_rfl
theorem za89 : zAgg Try.prog 89 = some [.im (.int .i64 0),.im (.int .i64 0),.im (.int .i64 0),.im (.int .i64 0)] := by kernel_rfl
theorem ag89 : isAggT Try.prog 89 = true := by kernel_rfl
theorem sz94 : szOf Try.prog 94 = some 1 := by kernel_rfl
theorem ei94 : eInfo Try.prog 94 = some (1,8,[.im (.pointer none)]) := by kernel_rfl
theorem ag94 : isAggT Try.prog 94 = false := by kernel_rfl
theorem sz95 : szOf Try.prog 95 = some 2 := by kernel_rfl
theorem ei95 : eInfo Try.prog 95 = some (2,48,[.nil,.nil]) := by kernel_rfl
theorem bi95 : bInfo Try.prog 95 = some ([.nil,.nil],.str [(0,1),(1,1)]) := by kernel_rfl
theorem za95 : zAgg Try.prog 95 = some [.nil,.nil] := by kernel_rfl
theorem ag95 : isAggT Try.prog 95 = true := by kernel_rfl
theorem sz96 : szOf Try.prog 96 = some 2 := by kernel_rfl
theorem ei96 : eInfo Try.prog 96 = some (2,48,[.nil,.nil]) := by kernel_rfl
theorem bi96 : bInfo Try.prog 96 = some ([.nil,.nil],.str [(0,1),(1,1)]) := by kernel_rfl
theorem za96 : zAgg Try.prog 96 = some [.nil,.nil] := by kernel_rfl
theorem ag96 : isAggT Try.prog 96 = true := by kernel_rfl
theorem sz98 : szOf Try.prog 98 = some 1 := by kernel_rfl
theorem ei98 : eInfo Try.prog 98 = some (1,8,[.im (.pointer none)]) := by kernel_rfl
theorem ag98 : isAggT Try.prog 98 = false := by kernel_rfl
theorem sz99 : szOf Try.prog 99 = some 4 := by kernel_rfl
theorem ei99 : eInfo Try.prog 99 = some (4,80,[.nil,.nil,.nil,.im (.int .i64 0)]) := by kernel_rfl
theorem bi99 : bInfo Try.prog 99 = some ([.nil,.nil,.nil,.im (.int .i64 0)],.str [(0,1),(1,1),(2,1),(3,1)]) := by kernel_rfl
theorem za99 : zAgg Try.prog 99 = some [.nil,.nil,.nil,.im (.int .i64 0)] := by kernel_rfl
theorem ag99 : isAggT Try.prog 99 = true := by kernel_rfl
theorem sz100 : szOf Try.prog 100 = some 4 := by kernel_rfl
theorem ei100 : eInfo Try.prog 100 = some (4,80,[.nil,.nil,.nil,.im (.int .i64 0)]) := by kernel_rfl
theorem bi100 : bInfo Try.prog 100 = some ([.nil,.nil,.nil,.im (.int .i64 0)],.str [(0,1),(1,1),(2,1),(3,1)]) := by kernel_rfl
theorem za100 : zAgg Try.prog 100 = some [.nil,.nil,.nil,.im (.int .i64 0)] := by kernel_rfl
theorem ag100 : isAggT Try.prog 100 = true := by kernel_rfl
theorem sz108 : szOf Try.prog 108 = some 1 := by kernel_rfl
theorem ei108 : eInfo Try.prog 108 = some (1,8,[.im (.pointer none)]) := by kernel_rfl
theorem ag108 : isAggT Try.prog 108 = false := by kernel_rfl
theorem sz111 : szOf Try.prog 111 = some 1 := by kernel_rfl
theorem ei111 : eInfo Try.prog 111 = some (1,8,[.im (.pointer none)]) := by kernel_rfl
theorem ag111 : isAggT Try.prog 111 = false := by kernel_rfl
theorem sz115 : szOf Try.prog 115 = some 1 := by kernel_rfl
theorem ei115 : eInfo Try.prog 115 = some (1,24,[.nil]) := by kernel_rfl
theorem ag115 : isAggT Try.prog 115 = false := by kernel_rfl
theorem sz116 : szOf Try.prog 116 = some 2 := by kernel_rfl
theorem ei116 : eInfo Try.prog 116 = some (2,32,[.im (.int .i64 0),.nil]) := by kernel_rfl
theorem bi116 : bInfo Try.prog 116 = some ([.im (.int .i64 0),.nil],.str [(0,1),(1,1)]) := by kernel_rfl
theorem za116 : zAgg Try.prog 116 = some [.im (.int .i64 0),.nil] := by kernel_rfl
theorem ag116 : isAggT Try.prog 116 = true := by kernel_rfl
theorem sz117 : szOf Try.prog 117 = some 2 := by kernel_rfl
theorem ei117 : eInfo Try.prog 117 = some (2,32,[.im (.int .i64 0),.nil]) := by kernel_rfl
theorem bi117 : bInfo Try.prog 117 = some ([.im (.int .i64 0),.nil],.str [(0,1),(1,1)]) := by kernel_rfl
theorem za117 : zAgg Try.prog 117 = some [.im (.int .i64 0),.nil] := by kernel_rfl
theorem ag117 : isAggT Try.prog 117 = true := by kernel_rfl
theorem sz121 : szOf Try.prog 121 = some 2 := by kernel_rfl
theorem ei121 : eInfo Try.prog 121 = some (2,16,[.im (.int .u64 0),.im (.int .u64 0)]) := by kernel_rfl
theorem bi121 : bInfo Try.prog 121 = some ([.im (.int .u64 0),.im (.int .u64 0)],.arr 1) := by kernel_rfl
theorem ag121 : isAggT Try.prog 121 = true := by kernel_rfl
theorem sz122 : szOf Try.prog 122 = some 130 := by kernel_rfl
theorem ei122 : eInfo Try.prog 122 = some (130,1040,List.replicate 130 (.im (.int .u64 0))) := by kernel_rfl
theorem bi122 : bInfo Try.prog 122 = some (List.replicate 130 (.im (.int .u64 0)),.arr 2) := by kernel_rfl
theorem ag122 : isAggT Try.prog 122 = true := by kernel_rfl
theorem sz123 : szOf Try.prog 123 = some 130 := by kernel_rfl
theorem ei123 : eInfo Try.prog 123 = some (130,1040,List.replicate 130 (.im (.int .u64 0))) := by kernel_rfl
theorem bi123 : bInfo Try.prog 123 = some (List.replicate 130 (.im (.int .u64 0)),.arr 2) := by kernel_rfl
theorem ag123 : isAggT Try.prog 123 = true := by kernel_rfl
theorem sz124 : szOf Try.prog 124 = some 1 := by kernel_rfl
theorem ei124 : eInfo Try.prog 124 = some (1,24,[.nil]) := by kernel_rfl
theorem ag124 : isAggT Try.prog 124 = false := by kernel_rfl
theorem sz125 : szOf Try.prog 125 = some 3 := by kernel_rfl
theorem ei125 : eInfo Try.prog 125 = some (3,72,[.nil,.nil,.nil]) := by kernel_rfl
theorem bi125 : bInfo Try.prog 125 = some ([.nil,.nil,.nil],.str [(0,1),(1,1),(2,1)]) := by kernel_rfl
theorem za125 : zAgg Try.prog 125 = some [.nil,.nil,.nil] := by kernel_rfl
theorem ag125 : isAggT Try.prog 125 = true := by kernel_rfl
theorem sz126 : szOf Try.prog 126 = some 3 := by kernel_rfl
theorem ei126 : eInfo Try.prog 126 = some (3,72,[.nil,.nil,.nil]) := by kernel_rfl
theorem bi126 : bInfo Try.prog 126 = some ([.nil,.nil,.nil],.str [(0,1),(1,1),(2,1)]) := by kernel_rfl
theorem za126 : zAgg Try.prog 126 = some [.nil,.nil,.nil] := by kernel_rfl
theorem ag126 : isAggT Try.prog 126 = true := by kernel_rfl
theorem sz133 : szOf Try.prog 133 = some 1 := by kernel_rfl
theorem ei133 : eInfo Try.prog 133 = some (1,8,[.im (.pointer none)]) := by kernel_rfl
theorem ag133 : isAggT Try.prog 133 = false := by kernel_rfl
theorem sz137 : szOf Try.prog 137 = some 10 := by kernel_rfl
theorem ei137 : eInfo Try.prog 137 = some (10,10,[.im (.bool false),.im (.bool false),.im (.bool false),.im (.bool false),.im (.bool false),.im (.bool false),.im (.bool false),.im (.bool false),.im (.bool false),.im (.bool false)]) := by kernel_rfl
theorem bi137 : bInfo Try.prog 137 = some ([.im (.bool false),.im (.bool false),.im (.bool false),.im (.bool false),.im (.bool false),.im (.bool false),.im (.bool false),.im (.bool false),.im (.bool false),.im (.bool false)],.arr 1) := by kernel_rfl
theorem ag137 : isAggT Try.prog 137 = true := by kernel_rfl
theorem sz138 : szOf Try.prog 138 = some 1 := by kernel_rfl
theorem ei138 : eInfo Try.prog 138 = some (1,8,[.im (.pointer none)]) := by kernel_rfl
theorem ag138 : isAggT Try.prog 138 = false := by kernel_rfl
theorem sz139 : szOf Try.prog 139 = some 2 := by kernel_rfl
theorem ei139 : eInfo Try.prog 139 = some (2,32,[.im (.pointer none),.nil]) := by kernel_rfl
theorem bi139 : bInfo Try.prog 139 = some ([.im (.pointer none),.nil],.str [(0,1),(1,1)]) := by kernel_rfl
theorem za139 : zAgg Try.prog 139 = some [.im (.pointer none),.nil] := by kernel_rfl
theorem ag139 : isAggT Try.prog 139 = true := by kernel_rfl
theorem sz140 : szOf Try.prog 140 = some 2 := by kernel_rfl
theorem ei140 : eInfo Try.prog 140 = some (2,32,[.im (.pointer none),.nil]) := by kernel_rfl
theorem bi140 : bInfo Try.prog 140 = some ([.im (.pointer none),.nil],.str [(0,1),(1,1)]) := by kernel_rfl
theorem za140 : zAgg Try.prog 140 = some [.im (.pointer none),.nil] := by kernel_rfl
theorem ag140 : isAggT Try.prog 140 = true := by kernel_rfl
theorem sz152 : szOf Try.prog 152 = some 1 := by kernel_rfl
theorem ei152 : eInfo Try.prog 152 = some (1,24,[.nil]) := by kernel_rfl
theorem ag152 : isAggT Try.prog 152 = false := by kernel_rfl
theorem sz156 : szOf Try.prog 156 = some 4 := by kernel_rfl
theorem ei156 : eInfo Try.prog 156 = some (4,40,[.im (.pointer none),.im (.pointer none),.im (.pointer none),.im (.string .empty)]) := by kernel_rfl
theorem bi156 : bInfo Try.prog 156 = some ([.im (.pointer none),.im (.pointer none),.im (.pointer none),.im (.string .empty)],.str [(0,1),(1,1),(2,1),(3,1)]) := by kernel_rfl
theorem za156 : zAgg Try.prog 156 = some [.im (.pointer none),.im (.pointer none),.im (.pointer none),.im (.string .empty)] := by kernel_rfl
theorem ag156 : isAggT Try.prog 156 = true := by kernel_rfl
theorem sz157 : szOf Try.prog 157 = some 4 := by kernel_rfl
theorem ei157 : eInfo Try.prog 157 = some (4,40,[.im (.pointer none),.im (.pointer none),.im (.pointer none),.im (.string .empty)]) := by kernel_rfl
theorem bi157 : bInfo Try.prog 157 = some ([.im (.pointer none),.im (.pointer none),.im (.pointer none),.im (.string .empty)],.str [(0,1),(1,1),(2,1),(3,1)]) := by kernel_rfl
theorem za157 : zAgg Try.prog 157 = some [.im (.pointer none),.im (.pointer none),.im (.pointer none),.im (.string .empty)] := by kernel_rfl
theorem ag157 : isAggT Try.prog 157 = true := by kernel_rfl
theorem sz158 : szOf Try.prog 158 = some 0 := by kernel_rfl
theorem ei158 : eInfo Try.prog 158 = some (0,0,[]) := by kernel_rfl
theorem bi158 : bInfo Try.prog 158 = some ([],.arr 1) := by kernel_rfl
theorem ag158 : isAggT Try.prog 158 = true := by kernel_rfl
theorem sz159 : szOf Try.prog 159 = some 0 := by kernel_rfl
theorem ei159 : eInfo Try.prog 159 = some (0,0,[]) := by kernel_rfl
theorem bi159 : bInfo Try.prog 159 = some ([],.str [(0,0)]) := by kernel_rfl
theorem za159 : zAgg Try.prog 159 = some [] := by kernel_rfl
theorem ag159 : isAggT Try.prog 159 = true := by kernel_rfl
theorem sz160 : szOf Try.prog 160 = some 0 := by kernel_rfl
theorem ei160 : eInfo Try.prog 160 = some (0,0,[]) := by kernel_rfl
theorem bi160 : bInfo Try.prog 160 = some ([],.str [(0,0)]) := by kernel_rfl
theorem za160 : zAgg Try.prog 160 = some [] := by kernel_rfl
theorem ag160 : isAggT Try.prog 160 = true := by kernel_rfl
theorem sz162 : szOf Try.prog 162 = some 1 := by kernel_rfl
theorem ei162 : eInfo Try.prog 162 = some (1,4,[.im (.int .u32 0)]) := by kernel_rfl
theorem ag162 : isAggT Try.prog 162 = false := by kernel_rfl
theorem sz163 : szOf Try.prog 163 = some 1 := by kernel_rfl
theorem ei163 : eInfo Try.prog 163 = some (1,1,[.im (.int .u8 0)]) := by kernel_rfl
theorem ag163 : isAggT Try.prog 163 = false := by kernel_rfl
theorem sz164 : szOf Try.prog 164 = some 1 := by kernel_rfl
theorem ei164 : eInfo Try.prog 164 = some (1,1,[.im (.int .u8 0)]) := by kernel_rfl
theorem ag164 : isAggT Try.prog 164 = false := by kernel_rfl
theorem sz166 : szOf Try.prog 166 = some 1 := by kernel_rfl
theorem ei166 : eInfo Try.prog 166 = some (1,8,[.im (.pointer none)]) := by kernel_rfl
theorem ag166 : isAggT Try.prog 166 = false := by kernel_rfl
theorem sz167 : szOf Try.prog 167 = some 1 := by kernel_rfl
theorem ei167 : eInfo Try.prog 167 = some (1,4,[.im (.int .i32 0)]) := by kernel_rfl
theorem ag167 : isAggT Try.prog 167 = false := by kernel_rfl
theorem sz168 : szOf Try.prog 168 = some 1 := by kernel_rfl
theorem ei168 : eInfo Try.prog 168 = some (1,4,[.im (.int .i32 0)]) := by kernel_rfl
theorem ag168 : isAggT Try.prog 168 = false := by kernel_rfl
theorem sz169 : szOf Try.prog 169 = some 11 := by kernel_rfl
theorem ei169 : eInfo Try.prog 169 = some (11,48,[.im (.int .u64 0),.im (.int .u64 0),.im (.int .u32 0),.im (.int .u8 0),.im (.int .u8 0),.im (.int .u8 0),.im (.int .u8 0),.im .nilFunc,.im (.pointer none),.im (.int .i32 0),.im (.int .i32 0)]) := by kernel_rfl
theorem bi169 : bInfo Try.prog 169 = some ([.im (.int .u64 0),.im (.int .u64 0),.im (.int .u32 0),.im (.int .u8 0),.im (.int .u8 0),.im (.int .u8 0),.im (.int .u8 0),.im .nilFunc,.im (.pointer none),.im (.int .i32 0),.im (.int .i32 0)],.str [(0,1),(1,1),(2,1),(3,1),(4,1),(5,1),(6,1),(7,1),(8,1),(9,1),(10,1)]) := by kernel_rfl
theorem za169 : zAgg Try.prog 169 = some [.im (.int .u64 0),.im (.int .u64 0),.im (.int .u32 0),.im (.int .u8 0),.im (.int .u8 0),.im (.int .u8 0),.im (.int .u8 0),.im .nilFunc,.im (.pointer none),.im (.int .i32 0),.im (.int .i32 0)] := by kernel_rfl
theorem ag169 : isAggT Try.prog 169 = true := by kernel_rfl
theorem sz170 : szOf Try.prog 170 = some 11 := by kernel_rfl
theorem ei170 : eInfo Try.prog 170 = some (11,48,[.im (.int .u64 0),.im (.int .u64 0),.im (.int .u32 0),.im (.int .u8 0),.im (.int .u8 0),.im (.int .u8 0),.im (.int .u8 0),.im .nilFunc,.im (.pointer none),.im (.int .i32 0),.im (.int .i32 0)]) := by kernel_rfl
theorem bi170 : bInfo Try.prog 170 = some ([.im (.int .u64 0),.im (.int .u64 0),.im (.int .u32 0),.im (.int .u8 0),.im (.int .u8 0),.im (.int .u8 0),.im (.int .u8 0),.im .nilFunc,.im (.pointer none),.im (.int .i32 0),.im (.int .i32 0)],.str [(0,1),(1,1),(2,1),(3,1),(4,1),(5,1),(6,1),(7,1),(8,1),(9,1),(10,1)]) := by kernel_rfl
theorem za170 : zAgg Try.prog 170 = some [.im (.int .u64 0),.im (.int .u64 0),.im (.int .u32 0),.im (.int .u8 0),.im (.int .u8 0),.im (.int .u8 0),.im (.int .u8 0),.im .nilFunc,.im (.pointer none),.im (.int .i32 0),.im (.int .i32 0)] := by kernel_rfl
theorem ag170 : isAggT Try.prog 170 = true := by kernel_rfl
theorem sz171 : szOf Try.prog 171 = some 1 := by kernel_rfl
theorem ei171 : eInfo Try.prog 171 = some (1,8,[.im (.pointer none)]) := by kernel_rfl
theorem ag171 : isAggT Try.prog 171 = false := by kernel_rfl
attribute [go_sem] Try.underlying2 sz2 ei2 zi2 ag2 Try.underlying3 sz3 ei3 zi3 ag3 Try.underlying4 sz4 ei4 ag4 Try.underlying5 sz5 ei5 ag5 Try.underlying6 sz6 ei6 ag6 Try.underlying7 sz7 ei7 bi7 za7 ag7 Try.underlying8 sz8 ei8 bi8 za8 ag8 Try.underlying9 sz9 ei9 ag9 Try.underlying10 sz10 ei10 ag10 Try.underlying11 sz11 ei11 ag11 Try.underlying12 sz12 ei12 ag12 Try.underlying13 sz13 ei13 bi13 za13 ag13 Try.underlying14 sz14 ei14 bi14 za14 ag14 Try.underlying15 sz15 ei15 ag15 Try.underlying16 sz16 ei16 ag16 Try.underlying17 sz17 ei17 ag17 Try.underlying18 sz18 ei18 bi18 za18 ag18 Try.underlying19 sz19 ei19 bi19 za19 ag19 Try.underlying20 sz20 ei20 ag20 Try.underlying21 sz21 ei21 ag21 Try.underlying22 sz22 ei22 ag22 Try.underlying24 sz24 ei24 ag24 Try.underlying27 sz27 ei27 ag27 Try.underlying30 sz30 ei30 ag30 Try.underlying34 sz34 ei34 ag34 Try.underlying35 sz35 ei35 bi35 ag35 Try.underlying36 sz36 ei36 bi36 ag36 Try.underlying37 sz37 ei37 bi37 za37 ag37 Try.underlying38 sz38 ei38 bi38 za38 ag38 Try.underlying39 sz39 ei39 ag39 Try.underlying43 sz43 ei43 ag43 Try.underlying44 sz44 ei44 bi44 za44 ag44 Try.underlying45 sz45 ei45 bi45 za45 ag45 Try.underlying51 sz51 ei51 ag51 Try.underlying53 sz53 ei53 bi53 za53 ag53 Try.underlying54 sz54 ei54 bi54 za54 ag54 Try.underlying55 sz55 ei55 bi55 za55 ag55 Try.underlying56 sz56 ei56 bi56 za56 ag56 Try.underlying58 sz58 ei58 zi58 ag58 Try.underlying64 sz64 ei64 bi64 za64 ag64 Try.underlying65 sz65 ei65 bi65 za65 ag65 Try.underlying78 sz78 ei78 ag78 Try.underlying79 sz79 ei79 bi79 za79 ag79 Try.underlying80 sz80 ei80 bi80 za80 ag80 Try.underlying83 sz83 ei83 ag83 Try.underlying89 sz89 ei89 bi89 za89 ag89 Try.underlying94 sz94 ei94 ag94 Try.underlying95 sz95 ei95 bi95 za95 ag95 Try.underlying96 sz96 ei96 bi96 za96 ag96 Try.underlying98 sz98 ei98 ag98 Try.underlying99 sz99 ei99 bi99 za99 ag99 Try.underlying100 sz100 ei100 bi100 za100 ag100 Try.underlying108 sz108 ei108 ag108 Try.underlying111 sz111 ei111 ag111 Try.underlying115 sz115 ei115 ag115 Try.underlying116 sz116 ei116 bi116 za116 ag116 Try.underlying117 sz117 ei117 bi117 za117 ag117 Try.underlying121 sz121 ei121 bi121 ag121 Try.underlying122 sz122 ei122 bi122 ag122 Try.underlying123 sz123 ei123 bi123 ag123 Try.underlying124 sz124 ei124 ag124 Try.underlying125 sz125 ei125 bi125 za125 ag125 Try.underlying126 sz126 ei126 bi126 za126 ag126 Try.underlying133 sz133 ei133 ag133 Try.underlying137 sz137 ei137 bi137 ag137 Try.underlying138 sz138 ei138 ag138 Try.underlying139 sz139 ei139 bi139 za139 ag139 Try.underlying140 sz140 ei140 bi140 za140 ag140 Try.underlying152 sz152 ei152 ag152 Try.underlying156 sz156 ei156 bi156 za156 ag156 Try.underlying157 sz157 ei157 bi157 za157 ag157 Try.underlying158 sz158 ei158 bi158 ag158 Try.underlying159 sz159 ei159 bi159 za159 ag159 Try.underlying160 sz160 ei160 bi160 za160 ag160 Try.underlying162 sz162 ei162 ag162 Try.underlying163 sz163 ei163 ag163 Try.underlying164 sz164 ei164 ag164 Try.underlying166 sz166 ei166 ag166 Try.underlying167 sz167 ei167 ag167 Try.underlying168 sz168 ei168 ag168 Try.underlying169 sz169 ei169 bi169 za169 ag169 Try.underlying170 sz170 ei170 bi170 za170 ag170 Try.underlying171 sz171 ei171 ag171
end Go.Proofs.Ytfldmpmaifjcbaa
