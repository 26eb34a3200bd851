/-
  OF EACH TYPE OF THE TRANSLATION: its cells, its bytes, its zero, where the parts of a literal lie. Printed by program (gen_ty.py).
-/
import Derived.Test.YtgiihapbgpnkkaaProg
import Derived.Test.YtgiihapbgpnkkaaVs13
namespace Go.Proofs.Ytgiihapbgpnkkaa
open Go Go.Vs
theorem sz2 : szOf Try.prog 2 = some 1 := by kernel_rfl
theorem ei2 : eInfo Try.prog 2 = some (1, 8, [.im (.int .i64 0)]) := by kernel_rfl
theorem sz3 : szOf Try.prog 3 = some 1 := by kernel_rfl
theorem ei3 : eInfo Try.prog 3 = some (1, 8, [.im (.int .i64 0)]) := by kernel_rfl
theorem sz4 : szOf Try.prog 4 = some 1 := by kernel_rfl
theorem ei4 : eInfo Try.prog 4 = some (1, 1, [.im (.bool false)]) := by kernel_rfl
theorem sz5 : szOf Try.prog 5 = some 1 := by kernel_rfl
theorem ei5 : eInfo Try.prog 5 = some (1, 1, [.im (.int .u8 0)]) := by kernel_rfl
theorem sz6 : szOf Try.prog 6 = some 1 := by kernel_rfl
theorem ei6 : eInfo Try.prog 6 = some (1, 1, [.im (.int .u8 0)]) := by kernel_rfl
theorem sz7 : szOf Try.prog 7 = some 4 := by kernel_rfl
theorem ei7 : eInfo Try.prog 7 = some (4, 24, [.im (.int .i64 0), .im (.int .i64 0), .im (.bool false), .im (.int .u8 0)]) := by kernel_rfl
theorem bi7 : bInfo Try.prog 7 = some ([.im (.int .i64 0), .im (.int .i64 0), .im (.bool false), .im (.int .u8 0)], .str [(0, 1), (1, 1), (2, 1), (3, 1)]) := by kernel_rfl
theorem sz8 : szOf Try.prog 8 = some 4 := by kernel_rfl
theorem ei8 : eInfo Try.prog 8 = some (4, 24, [.im (.int .i64 0), .im (.int .i64 0), .im (.bool false), .im (.int .u8 0)]) := by kernel_rfl
theorem bi8 : bInfo Try.prog 8 = some ([.im (.int .i64 0), .im (.int .i64 0), .im (.bool false), .im (.int .u8 0)], .str [(0, 1), (1, 1), (2, 1), (3, 1)]) := by kernel_rfl
theorem sz9 : szOf Try.prog 9 = some 1 := by kernel_rfl
theorem ei9 : eInfo Try.prog 9 = some (1, 16, [.im (.string .empty)]) := by kernel_rfl
theorem sz10 : szOf Try.prog 10 = some 1 := by kernel_rfl
theorem ei10 : eInfo Try.prog 10 = some (1, 16, [.im (.string .empty)]) := by kernel_rfl
theorem sz11 : szOf Try.prog 11 = some 1 := by kernel_rfl
theorem ei11 : eInfo Try.prog 11 = some (1, 16, [.im (.string .empty)]) := by kernel_rfl
theorem sz12 : szOf Try.prog 12 = some 1 := by kernel_rfl
theorem ei12 : eInfo Try.prog 12 = some (1, 8, [.im (.int .u64 0)]) := by kernel_rfl
theorem sz13 : szOf Try.prog 13 = some 2 := by kernel_rfl
theorem ei13 : eInfo Try.prog 13 = some (2, 24, [.im (.string .empty), .im (.int .u64 0)]) := by kernel_rfl
theorem bi13 : bInfo Try.prog 13 = some ([.im (.string .empty), .im (.int .u64 0)], .str [(0, 1), (1, 1)]) := by kernel_rfl
theorem sz14 : szOf Try.prog 14 = some 2 := by kernel_rfl
theorem ei14 : eInfo Try.prog 14 = some (2, 24, [.im (.string .empty), .im (.int .u64 0)]) := by kernel_rfl
theorem bi14 : bInfo Try.prog 14 = some ([.im (.string .empty), .im (.int .u64 0)], .str [(0, 1), (1, 1)]) := by kernel_rfl
theorem sz18 : szOf Try.prog 18 = some 1 := by kernel_rfl
theorem sz19 : szOf Try.prog 19 = some 1 := by kernel_rfl
theorem sz21 : szOf Try.prog 21 = some 1 := by kernel_rfl
theorem ei21 : eInfo Try.prog 21 = some (1, 4, [.im (.int .i32 0)]) := by kernel_rfl
theorem sz22 : szOf Try.prog 22 = some 1 := by kernel_rfl
theorem ei22 : eInfo Try.prog 22 = some (1, 24, [.nil]) := by kernel_rfl
theorem sz23 : szOf Try.prog 23 = some 1 := by kernel_rfl
theorem ei23 : eInfo Try.prog 23 = some (1, 24, [.nil]) := by kernel_rfl
theorem sz26 : szOf Try.prog 26 = some 1 := by kernel_rfl
theorem ei26 : eInfo Try.prog 26 = some (1, 8, [.im (.int .i64 0)]) := by kernel_rfl
theorem sz36 : szOf Try.prog 36 = some 1 := by kernel_rfl
theorem ei36 : eInfo Try.prog 36 = some (1, 24, [.nil]) := by kernel_rfl
theorem sz40 : szOf Try.prog 40 = some 1 := by kernel_rfl
theorem ei40 : eInfo Try.prog 40 = some (1, 8, [.im (.int .u64 0)]) := by kernel_rfl
theorem sz41 : szOf Try.prog 41 = some 4 := by kernel_rfl
theorem ei41 : eInfo Try.prog 41 = some (4, 32, [.im (.int .u64 0), .im (.int .u64 0), .im (.int .u64 0), .im (.int .u64 0)]) := by kernel_rfl
theorem bi41 : bInfo Try.prog 41 = some ([.im (.int .u64 0), .im (.int .u64 0), .im (.int .u64 0), .im (.int .u64 0)], .arr 1) := by kernel_rfl
theorem sz42 : szOf Try.prog 42 = some 4 := by kernel_rfl
theorem ei42 : eInfo Try.prog 42 = some (4, 32, [.im (.int .u64 0), .im (.int .u64 0), .im (.int .u64 0), .im (.int .u64 0)]) := by kernel_rfl
theorem bi42 : bInfo Try.prog 42 = some ([.im (.int .u64 0), .im (.int .u64 0), .im (.int .u64 0), .im (.int .u64 0)], .arr 1) := by kernel_rfl
theorem sz44 : szOf Try.prog 44 = some 2 := by kernel_rfl
theorem ei44 : eInfo Try.prog 44 = some (2, 2, [.im (.int .u8 0), .im (.int .u8 0)]) := by kernel_rfl
theorem bi44 : bInfo Try.prog 44 = some ([.im (.int .u8 0), .im (.int .u8 0)], .arr 1) := by kernel_rfl
theorem sz47 : szOf Try.prog 47 = some 1 := by kernel_rfl
theorem ei47 : eInfo Try.prog 47 = some (1, 24, [.nil]) := by kernel_rfl
theorem sz53 : szOf Try.prog 53 = some 8 := by kernel_rfl
theorem ei53 : eInfo Try.prog 53 = some (8, 64, [.im (.int .i64 0), .im (.int .i64 0), .im (.int .i64 0), .im (.int .i64 0), .im (.int .u64 0), .im (.int .u64 0), .im (.int .u64 0), .im (.int .u64 0)]) := by kernel_rfl
theorem bi53 : bInfo Try.prog 53 = some ([.im (.int .i64 0), .im (.int .i64 0), .im (.int .i64 0), .im (.int .i64 0), .im (.int .u64 0), .im (.int .u64 0), .im (.int .u64 0), .im (.int .u64 0)], .str [(0, 1), (1, 1), (2, 1), (3, 1), (4, 4)]) := by kernel_rfl
theorem sz54 : szOf Try.prog 54 = some 8 := by kernel_rfl
theorem ei54 : eInfo Try.prog 54 = some (8, 64, [.im (.int .i64 0), .im (.int .i64 0), .im (.int .i64 0), .im (.int .i64 0), .im (.int .u64 0), .im (.int .u64 0), .im (.int .u64 0), .im (.int .u64 0)]) := by kernel_rfl
theorem bi54 : bInfo Try.prog 54 = some ([.im (.int .i64 0), .im (.int .i64 0), .im (.int .i64 0), .im (.int .i64 0), .im (.int .u64 0), .im (.int .u64 0), .im (.int .u64 0), .im (.int .u64 0)], .str [(0, 1), (1, 1), (2, 1), (3, 1), (4, 4)]) := by kernel_rfl
theorem sz56 : szOf Try.prog 56 = some 3 := by kernel_rfl
theorem ei56 : eInfo Try.prog 56 = some (3, 24, [.im (.int .i64 0), .im (.int .i64 0), .im (.int .i64 0)]) := by kernel_rfl
theorem bi56 : bInfo Try.prog 56 = some ([.im (.int .i64 0), .im (.int .i64 0), .im (.int .i64 0)], .arr 1) := by kernel_rfl
theorem sz67 : szOf Try.prog 67 = some 10 := by kernel_rfl
theorem ei67 : eInfo Try.prog 67 = some (10, 10, [.im (.bool false), .im (.bool false), .im (.bool false), .im (.bool false), .im (.bool false), .im (.bool false), .im (.bool false), .im (.bool false), .im (.bool false), .im (.bool false)]) := by kernel_rfl
theorem bi67 : bInfo Try.prog 67 = some ([.im (.bool false), .im (.bool false), .im (.bool false), .im (.bool false), .im (.bool false), .im (.bool false), .im (.bool false), .im (.bool false), .im (.bool false), .im (.bool false)], .arr 1) := by kernel_rfl
theorem sz72 : szOf Try.prog 72 = some 2 := by kernel_rfl
theorem sz73 : szOf Try.prog 73 = some 2 := by kernel_rfl
theorem sz84 : szOf Try.prog 84 = some 4 := by kernel_rfl
theorem sz85 : szOf Try.prog 85 = some 4 := by kernel_rfl
theorem sz86 : szOf Try.prog 86 = some 0 := by kernel_rfl
theorem ei86 : eInfo Try.prog 86 = some (0, 0, []) := by kernel_rfl
theorem bi86 : bInfo Try.prog 86 = some ([], .arr 1) := by kernel_rfl
theorem sz87 : szOf Try.prog 87 = some 0 := by kernel_rfl
theorem ei87 : eInfo Try.prog 87 = some (0, 0, []) := by kernel_rfl
theorem bi87 : bInfo Try.prog 87 = some ([], .str [(0, 0)]) := by kernel_rfl
theorem sz88 : szOf Try.prog 88 = some 0 := by kernel_rfl
theorem ei88 : eInfo Try.prog 88 = some (0, 0, []) := by kernel_rfl
theorem bi88 : bInfo Try.prog 88 = some ([], .str [(0, 0)]) := by kernel_rfl
theorem sz90 : szOf Try.prog 90 = some 1 := by kernel_rfl
theorem ei90 : eInfo Try.prog 90 = some (1, 4, [.im (.int .u32 0)]) := by kernel_rfl
theorem sz91 : szOf Try.prog 91 = some 1 := by kernel_rfl
theorem ei91 : eInfo Try.prog 91 = some (1, 1, [.im (.int .u8 0)]) := by kernel_rfl
theorem sz92 : szOf Try.prog 92 = some 1 := by kernel_rfl
theorem ei92 : eInfo Try.prog 92 = some (1, 1, [.im (.int .u8 0)]) := by kernel_rfl
theorem sz94 : szOf Try.prog 94 = some 1 := by kernel_rfl
theorem ei94 : eInfo Try.prog 94 = some (1, 4, [.im (.int .i32 0)]) := by kernel_rfl
theorem sz95 : szOf Try.prog 95 = some 1 := by kernel_rfl
theorem ei95 : eInfo Try.prog 95 = some (1, 4, [.im (.int .i32 0)]) := by kernel_rfl
theorem sz96 : szOf Try.prog 96 = some 11 := by kernel_rfl
theorem sz97 : szOf Try.prog 97 = some 11 := by kernel_rfl
attribute [go_sem] Try.underlying2 sz2 ei2 Try.underlying3 sz3 ei3 Try.underlying4 sz4 ei4 Try.underlying5 sz5 ei5 Try.underlying6 sz6 ei6 Try.underlying7 sz7 ei7 bi7 Try.underlying8 sz8 ei8 bi8 Try.underlying9 sz9 ei9 Try.underlying10 sz10 ei10 Try.underlying11 sz11 ei11 Try.underlying12 sz12 ei12 Try.underlying13 sz13 ei13 bi13 Try.underlying14 sz14 ei14 bi14 Try.underlying15 Try.underlying16 Try.underlying17 Try.underlying18 sz18 Try.underlying19 sz19 Try.underlying21 sz21 ei21 Try.underlying22 sz22 ei22 Try.underlying23 sz23 ei23 Try.underlying26 sz26 ei26 Try.underlying36 sz36 ei36 Try.underlying40 sz40 ei40 Try.underlying41 sz41 ei41 bi41 Try.underlying42 sz42 ei42 bi42 Try.underlying44 sz44 ei44 bi44 Try.underlying47 sz47 ei47 Try.underlying53 sz53 ei53 bi53 Try.underlying54 sz54 ei54 bi54 Try.underlying56 sz56 ei56 bi56 Try.underlying67 sz67 ei67 bi67 Try.underlying71 Try.underlying72 sz72 Try.underlying73 sz73 Try.underlying81 Try.underlying84 sz84 Try.underlying85 sz85 Try.underlying86 sz86 ei86 bi86 Try.underlying87 sz87 ei87 bi87 Try.underlying88 sz88 ei88 bi88 Try.underlying90 sz90 ei90 Try.underlying91 sz91 ei91 Try.underlying92 sz92 ei92 Try.underlying94 sz94 ei94 Try.underlying95 sz95 ei95 Try.underlying96 sz96 Try.underlying97 sz97
end Go.Proofs.Ytgiihapbgpnkkaa
