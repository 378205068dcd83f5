/- What the engine reads off the program: offsets of fields, sizes of elements, which types have one cell. Written by gentab.py. -/
import Derived.Test.YtmbifbippnncoaaB4
import Derived.Test.YtmbifbippnncoaaProg
import Derived.KernelRfl
namespace Go.Proofs.Ytmbifbippnncoaa
open Go Go.Eng
def tab : Tab where
  foff := [((31, 0), 0), ((31, 1), 1), ((31, 2), 2), ((31, 3), 3), ((31, 4), 4), ((31, 5), 5), ((31, 6), 6), ((31, 7), 7), ((33, 0), 0), ((33, 1), 1), ((47, 0), 0), ((47, 1), 1), ((47, 2), 2), ((58, 0), 0), ((65, 0), 0)]
  esz := [(22, (5, 1)), (27, (3, 1)), (28, (27, 1)), (70, (3, 1))]
  one := [3, 5, 22, 27, 28, 45, 48, 52, 72, 78]
  agg := [(31, 8), (33, 2), (47, 3), (58, 1), (65, 8), (70, 5)]
  len := [22, 27, 28]
  iks := [(3, .i64), (5, .u8), (45, .u32)]
  fn := [2, 3, 4, 5, 6, 7, 8, 9, 10, 11, 12, 13, 14, 15, 16, 17, 18, 19, 20, 21, 22, 23, 24, 25, 26, 27, 28, 29, 30, 31, 32, 33, 34, 35, 36, 37, 38, 39, 40, 41, 42, 43, 44, 45, 46, 47, 48, 49, 50, 51, 52, 53, 54, 55, 56, 57]
theorem tab_check : tab.ok Try.prog = true := by kernel_rfl
theorem tabOk : tab.Ok Try.prog := Tab.ok_spec tab_check
theorem zero3 : ZeroOf Try.prog 3 (.int .i64 0) := ⟨by kernel_rfl⟩
theorem zero31 : ZeroOf Try.prog 31 (.agg #[.int .i64 0, .int .i64 0, .int .i64 0, .int .i64 0, .slice none 0 0, .slice none 0 0, .slice none 0 0, .slice none 0 0]) := ⟨by kernel_rfl⟩
theorem zero33 : ZeroOf Try.prog 33 (.agg #[.int .i64 0, .int .i64 0]) := ⟨by kernel_rfl⟩
theorem zero70 : ZeroOf Try.prog 70 (.agg #[.int .i64 0, .int .i64 0, .int .i64 0, .int .i64 0, .int .i64 0]) := ⟨by kernel_rfl⟩
theorem zero72 : ZeroOf Try.prog 72 (.nilFunc) := ⟨by kernel_rfl⟩
end Go.Proofs.Ytmbifbippnncoaa
