/- What the engine reads off the program: offsets of fields, sizes of elements, which types have one cell. Written by gentab.py. -/
import Derived.Test.YtmfeegebijejjaaEng4
import Derived.Test.YtmfeegebijejjaaProg
import Derived.KernelRfl
namespace Go.Proofs.Ytmfeegebijejjaa
open Go Go.Eng
def tab : Tab where
  foff := [((31, 1), 1), ((31, 2), 2), ((36, 0), 0), ((36, 1), 1), ((38, 0), 0), ((38, 1), 1), ((38, 2), 2), ((55, 0), 0), ((55, 1), 1), ((55, 2), 2), ((72, 0), 0), ((72, 1), 2), ((72, 2), 3), ((72, 3), 4)]
  esz := [(22, (5, 1)), (25, (3, 1)), (26, (38, 4)), (28, (4, 1)), (41, (68, 2)), (49, (25, 1)), (50, (26, 1)), (59, (3, 1)), (60, (59, 9)), (63, (72, 5))]
  one := [3, 4, 5, 22, 25, 26, 29, 53, 70, 79]
  agg := [(31, 3), (36, 2), (38, 4), (55, 3), (59, 9), (60, 81), (68, 2), (72, 5)]
  len := [22, 25, 26, 28, 41, 49, 50, 63]
  iks := [(3, .i64), (5, .u8), (53, .u32)]
  fn := [3, 4, 5, 6, 7, 8, 9, 10, 11, 12, 13, 14, 15, 16, 17, 18, 19, 20, 21, 22, 23, 24, 25, 26, 27, 28, 29, 30, 31, 32, 33, 34, 35, 36, 37, 38, 39]
theorem tab_check : tab.ok Try.prog = true := by kernel_rfl
theorem tabOk : tab.Ok Try.prog := Tab.ok_spec tab_check
end Go.Proofs.Ytmfeegebijejjaa
