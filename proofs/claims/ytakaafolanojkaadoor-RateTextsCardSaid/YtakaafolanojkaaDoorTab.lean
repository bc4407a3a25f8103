/- The types of the seat's program, as the generator of conditions wants them. Written by mktab.py. -/
import Derived.Test.YtakaafolanojkaaDoorYLib
import Derived.Test.YtakaafolanojkaaDoorProg
import Derived.KernelRfl
namespace Go.Proofs.YtakaafolanojkaaDoor
open Go.Sy
set_option maxRecDepth 100000
def T : Tab := [
  (2, ⟨1, 2, [.int .i64 0], [], [], .i64, 0, 0, false, [], 0, [], false, false, false⟩),
  (3, ⟨1, 2, [.int .i64 0], [], [], .i64, 0, 0, false, [], 0, [], false, false, false⟩),
  (4, ⟨1, 1, [.bool false], [], [], .i64, 0, 0, false, [], 0, [], false, false, false⟩),
  (5, ⟨1, 2, [.int .u8 0], [], [], .u8, 0, 0, false, [], 0, [], false, false, false⟩),
  (9, ⟨1, 3, [.str ⟨#[]⟩], [], [], .i64, 0, 0, false, [], 0, [], false, false, false⟩),
  (12, ⟨1, 2, [.int .u64 0], [], [], .u64, 0, 0, false, [], 0, [], false, false, false⟩),
  (15, ⟨1, 7, [.nptr], [], [], .i64, 0, 0, false, [], 0, [], false, false, false⟩),
  (16, ⟨1, 7, [.nptr], [], [], .i64, 0, 0, false, [], 0, [], false, false, false⟩),
  (17, ⟨1, 7, [.nptr], [], [], .i64, 0, 0, false, [], 0, [], false, false, false⟩),
  (20, ⟨1, 9, [.nif], [], [], .i64, 0, 0, false, [], 0, [], false, false, false⟩),
  (21, ⟨1, 2, [.int .i32 0], [], [], .i32, 0, 0, false, [], 0, [], false, false, false⟩),
  (22, ⟨4, 4, [.str ⟨#[]⟩, .str ⟨#[]⟩, .int .i64 0, .int .i64 0], [], [(0, 1, false), (1, 1, false), (2, 1, false), (3, 1, false)], .i64, 0, 0, false, [], 0, [3, 3, 2, 2], true, false, false⟩),
  (23, ⟨4, 4, [.str ⟨#[]⟩, .str ⟨#[]⟩, .int .i64 0, .int .i64 0], [], [(0, 1, false), (1, 1, false), (2, 1, false), (3, 1, false)], .i64, 0, 0, false, [], 0, [3, 3, 2, 2], true, false, false⟩),
  (26, ⟨1, 2, [.int .i64 0], [], [], .i64, 0, 0, false, [], 0, [], false, false, false⟩),
  (35, ⟨2, 4, [.int .i64 0, .str ⟨#[]⟩], [], [(0, 1, false), (1, 1, false)], .i64, 0, 0, false, [], 0, [2, 3], true, false, false⟩),
  (36, ⟨2, 4, [.int .i64 0, .str ⟨#[]⟩], [], [(0, 1, false), (1, 1, false)], .i64, 0, 0, false, [], 0, [2, 3], true, false, false⟩),
  (52, ⟨1, 9, [.nif], [], [], .i64, 0, 0, false, [], 0, [], false, false, false⟩),
  (53, ⟨1, 9, [.nif], [], [], .i64, 0, 0, false, [], 0, [], false, false, false⟩),
  (57, ⟨1, 2, [.int .u64 0], [], [], .u64, 0, 0, false, [], 0, [], false, false, false⟩),
  (64, ⟨2, 4, [.str ⟨#[]⟩, .int .i64 0], [], [(0, 1, false), (1, 1, false)], .i64, 0, 0, false, [], 0, [3, 2], true, false, false⟩),
  (65, ⟨20, 5, [.str ⟨#[]⟩, .int .i64 0, .str ⟨#[]⟩, .int .i64 0, .str ⟨#[]⟩, .int .i64 0, .str ⟨#[]⟩, .int .i64 0, .str ⟨#[]⟩, .int .i64 0, .str ⟨#[]⟩, .int .i64 0, .str ⟨#[]⟩, .int .i64 0, .str ⟨#[]⟩, .int .i64 0, .str ⟨#[]⟩, .int .i64 0, .str ⟨#[]⟩, .int .i64 0], [.strs [⟨#[]⟩, ⟨#[]⟩, ⟨#[]⟩, ⟨#[]⟩, ⟨#[]⟩, ⟨#[]⟩, ⟨#[]⟩, ⟨#[]⟩, ⟨#[]⟩, ⟨#[]⟩], .ints .i64 [0, 0, 0, 0, 0, 0, 0, 0, 0, 0]], [], .i64, 2, 10, true, [], 0, [], true, false, true⟩),
  (68, ⟨1, 6, [.nsl], [], [], .i64, 1, 0, false, [.int .u8 0], 1, [], false, true, false⟩),
  (69, ⟨1, 7, [.nptr], [], [], .i64, 0, 0, false, [], 0, [], false, false, false⟩),
  (71, ⟨24, 5, [.int .u8 0, .int .u8 0, .int .u8 0, .int .u8 0, .int .u8 0, .int .u8 0, .int .u8 0, .int .u8 0, .int .u8 0, .int .u8 0, .int .u8 0, .int .u8 0, .int .u8 0, .int .u8 0, .int .u8 0, .int .u8 0, .int .u8 0, .int .u8 0, .int .u8 0, .int .u8 0, .int .u8 0, .int .u8 0, .int .u8 0, .int .u8 0], [.ints .u8 [0, 0, 0, 0, 0, 0, 0, 0, 0, 0, 0, 0, 0, 0, 0, 0, 0, 0, 0, 0, 0, 0, 0, 0]], [], .i64, 1, 24, false, [], 0, [], true, false, false⟩),
  (76, ⟨1, 2, [.int .u64 0], [], [], .u64, 0, 0, false, [], 0, [], false, false, false⟩),
  (82, ⟨1, 7, [.nptr], [], [], .i64, 0, 0, false, [], 0, [], false, false, false⟩),
  (86, ⟨20, 5, [.int .u64 0, .int .u64 0, .int .u64 0, .int .u64 0, .int .u64 0, .int .u64 0, .int .u64 0, .int .u64 0, .int .u64 0, .int .u64 0, .int .u64 0, .int .u64 0, .int .u64 0, .int .u64 0, .int .u64 0, .int .u64 0, .int .u64 0, .int .u64 0, .int .u64 0, .int .u64 0], [.ints .u64 [0, 0, 0, 0, 0, 0, 0, 0, 0, 0, 0, 0, 0, 0, 0, 0, 0, 0, 0, 0]], [], .i64, 1, 20, false, [], 0, [], true, false, false⟩),
  (87, ⟨1, 2, [.int .u32 0], [], [], .u32, 0, 0, false, [], 0, [], false, false, false⟩),
  (88, ⟨65, 5, [.int .u8 0, .int .u8 0, .int .u8 0, .int .u8 0, .int .u8 0, .int .u8 0, .int .u8 0, .int .u8 0, .int .u8 0, .int .u8 0, .int .u8 0, .int .u8 0, .int .u8 0, .int .u8 0, .int .u8 0, .int .u8 0, .int .u8 0, .int .u8 0, .int .u8 0, .int .u8 0, .int .u8 0, .int .u8 0, .int .u8 0, .int .u8 0, .int .u8 0, .int .u8 0, .int .u8 0, .int .u8 0, .int .u8 0, .int .u8 0, .int .u8 0, .int .u8 0, .int .u8 0, .int .u8 0, .int .u8 0, .int .u8 0, .int .u8 0, .int .u8 0, .int .u8 0, .int .u8 0, .int .u8 0, .int .u8 0, .int .u8 0, .int .u8 0, .int .u8 0, .int .u8 0, .int .u8 0, .int .u8 0, .int .u8 0, .int .u8 0, .int .u8 0, .int .u8 0, .int .u8 0, .int .u8 0, .int .u8 0, .int .u8 0, .int .u8 0, .int .u8 0, .int .u8 0, .int .u8 0, .int .u8 0, .int .u8 0, .int .u8 0, .int .u8 0, .int .u8 0], [.ints .u8 [0, 0, 0, 0, 0, 0, 0, 0, 0, 0, 0, 0, 0, 0, 0, 0, 0, 0, 0, 0, 0, 0, 0, 0, 0, 0, 0, 0, 0, 0, 0, 0, 0, 0, 0, 0, 0, 0, 0, 0, 0, 0, 0, 0, 0, 0, 0, 0, 0, 0, 0, 0, 0, 0, 0, 0, 0, 0, 0, 0, 0, 0, 0, 0, 0]], [], .i64, 1, 65, false, [], 0, [], true, false, false⟩),
  (94, ⟨3, 4, [.str ⟨#[]⟩, .str ⟨#[]⟩, .nif], [], [(0, 1, false), (1, 1, false), (2, 1, false)], .i64, 0, 0, false, [], 0, [], true, false, false⟩),
  (95, ⟨3, 4, [.str ⟨#[]⟩, .str ⟨#[]⟩, .nif], [], [(0, 1, false), (1, 1, false), (2, 1, false)], .i64, 0, 0, false, [], 0, [], true, false, false⟩),
  (98, ⟨1, 7, [.nptr], [], [], .i64, 0, 0, false, [], 0, [], false, false, false⟩),
  (99, ⟨1, 4, [.str ⟨#[]⟩], [], [(0, 1, false)], .i64, 0, 0, false, [], 0, [3], true, false, false⟩),
  (100, ⟨1, 4, [.str ⟨#[]⟩], [], [(0, 1, false)], .i64, 0, 0, false, [], 0, [3], true, false, false⟩),
  (101, ⟨32, 5, [.int .u8 0, .int .u8 0, .int .u8 0, .int .u8 0, .int .u8 0, .int .u8 0, .int .u8 0, .int .u8 0, .int .u8 0, .int .u8 0, .int .u8 0, .int .u8 0, .int .u8 0, .int .u8 0, .int .u8 0, .int .u8 0, .int .u8 0, .int .u8 0, .int .u8 0, .int .u8 0, .int .u8 0, .int .u8 0, .int .u8 0, .int .u8 0, .int .u8 0, .int .u8 0, .int .u8 0, .int .u8 0, .int .u8 0, .int .u8 0, .int .u8 0, .int .u8 0], [.ints .u8 [0, 0, 0, 0, 0, 0, 0, 0, 0, 0, 0, 0, 0, 0, 0, 0, 0, 0, 0, 0, 0, 0, 0, 0, 0, 0, 0, 0, 0, 0, 0, 0]], [], .i64, 1, 32, false, [], 0, [], true, false, false⟩),
  (102, ⟨64, 5, [.int .u8 0, .int .u8 0, .int .u8 0, .int .u8 0, .int .u8 0, .int .u8 0, .int .u8 0, .int .u8 0, .int .u8 0, .int .u8 0, .int .u8 0, .int .u8 0, .int .u8 0, .int .u8 0, .int .u8 0, .int .u8 0, .int .u8 0, .int .u8 0, .int .u8 0, .int .u8 0, .int .u8 0, .int .u8 0, .int .u8 0, .int .u8 0, .int .u8 0, .int .u8 0, .int .u8 0, .int .u8 0, .int .u8 0, .int .u8 0, .int .u8 0, .int .u8 0, .int .u8 0, .int .u8 0, .int .u8 0, .int .u8 0, .int .u8 0, .int .u8 0, .int .u8 0, .int .u8 0, .int .u8 0, .int .u8 0, .int .u8 0, .int .u8 0, .int .u8 0, .int .u8 0, .int .u8 0, .int .u8 0, .int .u8 0, .int .u8 0, .int .u8 0, .int .u8 0, .int .u8 0, .int .u8 0, .int .u8 0, .int .u8 0, .int .u8 0, .int .u8 0, .int .u8 0, .int .u8 0, .int .u8 0, .int .u8 0, .int .u8 0, .int .u8 0], [.ints .u8 [0, 0, 0, 0, 0, 0, 0, 0, 0, 0, 0, 0, 0, 0, 0, 0, 0, 0, 0, 0, 0, 0, 0, 0, 0, 0, 0, 0, 0, 0, 0, 0, 0, 0, 0, 0, 0, 0, 0, 0, 0, 0, 0, 0, 0, 0, 0, 0, 0, 0, 0, 0, 0, 0, 0, 0, 0, 0, 0, 0, 0, 0, 0, 0]], [], .i64, 1, 64, false, [], 0, [], true, false, false⟩),
  (106, ⟨0, 5, [], [], [], .i64, 1, 0, false, [], 0, [], true, false, false⟩),
  (115, ⟨11, 4, [.int .u64 0, .int .u64 0, .int .u32 0, .int .u8 0, .int .u8 0, .int .u8 0, .int .u8 0, .raw .nilFunc, .nptr, .int .i32 0, .int .i32 0], [], [(0, 1, false), (1, 1, false), (2, 1, false), (3, 1, false), (4, 1, false), (5, 1, false), (6, 1, false), (7, 1, false), (8, 1, false), (9, 1, false), (10, 1, false)], .i64, 0, 0, false, [], 0, [], true, false, false⟩)]
theorem T_ok : TabOk Tryd.prog T := tabOk_of _ _ (by kernel_rfl)
theorem mixed : Tryd.prog.follows .mixedOrders = true := by kernel_rfl
/-- The tables that the package-level variables hold. -/
def glT : GTab := [
  (0, 10, [.strs [⟨#[74, 80, 89]⟩, ⟨#[75, 82, 87]⟩, ⟨#[86, 78, 68]⟩, ⟨#[67, 76, 80]⟩, ⟨#[73, 83, 75]⟩, ⟨#[66, 72, 68]⟩, ⟨#[75, 87, 68]⟩, ⟨#[74, 79, 68]⟩, ⟨#[79, 77, 82]⟩, ⟨#[84, 78, 68]⟩], .ints .i64 [0, 0, 0, 0, 0, 3, 3, 3, 3, 3]]),
  (4, 20, [.ints .u64 [1, 10, 100, 1000, 10000, 100000, 1000000, 10000000, 100000000, 1000000000, 10000000000, 100000000000, 1000000000000, 10000000000000, 100000000000000, 1000000000000000, 10000000000000000, 100000000000000000, 1000000000000000000, 10000000000000000000]]),
  (5, 0, [.ints .i64 [98]]),
  (6, 0, [.ints .i64 [98]]),
  (7, 32, [.ints .u8 [0, 1, 28, 2, 29, 14, 24, 3, 30, 22, 20, 15, 25, 17, 4, 8, 31, 27, 13, 23, 21, 19, 16, 7, 26, 12, 18, 6, 11, 5, 10, 9]]),
  (8, 64, [.ints .u8 [0, 1, 56, 2, 57, 49, 28, 3, 61, 58, 42, 50, 38, 29, 17, 4, 62, 47, 59, 36, 45, 43, 51, 22, 53, 39, 33, 30, 24, 18, 12, 5, 63, 55, 48, 27, 60, 41, 37, 16, 46, 35, 44, 21, 52, 32, 23, 11, 54, 26, 40, 15, 34, 20, 31, 10, 25, 14, 19, 9, 13, 8, 7, 6]])]
theorem gl_keys {q : Nat} (h : (aget glT q).isSome = true) : q = 0 ∨ q = 4 ∨ q = 5 ∨ q = 6 ∨ q = 7 ∨ q = 8 := by
  have := aget_keys h
  simpa [glT] using this
end Go.Proofs.YtakaafolanojkaaDoor
