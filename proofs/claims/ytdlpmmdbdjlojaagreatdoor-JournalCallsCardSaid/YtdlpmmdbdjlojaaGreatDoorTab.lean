/- The types of the seat's program, as the generator of conditions wants them. Written by mktab.py. -/
import Derived.Test.YtdlpmmdbdjlojaaGreatDoorYLib
import Derived.Test.YtdlpmmdbdjlojaaGreatDoorProg
import Derived.KernelRfl
namespace Go.Proofs.YtdlpmmdbdjlojaaGreatDoor
open Go.Sy
set_option maxRecDepth 100000
def T : Tab := [
  (2, ⟨1, 2, [.int .i64 0], [], [], .i64, 0, 0, false, [], 0, [], false, false, false⟩),
  (3, ⟨1, 2, [.int .i64 0], [], [], .i64, 0, 0, false, [], 0, [], false, false, false⟩),
  (4, ⟨1, 1, [.bool false], [], [], .i64, 0, 0, false, [], 0, [], false, false, false⟩),
  (5, ⟨1, 2, [.int .u8 0], [], [], .u8, 0, 0, false, [], 0, [], false, false, false⟩),
  (9, ⟨1, 3, [.str ⟨#[]⟩], [], [], .i64, 0, 0, false, [], 0, [], false, false, false⟩),
  (12, ⟨1, 2, [.int .u64 0], [], [], .u64, 0, 0, false, [], 0, [], false, false, false⟩),
  (15, ⟨1, 7, [.nptr], [], [], .i64, 0, 0, false, [], 0, [], false, false, false⟩),
  (16, ⟨1, 7, [.nptr], [], [], .i64, 0, 0, false, [], 0, [], false, false, false⟩),
  (17, ⟨1, 7, [.nptr], [], [], .i64, 0, 0, false, [], 0, [], false, false, false⟩),
  (20, ⟨1, 9, [.nif], [], [], .i64, 0, 0, false, [], 0, [], false, false, false⟩),
  (21, ⟨1, 2, [.int .i32 0], [], [], .i32, 0, 0, false, [], 0, [], false, false, false⟩),
  (22, ⟨1, 6, [.nsl], [], [], .i64, 4, 0, false, [.int .u8 0, .str ⟨#[]⟩, .int .i64 0, .int .u64 0], 40, [], false, false, true⟩),
  (23, ⟨1, 7, [.nptr], [], [], .i64, 0, 0, false, [], 0, [], false, false, false⟩),
  (24, ⟨1, 2, [.int .i64 0], [], [], .i64, 0, 0, false, [], 0, [], false, false, false⟩),
  (27, ⟨1, 7, [.nptr], [], [], .i64, 0, 0, false, [], 0, [], false, false, false⟩),
  (31, ⟨1, 2, [.int .u64 0], [], [], .u64, 0, 0, false, [], 0, [], false, false, false⟩),
  (32, ⟨4, 4, [.int .u8 0, .str ⟨#[]⟩, .int .i64 0, .int .u64 0], [], [(0, 1, false), (1, 1, false), (2, 1, false), (3, 1, false)], .i64, 0, 0, false, [], 0, [2, 3, 2, 2], true, false, false⟩),
  (33, ⟨4, 4, [.int .u8 0, .str ⟨#[]⟩, .int .i64 0, .int .u64 0], [], [(0, 1, false), (1, 1, false), (2, 1, false), (3, 1, false)], .i64, 0, 0, false, [], 0, [2, 3, 2, 2], true, false, false⟩),
  (34, ⟨1, 7, [.nptr], [], [], .i64, 0, 0, false, [], 0, [], false, false, false⟩),
  (37, ⟨1, 7, [.nptr], [], [], .i64, 0, 0, false, [], 0, [], false, false, false⟩),
  (46, ⟨1, 6, [.nsl], [], [], .i64, 1, 0, false, [.str ⟨#[]⟩], 16, [], false, false, false⟩),
  (51, ⟨1, 6, [.nsl], [], [], .i64, 2, 0, false, [.int .i64 0, .str ⟨#[]⟩], 24, [], false, false, true⟩),
  (52, ⟨6, 4, [.nsl, .nsl, .nsl, .bool false, .int .i64 0, .int .u64 0], [], [(0, 1, false), (1, 1, false), (2, 1, false), (3, 1, false), (4, 1, false), (5, 1, false)], .i64, 0, 0, false, [], 0, [], true, false, false⟩),
  (53, ⟨6, 4, [.nsl, .nsl, .nsl, .bool false, .int .i64 0, .int .u64 0], [], [(0, 1, false), (1, 1, false), (2, 1, false), (3, 1, false), (4, 1, false), (5, 1, false)], .i64, 0, 0, false, [], 0, [], true, false, false⟩),
  (54, ⟨1, 6, [.nsl], [], [], .i64, 2, 0, false, [.int .i64 0, .str ⟨#[]⟩], 24, [], false, false, true⟩),
  (55, ⟨5, 4, [.nsl, .nsl, .bool false, .int .i64 0, .int .u64 0], [], [(0, 1, false), (1, 1, false), (2, 1, false), (3, 1, false), (4, 1, false)], .i64, 0, 0, false, [], 0, [], true, false, false⟩),
  (56, ⟨5, 4, [.nsl, .nsl, .bool false, .int .i64 0, .int .u64 0], [], [(0, 1, false), (1, 1, false), (2, 1, false), (3, 1, false), (4, 1, false)], .i64, 0, 0, false, [], 0, [], true, false, false⟩),
  (59, ⟨1, 6, [.nsl], [], [], .i64, 1, 0, false, [.int .u8 0], 1, [], false, true, false⟩),
  (60, ⟨7, 4, [.nptr, .nsl, .int .i64 0, .int .i64 0, .int .u64 0, .nsl, .bool false], [], [(0, 1, false), (1, 1, false), (2, 1, false), (3, 1, false), (4, 1, false), (5, 1, false), (6, 1, false)], .i64, 0, 0, false, [], 0, [], true, false, false⟩),
  (61, ⟨7, 4, [.nptr, .nsl, .int .i64 0, .int .i64 0, .int .u64 0, .nsl, .bool false], [], [(0, 1, false), (1, 1, false), (2, 1, false), (3, 1, false), (4, 1, false), (5, 1, false), (6, 1, false)], .i64, 0, 0, false, [], 0, [], true, false, false⟩),
  (62, ⟨1, 6, [.nsl], [], [], .i64, 1, 0, false, [.nsl], 24, [], false, false, false⟩),
  (63, ⟨6, 4, [.nptr, .nsl, .nsl, .int .i64 0, .int .u64 0, .bool false], [], [(0, 1, false), (1, 1, false), (2, 1, false), (3, 1, false), (4, 1, false), (5, 1, false)], .i64, 0, 0, false, [], 0, [], true, false, false⟩),
  (64, ⟨6, 4, [.nptr, .nsl, .nsl, .int .i64 0, .int .u64 0, .bool false], [], [(0, 1, false), (1, 1, false), (2, 1, false), (3, 1, false), (4, 1, false), (5, 1, false)], .i64, 0, 0, false, [], 0, [], true, false, false⟩),
  (73, ⟨2, 4, [.int .i64 0, .str ⟨#[]⟩], [], [(0, 1, false), (1, 1, false)], .i64, 0, 0, false, [], 0, [2, 3], true, false, false⟩),
  (74, ⟨2, 4, [.int .i64 0, .str ⟨#[]⟩], [], [(0, 1, false), (1, 1, false)], .i64, 0, 0, false, [], 0, [2, 3], true, false, false⟩),
  (75, ⟨2, 4, [.int .i64 0, .str ⟨#[]⟩], [], [(0, 1, false), (1, 1, false)], .i64, 0, 0, false, [], 0, [2, 3], true, false, false⟩),
  (76, ⟨2, 4, [.int .i64 0, .str ⟨#[]⟩], [], [(0, 1, false), (1, 1, false)], .i64, 0, 0, false, [], 0, [2, 3], true, false, false⟩),
  (79, ⟨1, 7, [.nptr], [], [], .i64, 0, 0, false, [], 0, [], false, false, false⟩),
  (80, ⟨2, 4, [.nptr, .nsl], [], [(0, 1, false), (1, 1, false)], .i64, 0, 0, false, [], 0, [], true, false, false⟩),
  (81, ⟨2, 4, [.nptr, .nsl], [], [(0, 1, false), (1, 1, false)], .i64, 0, 1, false, [], 0, [], true, false, false⟩),
  (86, ⟨1, 9, [.nif], [], [], .i64, 0, 0, false, [], 0, [], false, false, false⟩),
  (87, ⟨1, 9, [.nif], [], [], .i64, 0, 0, false, [], 0, [], false, false, false⟩),
  (97, ⟨64, 5, [.bool false, .bool false, .bool false, .bool false, .bool false, .bool false, .bool false, .bool false, .bool false, .bool false, .bool false, .bool false, .bool false, .bool false, .bool false, .bool false, .bool false, .bool false, .bool false, .bool false, .bool false, .bool false, .bool false, .bool false, .bool false, .bool false, .bool false, .bool false, .bool false, .bool false, .bool false, .bool false, .bool false, .bool false, .bool false, .bool false, .bool false, .bool false, .bool false, .bool false, .bool false, .bool false, .bool false, .bool false, .bool false, .bool false, .bool false, .bool false, .bool false, .bool false, .bool false, .bool false, .bool false, .bool false, .bool false, .bool false, .bool false, .bool false, .bool false, .bool false, .bool false, .bool false, .bool false, .bool false], [.bools [false, false, false, false, false, false, false, false, false, false, false, false, false, false, false, false, false, false, false, false, false, false, false, false, false, false, false, false, false, false, false, false, false, false, false, false, false, false, false, false, false, false, false, false, false, false, false, false, false, false, false, false, false, false, false, false, false, false, false, false, false, false, false, false]], [], .i64, 1, 64, false, [], 0, [], true, false, false⟩),
  (99, ⟨1, 2, [.int .u64 0], [], [], .u64, 0, 0, false, [], 0, [], false, false, false⟩),
  (100, ⟨1, 7, [.nptr], [], [], .i64, 0, 0, false, [], 0, [], false, false, false⟩),
  (104, ⟨1, 7, [.nptr], [], [], .i64, 0, 0, false, [], 0, [], false, false, false⟩),
  (109, ⟨8, 5, [.int .u8 0, .int .u8 0, .int .u8 0, .int .u8 0, .int .u8 0, .int .u8 0, .int .u8 0, .int .u8 0], [.ints .u8 [0, 0, 0, 0, 0, 0, 0, 0]], [], .i64, 1, 8, false, [], 0, [2], true, false, false⟩),
  (111, ⟨8, 5, [.bool false, .bool false, .bool false, .bool false, .bool false, .bool false, .bool false, .bool false], [.bools [false, false, false, false, false, false, false, false]], [], .i64, 1, 8, false, [], 0, [], true, false, false⟩),
  (113, ⟨1, 6, [.nsl], [], [], .i64, 1, 0, false, [.bool false], 1, [], false, false, false⟩),
  (114, ⟨2, 4, [.str ⟨#[]⟩, .int .i64 0], [], [(0, 1, false), (1, 1, false)], .i64, 0, 0, false, [], 0, [3, 2], true, false, false⟩),
  (115, ⟨2, 4, [.str ⟨#[]⟩, .int .i64 0], [], [(0, 1, false), (1, 1, false)], .i64, 0, 0, false, [], 0, [3, 2], true, false, false⟩),
  (130, ⟨24, 5, [.int .u8 0, .int .u8 0, .int .u8 0, .int .u8 0, .int .u8 0, .int .u8 0, .int .u8 0, .int .u8 0, .int .u8 0, .int .u8 0, .int .u8 0, .int .u8 0, .int .u8 0, .int .u8 0, .int .u8 0, .int .u8 0, .int .u8 0, .int .u8 0, .int .u8 0, .int .u8 0, .int .u8 0, .int .u8 0, .int .u8 0, .int .u8 0], [.ints .u8 [0, 0, 0, 0, 0, 0, 0, 0, 0, 0, 0, 0, 0, 0, 0, 0, 0, 0, 0, 0, 0, 0, 0, 0]], [], .i64, 1, 24, false, [], 0, [2], true, false, false⟩),
  (135, ⟨1, 2, [.int .u32 0], [], [], .u32, 0, 0, false, [], 0, [], false, false, false⟩),
  (142, ⟨20, 5, [.int .u64 0, .int .u64 0, .int .u64 0, .int .u64 0, .int .u64 0, .int .u64 0, .int .u64 0, .int .u64 0, .int .u64 0, .int .u64 0, .int .u64 0, .int .u64 0, .int .u64 0, .int .u64 0, .int .u64 0, .int .u64 0, .int .u64 0, .int .u64 0, .int .u64 0, .int .u64 0], [.ints .u64 [0, 0, 0, 0, 0, 0, 0, 0, 0, 0, 0, 0, 0, 0, 0, 0, 0, 0, 0, 0]], [], .i64, 1, 20, false, [], 0, [2], true, false, false⟩),
  (143, ⟨65, 5, [.int .u8 0, .int .u8 0, .int .u8 0, .int .u8 0, .int .u8 0, .int .u8 0, .int .u8 0, .int .u8 0, .int .u8 0, .int .u8 0, .int .u8 0, .int .u8 0, .int .u8 0, .int .u8 0, .int .u8 0, .int .u8 0, .int .u8 0, .int .u8 0, .int .u8 0, .int .u8 0, .int .u8 0, .int .u8 0, .int .u8 0, .int .u8 0, .int .u8 0, .int .u8 0, .int .u8 0, .int .u8 0, .int .u8 0, .int .u8 0, .int .u8 0, .int .u8 0, .int .u8 0, .int .u8 0, .int .u8 0, .int .u8 0, .int .u8 0, .int .u8 0, .int .u8 0, .int .u8 0, .int .u8 0, .int .u8 0, .int .u8 0, .int .u8 0, .int .u8 0, .int .u8 0, .int .u8 0, .int .u8 0, .int .u8 0, .int .u8 0, .int .u8 0, .int .u8 0, .int .u8 0, .int .u8 0, .int .u8 0, .int .u8 0, .int .u8 0, .int .u8 0, .int .u8 0, .int .u8 0, .int .u8 0, .int .u8 0, .int .u8 0, .int .u8 0, .int .u8 0], [.ints .u8 [0, 0, 0, 0, 0, 0, 0, 0, 0, 0, 0, 0, 0, 0, 0, 0, 0, 0, 0, 0, 0, 0, 0, 0, 0, 0, 0, 0, 0, 0, 0, 0, 0, 0, 0, 0, 0, 0, 0, 0, 0, 0, 0, 0, 0, 0, 0, 0, 0, 0, 0, 0, 0, 0, 0, 0, 0, 0, 0, 0, 0, 0, 0, 0, 0]], [], .i64, 1, 65, false, [], 0, [2], true, false, false⟩),
  (148, ⟨32, 5, [.int .u8 0, .int .u8 0, .int .u8 0, .int .u8 0, .int .u8 0, .int .u8 0, .int .u8 0, .int .u8 0, .int .u8 0, .int .u8 0, .int .u8 0, .int .u8 0, .int .u8 0, .int .u8 0, .int .u8 0, .int .u8 0, .int .u8 0, .int .u8 0, .int .u8 0, .int .u8 0, .int .u8 0, .int .u8 0, .int .u8 0, .int .u8 0, .int .u8 0, .int .u8 0, .int .u8 0, .int .u8 0, .int .u8 0, .int .u8 0, .int .u8 0, .int .u8 0], [.ints .u8 [0, 0, 0, 0, 0, 0, 0, 0, 0, 0, 0, 0, 0, 0, 0, 0, 0, 0, 0, 0, 0, 0, 0, 0, 0, 0, 0, 0, 0, 0, 0, 0]], [], .i64, 1, 32, false, [], 0, [2], true, false, false⟩),
  (149, ⟨64, 5, [.int .u8 0, .int .u8 0, .int .u8 0, .int .u8 0, .int .u8 0, .int .u8 0, .int .u8 0, .int .u8 0, .int .u8 0, .int .u8 0, .int .u8 0, .int .u8 0, .int .u8 0, .int .u8 0, .int .u8 0, .int .u8 0, .int .u8 0, .int .u8 0, .int .u8 0, .int .u8 0, .int .u8 0, .int .u8 0, .int .u8 0, .int .u8 0, .int .u8 0, .int .u8 0, .int .u8 0, .int .u8 0, .int .u8 0, .int .u8 0, .int .u8 0, .int .u8 0, .int .u8 0, .int .u8 0, .int .u8 0, .int .u8 0, .int .u8 0, .int .u8 0, .int .u8 0, .int .u8 0, .int .u8 0, .int .u8 0, .int .u8 0, .int .u8 0, .int .u8 0, .int .u8 0, .int .u8 0, .int .u8 0, .int .u8 0, .int .u8 0, .int .u8 0, .int .u8 0, .int .u8 0, .int .u8 0, .int .u8 0, .int .u8 0, .int .u8 0, .int .u8 0, .int .u8 0, .int .u8 0, .int .u8 0, .int .u8 0, .int .u8 0, .int .u8 0], [.ints .u8 [0, 0, 0, 0, 0, 0, 0, 0, 0, 0, 0, 0, 0, 0, 0, 0, 0, 0, 0, 0, 0, 0, 0, 0, 0, 0, 0, 0, 0, 0, 0, 0, 0, 0, 0, 0, 0, 0, 0, 0, 0, 0, 0, 0, 0, 0, 0, 0, 0, 0, 0, 0, 0, 0, 0, 0, 0, 0, 0, 0, 0, 0, 0, 0]], [], .i64, 1, 64, false, [], 0, [2], true, false, false⟩),
  (152, ⟨0, 5, [], [], [], .i64, 1, 0, false, [], 0, [], true, false, false⟩),
  (160, ⟨11, 4, [.int .u64 0, .int .u64 0, .int .u32 0, .int .u8 0, .int .u8 0, .int .u8 0, .int .u8 0, .raw .nilFunc, .nptr, .int .i32 0, .int .i32 0], [], [(0, 1, false), (1, 1, false), (2, 1, false), (3, 1, false), (4, 1, false), (5, 1, false), (6, 1, false), (7, 1, false), (8, 1, false), (9, 1, false), (10, 1, false)], .i64, 0, 0, false, [], 0, [], true, false, false⟩)]
theorem T_ok : TabOk Tryz.prog T := tabOk_of _ _ (by kernel_rfl)
theorem mixed : Tryz.prog.follows .mixedOrders = true := by kernel_rfl
/-- The tables that the package-level variables hold. -/
def glT : GTab := [
  (0, 20, [.ints .u64 [1, 10, 100, 1000, 10000, 100000, 1000000, 10000000, 100000000, 1000000000, 10000000000, 100000000000, 1000000000000, 10000000000000, 100000000000000, 1000000000000000, 10000000000000000, 100000000000000000, 1000000000000000000, 10000000000000000000]]),
  (2, 32, [.ints .u8 [0, 1, 28, 2, 29, 14, 24, 3, 30, 22, 20, 15, 25, 17, 4, 8, 31, 27, 13, 23, 21, 19, 16, 7, 26, 12, 18, 6, 11, 5, 10, 9]]),
  (3, 64, [.ints .u8 [0, 1, 56, 2, 57, 49, 28, 3, 61, 58, 42, 50, 38, 29, 17, 4, 62, 47, 59, 36, 45, 43, 51, 22, 53, 39, 33, 30, 24, 18, 12, 5, 63, 55, 48, 27, 60, 41, 37, 16, 46, 35, 44, 21, 52, 32, 23, 11, 54, 26, 40, 15, 34, 20, 31, 10, 25, 14, 19, 9, 13, 8, 7, 6]])]
theorem gl_keys {q : Nat} (h : (aget glT q).isSome = true) : q = 0 ∨ q = 2 ∨ q = 3 := by
  have := aget_keys h
  simpa [glT] using this
end Go.Proofs.YtdlpmmdbdjlojaaGreatDoor
