/- The types of the seat's program, as the generator of conditions wants them. Written by mktab.py. -/
import Derived.Test.YtjjnbhbendlnhaaDoorYLib
import Derived.Test.YtjjnbhbendlnhaaDoorProg
import Derived.KernelRfl
namespace Go.Proofs.YtjjnbhbendlnhaaDoor
open Go.Sy
set_option maxRecDepth 100000
def T : Tab := [
  (2, ⟨1, 2, [.int .i64 0], [], [], .i64, 0, 0, false, [], 0, [], false, false, false⟩),
  (3, ⟨1, 2, [.int .i64 0], [], [], .i64, 0, 0, false, [], 0, [], false, false, false⟩),
  (4, ⟨1, 1, [.bool false], [], [], .i64, 0, 0, false, [], 0, [], false, false, false⟩),
  (5, ⟨1, 2, [.int .u8 0], [], [], .u8, 0, 0, false, [], 0, [], false, false, false⟩),
  (9, ⟨1, 3, [.str ⟨#[]⟩], [], [], .i64, 0, 0, false, [], 0, [], false, false, false⟩),
  (12, ⟨1, 2, [.int .u64 0], [], [], .u64, 0, 0, false, [], 0, [], false, false, false⟩),
  (15, ⟨1, 7, [.nptr], [], [], .i64, 0, 0, false, [], 0, [], false, false, false⟩),
  (16, ⟨1, 7, [.nptr], [], [], .i64, 0, 0, false, [], 0, [], false, false, false⟩),
  (17, ⟨1, 7, [.nptr], [], [], .i64, 0, 0, false, [], 0, [], false, false, false⟩),
  (20, ⟨1, 9, [.nif], [], [], .i64, 0, 0, false, [], 0, [], false, false, false⟩),
  (21, ⟨1, 2, [.int .i32 0], [], [], .i32, 0, 0, false, [], 0, [], false, false, false⟩),
  (22, ⟨1, 6, [.nsl], [], [], .i64, 1, 0, false, [.str ⟨#[]⟩], 16, [], false, false, false⟩),
  (23, ⟨1, 6, [.nsl], [], [], .i64, 1, 0, false, [.int .u8 0], 1, [], false, true, false⟩),
  (24, ⟨1, 7, [.nptr], [], [], .i64, 0, 0, false, [], 0, [], false, false, false⟩),
  (25, ⟨1, 2, [.int .i64 0], [], [], .i64, 0, 0, false, [], 0, [], false, false, false⟩),
  (29, ⟨2, 4, [.int .i64 0, .str ⟨#[]⟩], [], [(0, 1, false), (1, 1, false)], .i64, 0, 0, false, [], 0, [2, 3], true, false, false⟩),
  (30, ⟨2, 4, [.int .i64 0, .str ⟨#[]⟩], [], [(0, 1, false), (1, 1, false)], .i64, 0, 0, false, [], 0, [2, 3], true, false, false⟩),
  (31, ⟨3, 4, [.str ⟨#[]⟩, .int .i64 0, .str ⟨#[]⟩], [], [(0, 1, false), (1, 2, true)], .i64, 0, 0, false, [], 0, [3, 2, 3], true, false, false⟩),
  (32, ⟨3, 4, [.str ⟨#[]⟩, .int .i64 0, .str ⟨#[]⟩], [], [(0, 1, false), (1, 2, true)], .i64, 0, 0, false, [], 0, [3, 2, 3], true, false, false⟩),
  (34, ⟨1, 6, [.nsl], [], [], .i64, 3, 0, false, [.str ⟨#[]⟩, .int .i64 0, .str ⟨#[]⟩], 40, [], false, false, true⟩),
  (35, ⟨3, 4, [.str ⟨#[]⟩, .int .i64 0, .nsl], [], [(0, 1, false), (1, 1, false), (2, 1, false)], .i64, 0, 0, false, [], 0, [], true, false, false⟩),
  (36, ⟨3, 4, [.str ⟨#[]⟩, .int .i64 0, .nsl], [], [(0, 1, false), (1, 1, false), (2, 1, false)], .i64, 0, 0, false, [], 0, [], true, false, false⟩),
  (37, ⟨1, 6, [.nsl], [], [], .i64, 3, 0, false, [.str ⟨#[]⟩, .int .i64 0, .nsl], 48, [], false, false, true⟩),
  (42, ⟨1, 6, [.nsl], [], [], .i64, 4, 0, false, [.str ⟨#[]⟩, .int .i64 0, .nsl, .str ⟨#[]⟩], 64, [], false, false, true⟩),
  (46, ⟨4, 4, [.str ⟨#[]⟩, .int .i64 0, .nsl, .str ⟨#[]⟩], [], [(0, 3, true), (3, 1, false)], .i64, 0, 0, false, [], 0, [], true, false, false⟩),
  (47, ⟨4, 4, [.str ⟨#[]⟩, .int .i64 0, .nsl, .str ⟨#[]⟩], [], [(0, 3, true), (3, 1, false)], .i64, 0, 0, false, [], 0, [], true, false, false⟩),
  (50, ⟨1, 2, [.int .u64 0], [], [], .u64, 0, 0, false, [], 0, [], false, false, false⟩),
  (56, ⟨1, 8, [.nmap], [], [], .i64, 1, 3, false, [.bool false], 0, [], true, false, false⟩),
  (57, ⟨1, 8, [.nmap], [], [], .i64, 1, 3, false, [.int .i64 0], 0, [], true, false, false⟩),
  (58, ⟨1, 8, [.nmap], [], [], .i64, 1, 0, false, [.int .i64 0], 0, [3, 3], true, false, false⟩),
  (59, ⟨6, 4, [.nmap, .nsl, .nmap, .nmap, .nmap, .int .u64 0], [], [(0, 1, false), (1, 1, false), (2, 1, false), (3, 1, false), (4, 1, false), (5, 1, false)], .i64, 0, 0, false, [], 0, [], true, false, false⟩),
  (60, ⟨6, 4, [.nmap, .nsl, .nmap, .nmap, .nmap, .int .u64 0], [], [(0, 1, false), (1, 1, false), (2, 1, false), (3, 1, false), (4, 1, false), (5, 1, false)], .i64, 0, 0, false, [], 0, [], true, false, false⟩),
  (63, ⟨2, 4, [.str ⟨#[]⟩, .str ⟨#[]⟩], [], [(0, 1, false), (1, 1, false)], .i64, 0, 0, false, [], 0, [3, 3], true, false, false⟩),
  (64, ⟨2, 4, [.str ⟨#[]⟩, .str ⟨#[]⟩], [], [(0, 1, false), (1, 1, false)], .i64, 0, 0, false, [], 0, [3, 3], true, false, false⟩),
  (79, ⟨1, 7, [.nptr], [], [], .i64, 0, 0, false, [], 0, [], false, false, false⟩),
  (80, ⟨2, 4, [.nptr, .nsl], [], [(0, 1, false), (1, 1, false)], .i64, 0, 0, false, [], 0, [], true, false, false⟩),
  (81, ⟨2, 4, [.nptr, .nsl], [], [(0, 1, false), (1, 1, false)], .i64, 0, 1, false, [], 0, [], true, false, false⟩),
  (82, ⟨1, 9, [.nif], [], [], .i64, 0, 0, false, [], 0, [], false, false, false⟩),
  (83, ⟨1, 9, [.nif], [], [], .i64, 0, 0, false, [], 0, [], false, false, false⟩),
  (91, ⟨1, 8, [.nmap], [], [], .i64, 1, 3, false, [.int .i64 0], 0, [], true, false, false⟩),
  (92, ⟨1, 7, [.nptr], [], [], .i64, 0, 0, false, [], 0, [], false, false, false⟩),
  (96, ⟨1, 2, [.int .u64 0], [], [], .u64, 0, 0, false, [], 0, [], false, false, false⟩),
  (99, ⟨24, 5, [.int .u8 0, .int .u8 0, .int .u8 0, .int .u8 0, .int .u8 0, .int .u8 0, .int .u8 0, .int .u8 0, .int .u8 0, .int .u8 0, .int .u8 0, .int .u8 0, .int .u8 0, .int .u8 0, .int .u8 0, .int .u8 0, .int .u8 0, .int .u8 0, .int .u8 0, .int .u8 0, .int .u8 0, .int .u8 0, .int .u8 0, .int .u8 0], [.ints .u8 [0, 0, 0, 0, 0, 0, 0, 0, 0, 0, 0, 0, 0, 0, 0, 0, 0, 0, 0, 0, 0, 0, 0, 0]], [], .i64, 1, 24, false, [], 0, [2], true, false, false⟩),
  (105, ⟨1, 2, [.int .i64 0], [], [], .i64, 0, 0, false, [], 0, [], false, false, false⟩),
  (113, ⟨1, 2, [.int .u32 0], [], [], .u32, 0, 0, false, [], 0, [], false, false, false⟩),
  (116, ⟨20, 5, [.int .u64 0, .int .u64 0, .int .u64 0, .int .u64 0, .int .u64 0, .int .u64 0, .int .u64 0, .int .u64 0, .int .u64 0, .int .u64 0, .int .u64 0, .int .u64 0, .int .u64 0, .int .u64 0, .int .u64 0, .int .u64 0, .int .u64 0, .int .u64 0, .int .u64 0, .int .u64 0], [.ints .u64 [0, 0, 0, 0, 0, 0, 0, 0, 0, 0, 0, 0, 0, 0, 0, 0, 0, 0, 0, 0]], [], .i64, 1, 20, false, [], 0, [2], true, false, false⟩),
  (117, ⟨65, 5, [.int .u8 0, .int .u8 0, .int .u8 0, .int .u8 0, .int .u8 0, .int .u8 0, .int .u8 0, .int .u8 0, .int .u8 0, .int .u8 0, .int .u8 0, .int .u8 0, .int .u8 0, .int .u8 0, .int .u8 0, .int .u8 0, .int .u8 0, .int .u8 0, .int .u8 0, .int .u8 0, .int .u8 0, .int .u8 0, .int .u8 0, .int .u8 0, .int .u8 0, .int .u8 0, .int .u8 0, .int .u8 0, .int .u8 0, .int .u8 0, .int .u8 0, .int .u8 0, .int .u8 0, .int .u8 0, .int .u8 0, .int .u8 0, .int .u8 0, .int .u8 0, .int .u8 0, .int .u8 0, .int .u8 0, .int .u8 0, .int .u8 0, .int .u8 0, .int .u8 0, .int .u8 0, .int .u8 0, .int .u8 0, .int .u8 0, .int .u8 0, .int .u8 0, .int .u8 0, .int .u8 0, .int .u8 0, .int .u8 0, .int .u8 0, .int .u8 0, .int .u8 0, .int .u8 0, .int .u8 0, .int .u8 0, .int .u8 0, .int .u8 0, .int .u8 0, .int .u8 0], [.ints .u8 [0, 0, 0, 0, 0, 0, 0, 0, 0, 0, 0, 0, 0, 0, 0, 0, 0, 0, 0, 0, 0, 0, 0, 0, 0, 0, 0, 0, 0, 0, 0, 0, 0, 0, 0, 0, 0, 0, 0, 0, 0, 0, 0, 0, 0, 0, 0, 0, 0, 0, 0, 0, 0, 0, 0, 0, 0, 0, 0, 0, 0, 0, 0, 0, 0]], [], .i64, 1, 65, false, [], 0, [2], true, false, false⟩),
  (119, ⟨1, 2, [.int .u64 0], [], [], .u64, 0, 0, false, [], 0, [], false, false, false⟩),
  (122, ⟨1, 7, [.nptr], [], [], .i64, 0, 0, false, [], 0, [], false, false, false⟩),
  (124, ⟨1, 7, [.nptr], [], [], .i64, 0, 0, false, [], 0, [], false, false, false⟩),
  (127, ⟨32, 5, [.int .u8 0, .int .u8 0, .int .u8 0, .int .u8 0, .int .u8 0, .int .u8 0, .int .u8 0, .int .u8 0, .int .u8 0, .int .u8 0, .int .u8 0, .int .u8 0, .int .u8 0, .int .u8 0, .int .u8 0, .int .u8 0, .int .u8 0, .int .u8 0, .int .u8 0, .int .u8 0, .int .u8 0, .int .u8 0, .int .u8 0, .int .u8 0, .int .u8 0, .int .u8 0, .int .u8 0, .int .u8 0, .int .u8 0, .int .u8 0, .int .u8 0, .int .u8 0], [.ints .u8 [0, 0, 0, 0, 0, 0, 0, 0, 0, 0, 0, 0, 0, 0, 0, 0, 0, 0, 0, 0, 0, 0, 0, 0, 0, 0, 0, 0, 0, 0, 0, 0]], [], .i64, 1, 32, false, [], 0, [2], true, false, false⟩),
  (128, ⟨64, 5, [.int .u8 0, .int .u8 0, .int .u8 0, .int .u8 0, .int .u8 0, .int .u8 0, .int .u8 0, .int .u8 0, .int .u8 0, .int .u8 0, .int .u8 0, .int .u8 0, .int .u8 0, .int .u8 0, .int .u8 0, .int .u8 0, .int .u8 0, .int .u8 0, .int .u8 0, .int .u8 0, .int .u8 0, .int .u8 0, .int .u8 0, .int .u8 0, .int .u8 0, .int .u8 0, .int .u8 0, .int .u8 0, .int .u8 0, .int .u8 0, .int .u8 0, .int .u8 0, .int .u8 0, .int .u8 0, .int .u8 0, .int .u8 0, .int .u8 0, .int .u8 0, .int .u8 0, .int .u8 0, .int .u8 0, .int .u8 0, .int .u8 0, .int .u8 0, .int .u8 0, .int .u8 0, .int .u8 0, .int .u8 0, .int .u8 0, .int .u8 0, .int .u8 0, .int .u8 0, .int .u8 0, .int .u8 0, .int .u8 0, .int .u8 0, .int .u8 0, .int .u8 0, .int .u8 0, .int .u8 0, .int .u8 0, .int .u8 0, .int .u8 0, .int .u8 0], [.ints .u8 [0, 0, 0, 0, 0, 0, 0, 0, 0, 0, 0, 0, 0, 0, 0, 0, 0, 0, 0, 0, 0, 0, 0, 0, 0, 0, 0, 0, 0, 0, 0, 0, 0, 0, 0, 0, 0, 0, 0, 0, 0, 0, 0, 0, 0, 0, 0, 0, 0, 0, 0, 0, 0, 0, 0, 0, 0, 0, 0, 0, 0, 0, 0, 0]], [], .i64, 1, 64, false, [], 0, [2], true, false, false⟩),
  (131, ⟨0, 5, [], [], [], .i64, 1, 0, false, [], 0, [], true, false, false⟩),
  (140, ⟨11, 4, [.int .u64 0, .int .u64 0, .int .u32 0, .int .u8 0, .int .u8 0, .int .u8 0, .int .u8 0, .raw .nilFunc, .nptr, .int .i32 0, .int .i32 0], [], [(0, 1, false), (1, 1, false), (2, 1, false), (3, 1, false), (4, 1, false), (5, 1, false), (6, 1, false), (7, 1, false), (8, 1, false), (9, 1, false), (10, 1, false)], .i64, 0, 0, false, [], 0, [], true, false, false⟩)]
theorem T_ok : TabOk Tryd.prog T := tabOk_of _ _ (by kernel_rfl)
theorem mixed : Tryd.prog.follows .mixedOrders = true := by kernel_rfl
/-- The tables that the package-level variables hold. -/
def glT : GTab := [
  (0, 20, [.ints .u64 [1, 10, 100, 1000, 10000, 100000, 1000000, 10000000, 100000000, 1000000000, 10000000000, 100000000000, 1000000000000, 10000000000000, 100000000000000, 1000000000000000, 10000000000000000, 100000000000000000, 1000000000000000000, 10000000000000000000]]),
  (1, 32, [.ints .u8 [0, 1, 28, 2, 29, 14, 24, 3, 30, 22, 20, 15, 25, 17, 4, 8, 31, 27, 13, 23, 21, 19, 16, 7, 26, 12, 18, 6, 11, 5, 10, 9]]),
  (2, 64, [.ints .u8 [0, 1, 56, 2, 57, 49, 28, 3, 61, 58, 42, 50, 38, 29, 17, 4, 62, 47, 59, 36, 45, 43, 51, 22, 53, 39, 33, 30, 24, 18, 12, 5, 63, 55, 48, 27, 60, 41, 37, 16, 46, 35, 44, 21, 52, 32, 23, 11, 54, 26, 40, 15, 34, 20, 31, 10, 25, 14, 19, 9, 13, 8, 7, 6]])]
theorem gl_keys {q : Nat} (h : (aget glT q).isSome = true) : q = 0 ∨ q = 1 ∨ q = 2 := by
  have := aget_keys h
  simpa [glT] using this
end Go.Proofs.YtjjnbhbendlnhaaDoor
