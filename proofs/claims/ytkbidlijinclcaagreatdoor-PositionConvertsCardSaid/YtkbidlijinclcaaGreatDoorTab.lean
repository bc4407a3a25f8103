/- The types of the seat's program, as the generator of conditions wants them. Written by mktab.py. -/
import Derived.Test.YtkbidlijinclcaaGreatDoorYLib
import Derived.Test.YtkbidlijinclcaaGreatDoorProg
import Derived.KernelRfl
namespace Go.Proofs.YtkbidlijinclcaaGreatDoor
open Go.Sy
set_option maxRecDepth 100000
def T : Tab := [
  (2, ⟨1, 2, [.int .i64 0], [], [], .i64, 0, 0, false, [], 0, [], false, false, false⟩),
  (3, ⟨1, 2, [.int .i64 0], [], [], .i64, 0, 0, false, [], 0, [], false, false, false⟩),
  (4, ⟨1, 1, [.bool false], [], [], .i64, 0, 0, false, [], 0, [], false, false, false⟩),
  (5, ⟨1, 2, [.int .u8 0], [], [], .u8, 0, 0, false, [], 0, [], false, false, false⟩),
  (9, ⟨1, 3, [.str ⟨#[]⟩], [], [], .i64, 0, 0, false, [], 0, [], false, false, false⟩),
  (12, ⟨1, 2, [.int .u64 0], [], [], .u64, 0, 0, false, [], 0, [], false, false, false⟩),
  (15, ⟨1, 7, [.nptr], [], [], .i64, 0, 0, false, [], 0, [], false, false, false⟩),
  (16, ⟨1, 7, [.nptr], [], [], .i64, 0, 0, false, [], 0, [], false, false, false⟩),
  (17, ⟨1, 7, [.nptr], [], [], .i64, 0, 0, false, [], 0, [], false, false, false⟩),
  (20, ⟨1, 9, [.nif], [], [], .i64, 0, 0, false, [], 0, [], false, false, false⟩),
  (21, ⟨1, 2, [.int .i32 0], [], [], .i32, 0, 0, false, [], 0, [], false, false, false⟩),
  (22, ⟨1, 6, [.nsl], [], [], .i64, 1, 0, false, [.str ⟨#[]⟩], 16, [], false, false, false⟩),
  (23, ⟨1, 6, [.nsl], [], [], .i64, 4, 0, false, [.str ⟨#[]⟩, .str ⟨#[]⟩, .int .i64 0, .str ⟨#[]⟩], 56, [], false, false, true⟩),
  (27, ⟨1, 7, [.nptr], [], [], .i64, 0, 0, false, [], 0, [], false, false, false⟩),
  (28, ⟨1, 2, [.int .i64 0], [], [], .i64, 0, 0, false, [], 0, [], false, false, false⟩),
  (31, ⟨1, 7, [.nptr], [], [], .i64, 0, 0, false, [], 0, [], false, false, false⟩),
  (34, ⟨2, 4, [.int .i64 0, .str ⟨#[]⟩], [], [(0, 1, false), (1, 1, false)], .i64, 0, 0, false, [], 0, [2, 3], true, false, false⟩),
  (35, ⟨2, 4, [.int .i64 0, .str ⟨#[]⟩], [], [(0, 1, false), (1, 1, false)], .i64, 0, 0, false, [], 0, [2, 3], true, false, false⟩),
  (36, ⟨4, 4, [.str ⟨#[]⟩, .str ⟨#[]⟩, .int .i64 0, .str ⟨#[]⟩], [], [(0, 1, false), (1, 1, false), (2, 2, true)], .i64, 0, 0, false, [], 0, [3, 3, 2, 3], true, false, false⟩),
  (37, ⟨4, 4, [.str ⟨#[]⟩, .str ⟨#[]⟩, .int .i64 0, .str ⟨#[]⟩], [], [(0, 1, false), (1, 1, false), (2, 2, true)], .i64, 0, 0, false, [], 0, [3, 3, 2, 3], true, false, false⟩),
  (41, ⟨1, 6, [.nsl], [], [], .i64, 3, 0, false, [.str ⟨#[]⟩, .int .i64 0, .str ⟨#[]⟩], 40, [], false, false, true⟩),
  (48, ⟨1, 6, [.nsl], [], [], .i64, 4, 0, false, [.str ⟨#[]⟩, .str ⟨#[]⟩, .int .i64 0, .int .i64 0], 48, [], false, false, true⟩),
  (50, ⟨4, 4, [.str ⟨#[]⟩, .str ⟨#[]⟩, .int .i64 0, .int .i64 0], [], [(0, 1, false), (1, 1, false), (2, 1, false), (3, 1, false)], .i64, 0, 0, false, [], 0, [3, 3, 2, 2], true, false, false⟩),
  (51, ⟨4, 4, [.str ⟨#[]⟩, .str ⟨#[]⟩, .int .i64 0, .int .i64 0], [], [(0, 1, false), (1, 1, false), (2, 1, false), (3, 1, false)], .i64, 0, 0, false, [], 0, [3, 3, 2, 2], true, false, false⟩),
  (52, ⟨3, 4, [.str ⟨#[]⟩, .int .i64 0, .str ⟨#[]⟩], [], [(0, 1, false), (1, 2, true)], .i64, 0, 0, false, [], 0, [3, 2, 3], true, false, false⟩),
  (53, ⟨3, 4, [.str ⟨#[]⟩, .int .i64 0, .str ⟨#[]⟩], [], [(0, 1, false), (1, 2, true)], .i64, 0, 0, false, [], 0, [3, 2, 3], true, false, false⟩),
  (54, ⟨1, 8, [.nmap], [], [], .i64, 16, 3, true, [.int .i64 0, .int .i64 0, .int .i64 0, .int .i64 0, .int .i64 0, .int .i64 0, .int .i64 0, .int .i64 0, .int .i64 0, .int .i64 0, .int .i64 0, .int .i64 0, .int .i64 0, .int .i64 0, .int .i64 0, .int .i64 0], 0, [], true, false, true⟩),
  (55, ⟨2, 4, [.nsl, .nmap], [], [(0, 1, false), (1, 1, false)], .i64, 0, 0, false, [], 0, [], true, false, false⟩),
  (56, ⟨2, 4, [.nsl, .nmap], [], [(0, 1, false), (1, 1, false)], .i64, 0, 0, false, [], 0, [], true, false, false⟩),
  (60, ⟨2, 4, [.nsl, .nsl], [], [(0, 1, false), (1, 1, false)], .i64, 0, 0, false, [], 0, [], true, false, false⟩),
  (61, ⟨2, 4, [.nsl, .nsl], [], [(0, 1, false), (1, 1, false)], .i64, 0, 0, false, [], 0, [], true, false, false⟩),
  (64, ⟨16, 5, [.int .i64 0, .int .i64 0, .int .i64 0, .int .i64 0, .int .i64 0, .int .i64 0, .int .i64 0, .int .i64 0, .int .i64 0, .int .i64 0, .int .i64 0, .int .i64 0, .int .i64 0, .int .i64 0, .int .i64 0, .int .i64 0], [.ints .i64 [0, 0, 0, 0, 0, 0, 0, 0, 0, 0, 0, 0, 0, 0, 0, 0]], [], .i64, 1, 16, false, [], 0, [2], true, false, false⟩),
  (65, ⟨16, 5, [.int .i64 0, .int .i64 0, .int .i64 0, .int .i64 0, .int .i64 0, .int .i64 0, .int .i64 0, .int .i64 0, .int .i64 0, .int .i64 0, .int .i64 0, .int .i64 0, .int .i64 0, .int .i64 0, .int .i64 0, .int .i64 0], [.ints .i64 [0, 0, 0, 0, 0, 0, 0, 0, 0, 0, 0, 0, 0, 0, 0, 0]], [], .i64, 1, 16, false, [], 0, [2], true, false, false⟩),
  (73, ⟨1, 2, [.int .u64 0], [], [], .u64, 0, 0, false, [], 0, [], false, false, false⟩),
  (74, ⟨2, 4, [.int .i64 0, .int .u64 0], [], [(0, 1, false), (1, 1, false)], .i64, 0, 0, false, [], 0, [2, 2], true, false, false⟩),
  (75, ⟨2, 4, [.int .i64 0, .int .u64 0], [], [(0, 1, false), (1, 1, false)], .i64, 0, 0, false, [], 0, [2, 2], true, false, false⟩),
  (76, ⟨32, 5, [.int .i64 0, .int .u64 0, .int .i64 0, .int .u64 0, .int .i64 0, .int .u64 0, .int .i64 0, .int .u64 0, .int .i64 0, .int .u64 0, .int .i64 0, .int .u64 0, .int .i64 0, .int .u64 0, .int .i64 0, .int .u64 0, .int .i64 0, .int .u64 0, .int .i64 0, .int .u64 0, .int .i64 0, .int .u64 0, .int .i64 0, .int .u64 0, .int .i64 0, .int .u64 0, .int .i64 0, .int .u64 0, .int .i64 0, .int .u64 0, .int .i64 0, .int .u64 0], [.ints .i64 [0, 0, 0, 0, 0, 0, 0, 0, 0, 0, 0, 0, 0, 0, 0, 0], .ints .u64 [0, 0, 0, 0, 0, 0, 0, 0, 0, 0, 0, 0, 0, 0, 0, 0]], [], .i64, 2, 16, true, [], 0, [], true, false, true⟩),
  (92, ⟨1, 2, [.int .u64 0], [], [], .u64, 0, 0, false, [], 0, [], false, false, false⟩),
  (94, ⟨2, 5, [.int .i64 0, .int .i64 0], [.ints .i64 [0, 0]], [], .i64, 1, 2, false, [], 0, [2], true, false, false⟩),
  (96, ⟨1, 7, [.nptr], [], [], .i64, 0, 0, false, [], 0, [], false, false, false⟩),
  (97, ⟨1, 7, [.nptr], [], [], .i64, 0, 0, false, [], 0, [], false, false, false⟩),
  (105, ⟨1, 6, [.nsl], [], [], .i64, 1, 0, false, [.int .i64 0], 8, [], false, false, false⟩),
  (106, ⟨1, 6, [.nsl], [], [], .i64, 2, 0, false, [.int .i64 0, .str ⟨#[]⟩], 24, [], false, false, true⟩),
  (112, ⟨1, 2, [.int .i64 0], [], [], .i64, 0, 0, false, [], 0, [], false, false, false⟩),
  (121, ⟨1, 2, [.int .u32 0], [], [], .u32, 0, 0, false, [], 0, [], false, false, false⟩),
  (125, ⟨1, 6, [.nsl], [], [], .i64, 1, 0, false, [.int .i64 0], 8, [], false, false, false⟩),
  (134, ⟨1, 2, [.int .u64 0], [], [], .u64, 0, 0, false, [], 0, [], false, false, false⟩),
  (138, ⟨1, 7, [.nptr], [], [], .i64, 0, 0, false, [], 0, [], false, false, false⟩),
  (147, ⟨1, 6, [.nsl], [], [], .i64, 1, 0, false, [.int .u64 0], 8, [], false, false, false⟩),
  (155, ⟨1, 7, [.nptr], [], [], .i64, 0, 0, false, [], 0, [], false, false, false⟩),
  (160, ⟨1, 9, [.nif], [], [], .i64, 0, 0, false, [], 0, [], false, false, false⟩),
  (161, ⟨1, 9, [.nif], [], [], .i64, 0, 0, false, [], 0, [], false, false, false⟩),
  (164, ⟨2, 4, [.str ⟨#[]⟩, .int .i64 0], [], [(0, 1, false), (1, 1, false)], .i64, 0, 0, false, [], 0, [3, 2], true, false, false⟩),
  (165, ⟨20, 5, [.str ⟨#[]⟩, .int .i64 0, .str ⟨#[]⟩, .int .i64 0, .str ⟨#[]⟩, .int .i64 0, .str ⟨#[]⟩, .int .i64 0, .str ⟨#[]⟩, .int .i64 0, .str ⟨#[]⟩, .int .i64 0, .str ⟨#[]⟩, .int .i64 0, .str ⟨#[]⟩, .int .i64 0, .str ⟨#[]⟩, .int .i64 0, .str ⟨#[]⟩, .int .i64 0], [.strs [⟨#[]⟩, ⟨#[]⟩, ⟨#[]⟩, ⟨#[]⟩, ⟨#[]⟩, ⟨#[]⟩, ⟨#[]⟩, ⟨#[]⟩, ⟨#[]⟩, ⟨#[]⟩], .ints .i64 [0, 0, 0, 0, 0, 0, 0, 0, 0, 0]], [], .i64, 2, 10, true, [], 0, [], true, false, true⟩),
  (168, ⟨1, 7, [.nptr], [], [], .i64, 0, 0, false, [], 0, [], false, false, false⟩),
  (172, ⟨0, 5, [], [], [], .i64, 1, 0, false, [], 0, [], true, false, false⟩),
  (179, ⟨1, 7, [.nptr], [], [], .i64, 0, 0, false, [], 0, [], false, false, false⟩),
  (182, ⟨11, 4, [.int .u64 0, .int .u64 0, .int .u32 0, .int .u8 0, .int .u8 0, .int .u8 0, .int .u8 0, .raw .nilFunc, .nptr, .int .i32 0, .int .i32 0], [], [(0, 1, false), (1, 1, false), (2, 1, false), (3, 1, false), (4, 1, false), (5, 1, false), (6, 1, false), (7, 1, false), (8, 1, false), (9, 1, false), (10, 1, false)], .i64, 0, 0, false, [], 0, [], true, false, false⟩),
  (184, ⟨1, 4, [.str ⟨#[]⟩], [], [(0, 1, false)], .i64, 0, 0, false, [], 0, [3], true, false, false⟩),
  (185, ⟨1, 4, [.str ⟨#[]⟩], [], [(0, 1, false)], .i64, 0, 0, false, [], 0, [3], true, false, false⟩)]
theorem T_ok : TabOk Tryz.prog T := tabOk_of _ _ (by kernel_rfl)
theorem mixed : Tryz.prog.follows .mixedOrders = true := by kernel_rfl
/-- The tables that the package-level variables hold. -/
def glT : GTab := [
  (3, 10, [.strs [⟨#[74, 80, 89]⟩, ⟨#[75, 82, 87]⟩, ⟨#[86, 78, 68]⟩, ⟨#[67, 76, 80]⟩, ⟨#[73, 83, 75]⟩, ⟨#[66, 72, 68]⟩, ⟨#[75, 87, 68]⟩, ⟨#[74, 79, 68]⟩, ⟨#[79, 77, 82]⟩, ⟨#[84, 78, 68]⟩], .ints .i64 [0, 0, 0, 0, 0, 3, 3, 3, 3, 3]])]
theorem gl_keys {q : Nat} (h : (aget glT q).isSome = true) : q = 3 := by
  have := aget_keys h
  simpa [glT] using this
end Go.Proofs.YtkbidlijinclcaaGreatDoor
