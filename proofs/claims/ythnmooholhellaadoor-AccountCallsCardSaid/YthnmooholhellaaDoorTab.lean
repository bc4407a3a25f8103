/- The types of the seat's program, as the generator of conditions wants them. Written by mktab.py. -/
import Derived.Test.YthnmooholhellaaDoorYLib
import Derived.Test.YthnmooholhellaaDoorProg
import Derived.KernelRfl
namespace Go.Proofs.YthnmooholhellaaDoor
open Go.Sy
set_option maxRecDepth 100000
def T : Tab := [
  (2, ⟨1, 2, [.int .i64 0], [], [], .i64, 0, 0, false, [], 0, [], false, false, false⟩),
  (3, ⟨1, 2, [.int .i64 0], [], [], .i64, 0, 0, false, [], 0, [], false, false, false⟩),
  (4, ⟨1, 1, [.bool false], [], [], .i64, 0, 0, false, [], 0, [], false, false, false⟩),
  (5, ⟨1, 2, [.int .u8 0], [], [], .u8, 0, 0, false, [], 0, [], false, false, false⟩),
  (9, ⟨1, 3, [.str ⟨#[]⟩], [], [], .i64, 0, 0, false, [], 0, [], false, false, false⟩),
  (12, ⟨1, 2, [.int .u64 0], [], [], .u64, 0, 0, false, [], 0, [], false, false, false⟩),
  (15, ⟨1, 7, [.nptr], [], [], .i64, 0, 0, false, [], 0, [], false, false, false⟩),
  (16, ⟨1, 7, [.nptr], [], [], .i64, 0, 0, false, [], 0, [], false, false, false⟩),
  (17, ⟨1, 7, [.nptr], [], [], .i64, 0, 0, false, [], 0, [], false, false, false⟩),
  (20, ⟨1, 9, [.nif], [], [], .i64, 0, 0, false, [], 0, [], false, false, false⟩),
  (21, ⟨1, 2, [.int .i32 0], [], [], .i32, 0, 0, false, [], 0, [], false, false, false⟩),
  (22, ⟨1, 6, [.nsl], [], [], .i64, 1, 0, false, [.int .i64 0], 8, [], false, false, false⟩),
  (24, ⟨1, 7, [.nptr], [], [], .i64, 0, 0, false, [], 0, [], false, false, false⟩),
  (26, ⟨1, 2, [.int .i64 0], [], [], .i64, 0, 0, false, [], 0, [], false, false, false⟩),
  (33, ⟨1, 6, [.nsl], [], [], .i64, 1, 0, false, [.str ⟨#[]⟩], 16, [], false, false, false⟩),
  (37, ⟨3, 5, [.int .i64 0, .int .i64 0, .int .i64 0], [.ints .i64 [0, 0, 0]], [], .i64, 1, 3, false, [], 0, [], true, false, false⟩),
  (41, ⟨3, 4, [.str ⟨#[]⟩, .int .i64 0, .int .i64 0], [], [(0, 1, false), (1, 1, false), (2, 1, false)], .i64, 0, 0, false, [], 0, [3, 2, 2], true, false, false⟩),
  (42, ⟨3, 4, [.str ⟨#[]⟩, .int .i64 0, .int .i64 0], [], [(0, 1, false), (1, 1, false), (2, 1, false)], .i64, 0, 0, false, [], 0, [3, 2, 2], true, false, false⟩),
  (43, ⟨1, 6, [.nsl], [], [], .i64, 4, 0, false, [.int .i64 0, .str ⟨#[]⟩, .int .i64 0, .int .i64 0], 40, [], false, false, true⟩),
  (46, ⟨1, 7, [.nptr], [], [], .i64, 0, 0, false, [], 0, [], false, false, false⟩),
  (49, ⟨4, 4, [.int .i64 0, .str ⟨#[]⟩, .int .i64 0, .int .i64 0], [], [(0, 1, false), (1, 1, false), (2, 1, false), (3, 1, false)], .i64, 0, 0, false, [], 0, [2, 3, 2, 2], true, false, false⟩),
  (50, ⟨4, 4, [.int .i64 0, .str ⟨#[]⟩, .int .i64 0, .int .i64 0], [], [(0, 1, false), (1, 1, false), (2, 1, false), (3, 1, false)], .i64, 0, 0, false, [], 0, [2, 3, 2, 2], true, false, false⟩),
  (59, ⟨1, 8, [.nmap], [], [], .i64, 1, 3, false, [.int .i64 0], 0, [], true, false, false⟩),
  (60, ⟨3, 4, [.int .i64 0, .int .i64 0, .nmap], [], [(0, 1, false), (1, 1, false), (2, 1, false)], .i64, 0, 0, false, [], 0, [], true, false, false⟩),
  (61, ⟨3, 4, [.int .i64 0, .int .i64 0, .nmap], [], [(0, 1, false), (1, 1, false), (2, 1, false)], .i64, 0, 0, false, [], 0, [], true, false, false⟩),
  (70, ⟨5, 4, [.str ⟨#[]⟩, .int .i64 0, .int .i64 0, .nsl, .nsl], [], [(0, 1, false), (1, 1, false), (2, 1, false), (3, 1, false), (4, 1, false)], .i64, 0, 0, false, [], 0, [], true, false, false⟩),
  (71, ⟨5, 4, [.str ⟨#[]⟩, .int .i64 0, .int .i64 0, .nsl, .nsl], [], [(0, 1, false), (1, 1, false), (2, 1, false), (3, 1, false), (4, 1, false)], .i64, 0, 0, false, [], 0, [], true, false, false⟩),
  (75, ⟨2, 4, [.str ⟨#[]⟩, .int .i64 0], [], [(0, 1, false), (1, 1, false)], .i64, 0, 0, false, [], 0, [3, 2], true, false, false⟩),
  (76, ⟨20, 5, [.str ⟨#[]⟩, .int .i64 0, .str ⟨#[]⟩, .int .i64 0, .str ⟨#[]⟩, .int .i64 0, .str ⟨#[]⟩, .int .i64 0, .str ⟨#[]⟩, .int .i64 0, .str ⟨#[]⟩, .int .i64 0, .str ⟨#[]⟩, .int .i64 0, .str ⟨#[]⟩, .int .i64 0, .str ⟨#[]⟩, .int .i64 0, .str ⟨#[]⟩, .int .i64 0], [.strs [⟨#[]⟩, ⟨#[]⟩, ⟨#[]⟩, ⟨#[]⟩, ⟨#[]⟩, ⟨#[]⟩, ⟨#[]⟩, ⟨#[]⟩, ⟨#[]⟩, ⟨#[]⟩], .ints .i64 [0, 0, 0, 0, 0, 0, 0, 0, 0, 0]], [], .i64, 2, 10, true, [], 0, [], true, false, true⟩),
  (80, ⟨1, 2, [.int .u64 0], [], [], .u64, 0, 0, false, [], 0, [], false, false, false⟩),
  (82, ⟨1, 2, [.int .i64 0], [], [], .i64, 0, 0, false, [], 0, [], false, false, false⟩),
  (90, ⟨1, 2, [.int .u32 0], [], [], .u32, 0, 0, false, [], 0, [], false, false, false⟩),
  (92, ⟨1, 2, [.int .u64 0], [], [], .u64, 0, 0, false, [], 0, [], false, false, false⟩),
  (93, ⟨1, 2, [.int .u64 0], [], [], .u64, 0, 0, false, [], 0, [], false, false, false⟩),
  (97, ⟨1, 7, [.nptr], [], [], .i64, 0, 0, false, [], 0, [], false, false, false⟩),
  (99, ⟨1, 7, [.nptr], [], [], .i64, 0, 0, false, [], 0, [], false, false, false⟩),
  (105, ⟨0, 5, [], [], [], .i64, 1, 0, false, [], 0, [], true, false, false⟩),
  (112, ⟨1, 7, [.nptr], [], [], .i64, 0, 0, false, [], 0, [], false, false, false⟩),
  (115, ⟨11, 4, [.int .u64 0, .int .u64 0, .int .u32 0, .int .u8 0, .int .u8 0, .int .u8 0, .int .u8 0, .raw .nilFunc, .nptr, .int .i32 0, .int .i32 0], [], [(0, 1, false), (1, 1, false), (2, 1, false), (3, 1, false), (4, 1, false), (5, 1, false), (6, 1, false), (7, 1, false), (8, 1, false), (9, 1, false), (10, 1, false)], .i64, 0, 0, false, [], 0, [], true, false, false⟩)]
theorem T_ok : TabOk Tryd.prog T := tabOk_of _ _ (by kernel_rfl)
theorem mixed : Tryd.prog.follows .mixedOrders = true := by kernel_rfl
/-- The tables that the package-level variables hold. -/
def glT : GTab := [
  (0, 10, [.strs [⟨#[74, 80, 89]⟩, ⟨#[75, 82, 87]⟩, ⟨#[86, 78, 68]⟩, ⟨#[67, 76, 80]⟩, ⟨#[73, 83, 75]⟩, ⟨#[66, 72, 68]⟩, ⟨#[75, 87, 68]⟩, ⟨#[74, 79, 68]⟩, ⟨#[79, 77, 82]⟩, ⟨#[84, 78, 68]⟩], .ints .i64 [0, 0, 0, 0, 0, 3, 3, 3, 3, 3]])]
theorem gl_keys {q : Nat} (h : (aget glT q).isSome = true) : q = 0 := by
  have := aget_keys h
  simpa [glT] using this
end Go.Proofs.YthnmooholhellaaDoor
