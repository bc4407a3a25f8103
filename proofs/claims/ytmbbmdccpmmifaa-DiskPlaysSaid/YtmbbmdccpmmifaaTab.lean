/- The types of the seat's program, as the generator of conditions wants them. Written by mktab.py. -/
import Derived.Test.YtmbbmdccpmmifaaYLib
import Derived.Test.YtmbbmdccpmmifaaProg
import Derived.KernelRfl
namespace Go.Proofs.Ytmbbmdccpmmifaa
open Go.Sy
set_option maxRecDepth 100000
def T : Tab := [
  (2, ⟨1, 2, [.int .i64 0], [], [], .i64, 0, 0, false, [], 0, [], false, false⟩),
  (3, ⟨1, 2, [.int .i64 0], [], [], .i64, 0, 0, false, [], 0, [], false, false⟩),
  (4, ⟨1, 1, [.bool false], [], [], .i64, 0, 0, false, [], 0, [], false, false⟩),
  (5, ⟨1, 2, [.int .u8 0], [], [], .u8, 0, 0, false, [], 0, [], false, false⟩),
  (9, ⟨1, 3, [.str ⟨#[]⟩], [], [], .i64, 0, 0, false, [], 0, [], false, false⟩),
  (12, ⟨1, 2, [.int .u64 0], [], [], .u64, 0, 0, false, [], 0, [], false, false⟩),
  (15, ⟨1, 7, [.nptr], [], [], .i64, 0, 0, false, [], 0, [], false, false⟩),
  (16, ⟨1, 7, [.nptr], [], [], .i64, 0, 0, false, [], 0, [], false, false⟩),
  (17, ⟨1, 7, [.nptr], [], [], .i64, 0, 0, false, [], 0, [], false, false⟩),
  (20, ⟨1, 9, [.nif], [], [], .i64, 0, 0, false, [], 0, [], false, false⟩),
  (21, ⟨1, 2, [.int .i32 0], [], [], .i32, 0, 0, false, [], 0, [], false, false⟩),
  (22, ⟨1, 6, [.nsl], [], [], .i64, 2, 0, false, [.int .u8 0, .str ⟨#[]⟩], 24, [], false, false⟩),
  (25, ⟨1, 7, [.nptr], [], [], .i64, 0, 0, false, [], 0, [], false, false⟩),
  (26, ⟨1, 2, [.int .i64 0], [], [], .i64, 0, 0, false, [], 0, [], false, false⟩),
  (29, ⟨8, 5, [.str ⟨#[]⟩, .str ⟨#[]⟩, .str ⟨#[]⟩, .str ⟨#[]⟩, .str ⟨#[]⟩, .str ⟨#[]⟩, .str ⟨#[]⟩, .str ⟨#[]⟩], [.strs [⟨#[]⟩, ⟨#[]⟩, ⟨#[]⟩, ⟨#[]⟩, ⟨#[]⟩, ⟨#[]⟩, ⟨#[]⟩, ⟨#[]⟩]], [], .i64, 1, 8, false, [], 0, [], true, false⟩),
  (33, ⟨1, 2, [.int .u64 0], [], [], .u64, 0, 0, false, [], 0, [], false, false⟩),
  (40, ⟨1, 2, [.int .u64 0], [], [], .u64, 0, 0, false, [], 0, [], false, false⟩),
  (41, ⟨2, 4, [.int .u8 0, .str ⟨#[]⟩], [], [(0, 1, false), (1, 1, false)], .i64, 0, 0, false, [], 0, [2, 3], true, false⟩),
  (42, ⟨2, 4, [.int .u8 0, .str ⟨#[]⟩], [], [(0, 1, false), (1, 1, false)], .i64, 0, 0, false, [], 0, [2, 3], true, false⟩),
  (47, ⟨1, 6, [.nsl], [], [], .i64, 4, 0, false, [.int .u8 0, .int .i64 0, .str ⟨#[]⟩, .int .u64 0], 40, [], false, false⟩),
  (49, ⟨1, 7, [.nptr], [], [], .i64, 0, 0, false, [], 0, [], false, false⟩),
  (53, ⟨4, 4, [.int .u8 0, .int .i64 0, .str ⟨#[]⟩, .int .u64 0], [], [(0, 1, false), (1, 1, false), (2, 1, false), (3, 1, false)], .i64, 0, 0, false, [], 0, [2, 2, 3, 2], true, false⟩),
  (54, ⟨4, 4, [.int .u8 0, .int .i64 0, .str ⟨#[]⟩, .int .u64 0], [], [(0, 1, false), (1, 1, false), (2, 1, false), (3, 1, false)], .i64, 0, 0, false, [], 0, [2, 2, 3, 2], true, false⟩),
  (56, ⟨1, 6, [.nsl], [], [], .i64, 1, 0, false, [.str ⟨#[]⟩], 16, [], false, false⟩),
  (57, ⟨1, 6, [.nsl], [], [], .i64, 2, 0, false, [.int .i64 0, .str ⟨#[]⟩], 24, [], false, false⟩),
  (58, ⟨6, 4, [.nsl, .nsl, .nsl, .bool false, .int .i64 0, .int .u64 0], [], [(0, 1, false), (1, 1, false), (2, 1, false), (3, 1, false), (4, 1, false), (5, 1, false)], .i64, 0, 0, false, [], 0, [], true, false⟩),
  (59, ⟨6, 4, [.nsl, .nsl, .nsl, .bool false, .int .i64 0, .int .u64 0], [], [(0, 1, false), (1, 1, false), (2, 1, false), (3, 1, false), (4, 1, false), (5, 1, false)], .i64, 0, 0, false, [], 0, [], true, false⟩),
  (61, ⟨2, 4, [.int .i64 0, .str ⟨#[]⟩], [], [(0, 1, false), (1, 1, false)], .i64, 0, 0, false, [], 0, [2, 3], true, false⟩),
  (62, ⟨2, 4, [.int .i64 0, .str ⟨#[]⟩], [], [(0, 1, false), (1, 1, false)], .i64, 0, 0, false, [], 0, [2, 3], true, false⟩),
  (63, ⟨1, 6, [.nsl], [], [], .i64, 2, 0, false, [.int .i64 0, .str ⟨#[]⟩], 24, [], false, false⟩),
  (64, ⟨5, 4, [.nsl, .nsl, .bool false, .int .i64 0, .int .u64 0], [], [(0, 1, false), (1, 1, false), (2, 1, false), (3, 1, false), (4, 1, false)], .i64, 0, 0, false, [], 0, [], true, false⟩),
  (65, ⟨5, 4, [.nsl, .nsl, .bool false, .int .i64 0, .int .u64 0], [], [(0, 1, false), (1, 1, false), (2, 1, false), (3, 1, false), (4, 1, false)], .i64, 0, 0, false, [], 0, [], true, false⟩),
  (66, ⟨64, 5, [.bool false, .bool false, .bool false, .bool false, .bool false, .bool false, .bool false, .bool false, .bool false, .bool false, .bool false, .bool false, .bool false, .bool false, .bool false, .bool false, .bool false, .bool false, .bool false, .bool false, .bool false, .bool false, .bool false, .bool false, .bool false, .bool false, .bool false, .bool false, .bool false, .bool false, .bool false, .bool false, .bool false, .bool false, .bool false, .bool false, .bool false, .bool false, .bool false, .bool false, .bool false, .bool false, .bool false, .bool false, .bool false, .bool false, .bool false, .bool false, .bool false, .bool false, .bool false, .bool false, .bool false, .bool false, .bool false, .bool false, .bool false, .bool false, .bool false, .bool false, .bool false, .bool false, .bool false, .bool false], [.bools [false, false, false, false, false, false, false, false, false, false, false, false, false, false, false, false, false, false, false, false, false, false, false, false, false, false, false, false, false, false, false, false, false, false, false, false, false, false, false, false, false, false, false, false, false, false, false, false, false, false, false, false, false, false, false, false, false, false, false, false, false, false, false, false]], [], .i64, 1, 64, false, [], 0, [], true, false⟩),
  (68, ⟨2, 4, [.int .i64 0, .str ⟨#[]⟩], [], [(0, 1, false), (1, 1, false)], .i64, 0, 0, false, [], 0, [2, 3], true, false⟩),
  (69, ⟨2, 4, [.int .i64 0, .str ⟨#[]⟩], [], [(0, 1, false), (1, 1, false)], .i64, 0, 0, false, [], 0, [2, 3], true, false⟩),
  (70, ⟨8, 5, [.bool false, .bool false, .bool false, .bool false, .bool false, .bool false, .bool false, .bool false], [.bools [false, false, false, false, false, false, false, false]], [], .i64, 1, 8, false, [], 0, [], true, false⟩),
  (72, ⟨1, 6, [.nsl], [], [], .i64, 1, 0, false, [.bool false], 1, [], false, false⟩),
  (76, ⟨0, 5, [], [], [], .i64, 1, 0, false, [], 0, [], true, false⟩),
  (79, ⟨1, 2, [.int .u32 0], [], [], .u32, 0, 0, false, [], 0, [], false, false⟩),
  (83, ⟨1, 7, [.nptr], [], [], .i64, 0, 0, false, [], 0, [], false, false⟩),
  (86, ⟨11, 4, [.int .u64 0, .int .u64 0, .int .u32 0, .int .u8 0, .int .u8 0, .int .u8 0, .int .u8 0, .raw .nilFunc, .nptr, .int .i32 0, .int .i32 0], [], [(0, 1, false), (1, 1, false), (2, 1, false), (3, 1, false), (4, 1, false), (5, 1, false), (6, 1, false), (7, 1, false), (8, 1, false), (9, 1, false), (10, 1, false)], .i64, 0, 0, false, [], 0, [], true, false⟩)]
theorem T_ok : TabOk Try.prog T := tabOk_of _ _ (by kernel_rfl)
theorem mixed : Try.prog.follows .mixedOrders = true := by kernel_rfl
end Go.Proofs.Ytmbbmdccpmmifaa
