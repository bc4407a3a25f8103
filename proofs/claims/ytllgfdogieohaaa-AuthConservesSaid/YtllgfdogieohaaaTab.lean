/- The types of the seat's program, as the generator of conditions wants them. Written by mktab.py. -/
import Derived.Test.YtllgfdogieohaaaSxSound6
import Derived.Test.YtllgfdogieohaaaProg
import Derived.KernelRfl
namespace Go.Proofs.Ytllgfdogieohaaa
open Go.Sx
set_option maxRecDepth 100000
def T : Tab := [
  (2, ⟨1, 2, [.int .i64 0], [], .i64, 0, 0, [], false⟩),
  (3, ⟨1, 2, [.int .i64 0], [], .i64, 0, 0, [], false⟩),
  (4, ⟨1, 1, [.bool false], [], .i64, 0, 0, [], false⟩),
  (5, ⟨1, 2, [.int .u8 0], [], .u8, 0, 0, [], false⟩),
  (9, ⟨1, 3, [.str ⟨#[]⟩], [], .i64, 0, 0, [], false⟩),
  (12, ⟨1, 2, [.int .u64 0], [], .u64, 0, 0, [], false⟩),
  (15, ⟨1, 7, [.nptr], [], .i64, 0, 0, [], false⟩),
  (16, ⟨1, 7, [.nptr], [], .i64, 0, 0, [], false⟩),
  (17, ⟨1, 7, [.nptr], [], .i64, 0, 0, [], false⟩),
  (21, ⟨1, 2, [.int .i32 0], [], .i32, 0, 0, [], false⟩),
  (22, ⟨1, 6, [.nsl], [], .i64, 1, 0, [], false⟩),
  (23, ⟨10, 4, [.str ⟨#[]⟩, .str ⟨#[]⟩, .int .i64 0, .int .i64 0, .int .i64 0, .int .i64 0, .int .i64 0, .int .i64 0, .int .i64 0, .int .i64 0], [(0, 1, false), (1, 1, false), (2, 1, false), (3, 1, false), (4, 1, false), (5, 1, false), (6, 1, false), (7, 1, false), (8, 1, false), (9, 1, false)], .i64, 0, 0, [3, 3, 2, 2, 2, 2, 2, 2, 2, 2], true⟩),
  (24, ⟨10, 4, [.str ⟨#[]⟩, .str ⟨#[]⟩, .int .i64 0, .int .i64 0, .int .i64 0, .int .i64 0, .int .i64 0, .int .i64 0, .int .i64 0, .int .i64 0], [(0, 1, false), (1, 1, false), (2, 1, false), (3, 1, false), (4, 1, false), (5, 1, false), (6, 1, false), (7, 1, false), (8, 1, false), (9, 1, false)], .i64, 0, 0, [3, 3, 2, 2, 2, 2, 2, 2, 2, 2], true⟩),
  (25, ⟨1, 2, [.int .i64 0], [], .i64, 0, 0, [], false⟩),
  (34, ⟨1, 6, [.nsl], [], .i64, 4, 0, [], false⟩),
  (37, ⟨4, 4, [.int .u8 0, .int .i64 0, .int .i64 0, .bool false], [(0, 1, false), (1, 1, false), (2, 1, false), (3, 1, false)], .i64, 0, 0, [2, 2, 2, 1], true⟩),
  (38, ⟨4, 4, [.int .u8 0, .int .i64 0, .int .i64 0, .bool false], [(0, 1, false), (1, 1, false), (2, 1, false), (3, 1, false)], .i64, 0, 0, [2, 2, 2, 1], true⟩),
  (54, ⟨0, 5, [], [], .i64, 1, 0, [], true⟩),
  (58, ⟨1, 2, [.int .u32 0], [], .u32, 0, 0, [], false⟩),
  (62, ⟨1, 7, [.nptr], [], .i64, 0, 0, [], false⟩),
  (65, ⟨11, 4, [.int .u64 0, .int .u64 0, .int .u32 0, .int .u8 0, .int .u8 0, .int .u8 0, .int .u8 0, .raw .nilFunc, .nptr, .int .i32 0, .int .i32 0], [(0, 1, false), (1, 1, false), (2, 1, false), (3, 1, false), (4, 1, false), (5, 1, false), (6, 1, false), (7, 1, false), (8, 1, false), (9, 1, false), (10, 1, false)], .i64, 0, 0, [], true⟩)]
theorem T_ok : TabOk Try.prog T := tabOk_of _ _ (by kernel_rfl)
theorem mixed : Try.prog.follows .mixedOrders = true := by kernel_rfl
end Go.Proofs.Ytllgfdogieohaaa
