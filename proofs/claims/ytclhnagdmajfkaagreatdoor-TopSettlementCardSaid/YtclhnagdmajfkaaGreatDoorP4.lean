/- Several texts in one: Tab Shelf Lay. -/
import Derived.Test.YtclhnagdmajfkaaGreatDoorP3
import Derived.Test.YtclhnagdmajfkaaGreatDoorProg
import Derived.KernelRfl
import Derived.Shelf.Strings.Builder1
import Derived.Shelf.Strings.Builder2
import Derived.Shelf.Strings.OnBuilder
import Derived.Shelf.Small.Utf8
import Derived.Shelf.Small.Strs
import Derived.Shelf.Strings.BuilderF
import Derived.Shelf.Strconv.ParseIntEmpty
import Derived.Shelf.LaysM
import Derived.Shelf.Strconv.Clone
import Derived.Shelf.Strconv.SyntaxError
import Derived.Shelf.LaysC
import Derived.Shelf.Strconv.ToError
import Derived.Shelf.Strconv.Lower
import Derived.Shelf.Strconv.ParseUint10
import Derived.Shelf.Strconv.ParseUint10Empty
import Derived.Shelf.Strconv.ParseUint10Any
import Derived.Shelf.Strconv.ParseInt10
import Derived.Shelf.Strconv.RangeError
import Derived.Shelf.Strconv.ToErrorRange
import Derived.Shelf.Strconv.ParseUintEmpty
import Derived.Shelf.Strconv.ParseUint10b64
import Derived.Shelf.Strconv.ParseUint10b32
import Derived.Shelf.Strconv.ParseUint10b16
import Derived.Shelf.Strconv.ParseUint10b8
import Derived.Shelf.Strconv.ParseUint10At
import Derived.Shelf.Strconv.ParseInt10At64
import Derived.Shelf.Strconv.ParseInt10At32
import Derived.Shelf.Strconv.ParseInt10At16
import Derived.Shelf.Strconv.ParseInt10At8
import Derived.Shelf.Strconv.ParseInt10All
import Derived.Shelf.Strconv.ParseIntPublic10
import Derived.Shelf.Strings.Search1
import Derived.Shelf.Strings.Search2
import Derived.Shelf.Strings.Search3
import Derived.Shelf.Strings.Cut
import Derived.Shelf.Strings.Count
import Derived.Shelf.Strings.Shaped
import Derived.Shelf.Strings.Prefix
import Derived.Shelf.Strings.Split
import Derived.Shelf.Strings.Runes
import Derived.Shelf.Bits.Mul64
import Derived.Shelf.Strings.Repeat
import Derived.Shelf.Unicode.DecodeSlow
import Derived.Ground.SlgmProg
import Derived.Shelf.SortM.Plain
import Derived.Shelf.SortM.SortNone
import Derived.Shelf.SlGeneric
import Derived.Shelf.SlIter.Nil
import Derived.Ground.GgzProg
set_option linter.unusedVariables false
set_option linter.unusedSimpArgs false
namespace Go.Proofs.YtclhnagdmajfkaaGreatDoor
open Go.Sy
set_option maxRecDepth 100000
def T : Tab := [
  (2, ⟨1, 2, [.int .i64 0], [], [], .i64, 0, 0, false, [], 0, [], false, false, false⟩),
  (3, ⟨1, 2, [.int .i64 0], [], [], .i64, 0, 0, false, [], 0, [], false, false, false⟩),
  (4, ⟨1, 1, [.bool false], [], [], .i64, 0, 0, false, [], 0, [], false, false, false⟩),
  (5, ⟨1, 2, [.int .u8 0], [], [], .u8, 0, 0, false, [], 0, [], false, false, false⟩),
  (9, ⟨1, 3, [.str ⟨#[]⟩], [], [], .i64, 0, 0, false, [], 0, [], false, false, false⟩),
  (12, ⟨1, 2, [.int .u64 0], [], [], .u64, 0, 0, false, [], 0, [], false, false, false⟩),
  (15, ⟨1, 7, [.nptr], [], [], .i64, 0, 0, false, [], 0, [], false, false, false⟩),
  (16, ⟨1, 7, [.nptr], [], [], .i64, 0, 0, false, [], 0, [], false, false, false⟩),
  (17, ⟨1, 7, [.nptr], [], [], .i64, 0, 0, false, [], 0, [], false, false, false⟩),
  (20, ⟨1, 9, [.nif], [], [], .i64, 0, 0, false, [], 0, [], false, false, false⟩),
  (21, ⟨1, 2, [.int .i32 0], [], [], .i32, 0, 0, false, [], 0, [], false, false, false⟩),
  (22, ⟨1, 6, [.nsl], [], [], .i64, 4, 0, false, [.int .u8 0, .nsl, .int .u32 0, .bool false], 40, [], false, false, true⟩),
  (24, ⟨1, 6, [.nsl], [], [], .i64, 1, 0, false, [.int .i64 0], 8, [], false, false, false⟩),
  (25, ⟨1, 2, [.int .u32 0], [], [], .u32, 0, 0, false, [], 0, [], false, false, false⟩),
  (26, ⟨4, 4, [.int .u8 0, .nsl, .int .u32 0, .bool false], [], [(0, 1, false), (1, 1, false), (2, 1, false), (3, 1, false)], .i64, 0, 0, false, [], 0, [], true, false, false⟩),
  (27, ⟨4, 4, [.int .u8 0, .nsl, .int .u32 0, .bool false], [], [(0, 1, false), (1, 1, false), (2, 1, false), (3, 1, false)], .i64, 0, 0, false, [], 0, [], true, false, false⟩),
  (30, ⟨1, 7, [.nptr], [], [], .i64, 0, 0, false, [], 0, [], false, false, false⟩),
  (31, ⟨1, 2, [.int .i64 0], [], [], .i64, 0, 0, false, [], 0, [], false, false, false⟩),
  (34, ⟨1, 7, [.nptr], [], [], .i64, 0, 0, false, [], 0, [], false, false, false⟩),
  (37, ⟨1, 6, [.nsl], [], [], .i64, 1, 0, false, [.str ⟨#[]⟩], 16, [], false, false, false⟩),
  (38, ⟨1, 7, [.nptr], [], [], .i64, 0, 0, false, [], 0, [], false, false, false⟩),
  (41, ⟨1, 6, [.nsl], [], [], .i64, 10, 0, false, [.str ⟨#[]⟩, .int .i64 0, .str ⟨#[]⟩, .str ⟨#[]⟩, .int .i64 0, .nsl, .int .i64 0, .int .i64 0, .int .i64 0, .int .i64 0], 120, [], false, false, true⟩),
  (42, ⟨3, 4, [.nsl, .nsl, .nsl], [], [(0, 1, false), (1, 1, false), (2, 1, false)], .i64, 0, 0, false, [], 0, [], true, false, false⟩),
  (43, ⟨3, 4, [.nsl, .nsl, .nsl], [], [(0, 1, false), (1, 1, false), (2, 1, false)], .i64, 0, 0, false, [], 0, [], true, false, false⟩),
  (46, ⟨256, 5, [.bool false, .bool false, .bool false, .bool false, .bool false, .bool false, .bool false, .bool false, .bool false, .bool false, .bool false, .bool false, .bool false, .bool false, .bool false, .bool false, .bool false, .bool false, .bool false, .bool false, .bool false, .bool false, .bool false, .bool false, .bool false, .bool false, .bool false, .bool false, .bool false, .bool false, .bool false, .bool false, .bool false, .bool false, .bool false, .bool false, .bool false, .bool false, .bool false, .bool false, .bool false, .bool false, .bool false, .bool false, .bool false, .bool false, .bool false, .bool false, .bool false, .bool false, .bool false, .bool false, .bool false, .bool false, .bool false, .bool false, .bool false, .bool false, .bool false, .bool false, .bool false, .bool false, .bool false, .bool false, .bool false, .bool false, .bool false, .bool false, .bool false, .bool false, .bool false, .bool false, .bool false, .bool false, .bool false, .bool false, .bool false, .bool false, .bool false, .bool false, .bool false, .bool false, .bool false, .bool false, .bool false, .bool false, .bool false, .bool false, .bool false, .bool false, .bool false, .bool false, .bool false, .bool false, .bool false, .bool false, .bool false, .bool false, .bool false, .bool false, .bool false, .bool false, .bool false, .bool false, .bool false, .bool false, .bool false, .bool false, .bool false, .bool false, .bool false, .bool false, .bool false, .bool false, .bool false, .bool false, .bool false, .bool false, .bool false, .bool false, .bool false, .bool false, .bool false, .bool false, .bool false, .bool false, .bool false, .bool false, .bool false, .bool false, .bool false, .bool false, .bool false, .bool false, .bool false, .bool false, .bool false, .bool false, .bool false, .bool false, .bool false, .bool false, .bool false, .bool false, .bool false, .bool false, .bool false, .bool false, .bool false, .bool false, .bool false, .bool false, .bool false, .bool false, .bool false, .bool false, .bool false, .bool false, .bool false, .bool false, .bool false, .bool false, .bool false, .bool false, .bool false, .bool false, .bool false, .bool false, .bool false, .bool false, .bool false, .bool false, .bool false, .bool false, .bool false, .bool false, .bool false, .bool false, .bool false, .bool false, .bool false, .bool false, .bool false, .bool false, .bool false, .bool false, .bool false, .bool false, .bool false, .bool false, .bool false, .bool false, .bool false, .bool false, .bool false, .bool false, .bool false, .bool false, .bool false, .bool false, .bool false, .bool false, .bool false, .bool false, .bool false, .bool false, .bool false, .bool false, .bool false, .bool false, .bool false, .bool false, .bool false, .bool false, .bool false, .bool false, .bool false, .bool false, .bool false, .bool false, .bool false, .bool false, .bool false, .bool false, .bool false, .bool false, .bool false, .bool false, .bool false, .bool false, .bool false, .bool false, .bool false, .bool false, .bool false, .bool false, .bool false, .bool false, .bool false, .bool false, .bool false, .bool false, .bool false, .bool false, .bool false, .bool false, .bool false, .bool false, .bool false, .bool false, .bool false, .bool false, .bool false, .bool false, .bool false, .bool false], [.bools [false, false, false, false, false, false, false, false, false, false, false, false, false, false, false, false, false, false, false, false, false, false, false, false, false, false, false, false, false, false, false, false, false, false, false, false, false, false, false, false, false, false, false, false, false, false, false, false, false, false, false, false, false, false, false, false, false, false, false, false, false, false, false, false, false, false, false, false, false, false, false, false, false, false, false, false, false, false, false, false, false, false, false, false, false, false, false, false, false, false, false, false, false, false, false, false, false, false, false, false, false, false, false, false, false, false, false, false, false, false, false, false, false, false, false, false, false, false, false, false, false, false, false, false, false, false, false, false, false, false, false, false, false, false, false, false, false, false, false, false, false, false, false, false, false, false, false, false, false, false, false, false, false, false, false, false, false, false, false, false, false, false, false, false, false, false, false, false, false, false, false, false, false, false, false, false, false, false, false, false, false, false, false, false, false, false, false, false, false, false, false, false, false, false, false, false, false, false, false, false, false, false, false, false, false, false, false, false, false, false, false, false, false, false, false, false, false, false, false, false, false, false, false, false, false, false, false, false, false, false, false, false, false, false, false, false, false, false, false, false, false, false, false, false, false, false, false, false, false, false, false, false, false, false, false, false]], [], .i64, 1, 256, false, [], 0, [], true, false, false⟩),
  (48, ⟨1, 6, [.nsl], [], [], .i64, 12, 0, false, [.int .i64 0, .str ⟨#[]⟩, .str ⟨#[]⟩, .str ⟨#[]⟩, .str ⟨#[]⟩, .str ⟨#[]⟩, .str ⟨#[]⟩, .int .i64 0, .str ⟨#[]⟩, .int .i64 0, .int .i64 0, .bool false], 152, [], false, false, true⟩),
  (49, ⟨4, 4, [.str ⟨#[]⟩, .str ⟨#[]⟩, .int .i64 0, .nsl], [], [(0, 1, false), (1, 1, false), (2, 1, false), (3, 1, false)], .i64, 0, 0, false, [], 0, [], true, false, false⟩),
  (50, ⟨4, 4, [.str ⟨#[]⟩, .str ⟨#[]⟩, .int .i64 0, .nsl], [], [(0, 1, false), (1, 1, false), (2, 1, false), (3, 1, false)], .i64, 0, 0, false, [], 0, [], true, false, false⟩),
  (51, ⟨2, 4, [.int .i64 0, .str ⟨#[]⟩], [], [(0, 1, false), (1, 1, false)], .i64, 0, 0, false, [], 0, [2, 3], true, false, false⟩),
  (52, ⟨2, 4, [.int .i64 0, .str ⟨#[]⟩], [], [(0, 1, false), (1, 1, false)], .i64, 0, 0, false, [], 0, [2, 3], true, false, false⟩),
  (53, ⟨12, 4, [.int .i64 0, .str ⟨#[]⟩, .str ⟨#[]⟩, .str ⟨#[]⟩, .str ⟨#[]⟩, .str ⟨#[]⟩, .str ⟨#[]⟩, .int .i64 0, .str ⟨#[]⟩, .int .i64 0, .int .i64 0, .bool false], [], [(0, 1, false), (1, 1, false), (2, 1, false), (3, 1, false), (4, 1, false), (5, 1, false), (6, 1, false), (7, 2, true), (9, 1, false), (10, 1, false), (11, 1, false)], .i64, 0, 0, false, [], 0, [2, 3, 3, 3, 3, 3, 3, 2, 3, 2, 2, 1], true, false, false⟩),
  (54, ⟨12, 4, [.int .i64 0, .str ⟨#[]⟩, .str ⟨#[]⟩, .str ⟨#[]⟩, .str ⟨#[]⟩, .str ⟨#[]⟩, .str ⟨#[]⟩, .int .i64 0, .str ⟨#[]⟩, .int .i64 0, .int .i64 0, .bool false], [], [(0, 1, false), (1, 1, false), (2, 1, false), (3, 1, false), (4, 1, false), (5, 1, false), (6, 1, false), (7, 2, true), (9, 1, false), (10, 1, false), (11, 1, false)], .i64, 0, 0, false, [], 0, [2, 3, 3, 3, 3, 3, 3, 2, 3, 2, 2, 1], true, false, false⟩),
  (58, ⟨1, 6, [.nsl], [], [], .i64, 3, 0, false, [.int .i64 0, .str ⟨#[]⟩, .int .i64 0], 32, [], false, false, true⟩),
  (61, ⟨3, 4, [.str ⟨#[]⟩, .int .i64 0, .str ⟨#[]⟩], [], [(0, 1, false), (1, 1, false), (2, 1, false)], .i64, 0, 0, false, [], 0, [3, 2, 3], true, false, false⟩),
  (62, ⟨3, 4, [.str ⟨#[]⟩, .int .i64 0, .str ⟨#[]⟩], [], [(0, 1, false), (1, 1, false), (2, 1, false)], .i64, 0, 0, false, [], 0, [3, 2, 3], true, false, false⟩),
  (63, ⟨14, 4, [.str ⟨#[]⟩, .int .i64 0, .str ⟨#[]⟩, .str ⟨#[]⟩, .int .i64 0, .str ⟨#[]⟩, .str ⟨#[]⟩, .int .i64 0, .str ⟨#[]⟩, .int .i64 0, .int .i64 0, .int .i64 0, .int .i64 0, .int .i64 0], [], [(0, 3, true), (3, 3, true), (6, 3, true), (9, 1, false), (10, 1, false), (11, 1, false), (12, 1, false), (13, 1, false)], .i64, 0, 0, false, [], 0, [3, 2, 3, 3, 2, 3, 3, 2, 3, 2, 2, 2, 2, 2], true, false, false⟩),
  (64, ⟨14, 4, [.str ⟨#[]⟩, .int .i64 0, .str ⟨#[]⟩, .str ⟨#[]⟩, .int .i64 0, .str ⟨#[]⟩, .str ⟨#[]⟩, .int .i64 0, .str ⟨#[]⟩, .int .i64 0, .int .i64 0, .int .i64 0, .int .i64 0, .int .i64 0], [], [(0, 3, true), (3, 3, true), (6, 3, true), (9, 1, false), (10, 1, false), (11, 1, false), (12, 1, false), (13, 1, false)], .i64, 0, 0, false, [], 0, [3, 2, 3, 3, 2, 3, 3, 2, 3, 2, 2, 2, 2, 2], true, false, false⟩),
  (70, ⟨1, 6, [.nsl], [], [], .i64, 3, 0, false, [.str ⟨#[]⟩, .int .i64 0, .str ⟨#[]⟩], 40, [], false, false, true⟩),
  (73, ⟨1, 6, [.nsl], [], [], .i64, 4, 0, false, [.str ⟨#[]⟩, .str ⟨#[]⟩, .int .i64 0, .str ⟨#[]⟩], 56, [], false, false, true⟩),
  (79, ⟨3, 4, [.str ⟨#[]⟩, .int .i64 0, .str ⟨#[]⟩], [], [(0, 1, false), (1, 2, true)], .i64, 0, 0, false, [], 0, [3, 2, 3], true, false, false⟩),
  (80, ⟨3, 4, [.str ⟨#[]⟩, .int .i64 0, .str ⟨#[]⟩], [], [(0, 1, false), (1, 2, true)], .i64, 0, 0, false, [], 0, [3, 2, 3], true, false, false⟩),
  (83, ⟨1, 6, [.nsl], [], [], .i64, 1, 0, false, [.int .i64 0], 8, [], false, false, false⟩),
  (84, ⟨1, 8, [.nmap], [], [], .i64, 1, 2, false, [.bool false], 0, [], true, false, false⟩),
  (85, ⟨1, 4, [.nmap], [], [(0, 1, false)], .i64, 0, 0, false, [], 0, [], true, false, false⟩),
  (86, ⟨1, 4, [.nmap], [], [(0, 1, false)], .i64, 0, 0, false, [], 0, [], true, false, false⟩),
  (88, ⟨1, 7, [.nptr], [], [], .i64, 0, 0, false, [], 0, [], false, false, false⟩),
  (92, ⟨1, 8, [.nmap], [], [], .i64, 1, 2, false, [.nptr], 0, [], true, false, false⟩),
  (93, ⟨5, 4, [.nptr, .int .i64 0, .nsl, .nmap, .nmap], [], [(0, 1, false), (1, 1, false), (2, 1, false), (3, 1, false), (4, 1, false)], .i64, 0, 0, false, [], 0, [], true, false, false⟩),
  (94, ⟨5, 4, [.nptr, .int .i64 0, .nsl, .nmap, .nmap], [], [(0, 1, false), (1, 1, false), (2, 1, false), (3, 1, false), (4, 1, false)], .i64, 0, 0, false, [], 0, [], true, false, false⟩),
  (95, ⟨1, 8, [.nmap], [], [], .i64, 4, 3, false, [.int .i64 0, .int .i64 0, .int .i64 0, .int .i64 0], 0, [], true, false, true⟩),
  (96, ⟨1, 8, [.nmap], [], [], .i64, 1, 0, false, [.bool false], 0, [3, 3], true, false, false⟩),
  (97, ⟨1, 8, [.nmap], [], [], .i64, 1, 3, false, [.nsl], 0, [], true, false, false⟩),
  (98, ⟨1, 6, [.nsl], [], [], .i64, 2, 0, false, [.str ⟨#[]⟩, .str ⟨#[]⟩], 32, [], false, false, true⟩),
  (99, ⟨4, 4, [.nmap, .nsl, .nmap, .nmap], [], [(0, 1, false), (1, 1, false), (2, 1, false), (3, 1, false)], .i64, 0, 0, false, [], 0, [], true, false, false⟩),
  (100, ⟨4, 4, [.nmap, .nsl, .nmap, .nmap], [], [(0, 1, false), (1, 1, false), (2, 1, false), (3, 1, false)], .i64, 0, 0, false, [], 0, [], true, false, false⟩),
  (102, ⟨4, 4, [.int .i64 0, .int .i64 0, .int .i64 0, .int .i64 0], [], [(0, 1, false), (1, 1, false), (2, 1, false), (3, 1, false)], .i64, 0, 0, false, [], 0, [2, 2, 2, 2], true, false, false⟩),
  (103, ⟨4, 4, [.int .i64 0, .int .i64 0, .int .i64 0, .int .i64 0], [], [(0, 1, false), (1, 1, false), (2, 1, false), (3, 1, false)], .i64, 0, 0, false, [], 0, [2, 2, 2, 2], true, false, false⟩),
  (107, ⟨1, 6, [.nsl], [], [], .i64, 1, 0, false, [.int .u8 0], 1, [], false, true, false⟩),
  (109, ⟨1, 7, [.nptr], [], [], .i64, 0, 0, false, [], 0, [], false, false, false⟩),
  (110, ⟨2, 4, [.nptr, .nsl], [], [(0, 1, false), (1, 1, false)], .i64, 0, 0, false, [], 0, [], true, false, false⟩),
  (111, ⟨2, 4, [.nptr, .nsl], [], [(0, 1, false), (1, 1, false)], .i64, 0, 1, false, [], 0, [], true, false, false⟩),
  (122, ⟨2, 4, [.str ⟨#[]⟩, .str ⟨#[]⟩], [], [(0, 1, false), (1, 1, false)], .i64, 0, 0, false, [], 0, [3, 3], true, false, false⟩),
  (123, ⟨2, 4, [.str ⟨#[]⟩, .str ⟨#[]⟩], [], [(0, 1, false), (1, 1, false)], .i64, 0, 0, false, [], 0, [3, 3], true, false, false⟩),
  (128, ⟨1, 6, [.nsl], [], [], .i64, 4, 0, false, [.str ⟨#[]⟩, .int .i64 0, .int .i64 0, .str ⟨#[]⟩], 48, [], false, false, true⟩),
  (130, ⟨9, 5, [.str ⟨#[]⟩, .int .i64 0, .str ⟨#[]⟩, .str ⟨#[]⟩, .int .i64 0, .str ⟨#[]⟩, .str ⟨#[]⟩, .int .i64 0, .str ⟨#[]⟩], [.strs [⟨#[]⟩, ⟨#[]⟩, ⟨#[]⟩], .ints .i64 [0, 0, 0], .strs [⟨#[]⟩, ⟨#[]⟩, ⟨#[]⟩]], [], .i64, 3, 3, true, [], 0, [], true, false, true⟩),
  (131, ⟨1, 6, [.nsl], [], [], .i64, 1, 0, false, [.nsl], 24, [], false, false, false⟩),
  (134, ⟨8, 5, [.int .i64 0, .int .i64 0, .int .i64 0, .int .i64 0, .int .i64 0, .int .i64 0, .int .i64 0, .int .i64 0], [.ints .i64 [0, 0, 0, 0, 0, 0, 0, 0]], [], .i64, 1, 8, false, [], 0, [2], true, false, false⟩),
  (141, ⟨1, 6, [.nsl], [], [], .i64, 4, 0, false, [.str ⟨#[]⟩, .str ⟨#[]⟩, .int .i64 0, .int .i64 0], 48, [], false, false, true⟩),
  (145, ⟨4, 4, [.str ⟨#[]⟩, .str ⟨#[]⟩, .int .i64 0, .str ⟨#[]⟩], [], [(0, 1, false), (1, 1, false), (2, 2, true)], .i64, 0, 0, false, [], 0, [3, 3, 2, 3], true, false, false⟩),
  (146, ⟨4, 4, [.str ⟨#[]⟩, .str ⟨#[]⟩, .int .i64 0, .str ⟨#[]⟩], [], [(0, 1, false), (1, 1, false), (2, 2, true)], .i64, 0, 0, false, [], 0, [3, 3, 2, 3], true, false, false⟩),
  (150, ⟨1, 8, [.nmap], [], [], .i64, 16, 3, true, [.int .i64 0, .int .i64 0, .int .i64 0, .int .i64 0, .int .i64 0, .int .i64 0, .int .i64 0, .int .i64 0, .int .i64 0, .int .i64 0, .int .i64 0, .int .i64 0, .int .i64 0, .int .i64 0, .int .i64 0, .int .i64 0], 0, [], true, false, true⟩),
  (151, ⟨2, 4, [.nsl, .nmap], [], [(0, 1, false), (1, 1, false)], .i64, 0, 0, false, [], 0, [], true, false, false⟩),
  (152, ⟨2, 4, [.nsl, .nmap], [], [(0, 1, false), (1, 1, false)], .i64, 0, 0, false, [], 0, [], true, false, false⟩),
  (158, ⟨2, 4, [.int .i64 0, .int .i64 0], [], [(0, 1, false), (1, 1, false)], .i64, 0, 0, false, [], 0, [2, 2], true, false, false⟩),
  (159, ⟨2, 4, [.int .i64 0, .int .i64 0], [], [(0, 1, false), (1, 1, false)], .i64, 0, 0, false, [], 0, [2, 2], true, false, false⟩),
  (161, ⟨1, 6, [.nsl], [], [], .i64, 4, 0, false, [.int .i64 0, .str ⟨#[]⟩, .int .i64 0, .int .i64 0], 40, [], false, false, true⟩),
  (164, ⟨1, 7, [.nptr], [], [], .i64, 0, 0, false, [], 0, [], false, false, false⟩),
  (165, ⟨5, 4, [.str ⟨#[]⟩, .str ⟨#[]⟩, .nsl, .int .i64 0, .nsl], [], [(0, 1, false), (1, 1, false), (2, 1, false), (3, 1, false), (4, 1, false)], .i64, 0, 0, false, [], 0, [], true, false, false⟩),
  (166, ⟨5, 4, [.str ⟨#[]⟩, .str ⟨#[]⟩, .nsl, .int .i64 0, .nsl], [], [(0, 1, false), (1, 1, false), (2, 1, false), (3, 1, false), (4, 1, false)], .i64, 0, 0, false, [], 0, [], true, false, false⟩),
  (167, ⟨4, 4, [.int .i64 0, .str ⟨#[]⟩, .int .i64 0, .int .i64 0], [], [(0, 1, false), (1, 1, false), (2, 1, false), (3, 1, false)], .i64, 0, 0, false, [], 0, [2, 3, 2, 2], true, false, false⟩),
  (168, ⟨4, 4, [.int .i64 0, .str ⟨#[]⟩, .int .i64 0, .int .i64 0], [], [(0, 1, false), (1, 1, false), (2, 1, false), (3, 1, false)], .i64, 0, 0, false, [], 0, [2, 3, 2, 2], true, false, false⟩),
  (172, ⟨1, 8, [.nmap], [], [], .i64, 1, 3, false, [.bool false], 0, [], true, false, false⟩),
  (173, ⟨1, 9, [.nif], [], [], .i64, 0, 0, false, [], 0, [], false, false, false⟩),
  (174, ⟨1, 9, [.nif], [], [], .i64, 0, 0, false, [], 0, [], false, false, false⟩),
  (181, ⟨1, 2, [.int .u64 0], [], [], .u64, 0, 0, false, [], 0, [], false, false, false⟩),
  (183, ⟨1, 7, [.nptr], [], [], .i64, 0, 0, false, [], 0, [], false, false, false⟩),
  (184, ⟨4, 5, [.int .i64 0, .int .i64 0, .int .i64 0, .int .i64 0], [.ints .i64 [0, 0, 0, 0]], [], .i64, 1, 4, false, [], 0, [2], true, false, false⟩),
  (185, ⟨10, 4, [.str ⟨#[]⟩, .str ⟨#[]⟩, .int .i64 0, .nsl, .int .i64 0, .int .i64 0, .int .i64 0, .int .i64 0, .str ⟨#[]⟩, .str ⟨#[]⟩], [], [(0, 1, false), (1, 1, false), (2, 1, false), (3, 1, false), (4, 4, true), (8, 1, false), (9, 1, false)], .i64, 0, 0, false, [], 0, [], true, false, false⟩),
  (186, ⟨10, 4, [.str ⟨#[]⟩, .str ⟨#[]⟩, .int .i64 0, .nsl, .int .i64 0, .int .i64 0, .int .i64 0, .int .i64 0, .str ⟨#[]⟩, .str ⟨#[]⟩], [], [(0, 1, false), (1, 1, false), (2, 1, false), (3, 1, false), (4, 4, true), (8, 1, false), (9, 1, false)], .i64, 0, 0, false, [], 0, [], true, false, false⟩),
  (192, ⟨3, 4, [.int .i64 0, .str ⟨#[]⟩, .int .i64 0], [], [(0, 1, false), (1, 1, false), (2, 1, false)], .i64, 0, 0, false, [], 0, [2, 3, 2], true, false, false⟩),
  (193, ⟨3, 4, [.int .i64 0, .str ⟨#[]⟩, .int .i64 0], [], [(0, 1, false), (1, 1, false), (2, 1, false)], .i64, 0, 0, false, [], 0, [2, 3, 2], true, false, false⟩),
  (198, ⟨1, 0, [.raw .nilFunc], [], [], .i64, 0, 0, false, [], 0, [], false, false, false⟩),
  (199, ⟨12, 4, [.int .i64 0, .str ⟨#[]⟩, .str ⟨#[]⟩, .str ⟨#[]⟩, .str ⟨#[]⟩, .str ⟨#[]⟩, .str ⟨#[]⟩, .int .i64 0, .str ⟨#[]⟩, .int .i64 0, .int .i64 0, .bool false], [], [(0, 1, false), (1, 1, false), (2, 1, false), (3, 1, false), (4, 1, false), (5, 1, false), (6, 1, false), (7, 2, true), (9, 1, false), (10, 1, false), (11, 1, false)], .i64, 0, 0, false, [], 0, [2, 3, 3, 3, 3, 3, 3, 2, 3, 2, 2, 1], true, false, false⟩),
  (200, ⟨1, 6, [.nsl], [], [], .i64, 1, 0, false, [.raw .nilFunc], 8, [], false, false, false⟩),
  (201, ⟨4, 4, [.str ⟨#[]⟩, .int .i64 0, .int .i64 0, .str ⟨#[]⟩], [], [(0, 1, false), (1, 1, false), (2, 1, false), (3, 1, false)], .i64, 0, 0, false, [], 0, [3, 2, 2, 3], true, false, false⟩),
  (202, ⟨4, 4, [.str ⟨#[]⟩, .int .i64 0, .int .i64 0, .str ⟨#[]⟩], [], [(0, 1, false), (1, 1, false), (2, 1, false), (3, 1, false)], .i64, 0, 0, false, [], 0, [3, 2, 2, 3], true, false, false⟩),
  (206, ⟨1, 6, [.nsl], [], [], .i64, 5, 0, false, [.int .i64 0, .str ⟨#[]⟩, .str ⟨#[]⟩, .int .i64 0, .nsl], 72, [], false, false, true⟩),
  (207, ⟨5, 4, [.int .i64 0, .str ⟨#[]⟩, .str ⟨#[]⟩, .int .i64 0, .nsl], [], [(0, 1, false), (1, 1, false), (2, 1, false), (3, 1, false), (4, 1, false)], .i64, 0, 0, false, [], 0, [], true, false, false⟩),
  (208, ⟨5, 4, [.int .i64 0, .str ⟨#[]⟩, .str ⟨#[]⟩, .int .i64 0, .nsl], [], [(0, 1, false), (1, 1, false), (2, 1, false), (3, 1, false), (4, 1, false)], .i64, 0, 0, false, [], 0, [], true, false, false⟩),
  (209, ⟨10, 4, [.str ⟨#[]⟩, .int .i64 0, .str ⟨#[]⟩, .str ⟨#[]⟩, .int .i64 0, .nsl, .int .i64 0, .int .i64 0, .int .i64 0, .int .i64 0], [], [(0, 1, false), (1, 5, true), (6, 1, false), (7, 1, false), (8, 1, false), (9, 1, false)], .i64, 0, 0, false, [], 0, [], true, false, false⟩),
  (210, ⟨10, 4, [.str ⟨#[]⟩, .int .i64 0, .str ⟨#[]⟩, .str ⟨#[]⟩, .int .i64 0, .nsl, .int .i64 0, .int .i64 0, .int .i64 0, .int .i64 0], [], [(0, 1, false), (1, 5, true), (6, 1, false), (7, 1, false), (8, 1, false), (9, 1, false)], .i64, 0, 0, false, [], 0, [], true, false, false⟩),
  (216, ⟨16, 5, [.int .i64 0, .int .i64 0, .int .i64 0, .int .i64 0, .int .i64 0, .int .i64 0, .int .i64 0, .int .i64 0, .int .i64 0, .int .i64 0, .int .i64 0, .int .i64 0, .int .i64 0, .int .i64 0, .int .i64 0, .int .i64 0], [.ints .i64 [0, 0, 0, 0, 0, 0, 0, 0, 0, 0, 0, 0, 0, 0, 0, 0]], [], .i64, 1, 16, false, [], 0, [2], true, false, false⟩),
  (217, ⟨16, 5, [.int .i64 0, .int .i64 0, .int .i64 0, .int .i64 0, .int .i64 0, .int .i64 0, .int .i64 0, .int .i64 0, .int .i64 0, .int .i64 0, .int .i64 0, .int .i64 0, .int .i64 0, .int .i64 0, .int .i64 0, .int .i64 0], [.ints .i64 [0, 0, 0, 0, 0, 0, 0, 0, 0, 0, 0, 0, 0, 0, 0, 0]], [], .i64, 1, 16, false, [], 0, [2], true, false, false⟩),
  (220, ⟨2, 4, [.int .i64 0, .int .u64 0], [], [(0, 1, false), (1, 1, false)], .i64, 0, 0, false, [], 0, [2, 2], true, false, false⟩),
  (221, ⟨2, 4, [.int .i64 0, .int .u64 0], [], [(0, 1, false), (1, 1, false)], .i64, 0, 0, false, [], 0, [2, 2], true, false, false⟩),
  (222, ⟨32, 5, [.int .i64 0, .int .u64 0, .int .i64 0, .int .u64 0, .int .i64 0, .int .u64 0, .int .i64 0, .int .u64 0, .int .i64 0, .int .u64 0, .int .i64 0, .int .u64 0, .int .i64 0, .int .u64 0, .int .i64 0, .int .u64 0, .int .i64 0, .int .u64 0, .int .i64 0, .int .u64 0, .int .i64 0, .int .u64 0, .int .i64 0, .int .u64 0, .int .i64 0, .int .u64 0, .int .i64 0, .int .u64 0, .int .i64 0, .int .u64 0, .int .i64 0, .int .u64 0], [.ints .i64 [0, 0, 0, 0, 0, 0, 0, 0, 0, 0, 0, 0, 0, 0, 0, 0], .ints .u64 [0, 0, 0, 0, 0, 0, 0, 0, 0, 0, 0, 0, 0, 0, 0, 0]], [], .i64, 2, 16, true, [], 0, [], true, false, true⟩),
  (231, ⟨2, 4, [.str ⟨#[]⟩, .str ⟨#[]⟩], [], [(0, 1, false), (1, 1, false)], .i64, 0, 0, false, [], 0, [3, 3], true, false, false⟩),
  (232, ⟨2, 4, [.str ⟨#[]⟩, .str ⟨#[]⟩], [], [(0, 1, false), (1, 1, false)], .i64, 0, 0, false, [], 0, [3, 3], true, false, false⟩),
  (236, ⟨1, 8, [.nmap], [], [], .i64, 1, 3, false, [.int .i64 0], 0, [], true, false, false⟩),
  (237, ⟨1, 8, [.nmap], [], [], .i64, 1, 0, false, [.int .i64 0], 0, [3, 3], true, false, false⟩),
  (238, ⟨1, 6, [.nsl], [], [], .i64, 2, 0, false, [.str ⟨#[]⟩, .str ⟨#[]⟩], 32, [], false, false, true⟩),
  (242, ⟨1, 2, [.int .u64 0], [], [], .u64, 0, 0, false, [], 0, [], false, false, false⟩),
  (275, ⟨1, 6, [.nsl], [], [], .i64, 4, 0, false, [.str ⟨#[]⟩, .int .i64 0, .int .i64 0, .str ⟨#[]⟩], 48, [], false, false, true⟩),
  (285, ⟨4, 4, [.str ⟨#[]⟩, .str ⟨#[]⟩, .int .i64 0, .int .i64 0], [], [(0, 1, false), (1, 1, false), (2, 1, false), (3, 1, false)], .i64, 0, 0, false, [], 0, [3, 3, 2, 2], true, false, false⟩),
  (286, ⟨4, 4, [.str ⟨#[]⟩, .str ⟨#[]⟩, .int .i64 0, .int .i64 0], [], [(0, 1, false), (1, 1, false), (2, 1, false), (3, 1, false)], .i64, 0, 0, false, [], 0, [3, 3, 2, 2], true, false, false⟩),
  (291, ⟨2, 5, [.int .i64 0, .int .i64 0], [.ints .i64 [0, 0]], [], .i64, 1, 2, false, [], 0, [2], true, false, false⟩),
  (293, ⟨1, 7, [.nptr], [], [], .i64, 0, 0, false, [], 0, [], false, false, false⟩),
  (294, ⟨1, 7, [.nptr], [], [], .i64, 0, 0, false, [], 0, [], false, false, false⟩),
  (299, ⟨1, 8, [.nmap], [], [], .i64, 1, 0, false, [.bool false], 0, [3, 3], true, false, false⟩),
  (302, ⟨1, 2, [.int .i64 0], [], [], .i64, 0, 0, false, [], 0, [], false, false, false⟩),
  (318, ⟨1, 8, [.nmap], [], [], .i64, 4, 3, false, [.str ⟨#[]⟩, .int .i64 0, .int .i64 0, .str ⟨#[]⟩], 0, [], true, false, true⟩),
  (329, ⟨24, 5, [.int .u8 0, .int .u8 0, .int .u8 0, .int .u8 0, .int .u8 0, .int .u8 0, .int .u8 0, .int .u8 0, .int .u8 0, .int .u8 0, .int .u8 0, .int .u8 0, .int .u8 0, .int .u8 0, .int .u8 0, .int .u8 0, .int .u8 0, .int .u8 0, .int .u8 0, .int .u8 0, .int .u8 0, .int .u8 0, .int .u8 0, .int .u8 0], [.ints .u8 [0, 0, 0, 0, 0, 0, 0, 0, 0, 0, 0, 0, 0, 0, 0, 0, 0, 0, 0, 0, 0, 0, 0, 0]], [], .i64, 1, 24, false, [], 0, [2], true, false, false⟩),
  (354, ⟨1, 6, [.nsl], [], [], .i64, 2, 0, false, [.int .i64 0, .str ⟨#[]⟩], 24, [], false, false, true⟩),
  (367, ⟨1, 2, [.int .u64 0], [], [], .u64, 0, 0, false, [], 0, [], false, false, false⟩),
  (371, ⟨1, 7, [.nptr], [], [], .i64, 0, 0, false, [], 0, [], false, false, false⟩),
  (376, ⟨1, 7, [.nptr], [], [], .i64, 0, 0, false, [], 0, [], false, false, false⟩),
  (384, ⟨20, 5, [.int .u64 0, .int .u64 0, .int .u64 0, .int .u64 0, .int .u64 0, .int .u64 0, .int .u64 0, .int .u64 0, .int .u64 0, .int .u64 0, .int .u64 0, .int .u64 0, .int .u64 0, .int .u64 0, .int .u64 0, .int .u64 0, .int .u64 0, .int .u64 0, .int .u64 0, .int .u64 0], [.ints .u64 [0, 0, 0, 0, 0, 0, 0, 0, 0, 0, 0, 0, 0, 0, 0, 0, 0, 0, 0, 0]], [], .i64, 1, 20, false, [], 0, [2], true, false, false⟩),
  (385, ⟨65, 5, [.int .u8 0, .int .u8 0, .int .u8 0, .int .u8 0, .int .u8 0, .int .u8 0, .int .u8 0, .int .u8 0, .int .u8 0, .int .u8 0, .int .u8 0, .int .u8 0, .int .u8 0, .int .u8 0, .int .u8 0, .int .u8 0, .int .u8 0, .int .u8 0, .int .u8 0, .int .u8 0, .int .u8 0, .int .u8 0, .int .u8 0, .int .u8 0, .int .u8 0, .int .u8 0, .int .u8 0, .int .u8 0, .int .u8 0, .int .u8 0, .int .u8 0, .int .u8 0, .int .u8 0, .int .u8 0, .int .u8 0, .int .u8 0, .int .u8 0, .int .u8 0, .int .u8 0, .int .u8 0, .int .u8 0, .int .u8 0, .int .u8 0, .int .u8 0, .int .u8 0, .int .u8 0, .int .u8 0, .int .u8 0, .int .u8 0, .int .u8 0, .int .u8 0, .int .u8 0, .int .u8 0, .int .u8 0, .int .u8 0, .int .u8 0, .int .u8 0, .int .u8 0, .int .u8 0, .int .u8 0, .int .u8 0, .int .u8 0, .int .u8 0, .int .u8 0, .int .u8 0], [.ints .u8 [0, 0, 0, 0, 0, 0, 0, 0, 0, 0, 0, 0, 0, 0, 0, 0, 0, 0, 0, 0, 0, 0, 0, 0, 0, 0, 0, 0, 0, 0, 0, 0, 0, 0, 0, 0, 0, 0, 0, 0, 0, 0, 0, 0, 0, 0, 0, 0, 0, 0, 0, 0, 0, 0, 0, 0, 0, 0, 0, 0, 0, 0, 0, 0, 0]], [], .i64, 1, 65, false, [], 0, [2], true, false, false⟩),
  (389, ⟨1, 9, [.nif], [], [], .i64, 0, 0, false, [], 0, [], false, false, false⟩),
  (390, ⟨1, 9, [.nif], [], [], .i64, 0, 0, false, [], 0, [], false, false, false⟩),
  (391, ⟨2, 4, [.nmap, .nif], [], [(0, 1, false), (1, 1, false)], .i64, 0, 0, false, [], 0, [], true, false, false⟩),
  (392, ⟨2, 4, [.nmap, .nif], [], [(0, 1, false), (1, 1, false)], .i64, 0, 0, false, [], 0, [], true, false, false⟩),
  (405, ⟨1, 6, [.nsl], [], [], .i64, 1, 0, false, [.int .u64 0], 8, [], false, false, false⟩),
  (413, ⟨1, 7, [.nptr], [], [], .i64, 0, 0, false, [], 0, [], false, false, false⟩),
  (415, ⟨1, 7, [.nptr], [], [], .i64, 0, 0, false, [], 0, [], false, false, false⟩),
  (418, ⟨2, 4, [.int .i64 0, .int .i64 0], [], [(0, 1, false), (1, 1, false)], .i64, 0, 0, false, [], 0, [2, 2], true, false, false⟩),
  (419, ⟨2, 4, [.int .i64 0, .int .i64 0], [], [(0, 1, false), (1, 1, false)], .i64, 0, 0, false, [], 0, [2, 2], true, false, false⟩),
  (420, ⟨1, 4, [.nptr], [], [(0, 1, false)], .i64, 0, 0, false, [], 0, [], true, false, false⟩),
  (421, ⟨1, 4, [.nptr], [], [(0, 1, false)], .i64, 0, 0, false, [], 0, [], true, false, false⟩),
  (429, ⟨1, 7, [.nptr], [], [], .i64, 0, 0, false, [], 0, [], false, false, false⟩),
  (432, ⟨1, 7, [.nptr], [], [], .i64, 0, 0, false, [], 0, [], false, false, false⟩),
  (446, ⟨2, 4, [.nsl, .int .i64 0], [], [(0, 1, false), (1, 1, false)], .i64, 0, 0, false, [], 0, [], true, false, false⟩),
  (447, ⟨2, 4, [.nsl, .int .i64 0], [], [(0, 1, false), (1, 1, false)], .i64, 0, 0, false, [], 0, [], true, false, false⟩),
  (449, ⟨32, 5, [.int .u8 0, .int .u8 0, .int .u8 0, .int .u8 0, .int .u8 0, .int .u8 0, .int .u8 0, .int .u8 0, .int .u8 0, .int .u8 0, .int .u8 0, .int .u8 0, .int .u8 0, .int .u8 0, .int .u8 0, .int .u8 0, .int .u8 0, .int .u8 0, .int .u8 0, .int .u8 0, .int .u8 0, .int .u8 0, .int .u8 0, .int .u8 0, .int .u8 0, .int .u8 0, .int .u8 0, .int .u8 0, .int .u8 0, .int .u8 0, .int .u8 0, .int .u8 0], [.ints .u8 [0, 0, 0, 0, 0, 0, 0, 0, 0, 0, 0, 0, 0, 0, 0, 0, 0, 0, 0, 0, 0, 0, 0, 0, 0, 0, 0, 0, 0, 0, 0, 0]], [], .i64, 1, 32, false, [], 0, [2], true, false, false⟩),
  (450, ⟨64, 5, [.int .u8 0, .int .u8 0, .int .u8 0, .int .u8 0, .int .u8 0, .int .u8 0, .int .u8 0, .int .u8 0, .int .u8 0, .int .u8 0, .int .u8 0, .int .u8 0, .int .u8 0, .int .u8 0, .int .u8 0, .int .u8 0, .int .u8 0, .int .u8 0, .int .u8 0, .int .u8 0, .int .u8 0, .int .u8 0, .int .u8 0, .int .u8 0, .int .u8 0, .int .u8 0, .int .u8 0, .int .u8 0, .int .u8 0, .int .u8 0, .int .u8 0, .int .u8 0, .int .u8 0, .int .u8 0, .int .u8 0, .int .u8 0, .int .u8 0, .int .u8 0, .int .u8 0, .int .u8 0, .int .u8 0, .int .u8 0, .int .u8 0, .int .u8 0, .int .u8 0, .int .u8 0, .int .u8 0, .int .u8 0, .int .u8 0, .int .u8 0, .int .u8 0, .int .u8 0, .int .u8 0, .int .u8 0, .int .u8 0, .int .u8 0, .int .u8 0, .int .u8 0, .int .u8 0, .int .u8 0, .int .u8 0, .int .u8 0, .int .u8 0, .int .u8 0], [.ints .u8 [0, 0, 0, 0, 0, 0, 0, 0, 0, 0, 0, 0, 0, 0, 0, 0, 0, 0, 0, 0, 0, 0, 0, 0, 0, 0, 0, 0, 0, 0, 0, 0, 0, 0, 0, 0, 0, 0, 0, 0, 0, 0, 0, 0, 0, 0, 0, 0, 0, 0, 0, 0, 0, 0, 0, 0, 0, 0, 0, 0, 0, 0, 0, 0]], [], .i64, 1, 64, false, [], 0, [2], true, false, false⟩),
  (453, ⟨3, 4, [.str ⟨#[]⟩, .str ⟨#[]⟩, .nif], [], [(0, 1, false), (1, 1, false), (2, 1, false)], .i64, 0, 0, false, [], 0, [], true, false, false⟩),
  (454, ⟨3, 4, [.str ⟨#[]⟩, .str ⟨#[]⟩, .nif], [], [(0, 1, false), (1, 1, false), (2, 1, false)], .i64, 0, 0, false, [], 0, [], true, false, false⟩),
  (458, ⟨2, 4, [.str ⟨#[]⟩, .int .i64 0], [], [(0, 1, false), (1, 1, false)], .i64, 0, 0, false, [], 0, [3, 2], true, false, false⟩),
  (459, ⟨20, 5, [.str ⟨#[]⟩, .int .i64 0, .str ⟨#[]⟩, .int .i64 0, .str ⟨#[]⟩, .int .i64 0, .str ⟨#[]⟩, .int .i64 0, .str ⟨#[]⟩, .int .i64 0, .str ⟨#[]⟩, .int .i64 0, .str ⟨#[]⟩, .int .i64 0, .str ⟨#[]⟩, .int .i64 0, .str ⟨#[]⟩, .int .i64 0, .str ⟨#[]⟩, .int .i64 0], [.strs [⟨#[]⟩, ⟨#[]⟩, ⟨#[]⟩, ⟨#[]⟩, ⟨#[]⟩, ⟨#[]⟩, ⟨#[]⟩, ⟨#[]⟩, ⟨#[]⟩, ⟨#[]⟩], .ints .i64 [0, 0, 0, 0, 0, 0, 0, 0, 0, 0]], [], .i64, 2, 10, true, [], 0, [], true, false, true⟩),
  (462, ⟨256, 5, [.int .u8 0, .int .u8 0, .int .u8 0, .int .u8 0, .int .u8 0, .int .u8 0, .int .u8 0, .int .u8 0, .int .u8 0, .int .u8 0, .int .u8 0, .int .u8 0, .int .u8 0, .int .u8 0, .int .u8 0, .int .u8 0, .int .u8 0, .int .u8 0, .int .u8 0, .int .u8 0, .int .u8 0, .int .u8 0, .int .u8 0, .int .u8 0, .int .u8 0, .int .u8 0, .int .u8 0, .int .u8 0, .int .u8 0, .int .u8 0, .int .u8 0, .int .u8 0, .int .u8 0, .int .u8 0, .int .u8 0, .int .u8 0, .int .u8 0, .int .u8 0, .int .u8 0, .int .u8 0, .int .u8 0, .int .u8 0, .int .u8 0, .int .u8 0, .int .u8 0, .int .u8 0, .int .u8 0, .int .u8 0, .int .u8 0, .int .u8 0, .int .u8 0, .int .u8 0, .int .u8 0, .int .u8 0, .int .u8 0, .int .u8 0, .int .u8 0, .int .u8 0, .int .u8 0, .int .u8 0, .int .u8 0, .int .u8 0, .int .u8 0, .int .u8 0, .int .u8 0, .int .u8 0, .int .u8 0, .int .u8 0, .int .u8 0, .int .u8 0, .int .u8 0, .int .u8 0, .int .u8 0, .int .u8 0, .int .u8 0, .int .u8 0, .int .u8 0, .int .u8 0, .int .u8 0, .int .u8 0, .int .u8 0, .int .u8 0, .int .u8 0, .int .u8 0, .int .u8 0, .int .u8 0, .int .u8 0, .int .u8 0, .int .u8 0, .int .u8 0, .int .u8 0, .int .u8 0, .int .u8 0, .int .u8 0, .int .u8 0, .int .u8 0, .int .u8 0, .int .u8 0, .int .u8 0, .int .u8 0, .int .u8 0, .int .u8 0, .int .u8 0, .int .u8 0, .int .u8 0, .int .u8 0, .int .u8 0, .int .u8 0, .int .u8 0, .int .u8 0, .int .u8 0, .int .u8 0, .int .u8 0, .int .u8 0, .int .u8 0, .int .u8 0, .int .u8 0, .int .u8 0, .int .u8 0, .int .u8 0, .int .u8 0, .int .u8 0, .int .u8 0, .int .u8 0, .int .u8 0, .int .u8 0, .int .u8 0, .int .u8 0, .int .u8 0, .int .u8 0, .int .u8 0, .int .u8 0, .int .u8 0, .int .u8 0, .int .u8 0, .int .u8 0, .int .u8 0, .int .u8 0, .int .u8 0, .int .u8 0, .int .u8 0, .int .u8 0, .int .u8 0, .int .u8 0, .int .u8 0, .int .u8 0, .int .u8 0, .int .u8 0, .int .u8 0, .int .u8 0, .int .u8 0, .int .u8 0, .int .u8 0, .int .u8 0, .int .u8 0, .int .u8 0, .int .u8 0, .int .u8 0, .int .u8 0, .int .u8 0, .int .u8 0, .int .u8 0, .int .u8 0, .int .u8 0, .int .u8 0, .int .u8 0, .int .u8 0, .int .u8 0, .int .u8 0, .int .u8 0, .int .u8 0, .int .u8 0, .int .u8 0, .int .u8 0, .int .u8 0, .int .u8 0, .int .u8 0, .int .u8 0, .int .u8 0, .int .u8 0, .int .u8 0, .int .u8 0, .int .u8 0, .int .u8 0, .int .u8 0, .int .u8 0, .int .u8 0, .int .u8 0, .int .u8 0, .int .u8 0, .int .u8 0, .int .u8 0, .int .u8 0, .int .u8 0, .int .u8 0, .int .u8 0, .int .u8 0, .int .u8 0, .int .u8 0, .int .u8 0, .int .u8 0, .int .u8 0, .int .u8 0, .int .u8 0, .int .u8 0, .int .u8 0, .int .u8 0, .int .u8 0, .int .u8 0, .int .u8 0, .int .u8 0, .int .u8 0, .int .u8 0, .int .u8 0, .int .u8 0, .int .u8 0, .int .u8 0, .int .u8 0, .int .u8 0, .int .u8 0, .int .u8 0, .int .u8 0, .int .u8 0, .int .u8 0, .int .u8 0, .int .u8 0, .int .u8 0, .int .u8 0, .int .u8 0, .int .u8 0, .int .u8 0, .int .u8 0, .int .u8 0, .int .u8 0, .int .u8 0, .int .u8 0, .int .u8 0, .int .u8 0, .int .u8 0, .int .u8 0, .int .u8 0, .int .u8 0, .int .u8 0, .int .u8 0, .int .u8 0, .int .u8 0, .int .u8 0, .int .u8 0, .int .u8 0, .int .u8 0, .int .u8 0, .int .u8 0, .int .u8 0, .int .u8 0, .int .u8 0, .int .u8 0], [.ints .u8 [0, 0, 0, 0, 0, 0, 0, 0, 0, 0, 0, 0, 0, 0, 0, 0, 0, 0, 0, 0, 0, 0, 0, 0, 0, 0, 0, 0, 0, 0, 0, 0, 0, 0, 0, 0, 0, 0, 0, 0, 0, 0, 0, 0, 0, 0, 0, 0, 0, 0, 0, 0, 0, 0, 0, 0, 0, 0, 0, 0, 0, 0, 0, 0, 0, 0, 0, 0, 0, 0, 0, 0, 0, 0, 0, 0, 0, 0, 0, 0, 0, 0, 0, 0, 0, 0, 0, 0, 0, 0, 0, 0, 0, 0, 0, 0, 0, 0, 0, 0, 0, 0, 0, 0, 0, 0, 0, 0, 0, 0, 0, 0, 0, 0, 0, 0, 0, 0, 0, 0, 0, 0, 0, 0, 0, 0, 0, 0, 0, 0, 0, 0, 0, 0, 0, 0, 0, 0, 0, 0, 0, 0, 0, 0, 0, 0, 0, 0, 0, 0, 0, 0, 0, 0, 0, 0, 0, 0, 0, 0, 0, 0, 0, 0, 0, 0, 0, 0, 0, 0, 0, 0, 0, 0, 0, 0, 0, 0, 0, 0, 0, 0, 0, 0, 0, 0, 0, 0, 0, 0, 0, 0, 0, 0, 0, 0, 0, 0, 0, 0, 0, 0, 0, 0, 0, 0, 0, 0, 0, 0, 0, 0, 0, 0, 0, 0, 0, 0, 0, 0, 0, 0, 0, 0, 0, 0, 0, 0, 0, 0, 0, 0, 0, 0, 0, 0, 0, 0, 0, 0, 0, 0, 0, 0, 0, 0, 0, 0, 0, 0, 0, 0, 0, 0, 0, 0]], [], .i64, 1, 256, false, [], 0, [2], true, false, false⟩),
  (463, ⟨2, 4, [.int .u8 0, .int .u8 0], [], [(0, 1, false), (1, 1, false)], .i64, 0, 0, false, [], 0, [2, 2], true, false, false⟩),
  (464, ⟨2, 4, [.int .u8 0, .int .u8 0], [], [(0, 1, false), (1, 1, false)], .i64, 0, 0, false, [], 0, [2, 2], true, false, false⟩),
  (465, ⟨32, 5, [.int .u8 0, .int .u8 0, .int .u8 0, .int .u8 0, .int .u8 0, .int .u8 0, .int .u8 0, .int .u8 0, .int .u8 0, .int .u8 0, .int .u8 0, .int .u8 0, .int .u8 0, .int .u8 0, .int .u8 0, .int .u8 0, .int .u8 0, .int .u8 0, .int .u8 0, .int .u8 0, .int .u8 0, .int .u8 0, .int .u8 0, .int .u8 0, .int .u8 0, .int .u8 0, .int .u8 0, .int .u8 0, .int .u8 0, .int .u8 0, .int .u8 0, .int .u8 0], [.ints .u8 [0, 0, 0, 0, 0, 0, 0, 0, 0, 0, 0, 0, 0, 0, 0, 0], .ints .u8 [0, 0, 0, 0, 0, 0, 0, 0, 0, 0, 0, 0, 0, 0, 0, 0]], [], .i64, 2, 16, true, [], 0, [], true, false, true⟩),
  (466, ⟨1, 7, [.nptr], [], [], .i64, 0, 0, false, [], 0, [], false, false, false⟩),
  (467, ⟨1, 4, [.str ⟨#[]⟩], [], [(0, 1, false)], .i64, 0, 0, false, [], 0, [3], true, false, false⟩),
  (468, ⟨1, 4, [.str ⟨#[]⟩], [], [(0, 1, false)], .i64, 0, 0, false, [], 0, [3], true, false, false⟩),
  (473, ⟨0, 5, [], [], [], .i64, 1, 0, false, [], 0, [], true, false, false⟩),
  (481, ⟨11, 4, [.int .u64 0, .int .u64 0, .int .u32 0, .int .u8 0, .int .u8 0, .int .u8 0, .int .u8 0, .raw .nilFunc, .nptr, .int .i32 0, .int .i32 0], [], [(0, 1, false), (1, 1, false), (2, 1, false), (3, 1, false), (4, 1, false), (5, 1, false), (6, 1, false), (7, 1, false), (8, 1, false), (9, 1, false), (10, 1, false)], .i64, 0, 0, false, [], 0, [], true, false, false⟩)]
theorem y0X : a0U Tryz.prog T := s0Z _ _ (by kernel_rfl)
theorem mixed : Tryz.prog.follows .mixedOrders = true := by kernel_rfl
theorem fEx {n : Nat} {f : Go.FuncId} {fn : Go.Func} {c : Go.Code} (hf : Tryz.prog.funcs[f]? = some fn) {args : List SV} {H : a0g} {post : SV -> a0g -> Nat -> Prop} (h : b0k Tryz.prog T n c ⟨g0i 0 args, H, n⟩ (t0d T n fn.results.toList post)) (hb : fn.body = some c := by exact rfl) (hname : (fn.name == "runtime.NumGoroutine") = false := by kernel_rfl) (hN : Nat.ble args.length fn.ntmps = true := by kernel_rfl) (hok : b0n fn.ntmps c = true := by kernel_rfl) : FC Tryz.prog n f args H post := z0A mixed y0X hf hb hname hN hok h
/-- A whole walk by contracts of the names c0 .. (the names are the use's own). -/
theorem Wx {n : Nat} {f : Go.FuncId} {fn : Go.Func} {c : Go.Code} (hf : Tryz.prog.funcs[f]? = some fn) {args : List SV} {H : a0g} {post : SV -> a0g -> Nat -> Prop} (hb : fn.body = some c := by exact rfl) (hname : (fn.name == "runtime.NumGoroutine") = false := by kernel_rfl) (hN : Nat.ble args.length fn.ntmps = true := by kernel_rfl) (hok : b0n fn.ntmps c = true := by kernel_rfl) (k : b0k Tryz.prog T n c ⟨g0i 0 args, H, n⟩ (t0d T n fn.results.toList post) := by repeat' ((conv => whnf); first | refine a0a ?_ | (apply bRx <;> intro h <;> try exact aX) | refine cOx (l := l) c0 ?_ | refine cOx (l := l) c1 ?_ | refine cOx (l := l) c2 ?_ | refine cOx (l := l) c3 ?_ | refine cOx (l := l) c4 ?_ | refine cOx (l := l) c5 ?_ | refine cOx (l := l) c6 ?_ | refine cOx (l := l) c7 ?_ | refine cOx (l := l) c8 ?_ | refine cOx (l := l) c9 ?_ | refine cOx (l := l0) c0 ?_ | refine cOx (l := l1) c1 ?_ | refine cOx (l := l2) c2 ?_ | refine cOx (l := l3) c3 ?_ | refine cOx (l := l4) c4 ?_ | refine cOx (l := l5) c5 ?_ | refine cOx (l := l6) c6 ?_ | refine cOx (l := l7) c7 ?_ | refine cOx (l := l8) c8 ?_ | refine cOx (l := l9) c9 ?_ | refine cPx c0 ?_ | refine cPx c1 ?_ | refine cPx c2 ?_ | refine cPx c3 ?_ | refine cPx c4 ?_ | refine cPx c5 ?_ | refine cPx c6 ?_ | refine cPx c7 ?_ | refine cPx c8 ?_ | refine cPx c9 ?_ | refine cGx c0 ?_ | refine cGx c1 ?_ | refine cGx c2 ?_ | refine cGx c3 ?_ | refine cGx c4 ?_ | refine cGx c5 ?_ | refine cGx c6 ?_ | refine cGx c7 ?_ | refine cGx c8 ?_ | refine cGx c9 ?_ | rw [q0] | rw [q1] | rw [q2] | rw [q3] | simp only [q0] | simp only [q1] | simp only [q2] | simp only [q3] | exact a0b rfl | exact rOz l | exact rOz R | exact rOz S | exact aX | (exfalso; exact h rfl) | contradiction)) : FC Tryz.prog n f args H post := z0A mixed y0X hf hb hname hN hok k
theorem Vx {g : Prop} (k : g := by repeat' ((conv => whnf); first | refine a0a ?_ | (apply bRx <;> intro h <;> try exact aX) | refine cOx (l := l) c0 ?_ | refine cOx (l := l) c1 ?_ | refine cOx (l := l) c2 ?_ | refine cOx (l := l) c3 ?_ | refine cOx (l := l) c4 ?_ | refine cOx (l := l) c5 ?_ | refine cOx (l := l) c6 ?_ | refine cOx (l := l) c7 ?_ | refine cOx (l := l) c8 ?_ | refine cOx (l := l) c9 ?_ | refine cOx (l := l0) c0 ?_ | refine cOx (l := l1) c1 ?_ | refine cOx (l := l2) c2 ?_ | refine cOx (l := l3) c3 ?_ | refine cOx (l := l4) c4 ?_ | refine cOx (l := l5) c5 ?_ | refine cOx (l := l6) c6 ?_ | refine cOx (l := l7) c7 ?_ | refine cOx (l := l8) c8 ?_ | refine cOx (l := l9) c9 ?_ | refine cPx c0 ?_ | refine cPx c1 ?_ | refine cPx c2 ?_ | refine cPx c3 ?_ | refine cPx c4 ?_ | refine cPx c5 ?_ | refine cPx c6 ?_ | refine cPx c7 ?_ | refine cPx c8 ?_ | refine cPx c9 ?_ | refine cGx c0 ?_ | refine cGx c1 ?_ | refine cGx c2 ?_ | refine cGx c3 ?_ | refine cGx c4 ?_ | refine cGx c5 ?_ | refine cGx c6 ?_ | refine cGx c7 ?_ | refine cGx c8 ?_ | refine cGx c9 ?_ | rw [q0] | rw [q1] | rw [q2] | rw [q3] | simp only [q0] | simp only [q1] | simp only [q2] | simp only [q3] | exact a0b rfl | exact rOz l | exact rOz R | exact rOz S | exact aX | (exfalso; exact h rfl) | contradiction)) : g := k
/-- The tables that the package-level variables hold. -/
def glT : n0a := [
  (0, 20, [.ints .u64 [1, 10, 100, 1000, 10000, 100000, 1000000, 10000000, 100000000, 1000000000, 10000000000, 100000000000, 1000000000000, 10000000000000, 100000000000000, 1000000000000000, 10000000000000000, 100000000000000000, 1000000000000000000, 10000000000000000000]]),
  (4, 32, [.ints .u8 [0, 1, 28, 2, 29, 14, 24, 3, 30, 22, 20, 15, 25, 17, 4, 8, 31, 27, 13, 23, 21, 19, 16, 7, 26, 12, 18, 6, 11, 5, 10, 9]]),
  (5, 64, [.ints .u8 [0, 1, 56, 2, 57, 49, 28, 3, 61, 58, 42, 50, 38, 29, 17, 4, 62, 47, 59, 36, 45, 43, 51, 22, 53, 39, 33, 30, 24, 18, 12, 5, 63, 55, 48, 27, 60, 41, 37, 16, 46, 35, 44, 21, 52, 32, 23, 11, 54, 26, 40, 15, 34, 20, 31, 10, 25, 14, 19, 9, 13, 8, 7, 6]]),
  (6, 0, [.ints .i64 [466]]),
  (7, 0, [.ints .i64 [466]]),
  (8, 10, [.strs [⟨#[74, 80, 89]⟩, ⟨#[75, 82, 87]⟩, ⟨#[86, 78, 68]⟩, ⟨#[67, 76, 80]⟩, ⟨#[73, 83, 75]⟩, ⟨#[66, 72, 68]⟩, ⟨#[75, 87, 68]⟩, ⟨#[74, 79, 68]⟩, ⟨#[79, 77, 82]⟩, ⟨#[84, 78, 68]⟩], .ints .i64 [0, 0, 0, 0, 0, 3, 3, 3, 3, 3]]),
  (10, 16, [.ints .u8 [128, 160, 128, 144, 128, 0, 0, 0, 0, 0, 0, 0, 0, 0, 0, 0], .ints .u8 [191, 191, 159, 191, 143, 0, 0, 0, 0, 0, 0, 0, 0, 0, 0, 0]])]
theorem w0D {q : Nat} (h : (a0B glT q).isSome = true) : q = 0 \/ q = 4 \/ q = 5 \/ q = 6 \/ q = 7 \/ q = 8 \/ q = 10 := by
  have := l0V h
  simpa [glT] using this
end Go.Proofs.YtclhnagdmajfkaaGreatDoor
namespace Go.Proofs
open Go.Shelf
def Tryz.lays151_ren : Go.Shelf.Ren := ⟨fun | 151 => 123 | 152 => 193 | 137 => 194 | 119 => 268 | 224 => 269 | 225 => 270 | 217 => 271 | 266 => 320 | n => n, fun | 9 => 9 | 21 => 21 | 4 => 4 | 3 => 3 | 5 => 5 | 0 => 0 | 46 => 242 | n => n, fun | n => n⟩
theorem Tryz.lays151 : Go.Proofs.Lays.n151 Tryz.prog Tryz.lays151_ren := {
  mixed := by kernel_rfl
  f119 := Tryz.func268.trans (congrArg some (by kernel_rfl))
  f137 := Tryz.func194.trans (congrArg some (by kernel_rfl))
  f151 := Tryz.func123.trans (congrArg some (by kernel_rfl))
  f152 := Tryz.func193.trans (congrArg some (by kernel_rfl))
  f217 := Tryz.func271.trans (congrArg some (by kernel_rfl))
  f224 := Tryz.func269.trans (congrArg some (by kernel_rfl))
  f225 := Tryz.func270.trans (congrArg some (by kernel_rfl))
  f266 := Tryz.func320.trans (congrArg some (by kernel_rfl))
  t0 := Tryz.underlying0
  a0 := Tryz.isAgg0
  z0 := Tryz.sizeOf0
  v0 := Tryz.zeroValue0
  t3 := Tryz.underlying3
  a3 := Tryz.isAgg3
  z3 := Tryz.sizeOf3
  v3 := Tryz.zeroValue3
  t4 := Tryz.underlying4
  a4 := Tryz.isAgg4
  z4 := Tryz.sizeOf4
  v4 := Tryz.zeroValue4
  t5 := Tryz.underlying5
  a5 := Tryz.isAgg5
  z5 := Tryz.sizeOf5
  v5 := Tryz.zeroValue5
  t9 := Tryz.underlying9
  a9 := Tryz.isAgg9
  z9 := Tryz.sizeOf9
  v9 := Tryz.zeroValue9
  t21 := Tryz.underlying21
  a21 := Tryz.isAgg21
  z21 := Tryz.sizeOf21
  v21 := Tryz.zeroValue21
  t46 := Tryz.underlying242
  a46 := Tryz.isAgg242
  z46 := Tryz.sizeOf242
  v46 := Tryz.zeroValue242 }
open Go.RowKit Go.Lib in
theorem Tryz.strings_ContainsRune_ascii (s : ByteArray) (r : Int) (w : World) (h0 : 0 <= r) (h1 : r < 128) :
    Calls Tryz.prog 123 #[.string s, .int .i32 r] w fun e w' => e = .returned (.bool (decide (0 <= Lib.indexByte s.data.toList r.toNat.toUInt8))) /\ w' = w := Any.strings_ContainsRune_ascii Tryz.lays151 s r w h0 h1
def Tryz.lays156_ren : Go.Shelf.Ren := ⟨fun | 156 => 76 | 165 => 146 | 166 => 73 | 169 => 38 | 240 => 144 | 241 => 213 | 276 => 208 | 277 => 289 | n => n, fun | 31 => 37 | 9 => 9 | 3 => 3 | 4 => 4 | 0 => 0 | 20 => 20 | 72 => 111 | 76 => 176 | 70 => 109 | 37 => 107 | 75 => 174 | 127 => 183 | 164 => 327 | 5 => 5 | 80 => 118 | n => n, fun | n => n⟩
theorem Tryz.lays156 : Go.Proofs.Lays.n156 Tryz.prog Tryz.lays156_ren := {
  mixed := by kernel_rfl
  f156 := Tryz.func76.trans (congrArg some (by kernel_rfl))
  f165 := Tryz.func146.trans (congrArg some (by kernel_rfl))
  f166 := Tryz.func73.trans (congrArg some (by kernel_rfl))
  f169 := Tryz.func38.trans (congrArg some (by kernel_rfl))
  f240 := Tryz.func144.trans (congrArg some (by kernel_rfl))
  f241 := Tryz.func213.trans (congrArg some (by kernel_rfl))
  f276 := Tryz.func208.trans (congrArg some (by kernel_rfl))
  f277 := Tryz.func289.trans (congrArg some (by kernel_rfl))
  t0 := Tryz.underlying0
  a0 := Tryz.isAgg0
  z0 := Tryz.sizeOf0
  v0 := Tryz.zeroValue0
  t3 := Tryz.underlying3
  a3 := Tryz.isAgg3
  z3 := Tryz.sizeOf3
  v3 := Tryz.zeroValue3
  t4 := Tryz.underlying4
  a4 := Tryz.isAgg4
  z4 := Tryz.sizeOf4
  v4 := Tryz.zeroValue4
  t9 := Tryz.underlying9
  a9 := Tryz.isAgg9
  z9 := Tryz.sizeOf9
  v9 := Tryz.zeroValue9
  t20 := Tryz.underlying20
  a20 := Tryz.isAgg20
  z20 := Tryz.sizeOf20
  v20 := Tryz.zeroValue20
  t31 := Tryz.underlying37
  a31 := Tryz.isAgg37
  z31 := Tryz.sizeOf37
  v31 := Tryz.zeroValue37
  t37 := Tryz.underlying107
  a37 := Tryz.isAgg107
  z37 := Tryz.sizeOf107
  v37 := Tryz.zeroValue107
  t70 := Tryz.underlying109
  a70 := Tryz.isAgg109
  z70 := Tryz.sizeOf109
  v70 := Tryz.zeroValue109
  t72 := Tryz.underlying111
  a72 := Tryz.isAgg111
  z72 := Tryz.sizeOf111
  v72 := Tryz.zeroValue111
  t75 := Tryz.underlying174
  a75 := Tryz.isAgg174
  z75 := Tryz.sizeOf174
  v75 := Tryz.zeroValue174
  t76 := Tryz.underlying176
  a76 := Tryz.isAgg176
  z76 := Tryz.sizeOf176
  v76 := Tryz.zeroValue176
  t127 := Tryz.underlying183
  a127 := Tryz.isAgg183
  z127 := Tryz.sizeOf183
  v127 := Tryz.zeroValue183
  t164 := Tryz.underlying327
  a164 := Tryz.isAgg327
  z164 := Tryz.sizeOf327
  v164 := Tryz.zeroValue327 }
theorem Tryz.Builder_Extra_156 : Builder.Extra Tryz.prog Tryz.lays156_ren := {
  sizeBuilder := by kernel_rfl
  liesBuilder := by kernel_rfl
  t5 := Tryz.underlying5
  a5 := Tryz.isAgg5
  z5 := Tryz.sizeOf5
  v5 := Tryz.zeroValue5
  infoByte := by kernel_rfl
  cellsByte := by kernel_rfl
  sizeByte := by kernel_rfl
  neB5 := by decide }
open Go.RowKit in
theorem Tryz.strings_Join (bk o c : Nat) (xs : List ByteArray) (sep : ByteArray) (w : World) (hcells : ∀ (j : Nat) x, xs[j]? = some x -> w.cell? ⟨bk, o + j, none⟩ = some (.string x)) (hbk : bk < w.heap.size) (hN : xs.length <= 140737488355328) (hcap : xs.length <= c) (hlen : (Lib.join (xs.map (·.data.toList)) sep.data.toList).length <= 140737488355328) :
    Calls Tryz.prog 76 #[.slice (some ⟨bk, o, none⟩) xs.length c, .string sep] w fun e w' => e = .returned (.string ⟨(Lib.join (xs.map (·.data.toList)) sep.data.toList).toArray⟩) /\ Below w.heap.size w w' := Any.strings_Join Tryz.lays156 Tryz.Builder_Extra_156 bk o c xs sep w hcells hbk hN hcap hlen
def Tryz.lays146_ren : Go.Shelf.Ren := ⟨fun | 146 => 154 | 221 => 221 | 268 => 291 | 138 => 152 | 143 => 219 | 195 => 217 | 197 => 335 | 218 => 218 | 219 => 290 | 260 => 359 | 217 => 271 | 225 => 270 | 224 => 269 | 267 => 334 | 266 => 320 | 314 => 358 | n => n, fun | 9 => 9 | 31 => 37 | 3 => 3 | 4 => 4 | 0 => 0 | 105 => 424 | 21 => 21 | 5 => 5 | 46 => 242 | 119 => 462 | 139 => 465 | 138 => 464 | 146 => 333 | 51 => 25 | n => n, fun | 1 => 1 | 3 => 9 | 4 => 10 | n => n⟩
theorem Tryz.lays146 : Go.Proofs.Lays.n146 Tryz.prog Tryz.lays146_ren := {
  mixed := by kernel_rfl
  f138 := Tryz.func152.trans (congrArg some (by kernel_rfl))
  f143 := Tryz.func219.trans (congrArg some (by kernel_rfl))
  f146 := Tryz.func154.trans (congrArg some (by kernel_rfl))
  f195 := Tryz.func217.trans (congrArg some (by kernel_rfl))
  f197 := Tryz.func335.trans (congrArg some (by kernel_rfl))
  f217 := Tryz.func271.trans (congrArg some (by kernel_rfl))
  f218 := Tryz.func218.trans (congrArg some (by kernel_rfl))
  f219 := Tryz.func290.trans (congrArg some (by kernel_rfl))
  f221 := Tryz.func221.trans (congrArg some (by kernel_rfl))
  f224 := Tryz.func269.trans (congrArg some (by kernel_rfl))
  f225 := Tryz.func270.trans (congrArg some (by kernel_rfl))
  f260 := Tryz.func359.trans (congrArg some (by kernel_rfl))
  f266 := Tryz.func320.trans (congrArg some (by kernel_rfl))
  f267 := Tryz.func334.trans (congrArg some (by kernel_rfl))
  f268 := Tryz.func291.trans (congrArg some (by kernel_rfl))
  f314 := Tryz.func358.trans (congrArg some (by kernel_rfl))
  t0 := Tryz.underlying0
  a0 := Tryz.isAgg0
  z0 := Tryz.sizeOf0
  v0 := Tryz.zeroValue0
  t3 := Tryz.underlying3
  a3 := Tryz.isAgg3
  z3 := Tryz.sizeOf3
  v3 := Tryz.zeroValue3
  t4 := Tryz.underlying4
  a4 := Tryz.isAgg4
  z4 := Tryz.sizeOf4
  v4 := Tryz.zeroValue4
  t5 := Tryz.underlying5
  a5 := Tryz.isAgg5
  z5 := Tryz.sizeOf5
  v5 := Tryz.zeroValue5
  t9 := Tryz.underlying9
  a9 := Tryz.isAgg9
  z9 := Tryz.sizeOf9
  v9 := Tryz.zeroValue9
  t21 := Tryz.underlying21
  a21 := Tryz.isAgg21
  z21 := Tryz.sizeOf21
  v21 := Tryz.zeroValue21
  t31 := Tryz.underlying37
  a31 := Tryz.isAgg37
  z31 := Tryz.sizeOf37
  v31 := Tryz.zeroValue37
  t46 := Tryz.underlying242
  a46 := Tryz.isAgg242
  z46 := Tryz.sizeOf242
  v46 := Tryz.zeroValue242
  t51 := Tryz.underlying25
  a51 := Tryz.isAgg25
  z51 := Tryz.sizeOf25
  v51 := Tryz.zeroValue25
  t105 := Tryz.underlying424
  a105 := Tryz.isAgg424
  z105 := Tryz.sizeOf424
  v105 := Tryz.zeroValue424
  t119 := Tryz.underlying462
  a119 := Tryz.isAgg462
  z119 := Tryz.sizeOf462
  t138 := Tryz.underlying464
  a138 := Tryz.isAgg464
  z138 := Tryz.sizeOf464
  v138 := Tryz.zeroValue464
  t139 := Tryz.underlying465
  a139 := Tryz.isAgg465
  z139 := Tryz.sizeOf465
  v139 := Tryz.zeroValue465
  t146 := Tryz.underlying333
  a146 := Tryz.isAgg333
  z146 := Tryz.sizeOf333
  v146 := Tryz.zeroValue333
  g1 := by kernel_rfl
  g3 := by kernel_rfl
  g4 := by kernel_rfl }
open Go.RowKit Go.Lib in
def Tryz.laysC174_ren : Go.Shelf.Ren := ⟨fun | 174 => 222 | 247 => 292 | 245 => 293 | 287 => 336 | 279 => 337 | 280 => 338 | 281 => 339 | 282 => 340 | 321 => 360 | 322 => 361 | 316 => 362 | 171 => 33 | 205 => 363 | 243 => 74 | 246 => 145 | 283 => 209 | 284 => 210 | 285 => 211 | 286 => 212 | 129 => 192 | 317 => 285 | 318 => 286 | 319 => 287 | 320 => 288 | 337 => 332 | 338 => 333 | n => n, fun | 9 => 9 | 3 => 3 | 2 => 2 | 75 => 174 | 85 => 338 | 4 => 4 | 167 => 426 | 5 => 5 | 53 => 181 | 175 => 427 | 46 => 242 | 168 => 429 | 37 => 107 | 0 => 0 | 210 => 454 | 21 => 21 | 127 => 183 | 145 => 468 | 143 => 466 | 171 => 329 | 173 => 331 | 212 => 384 | 51 => 25 | 20 => 20 | 213 => 385 | 232 => 449 | 233 => 450 | 80 => 118 | n => n, fun | 15 => 6 | 16 => 7 | 17 => 0 | 18 => 4 | 19 => 5 | n => n⟩
theorem Tryz.laysC174 : Go.Proofs.LaysC.n174 Tryz.prog Tryz.laysC174_ren := {
  mixed := by kernel_rfl
  f129 := Tryz.func192.trans (congrArg some (by kernel_rfl))
  f171 := Tryz.func33.trans (congrArg some (by kernel_rfl))
  f174 := Tryz.func222.trans (congrArg some (by kernel_rfl))
  f205 := Tryz.func363.trans (congrArg some (by kernel_rfl))
  f243 := Tryz.func74.trans (congrArg some (by kernel_rfl))
  f245 := Tryz.func293.trans (congrArg some (by kernel_rfl))
  f246 := Tryz.func145.trans (congrArg some (by kernel_rfl))
  f247 := Tryz.func292.trans (congrArg some (by kernel_rfl))
  f279 := Tryz.func337.trans (congrArg some (by kernel_rfl))
  f280 := Tryz.func338.trans (congrArg some (by kernel_rfl))
  f281 := Tryz.func339.trans (congrArg some (by kernel_rfl))
  f282 := Tryz.func340.trans (congrArg some (by kernel_rfl))
  f283 := Tryz.func209.trans (congrArg some (by kernel_rfl))
  f284 := Tryz.func210.trans (congrArg some (by kernel_rfl))
  f285 := Tryz.func211.trans (congrArg some (by kernel_rfl))
  f286 := Tryz.func212.trans (congrArg some (by kernel_rfl))
  f287 := Tryz.func336.trans (congrArg some (by kernel_rfl))
  f316 := Tryz.func362.trans (congrArg some (by kernel_rfl))
  f317 := Tryz.func285.trans (congrArg some (by kernel_rfl))
  f318 := Tryz.func286.trans (congrArg some (by kernel_rfl))
  f319 := Tryz.func287.trans (congrArg some (by kernel_rfl))
  f320 := Tryz.func288.trans (congrArg some (by kernel_rfl))
  f321 := Tryz.func360.trans (congrArg some (by kernel_rfl))
  f322 := Tryz.func361.trans (congrArg some (by kernel_rfl))
  f337 := Tryz.func332.trans (congrArg some (by kernel_rfl))
  f338 := Tryz.func333.trans (congrArg some (by kernel_rfl))
  t0 := Tryz.underlying0
  a0 := Tryz.isAgg0
  z0 := Tryz.sizeOf0
  v0 := Tryz.zeroValue0
  t2 := Tryz.underlying2
  a2 := Tryz.isAgg2
  z2 := Tryz.sizeOf2
  v2 := Tryz.zeroValue2
  t3 := Tryz.underlying3
  a3 := Tryz.isAgg3
  z3 := Tryz.sizeOf3
  v3 := Tryz.zeroValue3
  t4 := Tryz.underlying4
  a4 := Tryz.isAgg4
  z4 := Tryz.sizeOf4
  v4 := Tryz.zeroValue4
  t5 := Tryz.underlying5
  a5 := Tryz.isAgg5
  z5 := Tryz.sizeOf5
  v5 := Tryz.zeroValue5
  t9 := Tryz.underlying9
  a9 := Tryz.isAgg9
  z9 := Tryz.sizeOf9
  v9 := Tryz.zeroValue9
  t20 := Tryz.underlying20
  a20 := Tryz.isAgg20
  z20 := Tryz.sizeOf20
  v20 := Tryz.zeroValue20
  t21 := Tryz.underlying21
  a21 := Tryz.isAgg21
  z21 := Tryz.sizeOf21
  v21 := Tryz.zeroValue21
  t37 := Tryz.underlying107
  a37 := Tryz.isAgg107
  z37 := Tryz.sizeOf107
  v37 := Tryz.zeroValue107
  t46 := Tryz.underlying242
  a46 := Tryz.isAgg242
  z46 := Tryz.sizeOf242
  v46 := Tryz.zeroValue242
  t51 := Tryz.underlying25
  a51 := Tryz.isAgg25
  z51 := Tryz.sizeOf25
  v51 := Tryz.zeroValue25
  t53 := Tryz.underlying181
  a53 := Tryz.isAgg181
  z53 := Tryz.sizeOf181
  v53 := Tryz.zeroValue181
  t75 := Tryz.underlying174
  a75 := Tryz.isAgg174
  z75 := Tryz.sizeOf174
  v75 := Tryz.zeroValue174
  t85 := Tryz.underlying338
  a85 := Tryz.isAgg338
  z85 := Tryz.sizeOf338
  v85 := Tryz.zeroValue338
  t127 := Tryz.underlying183
  a127 := Tryz.isAgg183
  z127 := Tryz.sizeOf183
  v127 := Tryz.zeroValue183
  t143 := Tryz.underlying466
  a143 := Tryz.isAgg466
  z143 := Tryz.sizeOf466
  v143 := Tryz.zeroValue466
  t145 := Tryz.underlying468
  a145 := Tryz.isAgg468
  z145 := Tryz.sizeOf468
  v145 := Tryz.zeroValue468
  t167 := Tryz.underlying426
  a167 := Tryz.isAgg426
  z167 := Tryz.sizeOf426
  v167 := Tryz.zeroValue426
  t168 := Tryz.underlying429
  a168 := Tryz.isAgg429
  z168 := Tryz.sizeOf429
  v168 := Tryz.zeroValue429
  t171 := Tryz.underlying329
  a171 := Tryz.isAgg329
  z171 := Tryz.sizeOf329
  v171 := Tryz.zeroValue329
  t173 := Tryz.underlying331
  a173 := Tryz.isAgg331
  z173 := Tryz.sizeOf331
  v173 := Tryz.zeroValue331
  t175 := Tryz.underlying427
  a175 := Tryz.isAgg427
  z175 := Tryz.sizeOf427
  v175 := Tryz.zeroValue427
  t210 := Tryz.underlying454
  a210 := Tryz.isAgg454
  z210 := Tryz.sizeOf454
  v210 := Tryz.zeroValue454
  t212 := Tryz.underlying384
  a212 := Tryz.isAgg384
  z212 := Tryz.sizeOf384
  v212 := Tryz.zeroValue384
  t213 := Tryz.underlying385
  a213 := Tryz.isAgg385
  z213 := Tryz.sizeOf385
  t232 := Tryz.underlying449
  a232 := Tryz.isAgg449
  z232 := Tryz.sizeOf449
  v232 := Tryz.zeroValue449
  t233 := Tryz.underlying450
  a233 := Tryz.isAgg450
  z233 := Tryz.sizeOf450
  v233 := Tryz.zeroValue450
  g15 := by kernel_rfl
  g16 := by kernel_rfl
  g17 := by kernel_rfl
  g18 := by kernel_rfl
  g19 := by kernel_rfl
  t80 := Tryz.underlying118
  a80 := Tryz.isAgg118
  z80 := Tryz.sizeOf118
  v80 := Tryz.zeroValue118
  i0 := by kernel_rfl
  i2 := by kernel_rfl
  i3 := by kernel_rfl
  i4 := by kernel_rfl
  i5 := by kernel_rfl
  i9 := by kernel_rfl
  i20 := by kernel_rfl
  i21 := by kernel_rfl
  i37 := by kernel_rfl
  i46 := by kernel_rfl
  i51 := by kernel_rfl
  i53 := by kernel_rfl
  i75 := by kernel_rfl
  i80 := by kernel_rfl
  i85 := by kernel_rfl
  i127 := by kernel_rfl
  i143 := by kernel_rfl
  i145 := by kernel_rfl
  i167 := by kernel_rfl
  i168 := by kernel_rfl
  i171 := by kernel_rfl
  i173 := by kernel_rfl
  i175 := by kernel_rfl
  i210 := by kernel_rfl
  i212 := by kernel_rfl
  i232 := by kernel_rfl
  i233 := by kernel_rfl
  m15 := by kernel_rfl
  m16 := by kernel_rfl
  m17 := by kernel_rfl
  m18 := by kernel_rfl
  m19 := by kernel_rfl
  c0 := by kernel_rfl
  c2 := by kernel_rfl
  c3 := by kernel_rfl
  c4 := by kernel_rfl
  c5 := by kernel_rfl
  c9 := by kernel_rfl
  c20 := by kernel_rfl
  c21 := by kernel_rfl
  c37 := by kernel_rfl
  c46 := by kernel_rfl
  c51 := by kernel_rfl
  c53 := by kernel_rfl
  c75 := by kernel_rfl
  c80 := by kernel_rfl
  c85 := by kernel_rfl
  c127 := by kernel_rfl
  c143 := by kernel_rfl
  c145 := by kernel_rfl
  c167 := by kernel_rfl
  c168 := by kernel_rfl
  c171 := by kernel_rfl
  c173 := by kernel_rfl
  c175 := by kernel_rfl
  c210 := by kernel_rfl
  c212 := by kernel_rfl
  c213 := by kernel_rfl
  c232 := by kernel_rfl
  c233 := by kernel_rfl }
open Go.RowKit in
theorem Tryz.strconv_ParseInt_10_at64_ok (s : ByteArray) (hmax : s.size <= 9223372036854775806) (v : Int) (h : Lib.parseIntB 64 s.data.toList = .ok v) (w : World) :
    Calls Tryz.prog 222 #[.string s, .int .i64 10, .int .i64 64] w fun e w' => e = .returned (.tuple #[.int .i64 v, .nilIface]) /\ (w' = w \/ ∃ t, w' = Lib.bytesWorld w 5 t) := Any.strconv_ParseInt_10_at64_ok Tryz.laysC174 s hmax v h w
def Tryz.lays219_ren : Go.Shelf.Ren := ⟨fun | 219 => 290 | 217 => 271 | 225 => 270 | 224 => 269 | 267 => 334 | 266 => 320 | 314 => 358 | n => n, fun | 9 => 9 | 3 => 3 | 4 => 4 | 5 => 5 | 46 => 242 | 146 => 333 | 51 => 25 | n => n, fun | 1 => 1 | n => n⟩
theorem Tryz.lays219 : Go.Proofs.Lays.n219 Tryz.prog Tryz.lays219_ren := {
  mixed := by kernel_rfl
  f217 := Tryz.func271.trans (congrArg some (by kernel_rfl))
  f219 := Tryz.func290.trans (congrArg some (by kernel_rfl))
  f224 := Tryz.func269.trans (congrArg some (by kernel_rfl))
  f225 := Tryz.func270.trans (congrArg some (by kernel_rfl))
  f266 := Tryz.func320.trans (congrArg some (by kernel_rfl))
  f267 := Tryz.func334.trans (congrArg some (by kernel_rfl))
  f314 := Tryz.func358.trans (congrArg some (by kernel_rfl))
  t3 := Tryz.underlying3
  a3 := Tryz.isAgg3
  z3 := Tryz.sizeOf3
  v3 := Tryz.zeroValue3
  t4 := Tryz.underlying4
  a4 := Tryz.isAgg4
  z4 := Tryz.sizeOf4
  v4 := Tryz.zeroValue4
  t5 := Tryz.underlying5
  a5 := Tryz.isAgg5
  z5 := Tryz.sizeOf5
  v5 := Tryz.zeroValue5
  t9 := Tryz.underlying9
  a9 := Tryz.isAgg9
  z9 := Tryz.sizeOf9
  v9 := Tryz.zeroValue9
  t46 := Tryz.underlying242
  a46 := Tryz.isAgg242
  z46 := Tryz.sizeOf242
  v46 := Tryz.zeroValue242
  t51 := Tryz.underlying25
  a51 := Tryz.isAgg25
  z51 := Tryz.sizeOf25
  v51 := Tryz.zeroValue25
  t146 := Tryz.underlying333
  a146 := Tryz.isAgg333
  z146 := Tryz.sizeOf333
  v146 := Tryz.zeroValue333
  g1 := by kernel_rfl }
open Go.RowKit Go.Lib in
theorem Tryz.stringslite_Index_one (s : ByteArray) (c : UInt8) (w : World) :
    Calls Tryz.prog 290 #[.string s, .string ⟨#[c]⟩] w fun e w' => e = .returned (.int .i64 (Lib.indexByte s.data.toList c)) /\ w' = w := Any.stringslite_Index_one Tryz.lays219 s c w
def Tryz.lays138_ren : Go.Shelf.Ren := ⟨fun | 138 => 152 | 195 => 217 | 218 => 218 | 143 => 219 | 219 => 290 | 217 => 271 | 225 => 270 | 224 => 269 | 267 => 334 | 266 => 320 | 314 => 358 | n => n, fun | 9 => 9 | 3 => 3 | 4 => 4 | 5 => 5 | 0 => 0 | 46 => 242 | 146 => 333 | 51 => 25 | n => n, fun | 1 => 1 | n => n⟩
theorem Tryz.lays138 : Go.Proofs.Lays.n138 Tryz.prog Tryz.lays138_ren := {
  mixed := by kernel_rfl
  f138 := Tryz.func152.trans (congrArg some (by kernel_rfl))
  f143 := Tryz.func219.trans (congrArg some (by kernel_rfl))
  f195 := Tryz.func217.trans (congrArg some (by kernel_rfl))
  f217 := Tryz.func271.trans (congrArg some (by kernel_rfl))
  f218 := Tryz.func218.trans (congrArg some (by kernel_rfl))
  f219 := Tryz.func290.trans (congrArg some (by kernel_rfl))
  f224 := Tryz.func269.trans (congrArg some (by kernel_rfl))
  f225 := Tryz.func270.trans (congrArg some (by kernel_rfl))
  f266 := Tryz.func320.trans (congrArg some (by kernel_rfl))
  f267 := Tryz.func334.trans (congrArg some (by kernel_rfl))
  f314 := Tryz.func358.trans (congrArg some (by kernel_rfl))
  t0 := Tryz.underlying0
  a0 := Tryz.isAgg0
  z0 := Tryz.sizeOf0
  v0 := Tryz.zeroValue0
  t3 := Tryz.underlying3
  a3 := Tryz.isAgg3
  z3 := Tryz.sizeOf3
  v3 := Tryz.zeroValue3
  t4 := Tryz.underlying4
  a4 := Tryz.isAgg4
  z4 := Tryz.sizeOf4
  v4 := Tryz.zeroValue4
  t5 := Tryz.underlying5
  a5 := Tryz.isAgg5
  z5 := Tryz.sizeOf5
  v5 := Tryz.zeroValue5
  t9 := Tryz.underlying9
  a9 := Tryz.isAgg9
  z9 := Tryz.sizeOf9
  v9 := Tryz.zeroValue9
  t46 := Tryz.underlying242
  a46 := Tryz.isAgg242
  z46 := Tryz.sizeOf242
  v46 := Tryz.zeroValue242
  t51 := Tryz.underlying25
  a51 := Tryz.isAgg25
  z51 := Tryz.sizeOf25
  v51 := Tryz.zeroValue25
  t146 := Tryz.underlying333
  a146 := Tryz.isAgg333
  z146 := Tryz.sizeOf333
  v146 := Tryz.zeroValue333
  g1 := by kernel_rfl }
open Go.RowKit Go.Lib in
theorem Tryz.strings_Count_one (s : ByteArray) (c : UInt8) (w : World) :
    Calls Tryz.prog 152 #[.string s, .string ⟨#[c]⟩] w fun e w' => e = .returned (.int .i64 (Lib.countByte s.data.toList c)) /\ w' = w := Any.strings_Count_one Tryz.lays138 s c w
def Tryz.lays105_ren : Go.Shelf.Ren := ⟨fun | 105 => 80 | 212 => 149 | 99 => 150 | 165 => 146 | 166 => 73 | 170 => 151 | 169 => 38 | 263 => 214 | 264 => 215 | 206 => 216 | 240 => 144 | 241 => 213 | 276 => 208 | 277 => 289 | n => n, fun | 9 => 9 | 3 => 3 | 4 => 4 | 20 => 20 | 0 => 0 | 46 => 242 | 109 => 261 | 5 => 5 | 72 => 111 | 76 => 176 | 51 => 25 | 146 => 333 | 53 => 181 | 148 => 295 | 70 => 109 | 37 => 107 | 75 => 174 | 127 => 183 | 164 => 327 | 80 => 118 | n => n, fun | n => n⟩
theorem Tryz.lays105 : Go.Proofs.Lays.n105 Tryz.prog Tryz.lays105_ren := {
  mixed := by kernel_rfl
  f99 := Tryz.func150.trans (congrArg some (by kernel_rfl))
  f105 := Tryz.func80.trans (congrArg some (by kernel_rfl))
  f165 := Tryz.func146.trans (congrArg some (by kernel_rfl))
  f166 := Tryz.func73.trans (congrArg some (by kernel_rfl))
  f169 := Tryz.func38.trans (congrArg some (by kernel_rfl))
  f170 := Tryz.func151.trans (congrArg some (by kernel_rfl))
  f206 := Tryz.func216.trans (congrArg some (by kernel_rfl))
  f212 := Tryz.func149.trans (congrArg some (by kernel_rfl))
  f240 := Tryz.func144.trans (congrArg some (by kernel_rfl))
  f241 := Tryz.func213.trans (congrArg some (by kernel_rfl))
  f263 := Tryz.func214.trans (congrArg some (by kernel_rfl))
  f264 := Tryz.func215.trans (congrArg some (by kernel_rfl))
  f276 := Tryz.func208.trans (congrArg some (by kernel_rfl))
  f277 := Tryz.func289.trans (congrArg some (by kernel_rfl))
  t0 := Tryz.underlying0
  a0 := Tryz.isAgg0
  z0 := Tryz.sizeOf0
  v0 := Tryz.zeroValue0
  t3 := Tryz.underlying3
  a3 := Tryz.isAgg3
  z3 := Tryz.sizeOf3
  v3 := Tryz.zeroValue3
  t4 := Tryz.underlying4
  a4 := Tryz.isAgg4
  z4 := Tryz.sizeOf4
  v4 := Tryz.zeroValue4
  t5 := Tryz.underlying5
  a5 := Tryz.isAgg5
  z5 := Tryz.sizeOf5
  v5 := Tryz.zeroValue5
  t9 := Tryz.underlying9
  a9 := Tryz.isAgg9
  z9 := Tryz.sizeOf9
  v9 := Tryz.zeroValue9
  t20 := Tryz.underlying20
  a20 := Tryz.isAgg20
  z20 := Tryz.sizeOf20
  v20 := Tryz.zeroValue20
  t37 := Tryz.underlying107
  a37 := Tryz.isAgg107
  z37 := Tryz.sizeOf107
  v37 := Tryz.zeroValue107
  t46 := Tryz.underlying242
  a46 := Tryz.isAgg242
  z46 := Tryz.sizeOf242
  v46 := Tryz.zeroValue242
  t51 := Tryz.underlying25
  a51 := Tryz.isAgg25
  z51 := Tryz.sizeOf25
  v51 := Tryz.zeroValue25
  t53 := Tryz.underlying181
  a53 := Tryz.isAgg181
  z53 := Tryz.sizeOf181
  v53 := Tryz.zeroValue181
  t70 := Tryz.underlying109
  a70 := Tryz.isAgg109
  z70 := Tryz.sizeOf109
  v70 := Tryz.zeroValue109
  t72 := Tryz.underlying111
  a72 := Tryz.isAgg111
  z72 := Tryz.sizeOf111
  v72 := Tryz.zeroValue111
  t75 := Tryz.underlying174
  a75 := Tryz.isAgg174
  z75 := Tryz.sizeOf174
  v75 := Tryz.zeroValue174
  t76 := Tryz.underlying176
  a76 := Tryz.isAgg176
  z76 := Tryz.sizeOf176
  v76 := Tryz.zeroValue176
  t109 := Tryz.underlying261
  a109 := Tryz.isAgg261
  z109 := Tryz.sizeOf261
  v109 := Tryz.zeroValue261
  t127 := Tryz.underlying183
  a127 := Tryz.isAgg183
  z127 := Tryz.sizeOf183
  v127 := Tryz.zeroValue183
  t146 := Tryz.underlying333
  a146 := Tryz.isAgg333
  z146 := Tryz.sizeOf333
  v146 := Tryz.zeroValue333
  t148 := Tryz.underlying295
  a148 := Tryz.isAgg295
  z148 := Tryz.sizeOf295
  v148 := Tryz.zeroValue295
  t164 := Tryz.underlying327
  a164 := Tryz.isAgg327
  z164 := Tryz.sizeOf327
  v164 := Tryz.zeroValue327 }
theorem Tryz.Builder_Extra_105 : Builder.Extra Tryz.prog Tryz.lays105_ren := {
  sizeBuilder := by kernel_rfl
  liesBuilder := by kernel_rfl
  t5 := Tryz.underlying5
  a5 := Tryz.isAgg5
  z5 := Tryz.sizeOf5
  v5 := Tryz.zeroValue5
  infoByte := by kernel_rfl
  cellsByte := by kernel_rfl
  sizeByte := by kernel_rfl
  neB5 := by decide }
open Go.RowKit Go.Lib in
theorem Tryz.strings_Repeat (s : ByteArray) (c : Nat) (w : World) (hc : c <= 9223372036854775807) (hlen : s.size * c <= 140737488355328) :
    Calls Tryz.prog 80 #[.string s, .int .i64 c] w fun e w' => e = .returned (.string ⟨(Lib.repeatL s.data.toList c).toArray⟩) /\ Below w.heap.size w w' := Any.strings_Repeat Tryz.lays105 Tryz.Builder_Extra_105 s c w hc hlen
end Go.Proofs
namespace Go.Proofs
open Go.Shelf
def Tryz.sortS_ren : Go.Shelf.Ren := ⟨fun | 6 => 61 | 8 => 122 | 9 => 121 | 19 => 191 | 20 => 192 | 21 => 182 | 22 => 183 | 23 => 184 | 24 => 185 | 25 => 186 | 26 => 187 | 27 => 188 | 28 => 189 | 29 => 190 | 36 => 263 | 31 => 264 | 32 => 265 | 37 => 266 | 38 => 267 | 39 => 254 | 41 => 319 | n => n, fun | 27 => 37 | 29 => 9 | 3 => 3 | 32 => 242 | 26 => 37 | 0 => 0 | 44 => 25 | 46 => 181 | 4 => 4 | 36 => 303 | 35 => 302 | 41 => 307 | 5 => 5 | 9 => 9 | 53 => 367 | 57 => 371 | 63 => 413 | 64 => 212 | n => n, fun | n => n⟩
theorem Tryz.sortS : Go.Proofs.SlLaysM.n6 Tryz.prog Tryz.sortS_ren := {
  mixed := by kernel_rfl
  f6 := ⟨Tryz.f61.name, by decide, Tryz.func61.trans (congrArg some (by kernel_rfl))⟩
  f8 := Tryz.func122.trans (congrArg some (by kernel_rfl))
  f9 := ⟨Tryz.f121.name, by decide, Tryz.func121.trans (congrArg some (by kernel_rfl))⟩
  f19 := Tryz.func191.trans (congrArg some (by kernel_rfl))
  f20 := Tryz.func192.trans (congrArg some (by kernel_rfl))
  f21 := ⟨Tryz.f182.name, by decide, Tryz.func182.trans (congrArg some (by kernel_rfl))⟩
  f22 := ⟨Tryz.f183.name, by decide, Tryz.func183.trans (congrArg some (by kernel_rfl))⟩
  f23 := ⟨Tryz.f184.name, by decide, Tryz.func184.trans (congrArg some (by kernel_rfl))⟩
  f24 := ⟨Tryz.f185.name, by decide, Tryz.func185.trans (congrArg some (by kernel_rfl))⟩
  f25 := ⟨Tryz.f186.name, by decide, Tryz.func186.trans (congrArg some (by kernel_rfl))⟩
  f26 := ⟨Tryz.f187.name, by decide, Tryz.func187.trans (congrArg some (by kernel_rfl))⟩
  f27 := ⟨Tryz.f188.name, by decide, Tryz.func188.trans (congrArg some (by kernel_rfl))⟩
  f28 := ⟨Tryz.f189.name, by decide, Tryz.func189.trans (congrArg some (by kernel_rfl))⟩
  f29 := ⟨Tryz.f190.name, by decide, Tryz.func190.trans (congrArg some (by kernel_rfl))⟩
  f31 := Tryz.func264.trans (congrArg some (by kernel_rfl))
  f32 := Tryz.func265.trans (congrArg some (by kernel_rfl))
  f36 := ⟨Tryz.f263.name, by decide, Tryz.func263.trans (congrArg some (by kernel_rfl))⟩
  f37 := ⟨Tryz.f266.name, by decide, Tryz.func266.trans (congrArg some (by kernel_rfl))⟩
  f38 := ⟨Tryz.f267.name, by decide, Tryz.func267.trans (congrArg some (by kernel_rfl))⟩
  f39 := ⟨Tryz.f254.name, by decide, Tryz.func254.trans (congrArg some (by kernel_rfl))⟩
  f41 := ⟨Tryz.f319.name, by decide, Tryz.func319.trans (congrArg some (by kernel_rfl))⟩
  t0 := Tryz.underlying0
  a0 := Tryz.isAgg0
  z0 := Tryz.sizeOf0
  v0 := Tryz.zeroValue0
  t3 := Tryz.underlying3
  a3 := Tryz.isAgg3
  z3 := Tryz.sizeOf3
  v3 := Tryz.zeroValue3
  t4 := Tryz.underlying4
  a4 := Tryz.isAgg4
  z4 := Tryz.sizeOf4
  v4 := Tryz.zeroValue4
  t5 := Tryz.underlying5
  a5 := Tryz.isAgg5
  z5 := Tryz.sizeOf5
  v5 := Tryz.zeroValue5
  t9 := Tryz.underlying9
  a9 := Tryz.isAgg9
  z9 := Tryz.sizeOf9
  v9 := Tryz.zeroValue9
  t26 := Tryz.underlying37
  a26 := Tryz.isAgg37
  z26 := Tryz.sizeOf37
  v26 := Tryz.zeroValue37
  t27 := Tryz.underlying37
  a27 := Tryz.isAgg37
  z27 := Tryz.sizeOf37
  v27 := Tryz.zeroValue37
  t29 := Tryz.underlying9
  a29 := Tryz.isAgg9
  z29 := Tryz.sizeOf9
  v29 := Tryz.zeroValue9
  t32 := Tryz.underlying242
  a32 := Tryz.isAgg242
  z32 := Tryz.sizeOf242
  v32 := Tryz.zeroValue242
  t35 := Tryz.underlying302
  a35 := Tryz.isAgg302
  z35 := Tryz.sizeOf302
  v35 := Tryz.zeroValue302
  t36 := Tryz.underlying303
  a36 := Tryz.isAgg303
  z36 := Tryz.sizeOf303
  v36 := Tryz.zeroValue303
  t41 := Tryz.underlying307
  a41 := Tryz.isAgg307
  z41 := Tryz.sizeOf307
  v41 := Tryz.zeroValue307
  t44 := Tryz.underlying25
  a44 := Tryz.isAgg25
  z44 := Tryz.sizeOf25
  v44 := Tryz.zeroValue25
  t46 := Tryz.underlying181
  a46 := Tryz.isAgg181
  z46 := Tryz.sizeOf181
  v46 := Tryz.zeroValue181
  t53 := Tryz.underlying367
  a53 := Tryz.isAgg367
  z53 := Tryz.sizeOf367
  v53 := Tryz.zeroValue367
  t57 := Tryz.underlying371
  a57 := Tryz.isAgg371
  z57 := Tryz.sizeOf371
  v57 := Tryz.zeroValue371
  t63 := Tryz.underlying413
  a63 := Tryz.isAgg413
  z63 := Tryz.sizeOf413
  v63 := Tryz.zeroValue413
  t64 := Tryz.underlying212
  a64 := Tryz.isAgg212
  z64 := Tryz.sizeOf212
  v64 := Tryz.zeroValue212 }
def Tryz.sortI_ren : Go.Shelf.Ren := ⟨fun | 5 => 103 | 8 => 122 | 7 => 171 | 19 => 191 | 20 => 192 | 10 => 230 | 11 => 231 | 12 => 232 | 13 => 233 | 14 => 234 | 15 => 235 | 16 => 236 | 17 => 237 | 18 => 238 | 30 => 296 | 31 => 264 | 32 => 265 | 33 => 297 | 34 => 298 | 35 => 299 | 40 => 347 | n => n, fun | 23 => 83 | 25 => 3 | 3 => 3 | 32 => 242 | 22 => 83 | 0 => 0 | 44 => 25 | 46 => 181 | 4 => 4 | 36 => 303 | 35 => 302 | 41 => 307 | 5 => 5 | 9 => 9 | 53 => 367 | 57 => 371 | 63 => 413 | 64 => 212 | n => n, fun | n => n⟩
theorem Tryz.sortI : Go.Proofs.SlLaysM.n5 Tryz.prog Tryz.sortI_ren := {
  mixed := by kernel_rfl
  f5 := ⟨Tryz.f103.name, by decide, Tryz.func103.trans (congrArg some (by kernel_rfl))⟩
  f7 := ⟨Tryz.f171.name, by decide, Tryz.func171.trans (congrArg some (by kernel_rfl))⟩
  f8 := Tryz.func122.trans (congrArg some (by kernel_rfl))
  f10 := ⟨Tryz.f230.name, by decide, Tryz.func230.trans (congrArg some (by kernel_rfl))⟩
  f11 := ⟨Tryz.f231.name, by decide, Tryz.func231.trans (congrArg some (by kernel_rfl))⟩
  f12 := ⟨Tryz.f232.name, by decide, Tryz.func232.trans (congrArg some (by kernel_rfl))⟩
  f13 := ⟨Tryz.f233.name, by decide, Tryz.func233.trans (congrArg some (by kernel_rfl))⟩
  f14 := ⟨Tryz.f234.name, by decide, Tryz.func234.trans (congrArg some (by kernel_rfl))⟩
  f15 := ⟨Tryz.f235.name, by decide, Tryz.func235.trans (congrArg some (by kernel_rfl))⟩
  f16 := ⟨Tryz.f236.name, by decide, Tryz.func236.trans (congrArg some (by kernel_rfl))⟩
  f17 := ⟨Tryz.f237.name, by decide, Tryz.func237.trans (congrArg some (by kernel_rfl))⟩
  f18 := ⟨Tryz.f238.name, by decide, Tryz.func238.trans (congrArg some (by kernel_rfl))⟩
  f19 := Tryz.func191.trans (congrArg some (by kernel_rfl))
  f20 := Tryz.func192.trans (congrArg some (by kernel_rfl))
  f30 := ⟨Tryz.f296.name, by decide, Tryz.func296.trans (congrArg some (by kernel_rfl))⟩
  f31 := Tryz.func264.trans (congrArg some (by kernel_rfl))
  f32 := Tryz.func265.trans (congrArg some (by kernel_rfl))
  f33 := ⟨Tryz.f297.name, by decide, Tryz.func297.trans (congrArg some (by kernel_rfl))⟩
  f34 := ⟨Tryz.f298.name, by decide, Tryz.func298.trans (congrArg some (by kernel_rfl))⟩
  f35 := ⟨Tryz.f299.name, by decide, Tryz.func299.trans (congrArg some (by kernel_rfl))⟩
  f40 := ⟨Tryz.f347.name, by decide, Tryz.func347.trans (congrArg some (by kernel_rfl))⟩
  t0 := Tryz.underlying0
  a0 := Tryz.isAgg0
  z0 := Tryz.sizeOf0
  v0 := Tryz.zeroValue0
  t3 := Tryz.underlying3
  a3 := Tryz.isAgg3
  z3 := Tryz.sizeOf3
  v3 := Tryz.zeroValue3
  t4 := Tryz.underlying4
  a4 := Tryz.isAgg4
  z4 := Tryz.sizeOf4
  v4 := Tryz.zeroValue4
  t5 := Tryz.underlying5
  a5 := Tryz.isAgg5
  z5 := Tryz.sizeOf5
  v5 := Tryz.zeroValue5
  t9 := Tryz.underlying9
  a9 := Tryz.isAgg9
  z9 := Tryz.sizeOf9
  v9 := Tryz.zeroValue9
  t22 := Tryz.underlying83
  a22 := Tryz.isAgg83
  z22 := Tryz.sizeOf83
  v22 := Tryz.zeroValue83
  t23 := Tryz.underlying83
  a23 := Tryz.isAgg83
  z23 := Tryz.sizeOf83
  v23 := Tryz.zeroValue83
  t25 := Tryz.underlying3
  a25 := Tryz.isAgg3
  z25 := Tryz.sizeOf3
  v25 := Tryz.zeroValue3
  t32 := Tryz.underlying242
  a32 := Tryz.isAgg242
  z32 := Tryz.sizeOf242
  v32 := Tryz.zeroValue242
  t35 := Tryz.underlying302
  a35 := Tryz.isAgg302
  z35 := Tryz.sizeOf302
  v35 := Tryz.zeroValue302
  t36 := Tryz.underlying303
  a36 := Tryz.isAgg303
  z36 := Tryz.sizeOf303
  v36 := Tryz.zeroValue303
  t41 := Tryz.underlying307
  a41 := Tryz.isAgg307
  z41 := Tryz.sizeOf307
  v41 := Tryz.zeroValue307
  t44 := Tryz.underlying25
  a44 := Tryz.isAgg25
  z44 := Tryz.sizeOf25
  v44 := Tryz.zeroValue25
  t46 := Tryz.underlying181
  a46 := Tryz.isAgg181
  z46 := Tryz.sizeOf181
  v46 := Tryz.zeroValue181
  t53 := Tryz.underlying367
  a53 := Tryz.isAgg367
  z53 := Tryz.sizeOf367
  v53 := Tryz.zeroValue367
  t57 := Tryz.underlying371
  a57 := Tryz.isAgg371
  z57 := Tryz.sizeOf371
  v57 := Tryz.zeroValue371
  t63 := Tryz.underlying413
  a63 := Tryz.isAgg413
  z63 := Tryz.sizeOf413
  v63 := Tryz.zeroValue413
  t64 := Tryz.underlying212
  a64 := Tryz.isAgg212
  z64 := Tryz.sizeOf212
  v64 := Tryz.zeroValue212 }
def Tryz.sorted_ren : Go.Shelf.Ren := ⟨fun | 6 => 172 | 8 => 239 | 9 => 61 | 11 => 300 | 13 => 122 | 12 => 121 | 23 => 191 | 24 => 192 | 14 => 182 | 15 => 183 | 16 => 184 | 17 => 185 | 18 => 186 | 19 => 187 | 20 => 188 | 21 => 189 | 22 => 190 | 25 => 263 | 26 => 264 | 27 => 265 | 28 => 266 | 29 => 267 | 30 => 254 | 31 => 319 | n => n, fun | 26 => 9 | 28 => 283 | 24 => 37 | 0 => 0 | 3 => 3 | 37 => 242 | 48 => 25 | 50 => 181 | 4 => 4 | 40 => 303 | 39 => 302 | 45 => 307 | 5 => 5 | 9 => 9 | 51 => 367 | 55 => 371 | 57 => 413 | 58 => 212 | 33 => 101 | n => n, fun | n => n⟩
theorem Tryz.sorted : Go.Proofs.SlLaysZ.n6 Tryz.prog Tryz.sorted_ren := {
  mixed := by kernel_rfl
  f6 := ⟨Tryz.f172.name, by decide, Tryz.func172.trans (congrArg some (by kernel_rfl))⟩
  f8 := ⟨Tryz.f239.name, by decide, Tryz.func239.trans (congrArg some (by kernel_rfl))⟩
  f11 := ⟨Tryz.f300.name, by decide, Tryz.func300.trans (congrArg some (by kernel_rfl))⟩
  t0 := Tryz.underlying0
  a0 := Tryz.isAgg0
  z0 := Tryz.sizeOf0
  v0 := Tryz.zeroValue0
  t24 := Tryz.underlying37
  a24 := Tryz.isAgg37
  z24 := Tryz.sizeOf37
  v24 := Tryz.zeroValue37
  t26 := Tryz.underlying9
  a26 := Tryz.isAgg9
  z26 := Tryz.sizeOf9
  v26 := Tryz.zeroValue9
  t28 := Tryz.underlying283
  a28 := Tryz.isAgg283
  z28 := Tryz.sizeOf283
  v28 := Tryz.zeroValue283
  i26 := by kernel_rfl }
def Tryz.keys173_ren : Go.Shelf.Ren := ⟨fun | 7 => 173 | 10 => 240 | n => n, fun | 23 => 150 | 26 => 9 | 3 => 217 | 28 => 283 | 0 => 0 | 27 => 282 | 33 => 101 | 4 => 4 | n => n, fun | n => n⟩
theorem Tryz.keys173 : Go.Proofs.SlLaysZ.n7 Tryz.prog Tryz.keys173_ren := {
  mixed := by kernel_rfl
  f7 := ⟨Tryz.f173.name, by decide, Tryz.func173.trans (congrArg some (by kernel_rfl))⟩
  f10 := ⟨Tryz.f240.name, by decide, Tryz.func240.trans (congrArg some (by kernel_rfl))⟩
  t0 := Tryz.underlying0
  a0 := Tryz.isAgg0
  z0 := Tryz.sizeOf0
  v0 := Tryz.zeroValue0
  t4 := Tryz.underlying4
  a4 := Tryz.isAgg4
  z4 := Tryz.sizeOf4
  v4 := Tryz.zeroValue4
  t23 := Tryz.underlying150
  a23 := Tryz.isAgg150
  z23 := Tryz.sizeOf150
  v23 := Tryz.zeroValue150
  t26 := Tryz.underlying9
  a26 := Tryz.isAgg9
  z26 := Tryz.sizeOf9
  v26 := Tryz.zeroValue9
  t27 := Tryz.underlying282
  a27 := Tryz.isAgg282
  z27 := Tryz.sizeOf282
  v27 := Tryz.zeroValue282
  t28 := Tryz.underlying283
  a28 := Tryz.isAgg283
  z28 := Tryz.sizeOf283
  v28 := Tryz.zeroValue283
  t33 := Tryz.underlying101
  a33 := Tryz.isAgg101
  z33 := Tryz.sizeOf101
  v33 := Tryz.zeroValue101 }
end Go.Proofs
