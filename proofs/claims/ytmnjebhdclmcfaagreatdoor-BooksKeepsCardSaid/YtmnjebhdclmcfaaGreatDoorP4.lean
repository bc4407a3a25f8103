/- Several texts in one: Tab Shelf Lay. -/
import Derived.Test.YtmnjebhdclmcfaaGreatDoorP3
import Derived.Test.YtmnjebhdclmcfaaGreatDoorProg
import Derived.KernelRfl
import Derived.Shelf.Strings.Builder1
import Derived.Shelf.Strings.Builder2
import Derived.Shelf.Strings.OnBuilder
import Derived.Shelf.Small.Utf8
import Derived.Shelf.Small.Strs
import Derived.Shelf.Strconv.ParseIntEmpty
import Derived.Shelf.LaysM
import Derived.Shelf.Strconv.Clone
import Derived.Shelf.Strconv.SyntaxError
import Derived.Shelf.LaysC
import Derived.Shelf.Strconv.ToError
import Derived.Shelf.Strconv.Lower
import Derived.Shelf.Strconv.ParseUint10
import Derived.Shelf.Strconv.ParseUint10Empty
import Derived.Shelf.Strconv.ParseUint10Any
import Derived.Shelf.Strconv.ParseInt10
import Derived.Shelf.Strconv.RangeError
import Derived.Shelf.Strconv.ToErrorRange
import Derived.Shelf.Strconv.ParseUintEmpty
import Derived.Shelf.Strconv.ParseUint10b64
import Derived.Shelf.Strconv.ParseUint10b32
import Derived.Shelf.Strconv.ParseUint10b16
import Derived.Shelf.Strconv.ParseUint10b8
import Derived.Shelf.Strconv.ParseUint10At
import Derived.Shelf.Strconv.ParseInt10At64
import Derived.Shelf.Strconv.ParseInt10At32
import Derived.Shelf.Strconv.ParseInt10At16
import Derived.Shelf.Strconv.ParseInt10At8
import Derived.Shelf.Strconv.ParseInt10All
import Derived.Shelf.Strconv.ParseIntPublic10
import Derived.Shelf.Strings.Search1
import Derived.Shelf.Strings.Search2
import Derived.Shelf.Strings.Search3
import Derived.Shelf.Strings.Count
import Derived.Shelf.Strings.Shaped
import Derived.Shelf.Strings.Split
import Derived.Shelf.Strings.Runes
import Derived.Shelf.Bits.Mul64
import Derived.Shelf.Unicode.DecodeSlow
import Derived.Ground.SlgmProg
import Derived.Shelf.SortM.Plain
import Derived.Shelf.SortM.SortNone
import Derived.Shelf.SlGeneric
import Derived.Shelf.SlIter.Nil
import Derived.Ground.GgzProg
set_option linter.unusedVariables false
set_option linter.unusedSimpArgs false
namespace Go.Proofs.YtmnjebhdclmcfaaGreatDoor
open Go.Sy
set_option maxRecDepth 100000
def T:Tab:= [
 (2,⟨1,2,[.int .i64 0],[],[],.i64,0,0,false,[],0,[],false,false,false⟩),
 (3,⟨1,2,[.int .i64 0],[],[],.i64,0,0,false,[],0,[],false,false,false⟩),
 (4,⟨1,1,[.bool false],[],[],.i64,0,0,false,[],0,[],false,false,false⟩),
 (5,⟨1,2,[.int .u8 0],[],[],.u8,0,0,false,[],0,[],false,false,false⟩),
 (9,⟨1,3,[.str ⟨#[]⟩],[],[],.i64,0,0,false,[],0,[],false,false,false⟩),
 (12,⟨1,2,[.int .u64 0],[],[],.u64,0,0,false,[],0,[],false,false,false⟩),
 (15,⟨1,7,[.nptr],[],[],.i64,0,0,false,[],0,[],false,false,false⟩),
 (16,⟨1,7,[.nptr],[],[],.i64,0,0,false,[],0,[],false,false,false⟩),
 (17,⟨1,7,[.nptr],[],[],.i64,0,0,false,[],0,[],false,false,false⟩),
 (20,⟨1,9,[.nif],[],[],.i64,0,0,false,[],0,[],false,false,false⟩),
 (21,⟨1,2,[.int .i32 0],[],[],.i32,0,0,false,[],0,[],false,false,false⟩),
 (22,⟨1,6,[.nsl],[],[],.i64,1,0,false,[.str ⟨#[]⟩],16,[],false,false,false⟩),
 (23,⟨1,6,[.nsl],[],[],.i64,1,0,false,[.int .i64 0],8,[],false,false,false⟩),
 (24,⟨5,4,[.nsl,.str ⟨#[]⟩,.nsl,.int .i64 0,.int .i64 0],[],[(0,1,false),(1,1,false),(2,1,false),(3,1,false),(4,1,false)],.i64,0,0,false,[],0,[],true,false,false⟩),
 (25,⟨5,4,[.nsl,.str ⟨#[]⟩,.nsl,.int .i64 0,.int .i64 0],[],[(0,1,false),(1,1,false),(2,1,false),(3,1,false),(4,1,false)],.i64,0,0,false,[],0,[],true,false,false⟩),
 (26,⟨1,6,[.nsl],[],[],.i64,4,0,false,[.nsl,.bool false,.int .i64 0,.int .u64 0],48,[],false,false,true⟩),
 (28,⟨1,7,[.nptr],[],[],.i64,0,0,false,[],0,[],false,false,false⟩),
 (29,⟨1,2,[.int .i64 0],[],[],.i64,0,0,false,[],0,[],false,false,false⟩),
 (32,⟨1,7,[.nptr],[],[],.i64,0,0,false,[],0,[],false,false,false⟩),
 (35,⟨1,7,[.nptr],[],[],.i64,0,0,false,[],0,[],false,false,false⟩),
 (38,⟨1,7,[.nptr],[],[],.i64,0,0,false,[],0,[],false,false,false⟩),
 (41,⟨5,4,[.nsl,.str ⟨#[]⟩,.nsl,.int .i64 0,.int .i64 0],[],[(0,1,false),(1,1,false),(2,1,false),(3,1,false),(4,1,false)],.i64,0,0,false,[],0,[],true,false,false⟩),
 (42,⟨1,6,[.nsl],[],[],.i64,9,0,false,[.int .i64 0,.int .i64 0,.str ⟨#[]⟩,.str ⟨#[]⟩,.str ⟨#[]⟩,.str ⟨#[]⟩,.int .i64 0,.int .i64 0,.bool false],104,[],false,false,true⟩),
 (43,⟨1,2,[.int .u64 0],[],[],.u64,0,0,false,[],0,[],false,false,false⟩),
 (44,⟨4,4,[.nsl,.bool false,.int .i64 0,.int .u64 0],[],[(0,1,false),(1,1,false),(2,1,false),(3,1,false)],.i64,0,0,false,[],0,[],true,false,false⟩),
 (45,⟨4,4,[.nsl,.bool false,.int .i64 0,.int .u64 0],[],[(0,1,false),(1,1,false),(2,1,false),(3,1,false)],.i64,0,0,false,[],0,[],true,false,false⟩),
 (51,⟨1,6,[.nsl],[],[],.i64,9,0,false,[.int .i64 0,.int .i64 0,.str ⟨#[]⟩,.str ⟨#[]⟩,.str ⟨#[]⟩,.str ⟨#[]⟩,.int .i64 0,.int .i64 0,.bool false],104,[],false,false,true⟩),
 (54,⟨1,7,[.nptr],[],[],.i64,0,0,false,[],0,[],false,false,false⟩),
 (57,⟨1,7,[.nptr],[],[],.i64,0,0,false,[],0,[],false,false,false⟩),
 (63,⟨9,4,[.int .i64 0,.int .i64 0,.str ⟨#[]⟩,.str ⟨#[]⟩,.str ⟨#[]⟩,.str ⟨#[]⟩,.int .i64 0,.int .i64 0,.bool false],[],[(0,1,false),(1,1,false),(2,1,false),(3,1,false),(4,1,false),(5,1,false),(6,1,false),(7,1,false),(8,1,false)],.i64,0,0,false,[],0,[2,2,3,3,3,3,2,2,1],true,false,false⟩),
 (64,⟨9,4,[.int .i64 0,.int .i64 0,.str ⟨#[]⟩,.str ⟨#[]⟩,.str ⟨#[]⟩,.str ⟨#[]⟩,.int .i64 0,.int .i64 0,.bool false],[],[(0,1,false),(1,1,false),(2,1,false),(3,1,false),(4,1,false),(5,1,false),(6,1,false),(7,1,false),(8,1,false)],.i64,0,0,false,[],0,[2,2,3,3,3,3,2,2,1],true,false,false⟩),
 (66,⟨10,4,[.str ⟨#[]⟩,.str ⟨#[]⟩,.int .i64 0,.int .i64 0,.int .i64 0,.int .i64 0,.int .i64 0,.int .i64 0,.int .i64 0,.int .i64 0],[],[(0,1,false),(1,1,false),(2,1,false),(3,1,false),(4,1,false),(5,1,false),(6,1,false),(7,1,false),(8,1,false),(9,1,false)],.i64,0,0,false,[],0,[3,3,2,2,2,2,2,2,2,2],true,false,false⟩),
 (67,⟨10,4,[.str ⟨#[]⟩,.str ⟨#[]⟩,.int .i64 0,.int .i64 0,.int .i64 0,.int .i64 0,.int .i64 0,.int .i64 0,.int .i64 0,.int .i64 0],[],[(0,1,false),(1,1,false),(2,1,false),(3,1,false),(4,1,false),(5,1,false),(6,1,false),(7,1,false),(8,1,false),(9,1,false)],.i64,0,0,false,[],0,[3,3,2,2,2,2,2,2,2,2],true,false,false⟩),
 (73,⟨1,6,[.nsl],[],[],.i64,3,0,false,[.str ⟨#[]⟩,.int .i64 0,.str ⟨#[]⟩],40,[],false,false,true⟩),
 (75,⟨1,6,[.nsl],[],[],.i64,2,0,false,[.int .i64 0,.str ⟨#[]⟩],24,[],false,false,true⟩),
 (76,⟨6,4,[.nsl,.nsl,.nsl,.bool false,.int .i64 0,.int .u64 0],[],[(0,1,false),(1,1,false),(2,1,false),(3,1,false),(4,1,false),(5,1,false)],.i64,0,0,false,[],0,[],true,false,false⟩),
 (77,⟨6,4,[.nsl,.nsl,.nsl,.bool false,.int .i64 0,.int .u64 0],[],[(0,1,false),(1,1,false),(2,1,false),(3,1,false),(4,1,false),(5,1,false)],.i64,0,0,false,[],0,[],true,false,false⟩),
 (78,⟨1,6,[.nsl],[],[],.i64,2,0,false,[.int .i64 0,.str ⟨#[]⟩],24,[],false,false,true⟩),
 (79,⟨5,4,[.nsl,.nsl,.bool false,.int .i64 0,.int .u64 0],[],[(0,1,false),(1,1,false),(2,1,false),(3,1,false),(4,1,false)],.i64,0,0,false,[],0,[],true,false,false⟩),
 (80,⟨5,4,[.nsl,.nsl,.bool false,.int .i64 0,.int .u64 0],[],[(0,1,false),(1,1,false),(2,1,false),(3,1,false),(4,1,false)],.i64,0,0,false,[],0,[],true,false,false⟩),
 (83,⟨1,7,[.nptr],[],[],.i64,0,0,false,[],0,[],false,false,false⟩),
 (88,⟨9,4,[.nsl,.str ⟨#[]⟩,.nsl,.int .i64 0,.int .i64 0,.nptr,.nptr,.nsl,.bool false],[],[(0,5,true),(5,1,false),(6,1,false),(7,1,false),(8,1,false)],.i64,0,0,false,[],0,[],true,false,false⟩),
 (89,⟨9,4,[.nsl,.str ⟨#[]⟩,.nsl,.int .i64 0,.int .i64 0,.nptr,.nptr,.nsl,.bool false],[],[(0,5,true),(5,1,false),(6,1,false),(7,1,false),(8,1,false)],.i64,0,0,false,[],0,[],true,false,false⟩),
 (91,⟨1,7,[.nptr],[],[],.i64,0,0,false,[],0,[],false,false,false⟩),
 (92,⟨9,4,[.nsl,.str ⟨#[]⟩,.nsl,.int .i64 0,.int .i64 0,.nptr,.nptr,.int .i64 0,.bool false],[],[(0,5,true),(5,1,false),(6,1,false),(7,1,false),(8,1,false)],.i64,0,0,false,[],0,[],true,false,false⟩),
 (93,⟨9,4,[.nsl,.str ⟨#[]⟩,.nsl,.int .i64 0,.int .i64 0,.nptr,.nptr,.int .i64 0,.bool false],[],[(0,5,true),(5,1,false),(6,1,false),(7,1,false),(8,1,false)],.i64,0,0,false,[],0,[],true,false,false⟩),
 (96,⟨9,4,[.int .i64 0,.int .i64 0,.str ⟨#[]⟩,.str ⟨#[]⟩,.str ⟨#[]⟩,.str ⟨#[]⟩,.int .i64 0,.int .i64 0,.bool false],[],[(0,1,false),(1,1,false),(2,1,false),(3,1,false),(4,1,false),(5,1,false),(6,1,false),(7,1,false),(8,1,false)],.i64,0,0,false,[],0,[2,2,3,3,3,3,2,2,1],true,false,false⟩),
 (98,⟨1,7,[.nptr],[],[],.i64,0,0,false,[],0,[],false,false,false⟩),
 (99,⟨1,6,[.nsl],[],[],.i64,1,0,false,[.int .u8 0],1,[],false,true,false⟩),
 (100,⟨2,4,[.nptr,.nsl],[],[(0,1,false),(1,1,false)],.i64,0,0,false,[],0,[],true,false,false⟩),
 (101,⟨2,4,[.nptr,.nsl],[],[(0,1,false),(1,1,false)],.i64,0,1,false,[],0,[],true,false,false⟩),
 (102,⟨1,6,[.nsl],[],[],.i64,10,0,false,[.str ⟨#[]⟩,.str ⟨#[]⟩,.int .i64 0,.int .i64 0,.int .i64 0,.int .i64 0,.int .i64 0,.int .i64 0,.int .i64 0,.int .i64 0],96,[],false,false,true⟩),
 (103,⟨1,8,[.nmap],[],[],.i64,1,3,false,[.int .i64 0],0,[],true,false,false⟩),
 (104,⟨1,7,[.nptr],[],[],.i64,0,0,false,[],0,[],false,false,false⟩),
 (105,⟨1,7,[.nptr],[],[],.i64,0,0,false,[],0,[],false,false,false⟩),
 (106,⟨8,4,[.str ⟨#[]⟩,.int .i64 0,.nsl,.nmap,.nptr,.int .i64 0,.nptr,.int .i64 0],[],[(0,1,false),(1,1,false),(2,1,false),(3,1,false),(4,1,false),(5,1,false),(6,1,false),(7,1,false)],.i64,0,0,false,[],0,[],true,false,false⟩),
 (107,⟨8,4,[.str ⟨#[]⟩,.int .i64 0,.nsl,.nmap,.nptr,.int .i64 0,.nptr,.int .i64 0],[],[(0,1,false),(1,1,false),(2,1,false),(3,1,false),(4,1,false),(5,1,false),(6,1,false),(7,1,false)],.i64,0,0,false,[],0,[],true,false,false⟩),
 (108,⟨1,9,[.nif],[],[],.i64,0,0,false,[],0,[],false,false,false⟩),
 (109,⟨1,9,[.nif],[],[],.i64,0,0,false,[],0,[],false,false,false⟩),
 (116,⟨1,7,[.nptr],[],[],.i64,0,0,false,[],0,[],false,false,false⟩),
 (117,⟨1,7,[.nptr],[],[],.i64,0,0,false,[],0,[],false,false,false⟩),
 (118,⟨9,4,[.nsl,.str ⟨#[]⟩,.nsl,.int .i64 0,.int .i64 0,.nsl,.nptr,.nptr,.int .i64 0],[],[(0,5,true),(5,1,false),(6,1,false),(7,1,false),(8,1,false)],.i64,0,0,false,[],0,[],true,false,false⟩),
 (119,⟨9,4,[.nsl,.str ⟨#[]⟩,.nsl,.int .i64 0,.int .i64 0,.nsl,.nptr,.nptr,.int .i64 0],[],[(0,5,true),(5,1,false),(6,1,false),(7,1,false),(8,1,false)],.i64,0,0,false,[],0,[],true,false,false⟩),
 (122,⟨1,7,[.nptr],[],[],.i64,0,0,false,[],0,[],false,false,false⟩),
 (130,⟨1,9,[.nif],[],[],.i64,0,0,false,[],0,[],false,false,false⟩),
 (131,⟨1,9,[.nif],[],[],.i64,0,0,false,[],0,[],false,false,false⟩),
 (142,⟨1,7,[.nptr],[],[],.i64,0,0,false,[],0,[],false,false,false⟩),
 (149,⟨1,6,[.nsl],[],[],.i64,1,0,false,[.nsl],24,[],false,false,false⟩),
 (150,⟨6,4,[.nptr,.nsl,.nsl,.int .i64 0,.int .u64 0,.bool false],[],[(0,1,false),(1,1,false),(2,1,false),(3,1,false),(4,1,false),(5,1,false)],.i64,0,0,false,[],0,[],true,false,false⟩),
 (151,⟨6,4,[.nptr,.nsl,.nsl,.int .i64 0,.int .u64 0,.bool false],[],[(0,1,false),(1,1,false),(2,1,false),(3,1,false),(4,1,false),(5,1,false)],.i64,0,0,false,[],0,[],true,false,false⟩),
 (156,⟨64,5,[.bool false,.bool false,.bool false,.bool false,.bool false,.bool false,.bool false,.bool false,.bool false,.bool false,.bool false,.bool false,.bool false,.bool false,.bool false,.bool false,.bool false,.bool false,.bool false,.bool false,.bool false,.bool false,.bool false,.bool false,.bool false,.bool false,.bool false,.bool false,.bool false,.bool false,.bool false,.bool false,.bool false,.bool false,.bool false,.bool false,.bool false,.bool false,.bool false,.bool false,.bool false,.bool false,.bool false,.bool false,.bool false,.bool false,.bool false,.bool false,.bool false,.bool false,.bool false,.bool false,.bool false,.bool false,.bool false,.bool false,.bool false,.bool false,.bool false,.bool false,.bool false,.bool false,.bool false,.bool false],[.bools [false,false,false,false,false,false,false,false,false,false,false,false,false,false,false,false,false,false,false,false,false,false,false,false,false,false,false,false,false,false,false,false,false,false,false,false,false,false,false,false,false,false,false,false,false,false,false,false,false,false,false,false,false,false,false,false,false,false,false,false,false,false,false,false]],[],.i64,1,64,false,[],0,[],true,false,false⟩),
 (158,⟨2,4,[.int .i64 0,.str ⟨#[]⟩],[],[(0,1,false),(1,1,false)],.i64,0,0,false,[],0,[2,3],true,false,false⟩),
 (159,⟨2,4,[.int .i64 0,.str ⟨#[]⟩],[],[(0,1,false),(1,1,false)],.i64,0,0,false,[],0,[2,3],true,false,false⟩),
 (160,⟨1,2,[.int .u64 0],[],[],.u64,0,0,false,[],0,[],false,false,false⟩),
 (161,⟨2,4,[.int .i64 0,.str ⟨#[]⟩],[],[(0,1,false),(1,1,false)],.i64,0,0,false,[],0,[2,3],true,false,false⟩),
 (162,⟨2,4,[.int .i64 0,.str ⟨#[]⟩],[],[(0,1,false),(1,1,false)],.i64,0,0,false,[],0,[2,3],true,false,false⟩),
 (163,⟨7,4,[.nptr,.nsl,.int .i64 0,.int .i64 0,.int .u64 0,.nsl,.bool false],[],[(0,1,false),(1,1,false),(2,1,false),(3,1,false),(4,1,false),(5,1,false),(6,1,false)],.i64,0,0,false,[],0,[],true,false,false⟩),
 (164,⟨7,4,[.nptr,.nsl,.int .i64 0,.int .i64 0,.int .u64 0,.nsl,.bool false],[],[(0,1,false),(1,1,false),(2,1,false),(3,1,false),(4,1,false),(5,1,false),(6,1,false)],.i64,0,0,false,[],0,[],true,false,false⟩),
 (174,⟨1,6,[.nsl],[],[],.i64,1,0,false,[.int .i64 0],8,[],false,false,false⟩),
 (176,⟨1,8,[.nmap],[],[],.i64,1,3,false,[.bool false],0,[],true,false,false⟩),
 (177,⟨1,6,[.nsl],[],[],.i64,3,0,false,[.str ⟨#[]⟩,.int .i64 0,.nsl],48,[],false,false,true⟩),
 (178,⟨1,8,[.nmap],[],[],.i64,1,0,false,[.int .i64 0],0,[3,3],true,false,false⟩),
 (179,⟨6,4,[.nmap,.nsl,.nmap,.nmap,.nmap,.int .u64 0],[],[(0,1,false),(1,1,false),(2,1,false),(3,1,false),(4,1,false),(5,1,false)],.i64,0,0,false,[],0,[],true,false,false⟩),
 (180,⟨6,4,[.nmap,.nsl,.nmap,.nmap,.nmap,.int .u64 0],[],[(0,1,false),(1,1,false),(2,1,false),(3,1,false),(4,1,false),(5,1,false)],.i64,0,0,false,[],0,[],true,false,false⟩),
 (181,⟨1,7,[.nptr],[],[],.i64,0,0,false,[],0,[],false,false,false⟩),
 (182,⟨4,4,[.nsl,.nsl,.nsl,.nsl],[],[(0,1,false),(1,1,false),(2,1,false),(3,1,false)],.i64,0,0,false,[],0,[],true,false,false⟩),
 (183,⟨4,4,[.nsl,.nsl,.nsl,.nsl],[],[(0,1,false),(1,1,false),(2,1,false),(3,1,false)],.i64,0,0,false,[],0,[],true,false,false⟩),
 (185,⟨1,6,[.nsl],[],[],.i64,3,0,false,[.str ⟨#[]⟩,.int .i64 0,.str ⟨#[]⟩],40,[],false,false,true⟩),
 (186,⟨3,4,[.str ⟨#[]⟩,.int .i64 0,.nsl],[],[(0,1,false),(1,1,false),(2,1,false)],.i64,0,0,false,[],0,[],true,false,false⟩),
 (187,⟨3,4,[.str ⟨#[]⟩,.int .i64 0,.nsl],[],[(0,1,false),(1,1,false),(2,1,false)],.i64,0,0,false,[],0,[],true,false,false⟩),
 (188,⟨1,8,[.nmap],[],[],.i64,1,2,false,[.bool false],0,[],true,false,false⟩),
 (189,⟨1,4,[.nmap],[],[(0,1,false)],.i64,0,0,false,[],0,[],true,false,false⟩),
 (190,⟨1,4,[.nmap],[],[(0,1,false)],.i64,0,0,false,[],0,[],true,false,false⟩),
 (192,⟨1,7,[.nptr],[],[],.i64,0,0,false,[],0,[],false,false,false⟩),
 (196,⟨1,8,[.nmap],[],[],.i64,1,2,false,[.nptr],0,[],true,false,false⟩),
 (197,⟨5,4,[.nptr,.int .i64 0,.nsl,.nmap,.nmap],[],[(0,1,false),(1,1,false),(2,1,false),(3,1,false),(4,1,false)],.i64,0,0,false,[],0,[],true,false,false⟩),
 (198,⟨5,4,[.nptr,.int .i64 0,.nsl,.nmap,.nmap],[],[(0,1,false),(1,1,false),(2,1,false),(3,1,false),(4,1,false)],.i64,0,0,false,[],0,[],true,false,false⟩),
 (201,⟨0,4,[],[],[],.i64,0,0,false,[],0,[],true,false,false⟩),
 (202,⟨0,4,[],[],[],.i64,0,0,false,[],0,[],true,false,false⟩),
 (203,⟨0,4,[],[],[],.i64,0,0,false,[],0,[],true,false,false⟩),
 (204,⟨0,4,[],[],[],.i64,0,0,false,[],0,[],true,false,false⟩),
 (205,⟨0,4,[],[],[],.i64,0,0,false,[],0,[],true,false,false⟩),
 (207,⟨2,4,[.str ⟨#[]⟩,.str ⟨#[]⟩],[],[(0,1,false),(1,1,false)],.i64,0,0,false,[],0,[3,3],true,false,false⟩),
 (208,⟨2,4,[.str ⟨#[]⟩,.str ⟨#[]⟩],[],[(0,1,false),(1,1,false)],.i64,0,0,false,[],0,[3,3],true,false,false⟩),
 (213,⟨1,4,[.nsl],[],[(0,1,false)],.i64,0,0,false,[],0,[],true,false,false⟩),
 (214,⟨1,4,[.nsl],[],[(0,1,false)],.i64,0,0,false,[],0,[],true,false,false⟩),
 (215,⟨1,7,[.nptr],[],[],.i64,0,0,false,[],0,[],false,false,false⟩),
 (218,⟨1,6,[.nsl],[],[],.i64,1,0,false,[.nptr],8,[],false,false,false⟩),
 (219,⟨4,4,[.nptr,.int .i64 0,.nsl,.nsl],[],[(0,1,false),(1,1,false),(2,1,false),(3,1,false)],.i64,0,0,false,[],0,[],true,false,false⟩),
 (220,⟨4,4,[.nptr,.int .i64 0,.nsl,.nsl],[],[(0,1,false),(1,1,false),(2,1,false),(3,1,false)],.i64,0,0,false,[],0,[],true,false,false⟩),
 (230,⟨8,5,[.bool false,.bool false,.bool false,.bool false,.bool false,.bool false,.bool false,.bool false],[.bools [false,false,false,false,false,false,false,false]],[],.i64,1,8,false,[],0,[],true,false,false⟩),
 (232,⟨1,6,[.nsl],[],[],.i64,1,0,false,[.bool false],1,[],false,false,false⟩),
 (253,⟨2,4,[.int .i64 0,.str ⟨#[]⟩],[],[(0,1,false),(1,1,false)],.i64,0,0,false,[],0,[2,3],true,false,false⟩),
 (254,⟨2,4,[.int .i64 0,.str ⟨#[]⟩],[],[(0,1,false),(1,1,false)],.i64,0,0,false,[],0,[2,3],true,false,false⟩),
 (255,⟨3,4,[.str ⟨#[]⟩,.int .i64 0,.str ⟨#[]⟩],[],[(0,1,false),(1,2,true)],.i64,0,0,false,[],0,[3,2,3],true,false,false⟩),
 (256,⟨3,4,[.str ⟨#[]⟩,.int .i64 0,.str ⟨#[]⟩],[],[(0,1,false),(1,2,true)],.i64,0,0,false,[],0,[3,2,3],true,false,false⟩),
 (257,⟨1,8,[.nmap],[],[],.i64,16,3,true,[.int .i64 0,.int .i64 0,.int .i64 0,.int .i64 0,.int .i64 0,.int .i64 0,.int .i64 0,.int .i64 0,.int .i64 0,.int .i64 0,.int .i64 0,.int .i64 0,.int .i64 0,.int .i64 0,.int .i64 0,.int .i64 0],0,[],true,false,true⟩),
 (258,⟨2,4,[.nsl,.nmap],[],[(0,1,false),(1,1,false)],.i64,0,0,false,[],0,[],true,false,false⟩),
 (259,⟨2,4,[.nsl,.nmap],[],[(0,1,false),(1,1,false)],.i64,0,0,false,[],0,[],true,false,false⟩),
 (263,⟨24,5,[.int .u8 0,.int .u8 0,.int .u8 0,.int .u8 0,.int .u8 0,.int .u8 0,.int .u8 0,.int .u8 0,.int .u8 0,.int .u8 0,.int .u8 0,.int .u8 0,.int .u8 0,.int .u8 0,.int .u8 0,.int .u8 0,.int .u8 0,.int .u8 0,.int .u8 0,.int .u8 0,.int .u8 0,.int .u8 0,.int .u8 0,.int .u8 0],[.ints .u8 [0,0,0,0,0,0,0,0,0,0,0,0,0,0,0,0,0,0,0,0,0,0,0,0]],[],.i64,1,24,false,[],0,[2],true,false,false⟩),
 (268,⟨16,5,[.int .i64 0,.int .i64 0,.int .i64 0,.int .i64 0,.int .i64 0,.int .i64 0,.int .i64 0,.int .i64 0,.int .i64 0,.int .i64 0,.int .i64 0,.int .i64 0,.int .i64 0,.int .i64 0,.int .i64 0,.int .i64 0],[.ints .i64 [0,0,0,0,0,0,0,0,0,0,0,0,0,0,0,0]],[],.i64,1,16,false,[],0,[2],true,false,false⟩),
 (269,⟨16,5,[.int .i64 0,.int .i64 0,.int .i64 0,.int .i64 0,.int .i64 0,.int .i64 0,.int .i64 0,.int .i64 0,.int .i64 0,.int .i64 0,.int .i64 0,.int .i64 0,.int .i64 0,.int .i64 0,.int .i64 0,.int .i64 0],[.ints .i64 [0,0,0,0,0,0,0,0,0,0,0,0,0,0,0,0]],[],.i64,1,16,false,[],0,[2],true,false,false⟩),
 (270,⟨3,4,[.str ⟨#[]⟩,.int .i64 0,.str ⟨#[]⟩],[],[(0,1,false),(1,2,true)],.i64,0,0,false,[],0,[3,2,3],true,false,false⟩),
 (271,⟨3,4,[.str ⟨#[]⟩,.int .i64 0,.str ⟨#[]⟩],[],[(0,1,false),(1,2,true)],.i64,0,0,false,[],0,[3,2,3],true,false,false⟩),
 (273,⟨2,4,[.nsl,.nsl],[],[(0,1,false),(1,1,false)],.i64,0,0,false,[],0,[],true,false,false⟩),
 (274,⟨2,4,[.nsl,.nsl],[],[(0,1,false),(1,1,false)],.i64,0,0,false,[],0,[],true,false,false⟩),
 (277,⟨8,5,[.int .u8 0,.int .u8 0,.int .u8 0,.int .u8 0,.int .u8 0,.int .u8 0,.int .u8 0,.int .u8 0],[.ints .u8 [0,0,0,0,0,0,0,0]],[],.i64,1,8,false,[],0,[2],true,false,false⟩),
 (291,⟨4,4,[.int .i64 0,.nptr,.bool false,.bool false],[],[(0,1,false),(1,1,false),(2,1,false),(3,1,false)],.i64,0,0,false,[],0,[],true,false,false⟩),
 (292,⟨4,4,[.int .i64 0,.nptr,.bool false,.bool false],[],[(0,1,false),(1,1,false),(2,1,false),(3,1,false)],.i64,0,0,false,[],0,[],true,false,false⟩),
 (293,⟨1,7,[.nptr],[],[],.i64,0,0,false,[],0,[],false,false,false⟩),
 (306,⟨20,5,[.int .u64 0,.int .u64 0,.int .u64 0,.int .u64 0,.int .u64 0,.int .u64 0,.int .u64 0,.int .u64 0,.int .u64 0,.int .u64 0,.int .u64 0,.int .u64 0,.int .u64 0,.int .u64 0,.int .u64 0,.int .u64 0,.int .u64 0,.int .u64 0,.int .u64 0,.int .u64 0],[.ints .u64 [0,0,0,0,0,0,0,0,0,0,0,0,0,0,0,0,0,0,0,0]],[],.i64,1,20,false,[],0,[2],true,false,false⟩),
 (307,⟨1,2,[.int .u32 0],[],[],.u32,0,0,false,[],0,[],false,false,false⟩),
 (308,⟨65,5,[.int .u8 0,.int .u8 0,.int .u8 0,.int .u8 0,.int .u8 0,.int .u8 0,.int .u8 0,.int .u8 0,.int .u8 0,.int .u8 0,.int .u8 0,.int .u8 0,.int .u8 0,.int .u8 0,.int .u8 0,.int .u8 0,.int .u8 0,.int .u8 0,.int .u8 0,.int .u8 0,.int .u8 0,.int .u8 0,.int .u8 0,.int .u8 0,.int .u8 0,.int .u8 0,.int .u8 0,.int .u8 0,.int .u8 0,.int .u8 0,.int .u8 0,.int .u8 0,.int .u8 0,.int .u8 0,.int .u8 0,.int .u8 0,.int .u8 0,.int .u8 0,.int .u8 0,.int .u8 0,.int .u8 0,.int .u8 0,.int .u8 0,.int .u8 0,.int .u8 0,.int .u8 0,.int .u8 0,.int .u8 0,.int .u8 0,.int .u8 0,.int .u8 0,.int .u8 0,.int .u8 0,.int .u8 0,.int .u8 0,.int .u8 0,.int .u8 0,.int .u8 0,.int .u8 0,.int .u8 0,.int .u8 0,.int .u8 0,.int .u8 0,.int .u8 0,.int .u8 0],[.ints .u8 [0,0,0,0,0,0,0,0,0,0,0,0,0,0,0,0,0,0,0,0,0,0,0,0,0,0,0,0,0,0,0,0,0,0,0,0,0,0,0,0,0,0,0,0,0,0,0,0,0,0,0,0,0,0,0,0,0,0,0,0,0,0,0,0,0]],[],.i64,1,65,false,[],0,[2],true,false,false⟩),
 (313,⟨1,7,[.nptr],[],[],.i64,0,0,false,[],0,[],false,false,false⟩),
 (323,⟨1,2,[.int .i64 0],[],[],.i64,0,0,false,[],0,[],false,false,false⟩),
 (332,⟨2,4,[.str ⟨#[]⟩,.int .i64 0],[],[(0,1,false),(1,1,false)],.i64,0,0,false,[],0,[3,2],true,false,false⟩),
 (333,⟨2,4,[.str ⟨#[]⟩,.int .i64 0],[],[(0,1,false),(1,1,false)],.i64,0,0,false,[],0,[3,2],true,false,false⟩),
 (345,⟨1,2,[.int .u64 0],[],[],.u64,0,0,false,[],0,[],false,false,false⟩),
 (348,⟨1,7,[.nptr],[],[],.i64,0,0,false,[],0,[],false,false,false⟩),
 (352,⟨32,5,[.int .u8 0,.int .u8 0,.int .u8 0,.int .u8 0,.int .u8 0,.int .u8 0,.int .u8 0,.int .u8 0,.int .u8 0,.int .u8 0,.int .u8 0,.int .u8 0,.int .u8 0,.int .u8 0,.int .u8 0,.int .u8 0,.int .u8 0,.int .u8 0,.int .u8 0,.int .u8 0,.int .u8 0,.int .u8 0,.int .u8 0,.int .u8 0,.int .u8 0,.int .u8 0,.int .u8 0,.int .u8 0,.int .u8 0,.int .u8 0,.int .u8 0,.int .u8 0],[.ints .u8 [0,0,0,0,0,0,0,0,0,0,0,0,0,0,0,0,0,0,0,0,0,0,0,0,0,0,0,0,0,0,0,0]],[],.i64,1,32,false,[],0,[2],true,false,false⟩),
 (353,⟨64,5,[.int .u8 0,.int .u8 0,.int .u8 0,.int .u8 0,.int .u8 0,.int .u8 0,.int .u8 0,.int .u8 0,.int .u8 0,.int .u8 0,.int .u8 0,.int .u8 0,.int .u8 0,.int .u8 0,.int .u8 0,.int .u8 0,.int .u8 0,.int .u8 0,.int .u8 0,.int .u8 0,.int .u8 0,.int .u8 0,.int .u8 0,.int .u8 0,.int .u8 0,.int .u8 0,.int .u8 0,.int .u8 0,.int .u8 0,.int .u8 0,.int .u8 0,.int .u8 0,.int .u8 0,.int .u8 0,.int .u8 0,.int .u8 0,.int .u8 0,.int .u8 0,.int .u8 0,.int .u8 0,.int .u8 0,.int .u8 0,.int .u8 0,.int .u8 0,.int .u8 0,.int .u8 0,.int .u8 0,.int .u8 0,.int .u8 0,.int .u8 0,.int .u8 0,.int .u8 0,.int .u8 0,.int .u8 0,.int .u8 0,.int .u8 0,.int .u8 0,.int .u8 0,.int .u8 0,.int .u8 0,.int .u8 0,.int .u8 0,.int .u8 0,.int .u8 0],[.ints .u8 [0,0,0,0,0,0,0,0,0,0,0,0,0,0,0,0,0,0,0,0,0,0,0,0,0,0,0,0,0,0,0,0,0,0,0,0,0,0,0,0,0,0,0,0,0,0,0,0,0,0,0,0,0,0,0,0,0,0,0,0,0,0,0,0]],[],.i64,1,64,false,[],0,[2],true,false,false⟩),
 (360,⟨1,7,[.nptr],[],[],.i64,0,0,false,[],0,[],false,false,false⟩),
 (369,⟨1,7,[.nptr],[],[],.i64,0,0,false,[],0,[],false,false,false⟩),
 (372,⟨3,4,[.str ⟨#[]⟩,.str ⟨#[]⟩,.nif],[],[(0,1,false),(1,1,false),(2,1,false)],.i64,0,0,false,[],0,[],true,false,false⟩),
 (373,⟨3,4,[.str ⟨#[]⟩,.str ⟨#[]⟩,.nif],[],[(0,1,false),(1,1,false),(2,1,false)],.i64,0,0,false,[],0,[],true,false,false⟩),
 (375,⟨256,5,[.int .u8 0,.int .u8 0,.int .u8 0,.int .u8 0,.int .u8 0,.int .u8 0,.int .u8 0,.int .u8 0,.int .u8 0,.int .u8 0,.int .u8 0,.int .u8 0,.int .u8 0,.int .u8 0,.int .u8 0,.int .u8 0,.int .u8 0,.int .u8 0,.int .u8 0,.int .u8 0,.int .u8 0,.int .u8 0,.int .u8 0,.int .u8 0,.int .u8 0,.int .u8 0,.int .u8 0,.int .u8 0,.int .u8 0,.int .u8 0,.int .u8 0,.int .u8 0,.int .u8 0,.int .u8 0,.int .u8 0,.int .u8 0,.int .u8 0,.int .u8 0,.int .u8 0,.int .u8 0,.int .u8 0,.int .u8 0,.int .u8 0,.int .u8 0,.int .u8 0,.int .u8 0,.int .u8 0,.int .u8 0,.int .u8 0,.int .u8 0,.int .u8 0,.int .u8 0,.int .u8 0,.int .u8 0,.int .u8 0,.int .u8 0,.int .u8 0,.int .u8 0,.int .u8 0,.int .u8 0,.int .u8 0,.int .u8 0,.int .u8 0,.int .u8 0,.int .u8 0,.int .u8 0,.int .u8 0,.int .u8 0,.int .u8 0,.int .u8 0,.int .u8 0,.int .u8 0,.int .u8 0,.int .u8 0,.int .u8 0,.int .u8 0,.int .u8 0,.int .u8 0,.int .u8 0,.int .u8 0,.int .u8 0,.int .u8 0,.int .u8 0,.int .u8 0,.int .u8 0,.int .u8 0,.int .u8 0,.int .u8 0,.int .u8 0,.int .u8 0,.int .u8 0,.int .u8 0,.int .u8 0,.int .u8 0,.int .u8 0,.int .u8 0,.int .u8 0,.int .u8 0,.int .u8 0,.int .u8 0,.int .u8 0,.int .u8 0,.int .u8 0,.int .u8 0,.int .u8 0,.int .u8 0,.int .u8 0,.int .u8 0,.int .u8 0,.int .u8 0,.int .u8 0,.int .u8 0,.int .u8 0,.int .u8 0,.int .u8 0,.int .u8 0,.int .u8 0,.int .u8 0,.int .u8 0,.int .u8 0,.int .u8 0,.int .u8 0,.int .u8 0,.int .u8 0,.int .u8 0,.int .u8 0,.int .u8 0,.int .u8 0,.int .u8 0,.int .u8 0,.int .u8 0,.int .u8 0,.int .u8 0,.int .u8 0,.int .u8 0,.int .u8 0,.int .u8 0,.int .u8 0,.int .u8 0,.int .u8 0,.int .u8 0,.int .u8 0,.int .u8 0,.int .u8 0,.int .u8 0,.int .u8 0,.int .u8 0,.int .u8 0,.int .u8 0,.int .u8 0,.int .u8 0,.int .u8 0,.int .u8 0,.int .u8 0,.int .u8 0,.int .u8 0,.int .u8 0,.int .u8 0,.int .u8 0,.int .u8 0,.int .u8 0,.int .u8 0,.int .u8 0,.int .u8 0,.int .u8 0,.int .u8 0,.int .u8 0,.int .u8 0,.int .u8 0,.int .u8 0,.int .u8 0,.int .u8 0,.int .u8 0,.int .u8 0,.int .u8 0,.int .u8 0,.int .u8 0,.int .u8 0,.int .u8 0,.int .u8 0,.int .u8 0,.int .u8 0,.int .u8 0,.int .u8 0,.int .u8 0,.int .u8 0,.int .u8 0,.int .u8 0,.int .u8 0,.int .u8 0,.int .u8 0,.int .u8 0,.int .u8 0,.int .u8 0,.int .u8 0,.int .u8 0,.int .u8 0,.int .u8 0,.int .u8 0,.int .u8 0,.int .u8 0,.int .u8 0,.int .u8 0,.int .u8 0,.int .u8 0,.int .u8 0,.int .u8 0,.int .u8 0,.int .u8 0,.int .u8 0,.int .u8 0,.int .u8 0,.int .u8 0,.int .u8 0,.int .u8 0,.int .u8 0,.int .u8 0,.int .u8 0,.int .u8 0,.int .u8 0,.int .u8 0,.int .u8 0,.int .u8 0,.int .u8 0,.int .u8 0,.int .u8 0,.int .u8 0,.int .u8 0,.int .u8 0,.int .u8 0,.int .u8 0,.int .u8 0,.int .u8 0,.int .u8 0,.int .u8 0,.int .u8 0,.int .u8 0,.int .u8 0,.int .u8 0,.int .u8 0,.int .u8 0,.int .u8 0,.int .u8 0,.int .u8 0,.int .u8 0,.int .u8 0,.int .u8 0,.int .u8 0,.int .u8 0,.int .u8 0,.int .u8 0,.int .u8 0,.int .u8 0,.int .u8 0,.int .u8 0,.int .u8 0],[.ints .u8 [0,0,0,0,0,0,0,0,0,0,0,0,0,0,0,0,0,0,0,0,0,0,0,0,0,0,0,0,0,0,0,0,0,0,0,0,0,0,0,0,0,0,0,0,0,0,0,0,0,0,0,0,0,0,0,0,0,0,0,0,0,0,0,0,0,0,0,0,0,0,0,0,0,0,0,0,0,0,0,0,0,0,0,0,0,0,0,0,0,0,0,0,0,0,0,0,0,0,0,0,0,0,0,0,0,0,0,0,0,0,0,0,0,0,0,0,0,0,0,0,0,0,0,0,0,0,0,0,0,0,0,0,0,0,0,0,0,0,0,0,0,0,0,0,0,0,0,0,0,0,0,0,0,0,0,0,0,0,0,0,0,0,0,0,0,0,0,0,0,0,0,0,0,0,0,0,0,0,0,0,0,0,0,0,0,0,0,0,0,0,0,0,0,0,0,0,0,0,0,0,0,0,0,0,0,0,0,0,0,0,0,0,0,0,0,0,0,0,0,0,0,0,0,0,0,0,0,0,0,0,0,0,0,0,0,0,0,0,0,0,0,0,0,0,0,0,0,0,0,0,0,0,0,0,0,0]],[],.i64,1,256,false,[],0,[2],true,false,false⟩),
 (376,⟨2,4,[.int .u8 0,.int .u8 0],[],[(0,1,false),(1,1,false)],.i64,0,0,false,[],0,[2,2],true,false,false⟩),
 (377,⟨2,4,[.int .u8 0,.int .u8 0],[],[(0,1,false),(1,1,false)],.i64,0,0,false,[],0,[2,2],true,false,false⟩),
 (378,⟨32,5,[.int .u8 0,.int .u8 0,.int .u8 0,.int .u8 0,.int .u8 0,.int .u8 0,.int .u8 0,.int .u8 0,.int .u8 0,.int .u8 0,.int .u8 0,.int .u8 0,.int .u8 0,.int .u8 0,.int .u8 0,.int .u8 0,.int .u8 0,.int .u8 0,.int .u8 0,.int .u8 0,.int .u8 0,.int .u8 0,.int .u8 0,.int .u8 0,.int .u8 0,.int .u8 0,.int .u8 0,.int .u8 0,.int .u8 0,.int .u8 0,.int .u8 0,.int .u8 0],[.ints .u8 [0,0,0,0,0,0,0,0,0,0,0,0,0,0,0,0],.ints .u8 [0,0,0,0,0,0,0,0,0,0,0,0,0,0,0,0]],[],.i64,2,16,true,[],0,[],true,false,true⟩),
 (380,⟨1,7,[.nptr],[],[],.i64,0,0,false,[],0,[],false,false,false⟩),
 (381,⟨1,4,[.str ⟨#[]⟩],[],[(0,1,false)],.i64,0,0,false,[],0,[3],true,false,false⟩),
 (382,⟨1,4,[.str ⟨#[]⟩],[],[(0,1,false)],.i64,0,0,false,[],0,[3],true,false,false⟩),
 (385,⟨0,5,[],[],[],.i64,1,0,false,[],0,[],true,false,false⟩),
 (393,⟨11,4,[.int .u64 0,.int .u64 0,.int .u32 0,.int .u8 0,.int .u8 0,.int .u8 0,.int .u8 0,.raw .nilFunc,.nptr,.int .i32 0,.int .i32 0],[],[(0,1,false),(1,1,false),(2,1,false),(3,1,false),(4,1,false),(5,1,false),(6,1,false),(7,1,false),(8,1,false),(9,1,false),(10,1,false)],.i64,0,0,false,[],0,[],true,false,false⟩),
 (414,⟨1,8,[.nmap],[],[],.i64,1,3,false,[.int .i64 0],0,[],true,false,false⟩)]
theorem m1U:b0t Tryz.prog T:=f1d _ _ (by kernel_rfl)
theorem mixed:Tryz.prog.follows .mixedOrders=true:=by kernel_rfl
theorem fEx {n:Nat} {f:Go.FuncId} {fn:Go.Func} {c:Go.Code} (hf:Tryz.prog.funcs[f]? =some fn) {args:List SV} {H:a0k} {post:SV->a0k->Nat->Prop} (h:b0x Tryz.prog T n c ⟨l0q 0 args,H,n⟩ (n1e T n fn.results.toList post)) (hb:fn.body=some c:=by exact rfl) (hname:(fn.name=="runtime.NumGoroutine")=false:=by kernel_rfl) (hN:Nat.ble args.length fn.ntmps=true:=by kernel_rfl) (hok:c0r fn.ntmps c=true:=by kernel_rfl):FC Tryz.prog n f args H post:=n1p mixed m1U hf hb hname hN hok h
theorem Wx {n:Nat} {f:Go.FuncId} {fn:Go.Func} {c:Go.Code} (hf:Tryz.prog.funcs[f]? =some fn) {args:List SV} {H:a0k} {post:SV->a0k->Nat->Prop} (hb:fn.body=some c:=by exact rfl) (hname:(fn.name=="runtime.NumGoroutine")=false:=by kernel_rfl) (hN:Nat.ble args.length fn.ntmps=true:=by kernel_rfl) (hok:c0r fn.ntmps c=true:=by kernel_rfl) (k:b0x Tryz.prog T n c ⟨l0q 0 args,H,n⟩ (n1e T n fn.results.toList post):=by repeat' ((conv=>whnf);first|refine a0a ?_|(apply bRx<;>intro h<;>try exact aX)|refine cOx (l:=l) c0 ?_|refine cOx (l:=l) c1 ?_|refine cOx (l:=l) c2 ?_|refine cOx (l:=l) c3 ?_|refine cOx (l:=l) c4 ?_|refine cOx (l:=l) c5 ?_|refine cOx (l:=l) c6 ?_|refine cOx (l:=l) c7 ?_|refine cOx (l:=l) c8 ?_|refine cOx (l:=l) c9 ?_|refine cOx (l:=l0) c0 ?_|refine cOx (l:=l1) c1 ?_|refine cOx (l:=l2) c2 ?_|refine cOx (l:=l3) c3 ?_|refine cOx (l:=l4) c4 ?_|refine cOx (l:=l5) c5 ?_|refine cOx (l:=l6) c6 ?_|refine cOx (l:=l7) c7 ?_|refine cOx (l:=l8) c8 ?_|refine cOx (l:=l9) c9 ?_|refine cPx c0 ?_|refine cPx c1 ?_|refine cPx c2 ?_|refine cPx c3 ?_|refine cPx c4 ?_|refine cPx c5 ?_|refine cPx c6 ?_|refine cPx c7 ?_|refine cPx c8 ?_|refine cPx c9 ?_|refine cGx c0 ?_|refine cGx c1 ?_|refine cGx c2 ?_|refine cGx c3 ?_|refine cGx c4 ?_|refine cGx c5 ?_|refine cGx c6 ?_|refine cGx c7 ?_|refine cGx c8 ?_|refine cGx c9 ?_|rw [q0]|rw [q1]|rw [q2]|rw [q3]|simp only [q0]|simp only [q1]|simp only [q2]|simp only [q3]|exact a0e rfl|exact rOz l|exact rOz R|exact rOz S|exact aX|(exfalso;exact h rfl)|contradiction)):FC Tryz.prog n f args H post:=n1p mixed m1U hf hb hname hN hok k
theorem Vx {g:Prop} (k:g:=by repeat' ((conv=>whnf);first|refine a0a ?_|(apply bRx<;>intro h<;>try exact aX)|refine cOx (l:=l) c0 ?_|refine cOx (l:=l) c1 ?_|refine cOx (l:=l) c2 ?_|refine cOx (l:=l) c3 ?_|refine cOx (l:=l) c4 ?_|refine cOx (l:=l) c5 ?_|refine cOx (l:=l) c6 ?_|refine cOx (l:=l) c7 ?_|refine cOx (l:=l) c8 ?_|refine cOx (l:=l) c9 ?_|refine cOx (l:=l0) c0 ?_|refine cOx (l:=l1) c1 ?_|refine cOx (l:=l2) c2 ?_|refine cOx (l:=l3) c3 ?_|refine cOx (l:=l4) c4 ?_|refine cOx (l:=l5) c5 ?_|refine cOx (l:=l6) c6 ?_|refine cOx (l:=l7) c7 ?_|refine cOx (l:=l8) c8 ?_|refine cOx (l:=l9) c9 ?_|refine cPx c0 ?_|refine cPx c1 ?_|refine cPx c2 ?_|refine cPx c3 ?_|refine cPx c4 ?_|refine cPx c5 ?_|refine cPx c6 ?_|refine cPx c7 ?_|refine cPx c8 ?_|refine cPx c9 ?_|refine cGx c0 ?_|refine cGx c1 ?_|refine cGx c2 ?_|refine cGx c3 ?_|refine cGx c4 ?_|refine cGx c5 ?_|refine cGx c6 ?_|refine cGx c7 ?_|refine cGx c8 ?_|refine cGx c9 ?_|rw [q0]|rw [q1]|rw [q2]|rw [q3]|simp only [q0]|simp only [q1]|simp only [q2]|simp only [q3]|exact a0e rfl|exact rOz l|exact rOz R|exact rOz S|exact aX|(exfalso;exact h rfl)|contradiction)):g:=k
def glT:n0K:= [
 (0,20,[.ints .u64 [1,10,100,1000,10000,100000,1000000,10000000,100000000,1000000000,10000000000,100000000000,1000000000000,10000000000000,100000000000000,1000000000000000,10000000000000000,100000000000000000,1000000000000000000,10000000000000000000]]),
 (2,32,[.ints .u8 [0,1,28,2,29,14,24,3,30,22,20,15,25,17,4,8,31,27,13,23,21,19,16,7,26,12,18,6,11,5,10,9]]),
 (3,64,[.ints .u8 [0,1,56,2,57,49,28,3,61,58,42,50,38,29,17,4,62,47,59,36,45,43,51,22,53,39,33,30,24,18,12,5,63,55,48,27,60,41,37,16,46,35,44,21,52,32,23,11,54,26,40,15,34,20,31,10,25,14,19,9,13,8,7,6]]),
 (4,0,[.ints .i64 [380]]),
 (5,0,[.ints .i64 [380]]),
 (7,16,[.ints .u8 [128,160,128,144,128,0,0,0,0,0,0,0,0,0,0,0],.ints .u8 [191,191,159,191,143,0,0,0,0,0,0,0,0,0,0,0]])]
theorem k1m {q:Nat} (h:(a0M glT q).isSome=true):q=0\/q=2\/q=3\/q=4\/q=5\/q=7:=by
 have:=s0a h
 simpa [glT] using this
end Go.Proofs.YtmnjebhdclmcfaaGreatDoor
namespace Go.Proofs
open Go.Shelf
def Tryz.lays151_ren:Go.Shelf.Ren:=⟨fun|151=>196|152=>236|137=>267|119=>268|224=>269|225=>270|217=>289|266=>296|n=>n,fun|9=>9|21=>21|4=>4|3=>3|5=>5|0=>0|46=>160|n=>n,fun|n=>n⟩
theorem Tryz.lays151:Go.Proofs.Lays.n151 Tryz.prog Tryz.lays151_ren:= {
 mixed:=by kernel_rfl
 f119:=Tryz.func268.trans (congrArg some (by kernel_rfl))
 f137:=Tryz.func267.trans (congrArg some (by kernel_rfl))
 f151:=Tryz.func196.trans (congrArg some (by kernel_rfl))
 f152:=Tryz.func236.trans (congrArg some (by kernel_rfl))
 f217:=Tryz.func289.trans (congrArg some (by kernel_rfl))
 f224:=Tryz.func269.trans (congrArg some (by kernel_rfl))
 f225:=Tryz.func270.trans (congrArg some (by kernel_rfl))
 f266:=Tryz.func296.trans (congrArg some (by kernel_rfl))
 t0:=Tryz.underlying0
 a0:=Tryz.isAgg0
 z0:=Tryz.sizeOf0
 v0:=Tryz.zeroValue0
 t3:=Tryz.underlying3
 a3:=Tryz.isAgg3
 z3:=Tryz.sizeOf3
 v3:=Tryz.zeroValue3
 t4:=Tryz.underlying4
 a4:=Tryz.isAgg4
 z4:=Tryz.sizeOf4
 v4:=Tryz.zeroValue4
 t5:=Tryz.underlying5
 a5:=Tryz.isAgg5
 z5:=Tryz.sizeOf5
 v5:=Tryz.zeroValue5
 t9:=Tryz.underlying9
 a9:=Tryz.isAgg9
 z9:=Tryz.sizeOf9
 v9:=Tryz.zeroValue9
 t21:=Tryz.underlying21
 a21:=Tryz.isAgg21
 z21:=Tryz.sizeOf21
 v21:=Tryz.zeroValue21
 t46:=Tryz.underlying160
 a46:=Tryz.isAgg160
 z46:=Tryz.sizeOf160
 v46:=Tryz.zeroValue160}
open Go.RowKit Go.Lib in
theorem Tryz.strings_ContainsRune_ascii (s:ByteArray) (r:Int) (w:World) (h0:0<=r) (h1:r<128):
  Calls Tryz.prog 196 #[.string s,.int .i32 r] w fun e w'=>e= .returned (.bool (decide (0<=Lib.indexByte s.data.toList r.toNat.toUInt8)))/\w'=w:=Any.strings_ContainsRune_ascii Tryz.lays151 s r w h0 h1
def Tryz.lays156_ren:Go.Shelf.Ren:=⟨fun|156=>65|165=>110|166=>48|169=>53|240=>94|241=>161|276=>148|277=>198|n=>n,fun|31=>22|9=>9|3=>3|4=>4|0=>0|20=>20|72=>101|76=>110|70=>98|37=>99|75=>109|127=>181|164=>246|5=>5|80=>115|n=>n,fun|n=>n⟩
theorem Tryz.lays156:Go.Proofs.Lays.n156 Tryz.prog Tryz.lays156_ren:= {
 mixed:=by kernel_rfl
 f156:=Tryz.func65.trans (congrArg some (by kernel_rfl))
 f165:=Tryz.func110.trans (congrArg some (by kernel_rfl))
 f166:=Tryz.func48.trans (congrArg some (by kernel_rfl))
 f169:=Tryz.func53.trans (congrArg some (by kernel_rfl))
 f240:=Tryz.func94.trans (congrArg some (by kernel_rfl))
 f241:=Tryz.func161.trans (congrArg some (by kernel_rfl))
 f276:=Tryz.func148.trans (congrArg some (by kernel_rfl))
 f277:=Tryz.func198.trans (congrArg some (by kernel_rfl))
 t0:=Tryz.underlying0
 a0:=Tryz.isAgg0
 z0:=Tryz.sizeOf0
 v0:=Tryz.zeroValue0
 t3:=Tryz.underlying3
 a3:=Tryz.isAgg3
 z3:=Tryz.sizeOf3
 v3:=Tryz.zeroValue3
 t4:=Tryz.underlying4
 a4:=Tryz.isAgg4
 z4:=Tryz.sizeOf4
 v4:=Tryz.zeroValue4
 t9:=Tryz.underlying9
 a9:=Tryz.isAgg9
 z9:=Tryz.sizeOf9
 v9:=Tryz.zeroValue9
 t20:=Tryz.underlying20
 a20:=Tryz.isAgg20
 z20:=Tryz.sizeOf20
 v20:=Tryz.zeroValue20
 t31:=Tryz.underlying22
 a31:=Tryz.isAgg22
 z31:=Tryz.sizeOf22
 v31:=Tryz.zeroValue22
 t37:=Tryz.underlying99
 a37:=Tryz.isAgg99
 z37:=Tryz.sizeOf99
 v37:=Tryz.zeroValue99
 t70:=Tryz.underlying98
 a70:=Tryz.isAgg98
 z70:=Tryz.sizeOf98
 v70:=Tryz.zeroValue98
 t72:=Tryz.underlying101
 a72:=Tryz.isAgg101
 z72:=Tryz.sizeOf101
 v72:=Tryz.zeroValue101
 t75:=Tryz.underlying109
 a75:=Tryz.isAgg109
 z75:=Tryz.sizeOf109
 v75:=Tryz.zeroValue109
 t76:=Tryz.underlying110
 a76:=Tryz.isAgg110
 z76:=Tryz.sizeOf110
 v76:=Tryz.zeroValue110
 t127:=Tryz.underlying181
 a127:=Tryz.isAgg181
 z127:=Tryz.sizeOf181
 v127:=Tryz.zeroValue181
 t164:=Tryz.underlying246
 a164:=Tryz.isAgg246
 z164:=Tryz.sizeOf246
 v164:=Tryz.zeroValue246}
theorem Tryz.Builder_Extra_156:Builder.Extra Tryz.prog Tryz.lays156_ren:= {
 sizeBuilder:=by kernel_rfl
 liesBuilder:=by kernel_rfl
 t5:=Tryz.underlying5
 a5:=Tryz.isAgg5
 z5:=Tryz.sizeOf5
 v5:=Tryz.zeroValue5
 infoByte:=by kernel_rfl
 cellsByte:=by kernel_rfl
 sizeByte:=by kernel_rfl
 neB5:=by decide}
open Go.RowKit in
theorem Tryz.strings_Join (bk o c:Nat) (xs:List ByteArray) (sep:ByteArray) (w:World) (hcells:∀(j:Nat) x,xs[j]? =some x->w.cell? ⟨bk,o+j,none⟩=some (.string x)) (hbk:bk<w.heap.size) (hN:xs.length<=140737488355328) (hcap:xs.length<=c) (hlen:(Lib.join (xs.map (·.data.toList)) sep.data.toList).length<=140737488355328):
  Calls Tryz.prog 65 #[.slice (some ⟨bk,o,none⟩) xs.length c,.string sep] w fun e w'=>e= .returned (.string ⟨(Lib.join (xs.map (·.data.toList)) sep.data.toList).toArray⟩)/\Below w.heap.size w w':=Any.strings_Join Tryz.lays156 Tryz.Builder_Extra_156 bk o c xs sep w hcells hbk hN hcap hlen
def Tryz.lays146_ren:Go.Shelf.Ren:=⟨fun|146=>170|221=>211|268=>245|138=>246|143=>247|195=>272|197=>273|218=>274|219=>275|260=>290|217=>289|225=>270|224=>269|267=>291|266=>296|314=>297|n=>n,fun|9=>9|31=>22|3=>3|4=>4|0=>0|105=>355|21=>21|5=>5|46=>160|119=>375|139=>378|138=>377|146=>363|51=>307|n=>n,fun|1=>1|3=>6|4=>7|n=>n⟩
theorem Tryz.lays146:Go.Proofs.Lays.n146 Tryz.prog Tryz.lays146_ren:= {
 mixed:=by kernel_rfl
 f138:=Tryz.func246.trans (congrArg some (by kernel_rfl))
 f143:=Tryz.func247.trans (congrArg some (by kernel_rfl))
 f146:=Tryz.func170.trans (congrArg some (by kernel_rfl))
 f195:=Tryz.func272.trans (congrArg some (by kernel_rfl))
 f197:=Tryz.func273.trans (congrArg some (by kernel_rfl))
 f217:=Tryz.func289.trans (congrArg some (by kernel_rfl))
 f218:=Tryz.func274.trans (congrArg some (by kernel_rfl))
 f219:=Tryz.func275.trans (congrArg some (by kernel_rfl))
 f221:=Tryz.func211.trans (congrArg some (by kernel_rfl))
 f224:=Tryz.func269.trans (congrArg some (by kernel_rfl))
 f225:=Tryz.func270.trans (congrArg some (by kernel_rfl))
 f260:=Tryz.func290.trans (congrArg some (by kernel_rfl))
 f266:=Tryz.func296.trans (congrArg some (by kernel_rfl))
 f267:=Tryz.func291.trans (congrArg some (by kernel_rfl))
 f268:=Tryz.func245.trans (congrArg some (by kernel_rfl))
 f314:=Tryz.func297.trans (congrArg some (by kernel_rfl))
 t0:=Tryz.underlying0
 a0:=Tryz.isAgg0
 z0:=Tryz.sizeOf0
 v0:=Tryz.zeroValue0
 t3:=Tryz.underlying3
 a3:=Tryz.isAgg3
 z3:=Tryz.sizeOf3
 v3:=Tryz.zeroValue3
 t4:=Tryz.underlying4
 a4:=Tryz.isAgg4
 z4:=Tryz.sizeOf4
 v4:=Tryz.zeroValue4
 t5:=Tryz.underlying5
 a5:=Tryz.isAgg5
 z5:=Tryz.sizeOf5
 v5:=Tryz.zeroValue5
 t9:=Tryz.underlying9
 a9:=Tryz.isAgg9
 z9:=Tryz.sizeOf9
 v9:=Tryz.zeroValue9
 t21:=Tryz.underlying21
 a21:=Tryz.isAgg21
 z21:=Tryz.sizeOf21
 v21:=Tryz.zeroValue21
 t31:=Tryz.underlying22
 a31:=Tryz.isAgg22
 z31:=Tryz.sizeOf22
 v31:=Tryz.zeroValue22
 t46:=Tryz.underlying160
 a46:=Tryz.isAgg160
 z46:=Tryz.sizeOf160
 v46:=Tryz.zeroValue160
 t51:=Tryz.underlying307
 a51:=Tryz.isAgg307
 z51:=Tryz.sizeOf307
 v51:=Tryz.zeroValue307
 t105:=Tryz.underlying355
 a105:=Tryz.isAgg355
 z105:=Tryz.sizeOf355
 v105:=Tryz.zeroValue355
 t119:=Tryz.underlying375
 a119:=Tryz.isAgg375
 z119:=Tryz.sizeOf375
 t138:=Tryz.underlying377
 a138:=Tryz.isAgg377
 z138:=Tryz.sizeOf377
 v138:=Tryz.zeroValue377
 t139:=Tryz.underlying378
 a139:=Tryz.isAgg378
 z139:=Tryz.sizeOf378
 v139:=Tryz.zeroValue378
 t146:=Tryz.underlying363
 a146:=Tryz.isAgg363
 z146:=Tryz.sizeOf363
 v146:=Tryz.zeroValue363
 g1:=by kernel_rfl
 g3:=by kernel_rfl
 g4:=by kernel_rfl}
open Go.RowKit Go.Lib in
def Tryz.laysC174_ren:Go.Shelf.Ren:=⟨fun|174=>212|247=>248|245=>249|287=>276|279=>277|280=>278|281=>279|282=>280|321=>292|322=>293|316=>294|171=>50|205=>295|243=>96|246=>111|283=>162|284=>163|285=>164|286=>165|129=>200|317=>199|318=>201|319=>202|320=>203|337=>237|338=>238|n=>n,fun|9=>9|3=>3|2=>2|75=>109|85=>317|4=>4|167=>357|5=>5|53=>43|175=>358|46=>160|168=>360|37=>99|0=>0|210=>373|21=>21|127=>181|145=>382|143=>380|171=>263|173=>266|212=>306|51=>307|20=>20|213=>308|232=>352|233=>353|80=>115|n=>n,fun|15=>4|16=>5|17=>0|18=>2|19=>3|n=>n⟩
theorem Tryz.laysC174:Go.Proofs.LaysC.n174 Tryz.prog Tryz.laysC174_ren:= {
 mixed:=by kernel_rfl
 f129:=Tryz.func200.trans (congrArg some (by kernel_rfl))
 f171:=Tryz.func50.trans (congrArg some (by kernel_rfl))
 f174:=Tryz.func212.trans (congrArg some (by kernel_rfl))
 f205:=Tryz.func295.trans (congrArg some (by kernel_rfl))
 f243:=Tryz.func96.trans (congrArg some (by kernel_rfl))
 f245:=Tryz.func249.trans (congrArg some (by kernel_rfl))
 f246:=Tryz.func111.trans (congrArg some (by kernel_rfl))
 f247:=Tryz.func248.trans (congrArg some (by kernel_rfl))
 f279:=Tryz.func277.trans (congrArg some (by kernel_rfl))
 f280:=Tryz.func278.trans (congrArg some (by kernel_rfl))
 f281:=Tryz.func279.trans (congrArg some (by kernel_rfl))
 f282:=Tryz.func280.trans (congrArg some (by kernel_rfl))
 f283:=Tryz.func162.trans (congrArg some (by kernel_rfl))
 f284:=Tryz.func163.trans (congrArg some (by kernel_rfl))
 f285:=Tryz.func164.trans (congrArg some (by kernel_rfl))
 f286:=Tryz.func165.trans (congrArg some (by kernel_rfl))
 f287:=Tryz.func276.trans (congrArg some (by kernel_rfl))
 f316:=Tryz.func294.trans (congrArg some (by kernel_rfl))
 f317:=Tryz.func199.trans (congrArg some (by kernel_rfl))
 f318:=Tryz.func201.trans (congrArg some (by kernel_rfl))
 f319:=Tryz.func202.trans (congrArg some (by kernel_rfl))
 f320:=Tryz.func203.trans (congrArg some (by kernel_rfl))
 f321:=Tryz.func292.trans (congrArg some (by kernel_rfl))
 f322:=Tryz.func293.trans (congrArg some (by kernel_rfl))
 f337:=Tryz.func237.trans (congrArg some (by kernel_rfl))
 f338:=Tryz.func238.trans (congrArg some (by kernel_rfl))
 t0:=Tryz.underlying0
 a0:=Tryz.isAgg0
 z0:=Tryz.sizeOf0
 v0:=Tryz.zeroValue0
 t2:=Tryz.underlying2
 a2:=Tryz.isAgg2
 z2:=Tryz.sizeOf2
 v2:=Tryz.zeroValue2
 t3:=Tryz.underlying3
 a3:=Tryz.isAgg3
 z3:=Tryz.sizeOf3
 v3:=Tryz.zeroValue3
 t4:=Tryz.underlying4
 a4:=Tryz.isAgg4
 z4:=Tryz.sizeOf4
 v4:=Tryz.zeroValue4
 t5:=Tryz.underlying5
 a5:=Tryz.isAgg5
 z5:=Tryz.sizeOf5
 v5:=Tryz.zeroValue5
 t9:=Tryz.underlying9
 a9:=Tryz.isAgg9
 z9:=Tryz.sizeOf9
 v9:=Tryz.zeroValue9
 t20:=Tryz.underlying20
 a20:=Tryz.isAgg20
 z20:=Tryz.sizeOf20
 v20:=Tryz.zeroValue20
 t21:=Tryz.underlying21
 a21:=Tryz.isAgg21
 z21:=Tryz.sizeOf21
 v21:=Tryz.zeroValue21
 t37:=Tryz.underlying99
 a37:=Tryz.isAgg99
 z37:=Tryz.sizeOf99
 v37:=Tryz.zeroValue99
 t46:=Tryz.underlying160
 a46:=Tryz.isAgg160
 z46:=Tryz.sizeOf160
 v46:=Tryz.zeroValue160
 t51:=Tryz.underlying307
 a51:=Tryz.isAgg307
 z51:=Tryz.sizeOf307
 v51:=Tryz.zeroValue307
 t53:=Tryz.underlying43
 a53:=Tryz.isAgg43
 z53:=Tryz.sizeOf43
 v53:=Tryz.zeroValue43
 t75:=Tryz.underlying109
 a75:=Tryz.isAgg109
 z75:=Tryz.sizeOf109
 v75:=Tryz.zeroValue109
 t85:=Tryz.underlying317
 a85:=Tryz.isAgg317
 z85:=Tryz.sizeOf317
 v85:=Tryz.zeroValue317
 t127:=Tryz.underlying181
 a127:=Tryz.isAgg181
 z127:=Tryz.sizeOf181
 v127:=Tryz.zeroValue181
 t143:=Tryz.underlying380
 a143:=Tryz.isAgg380
 z143:=Tryz.sizeOf380
 v143:=Tryz.zeroValue380
 t145:=Tryz.underlying382
 a145:=Tryz.isAgg382
 z145:=Tryz.sizeOf382
 v145:=Tryz.zeroValue382
 t167:=Tryz.underlying357
 a167:=Tryz.isAgg357
 z167:=Tryz.sizeOf357
 v167:=Tryz.zeroValue357
 t168:=Tryz.underlying360
 a168:=Tryz.isAgg360
 z168:=Tryz.sizeOf360
 v168:=Tryz.zeroValue360
 t171:=Tryz.underlying263
 a171:=Tryz.isAgg263
 z171:=Tryz.sizeOf263
 v171:=Tryz.zeroValue263
 t173:=Tryz.underlying266
 a173:=Tryz.isAgg266
 z173:=Tryz.sizeOf266
 v173:=Tryz.zeroValue266
 t175:=Tryz.underlying358
 a175:=Tryz.isAgg358
 z175:=Tryz.sizeOf358
 v175:=Tryz.zeroValue358
 t210:=Tryz.underlying373
 a210:=Tryz.isAgg373
 z210:=Tryz.sizeOf373
 v210:=Tryz.zeroValue373
 t212:=Tryz.underlying306
 a212:=Tryz.isAgg306
 z212:=Tryz.sizeOf306
 v212:=Tryz.zeroValue306
 t213:=Tryz.underlying308
 a213:=Tryz.isAgg308
 z213:=Tryz.sizeOf308
 t232:=Tryz.underlying352
 a232:=Tryz.isAgg352
 z232:=Tryz.sizeOf352
 v232:=Tryz.zeroValue352
 t233:=Tryz.underlying353
 a233:=Tryz.isAgg353
 z233:=Tryz.sizeOf353
 v233:=Tryz.zeroValue353
 g15:=by kernel_rfl
 g16:=by kernel_rfl
 g17:=by kernel_rfl
 g18:=by kernel_rfl
 g19:=by kernel_rfl
 t80:=Tryz.underlying115
 a80:=Tryz.isAgg115
 z80:=Tryz.sizeOf115
 v80:=Tryz.zeroValue115
 i0:=by kernel_rfl
 i2:=by kernel_rfl
 i3:=by kernel_rfl
 i4:=by kernel_rfl
 i5:=by kernel_rfl
 i9:=by kernel_rfl
 i20:=by kernel_rfl
 i21:=by kernel_rfl
 i37:=by kernel_rfl
 i46:=by kernel_rfl
 i51:=by kernel_rfl
 i53:=by kernel_rfl
 i75:=by kernel_rfl
 i80:=by kernel_rfl
 i85:=by kernel_rfl
 i127:=by kernel_rfl
 i143:=by kernel_rfl
 i145:=by kernel_rfl
 i167:=by kernel_rfl
 i168:=by kernel_rfl
 i171:=by kernel_rfl
 i173:=by kernel_rfl
 i175:=by kernel_rfl
 i210:=by kernel_rfl
 i212:=by kernel_rfl
 i232:=by kernel_rfl
 i233:=by kernel_rfl
 m15:=by kernel_rfl
 m16:=by kernel_rfl
 m17:=by kernel_rfl
 m18:=by kernel_rfl
 m19:=by kernel_rfl
 c0:=by kernel_rfl
 c2:=by kernel_rfl
 c3:=by kernel_rfl
 c4:=by kernel_rfl
 c5:=by kernel_rfl
 c9:=by kernel_rfl
 c20:=by kernel_rfl
 c21:=by kernel_rfl
 c37:=by kernel_rfl
 c46:=by kernel_rfl
 c51:=by kernel_rfl
 c53:=by kernel_rfl
 c75:=by kernel_rfl
 c80:=by kernel_rfl
 c85:=by kernel_rfl
 c127:=by kernel_rfl
 c143:=by kernel_rfl
 c145:=by kernel_rfl
 c167:=by kernel_rfl
 c168:=by kernel_rfl
 c171:=by kernel_rfl
 c173:=by kernel_rfl
 c175:=by kernel_rfl
 c210:=by kernel_rfl
 c212:=by kernel_rfl
 c213:=by kernel_rfl
 c232:=by kernel_rfl
 c233:=by kernel_rfl}
open Go.RowKit in
theorem Tryz.strconv_ParseInt_10_at64_ok (s:ByteArray) (hmax:s.size<=9223372036854775806) (v:Int) (h:Lib.parseIntB 64 s.data.toList= .ok v) (w:World):
  Calls Tryz.prog 212 #[.string s,.int .i64 10,.int .i64 64] w fun e w'=>e= .returned (.tuple #[.int .i64 v,.nilIface])/\(w'=w\/∃t,w'=Lib.bytesWorld w 5 t):=Any.strconv_ParseInt_10_at64_ok Tryz.laysC174 s hmax v h w
open Go.RowKit in
theorem Tryz.strconv_ParseInt_10_at64_syntax (s:ByteArray) (hlim:s.size<=281474976710656) (h:Lib.parseIntB 64 s.data.toList=Lib.parseIntB 64 []) (ev:Value) (w:World) (hv:w.cell? ⟨4,0,none⟩=some ev) (hev:ev= .nilIface\/∃te pe,ev= .iface te pe):
  Calls Tryz.prog 212 #[.string s,.int .i64 10,.int .i64 64] w fun e w'=>∃N,e= .returned (.tuple #[.int .i64 (0),.iface 360 (.pointer (some ⟨N,0,none⟩))])/\w.heap.size<=N/\w'.heap[N]? =some (.cells #[.string ⟨#[80,97,114,115,101,73,110,116]⟩,.string s,ev] 373 (0,0))/\Below w.heap.size w w':=Any.strconv_ParseInt_10_at64_syntax Tryz.laysC174 s hlim h ev w hv hev
open Go.RowKit in
theorem Tryz.strconv_ParseInt_10_at64_range (s:ByteArray) (hlim:s.size<=281474976710656) (h:Lib.parseIntB 64 s.data.toList= .range) (ev:Value) (w:World) (hv:w.cell? ⟨5,0,none⟩=some ev) (hev:ev= .nilIface\/∃te pe,ev= .iface te pe):
  Calls Tryz.prog 212 #[.string s,.int .i64 10,.int .i64 64] w fun e w'=>∃N,e= .returned (.tuple #[.int .i64 (Lib.intSat 64 s.data.toList),.iface 360 (.pointer (some ⟨N,0,none⟩))])/\w.heap.size<=N/\w'.heap[N]? =some (.cells #[.string ⟨#[80,97,114,115,101,73,110,116]⟩,.string s,ev] 373 (0,0))/\Below w.heap.size w w':=Any.strconv_ParseInt_10_at64_range Tryz.laysC174 s hlim h ev w hv hev
def Tryz.sortS_ren:Go.Shelf.Ren:=⟨fun|6=>158|8=>195|9=>194|19=>235|20=>200|21=>226|22=>227|23=>228|24=>229|25=>230|26=>231|27=>232|28=>233|29=>234|36=>261|31=>262|32=>263|37=>264|38=>265|39=>266|41=>288|n=>n,fun|27=>22|29=>9|3=>3|32=>160|26=>22|0=>0|44=>307|46=>43|4=>4|36=>324|35=>323|41=>134|5=>5|9=>9|53=>345|57=>348|63=>369|64=>287|n=>n,fun|n=>n⟩
theorem Tryz.sortS:Go.Proofs.SlLaysM.n6 Tryz.prog Tryz.sortS_ren:= {
 mixed:=by kernel_rfl
 f6:=⟨Tryz.f158.name,by decide,Tryz.func158.trans (congrArg some (by kernel_rfl))⟩
 f8:=Tryz.func195.trans (congrArg some (by kernel_rfl))
 f9:=⟨Tryz.f194.name,by decide,Tryz.func194.trans (congrArg some (by kernel_rfl))⟩
 f19:=Tryz.func235.trans (congrArg some (by kernel_rfl))
 f20:=Tryz.func200.trans (congrArg some (by kernel_rfl))
 f21:=⟨Tryz.f226.name,by decide,Tryz.func226.trans (congrArg some (by kernel_rfl))⟩
 f22:=⟨Tryz.f227.name,by decide,Tryz.func227.trans (congrArg some (by kernel_rfl))⟩
 f23:=⟨Tryz.f228.name,by decide,Tryz.func228.trans (congrArg some (by kernel_rfl))⟩
 f24:=⟨Tryz.f229.name,by decide,Tryz.func229.trans (congrArg some (by kernel_rfl))⟩
 f25:=⟨Tryz.f230.name,by decide,Tryz.func230.trans (congrArg some (by kernel_rfl))⟩
 f26:=⟨Tryz.f231.name,by decide,Tryz.func231.trans (congrArg some (by kernel_rfl))⟩
 f27:=⟨Tryz.f232.name,by decide,Tryz.func232.trans (congrArg some (by kernel_rfl))⟩
 f28:=⟨Tryz.f233.name,by decide,Tryz.func233.trans (congrArg some (by kernel_rfl))⟩
 f29:=⟨Tryz.f234.name,by decide,Tryz.func234.trans (congrArg some (by kernel_rfl))⟩
 f31:=Tryz.func262.trans (congrArg some (by kernel_rfl))
 f32:=Tryz.func263.trans (congrArg some (by kernel_rfl))
 f36:=⟨Tryz.f261.name,by decide,Tryz.func261.trans (congrArg some (by kernel_rfl))⟩
 f37:=⟨Tryz.f264.name,by decide,Tryz.func264.trans (congrArg some (by kernel_rfl))⟩
 f38:=⟨Tryz.f265.name,by decide,Tryz.func265.trans (congrArg some (by kernel_rfl))⟩
 f39:=⟨Tryz.f266.name,by decide,Tryz.func266.trans (congrArg some (by kernel_rfl))⟩
 f41:=⟨Tryz.f288.name,by decide,Tryz.func288.trans (congrArg some (by kernel_rfl))⟩
 t0:=Tryz.underlying0
 a0:=Tryz.isAgg0
 z0:=Tryz.sizeOf0
 v0:=Tryz.zeroValue0
 t3:=Tryz.underlying3
 a3:=Tryz.isAgg3
 z3:=Tryz.sizeOf3
 v3:=Tryz.zeroValue3
 t4:=Tryz.underlying4
 a4:=Tryz.isAgg4
 z4:=Tryz.sizeOf4
 v4:=Tryz.zeroValue4
 t5:=Tryz.underlying5
 a5:=Tryz.isAgg5
 z5:=Tryz.sizeOf5
 v5:=Tryz.zeroValue5
 t9:=Tryz.underlying9
 a9:=Tryz.isAgg9
 z9:=Tryz.sizeOf9
 v9:=Tryz.zeroValue9
 t26:=Tryz.underlying22
 a26:=Tryz.isAgg22
 z26:=Tryz.sizeOf22
 v26:=Tryz.zeroValue22
 t27:=Tryz.underlying22
 a27:=Tryz.isAgg22
 z27:=Tryz.sizeOf22
 v27:=Tryz.zeroValue22
 t29:=Tryz.underlying9
 a29:=Tryz.isAgg9
 z29:=Tryz.sizeOf9
 v29:=Tryz.zeroValue9
 t32:=Tryz.underlying160
 a32:=Tryz.isAgg160
 z32:=Tryz.sizeOf160
 v32:=Tryz.zeroValue160
 t35:=Tryz.underlying323
 a35:=Tryz.isAgg323
 z35:=Tryz.sizeOf323
 v35:=Tryz.zeroValue323
 t36:=Tryz.underlying324
 a36:=Tryz.isAgg324
 z36:=Tryz.sizeOf324
 v36:=Tryz.zeroValue324
 t41:=Tryz.underlying134
 a41:=Tryz.isAgg134
 z41:=Tryz.sizeOf134
 v41:=Tryz.zeroValue134
 t44:=Tryz.underlying307
 a44:=Tryz.isAgg307
 z44:=Tryz.sizeOf307
 v44:=Tryz.zeroValue307
 t46:=Tryz.underlying43
 a46:=Tryz.isAgg43
 z46:=Tryz.sizeOf43
 v46:=Tryz.zeroValue43
 t53:=Tryz.underlying345
 a53:=Tryz.isAgg345
 z53:=Tryz.sizeOf345
 v53:=Tryz.zeroValue345
 t57:=Tryz.underlying348
 a57:=Tryz.isAgg348
 z57:=Tryz.sizeOf348
 v57:=Tryz.zeroValue348
 t63:=Tryz.underlying369
 a63:=Tryz.isAgg369
 z63:=Tryz.sizeOf369
 v63:=Tryz.zeroValue369
 t64:=Tryz.underlying287
 a64:=Tryz.isAgg287
 z64:=Tryz.sizeOf287
 v64:=Tryz.zeroValue287}
def Tryz.sorted_ren:Go.Shelf.Ren:=⟨fun|6=>204|8=>239|9=>158|11=>271|13=>195|12=>194|23=>235|24=>200|14=>226|15=>227|16=>228|17=>229|18=>230|19=>231|20=>232|21=>233|22=>234|25=>261|26=>262|27=>263|28=>264|29=>265|30=>266|31=>288|n=>n,fun|26=>9|28=>311|24=>22|0=>0|3=>3|37=>160|48=>307|50=>43|4=>4|40=>324|39=>323|45=>134|5=>5|9=>9|51=>345|55=>348|57=>369|58=>287|33=>121|n=>n,fun|n=>n⟩
theorem Tryz.sorted:Go.Proofs.SlLaysZ.n6 Tryz.prog Tryz.sorted_ren:= {
 mixed:=by kernel_rfl
 f6:=⟨Tryz.f204.name,by decide,Tryz.func204.trans (congrArg some (by kernel_rfl))⟩
 f8:=⟨Tryz.f239.name,by decide,Tryz.func239.trans (congrArg some (by kernel_rfl))⟩
 f11:=⟨Tryz.f271.name,by decide,Tryz.func271.trans (congrArg some (by kernel_rfl))⟩
 t0:=Tryz.underlying0
 a0:=Tryz.isAgg0
 z0:=Tryz.sizeOf0
 v0:=Tryz.zeroValue0
 t24:=Tryz.underlying22
 a24:=Tryz.isAgg22
 z24:=Tryz.sizeOf22
 v24:=Tryz.zeroValue22
 t26:=Tryz.underlying9
 a26:=Tryz.isAgg9
 z26:=Tryz.sizeOf9
 v26:=Tryz.zeroValue9
 t28:=Tryz.underlying311
 a28:=Tryz.isAgg311
 z28:=Tryz.sizeOf311
 v28:=Tryz.zeroValue311
 i26:=by kernel_rfl}
def Tryz.keys205_ren:Go.Shelf.Ren:=⟨fun|7=>205|10=>240|n=>n,fun|23=>257|26=>9|3=>269|28=>311|0=>0|27=>310|33=>121|4=>4|n=>n,fun|n=>n⟩
theorem Tryz.keys205:Go.Proofs.SlLaysZ.n7 Tryz.prog Tryz.keys205_ren:= {
 mixed:=by kernel_rfl
 f7:=⟨Tryz.f205.name,by decide,Tryz.func205.trans (congrArg some (by kernel_rfl))⟩
 f10:=⟨Tryz.f240.name,by decide,Tryz.func240.trans (congrArg some (by kernel_rfl))⟩
 t0:=Tryz.underlying0
 a0:=Tryz.isAgg0
 z0:=Tryz.sizeOf0
 v0:=Tryz.zeroValue0
 t4:=Tryz.underlying4
 a4:=Tryz.isAgg4
 z4:=Tryz.sizeOf4
 v4:=Tryz.zeroValue4
 t23:=Tryz.underlying257
 a23:=Tryz.isAgg257
 z23:=Tryz.sizeOf257
 v23:=Tryz.zeroValue257
 t26:=Tryz.underlying9
 a26:=Tryz.isAgg9
 z26:=Tryz.sizeOf9
 v26:=Tryz.zeroValue9
 t27:=Tryz.underlying310
 a27:=Tryz.isAgg310
 z27:=Tryz.sizeOf310
 v27:=Tryz.zeroValue310
 t28:=Tryz.underlying311
 a28:=Tryz.isAgg311
 z28:=Tryz.sizeOf311
 v28:=Tryz.zeroValue311
 t33:=Tryz.underlying121
 a33:=Tryz.isAgg121
 z33:=Tryz.sizeOf121
 v33:=Tryz.zeroValue121}
def Tryz.sortI_ren:Go.Shelf.Ren:=⟨fun|5=>328|8=>195|7=>329|19=>235|20=>200|10=>330|11=>331|12=>332|13=>333|14=>334|15=>335|16=>336|17=>337|18=>338|30=>339|31=>262|32=>263|33=>340|34=>341|35=>342|40=>343|n=>n,fun|23=>23|25=>3|3=>3|32=>160|22=>23|0=>0|44=>307|46=>43|4=>4|36=>324|35=>323|41=>134|5=>5|9=>9|53=>345|57=>348|63=>369|64=>287|n=>n,fun|n=>n⟩
theorem Tryz.sortI:Go.Proofs.SlLaysM.n5 Tryz.prog Tryz.sortI_ren:= {
 mixed:=by kernel_rfl
 f5:=⟨Tryz.f328.name,by decide,Tryz.func328.trans (congrArg some (by kernel_rfl))⟩
 f7:=⟨Tryz.f329.name,by decide,Tryz.func329.trans (congrArg some (by kernel_rfl))⟩
 f8:=Tryz.func195.trans (congrArg some (by kernel_rfl))
 f10:=⟨Tryz.f330.name,by decide,Tryz.func330.trans (congrArg some (by kernel_rfl))⟩
 f11:=⟨Tryz.f331.name,by decide,Tryz.func331.trans (congrArg some (by kernel_rfl))⟩
 f12:=⟨Tryz.f332.name,by decide,Tryz.func332.trans (congrArg some (by kernel_rfl))⟩
 f13:=⟨Tryz.f333.name,by decide,Tryz.func333.trans (congrArg some (by kernel_rfl))⟩
 f14:=⟨Tryz.f334.name,by decide,Tryz.func334.trans (congrArg some (by kernel_rfl))⟩
 f15:=⟨Tryz.f335.name,by decide,Tryz.func335.trans (congrArg some (by kernel_rfl))⟩
 f16:=⟨Tryz.f336.name,by decide,Tryz.func336.trans (congrArg some (by kernel_rfl))⟩
 f17:=⟨Tryz.f337.name,by decide,Tryz.func337.trans (congrArg some (by kernel_rfl))⟩
 f18:=⟨Tryz.f338.name,by decide,Tryz.func338.trans (congrArg some (by kernel_rfl))⟩
 f19:=Tryz.func235.trans (congrArg some (by kernel_rfl))
 f20:=Tryz.func200.trans (congrArg some (by kernel_rfl))
 f30:=⟨Tryz.f339.name,by decide,Tryz.func339.trans (congrArg some (by kernel_rfl))⟩
 f31:=Tryz.func262.trans (congrArg some (by kernel_rfl))
 f32:=Tryz.func263.trans (congrArg some (by kernel_rfl))
 f33:=⟨Tryz.f340.name,by decide,Tryz.func340.trans (congrArg some (by kernel_rfl))⟩
 f34:=⟨Tryz.f341.name,by decide,Tryz.func341.trans (congrArg some (by kernel_rfl))⟩
 f35:=⟨Tryz.f342.name,by decide,Tryz.func342.trans (congrArg some (by kernel_rfl))⟩
 f40:=⟨Tryz.f343.name,by decide,Tryz.func343.trans (congrArg some (by kernel_rfl))⟩
 t0:=Tryz.underlying0
 a0:=Tryz.isAgg0
 z0:=Tryz.sizeOf0
 v0:=Tryz.zeroValue0
 t3:=Tryz.underlying3
 a3:=Tryz.isAgg3
 z3:=Tryz.sizeOf3
 v3:=Tryz.zeroValue3
 t4:=Tryz.underlying4
 a4:=Tryz.isAgg4
 z4:=Tryz.sizeOf4
 v4:=Tryz.zeroValue4
 t5:=Tryz.underlying5
 a5:=Tryz.isAgg5
 z5:=Tryz.sizeOf5
 v5:=Tryz.zeroValue5
 t9:=Tryz.underlying9
 a9:=Tryz.isAgg9
 z9:=Tryz.sizeOf9
 v9:=Tryz.zeroValue9
 t22:=Tryz.underlying23
 a22:=Tryz.isAgg23
 z22:=Tryz.sizeOf23
 v22:=Tryz.zeroValue23
 t23:=Tryz.underlying23
 a23:=Tryz.isAgg23
 z23:=Tryz.sizeOf23
 v23:=Tryz.zeroValue23
 t25:=Tryz.underlying3
 a25:=Tryz.isAgg3
 z25:=Tryz.sizeOf3
 v25:=Tryz.zeroValue3
 t32:=Tryz.underlying160
 a32:=Tryz.isAgg160
 z32:=Tryz.sizeOf160
 v32:=Tryz.zeroValue160
 t35:=Tryz.underlying323
 a35:=Tryz.isAgg323
 z35:=Tryz.sizeOf323
 v35:=Tryz.zeroValue323
 t36:=Tryz.underlying324
 a36:=Tryz.isAgg324
 z36:=Tryz.sizeOf324
 v36:=Tryz.zeroValue324
 t41:=Tryz.underlying134
 a41:=Tryz.isAgg134
 z41:=Tryz.sizeOf134
 v41:=Tryz.zeroValue134
 t44:=Tryz.underlying307
 a44:=Tryz.isAgg307
 z44:=Tryz.sizeOf307
 v44:=Tryz.zeroValue307
 t46:=Tryz.underlying43
 a46:=Tryz.isAgg43
 z46:=Tryz.sizeOf43
 v46:=Tryz.zeroValue43
 t53:=Tryz.underlying345
 a53:=Tryz.isAgg345
 z53:=Tryz.sizeOf345
 v53:=Tryz.zeroValue345
 t57:=Tryz.underlying348
 a57:=Tryz.isAgg348
 z57:=Tryz.sizeOf348
 v57:=Tryz.zeroValue348
 t63:=Tryz.underlying369
 a63:=Tryz.isAgg369
 z63:=Tryz.sizeOf369
 v63:=Tryz.zeroValue369
 t64:=Tryz.underlying287
 a64:=Tryz.isAgg287
 z64:=Tryz.sizeOf287
 v64:=Tryz.zeroValue287}
end Go.Proofs
namespace Go.Sy
abbrev BA:=ByteArray
abbrev SV.i (n:Int):SV:=.int .i64 n
theorem sI {a b:Int} (h:a=b):(some (SV.i a):Option SV)=some (.i b):=congrArg (fun z=>some (SV.i z)) h
end Go.Sy
