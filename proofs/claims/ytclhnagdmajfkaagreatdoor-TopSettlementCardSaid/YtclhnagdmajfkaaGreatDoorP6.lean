/- Several texts in one: St2. -/
import Derived.Test.YtclhnagdmajfkaaGreatDoorP5
import Derived.WalkKit
import Derived.Lib.Builder
import Derived.Lib.AppendStr
import Derived.Lib.FrozenHead2
import Derived.Lib.UnsafeStr
import Derived.Lib.Strings
import Derived.Lib.Slices
import Derived.Lib.Walk
import Derived.Shelf.RegionOpenPlain
set_option linter.unusedVariables false
set_option linter.unusedSimpArgs false
set_option maxRecDepth 100000
namespace Go.Sy
abbrev o0u:=@Lib.cell_of_heap
abbrev z0C:=@Lib.strCells_eq
abbrev c1s:=@List.getElem?_set_ne
end Go.Sy
namespace Go.Proofs.YtclhnagdmajfkaaGreatDoor
open Go.RowKit Go.Sy
section
attribute [local irreducible] a0u a0v a0j b0b
def sEx:ByteArray:=⟨#[49,32,61,32,49,32]⟩
theorem k0U (i j:Nat) (h:(i=0/\j=0)\/(i=1/\j=2)\/(i=3/\j=4)\/(i=5/\j=6)):a0y Tryz.prog 129 [.str sEx,.int .i64 i] (.int .i64 j):=by
 rcases h with ⟨rfl,rfl⟩|⟨rfl,rfl⟩|⟨rfl,rfl⟩|⟨rfl,rfl⟩
 all_goals refine fEx Tryz.func129 ?_
 all_goals repeat' ((conv=>whnf);first|refine a0c 5 ?_|(refine cPx (a0z _ ?_ ?_) ?_;decide;decide)|refine a0a ?_|(apply bRx<;>intro h<;>try (exfalso;(try dsimp only at h);omega)))
 all_goals (conv=>whnf)
 all_goals first
  |exact a0b rfl
  |trace_state
theorem s0m (i:Nat) (h:i=0\/i=4):a0y Tryz.prog 63 [.str sEx,.int .i64 i] (.str ⟨#[49]⟩):=by
 rcases h with rfl|rfl
 all_goals refine fEx Tryz.func63 ?_
 all_goals repeat' ((conv=>whnf);first|refine a0c 8 ?_|(refine cPx (d0j _ ?_ ?_) ?_;decide;decide)|refine a0a ?_|(apply bRx<;>intro h<;>try (exfalso;(try dsimp only at h);omega)))
 all_goals (conv=>whnf)
 all_goals first
  |exact a0b rfl
  |trace_state
theorem c1t (i:Nat) (p:ByteArray) (h:(i=0\/i=2\/i=4)/\(p=⟨#[33,61]⟩\/p=⟨#[60,61]⟩)):a0y Tryz.prog 216 [.str (sEx.extract i 6),.str p] (.bool false):=by
 obtain ⟨hi,hp⟩:=h;rcases hi with rfl|rfl|rfl<;>rcases hp with rfl|rfl
 all_goals refine fEx Tryz.func216 ?_
 all_goals repeat' ((conv=>whnf);first|refine a0a ?_|(apply bRx<;>intro h<;>try (exfalso;(try dsimp only at h);omega)))
 all_goals (conv=>whnf)
 all_goals first
  |exact a0b rfl
  |(refine a0b (congrArg SV.bool ?_);decide)
  |trace_state
theorem j0M (i:Nat) (p:ByteArray) (h:(i=0\/i=2\/i=4)/\(p=⟨#[33,61]⟩\/p=⟨#[60,61]⟩)):a0y Tryz.prog 150 [.str (sEx.extract i 6),.str p] (.bool false):=by
 have c:=c1t i p h;clear h;refine fEx Tryz.func150 ?_;repeat' ((conv=>whnf);first|refine cPx c ?_|refine a0a ?_|(apply bRx<;>intro h<;>try (exfalso;(try dsimp only at h);omega)))
 all_goals (conv=>whnf)
 all_goals exact a0b rfl
theorem a1r:a0y Tryz.prog 130 [.str sEx,.int .i64 0] (.tup [.agg [.int .i64 2,.str ⟨#[]⟩,.int .i64 1,.int .i64 0],.int .i64 1,.int .i64 0]):=by
 have a:=j0M 0 ⟨#[33,61]⟩ (by decide);have b:=j0M 0 ⟨#[60,61]⟩ (by decide);have w:=s0m 0 (by decide);have n:=e0s ⟨#[49]⟩ 1 (by decide);refine fEx Tryz.func130 ?_;repeat' ((conv=>whnf);first|refine cPx a ?_|refine cPx b ?_|refine cPx w ?_|refine cPx n ?_|(refine cPx (a0z _ ?_ ?_) ?_;decide;decide)|refine a0a ?_|(apply bRx<;>intro h<;>try (exfalso;(try dsimp only at h);omega)))
 all_goals (conv=>whnf)
 all_goals first
  |exact a0b rfl
  |exact rOz [0]
  |trace_state
theorem a1s:a0y Tryz.prog 130 [.str sEx,.int .i64 2] (.tup [.agg [.int .i64 4,.str ⟨#[61]⟩,.int .i64 0,.int .i64 2],.int .i64 3,.int .i64 0]):=by
 have a:=j0M 2 ⟨#[33,61]⟩ (by decide);have b:=j0M 2 ⟨#[60,61]⟩ (by decide);refine fEx Tryz.func130 ?_;repeat' ((conv=>whnf);first|refine cPx a ?_|refine cPx b ?_|(refine cPx (a0z _ ?_ ?_) ?_;decide;decide)|refine a0a ?_|(apply bRx<;>intro h<;>try (exfalso;(try dsimp only at h);omega)))
 all_goals (conv=>whnf)
 all_goals first
  |exact a0b rfl
  |exact rOz [0]
  |trace_state
theorem a1t:a0y Tryz.prog 130 [.str sEx,.int .i64 4] (.tup [.agg [.int .i64 2,.str ⟨#[]⟩,.int .i64 1,.int .i64 4],.int .i64 5,.int .i64 0]):=by
 have a:=j0M 4 ⟨#[33,61]⟩ (by decide);have b:=j0M 4 ⟨#[60,61]⟩ (by decide);have w:=s0m 4 (by decide);have n:=e0s ⟨#[49]⟩ 1 (by decide);refine fEx Tryz.func130 ?_;repeat' ((conv=>whnf);first|refine cPx a ?_|refine cPx b ?_|refine cPx w ?_|refine cPx n ?_|(refine cPx (a0z _ ?_ ?_) ?_;decide;decide)|refine a0a ?_|(apply bRx<;>intro h<;>try (exfalso;(try dsimp only at h);omega)))
 all_goals (conv=>whnf)
 all_goals first
  |exact a0b rfl
  |exact rOz [0]
  |trace_state
abbrev ceB (ro:Bool) (l:List SV):Option HB:=some (.one ro (.cells l))
abbrev exB (ro:Bool):Option HB:=some (.one ro (.cols 4 [.sc (.ints .i64 [2,4,2,0]),.sc (.strs [⟨#[]⟩,⟨#[61]⟩,⟨#[]⟩,⟨#[]⟩]),.sc (.ints .i64 [1,0,1,0]),.sc (.ints .i64 [0,2,4,6])]))
theorem x0E:FC Tryz.prog 1 66 [.str sEx] [] (a0d (.tup [.sl 1 0 0 4,.int .i64 0,.int .i64 0]) [(1,exB false)] 2):=by
 have s0:=k0U 0 0 (by decide);have s1:=k0U 1 2 (by decide);have s3:=k0U 3 4 (by decide);have s5:=k0U 5 6 (by decide);have a0:=a1r;have a2:=a1s;have a4:=a1t;refine fEx Tryz.func66 ?_;repeat' ((conv=>whnf);first|refine a0c 6 ?_|refine cPx s0 ?_|refine cPx s1 ?_|refine cPx s3 ?_|refine cPx s5 ?_|refine cPx a0 ?_|refine cPx a2 ?_|refine cPx a4 ?_|refine a0a ?_|(apply bRx<;>intro h<;>try (exfalso;(try dsimp only at h);omega)))
 all_goals (conv=>whnf)
 all_goals first
  |exact rOz [0,5]
  |exact rOz [0,6]
  |exact rOz [0,7]
  |exact rOz [0,8]
  |exact rOz [0,9]
  |exact rOz [0,10]
  |exact rOz [0,11]
  |exact rOz [0,12]
  |trace_state
theorem a1u:FC Tryz.prog 1 321 [.str sEx] [] (a0d (.tup [.ptr 2 0 0 0,.int .i64 0,.int .i64 0]) [(2,ceB false [.sl 1 0 0 4,.int .i64 0]),(1,exB false)] 3):=by
 have c:=x0E;refine fEx Tryz.func321 ?_;repeat' ((conv=>whnf);first|refine cOx (l:= [0]) c ?_|refine a0a ?_|(apply bRx<;>intro h<;>try (exfalso;(try dsimp only at h);omega)))
 all_goals (conv=>whnf)
 all_goals first
  |exact rOz [0,1,2]
  |exact rOz [0,2,3]
  |trace_state
end
section
attribute [local irreducible] a0u a0v a0j b0b
abbrev scB (ro:Bool) (k:Nat):Option HB:=ceB ro [.sl 1 0 0 4,.int .i64 k]
abbrev lxE (d:Nat) (t:ByteArray) (n a:Nat):SV:= .agg [.int .i64 d,.str t,.int .i64 n,.int .i64 a]
theorem d0O (k d n a:Nat) (t:ByteArray) (h:(k=0/\d=2/\n=1/\a=0/\t=⟨#[]⟩)\/(k=1/\d=4/\n=0/\a=2/\t=⟨#[61]⟩)\/(k=2/\d=2/\n=1/\a=4/\t=⟨#[]⟩)\/(k=3/\d=0/\n=0/\a=6/\t=⟨#[]⟩)):
  FC Tryz.prog 3 323 [.ptr 2 0 0 0] [(1,exB true),(2,scB true k)] (a0d (lxE d t n a) [] 3):=by
 rcases h with ⟨rfl,rfl,rfl,rfl,rfl⟩|⟨rfl,rfl,rfl,rfl,rfl⟩|⟨rfl,rfl,rfl,rfl,rfl⟩|⟨rfl,rfl,rfl,rfl,rfl⟩
 all_goals refine fEx Tryz.func323 ?_
 all_goals repeat' ((conv=>whnf);first|refine a0a ?_|(apply bRx<;>intro h<;>try (exfalso;(try dsimp only at h);omega)))
 all_goals (conv=>whnf)
 all_goals first
  |exact rOz [0,1,2]
  |trace_state
theorem n0t (k d n a:Nat) (t:ByteArray) (h:(k=0/\d=2/\n=1/\a=0/\t=⟨#[]⟩)\/(k=1/\d=4/\n=0/\a=2/\t=⟨#[61]⟩)\/(k=2/\d=2/\n=1/\a=4/\t=⟨#[]⟩)):
  FC Tryz.prog 3 372 [.ptr 2 0 0 0] [(1,exB true),(2,scB false k)] (a0d (lxE d t n a) [(2,scB false (k+1))] 3):=by
 have c:=d0O k d n a t (by rcases h with h|h|h<;>simp only [h,true_and,or_true,true_or]);rcases h with ⟨rfl,rfl,rfl,rfl,rfl⟩|⟨rfl,rfl,rfl,rfl,rfl⟩|⟨rfl,rfl,rfl,rfl,rfl⟩
 all_goals refine fEx Tryz.func372 ?_
 all_goals repeat' ((conv=>whnf);first|refine cOx (l:= [0,1,2]) c ?_|refine a0a ?_|(apply bRx<;>intro h<;>try (exfalso;(try dsimp only at h);omega)))
 all_goals (conv=>whnf)
 all_goals first
  |exact rOz [0,1,2]
  |trace_state
theorem a1v (k:Nat) (q:Nat) (s:ByteArray) (h:k<4/\(q=1\/(q=4/\(k≠1\/s≠⟨#[61]⟩)))):
  FC Tryz.prog 3 356 [.ptr 2 0 0 0,.int .i64 q,.str s] [(1,exB true),(2,scB true k)] (a0d (.bool false) [] 3):=by
 have c0:=d0O 0 2 1 0 ⟨#[]⟩ (by decide);have c1:=d0O 1 4 0 2 ⟨#[61]⟩ (by decide);have c2:=d0O 2 2 1 4 ⟨#[]⟩ (by decide);have c3:=d0O 3 0 0 6 ⟨#[]⟩ (by decide);obtain ⟨hk,hq⟩:=h;have e:k=0\/k=1\/k=2\/k=3:=by omega
 rcases e with rfl|rfl|rfl|rfl<;>rcases hq with rfl|⟨rfl,hs⟩
 all_goals refine fEx Tryz.func356 ?_
 all_goals repeat' ((conv=>whnf);first|refine cOx (l:= [0,1,2]) c0 ?_|refine cOx (l:= [0,1,2]) c1 ?_|refine cOx (l:= [0,1,2]) c2 ?_|refine cOx (l:= [0,1,2]) c3 ?_|refine a0a ?_|(apply bRx<;>intro h<;>try (exfalso;(try dsimp only at h);omega)))
 all_goals (conv=>whnf)
 all_goals first
  |exact rOz [0,1,2]
  |exact (hs.elim (fun z=>z rfl) (fun z=>z h.symm)).elim
  |trace_state
theorem c1u:FC Tryz.prog 3 356 [.ptr 2 0 0 0,.int .i64 4,.str ⟨#[61]⟩] [(1,exB true),(2,scB false 1)] (a0d (.bool true) [(2,scB false 2)] 3):=by
 have c:=d0O 1 4 0 2 ⟨#[61]⟩ (by decide);have d:=n0t 1 4 0 2 ⟨#[61]⟩ (by decide);refine fEx Tryz.func356 ?_;repeat' ((conv=>whnf);first|refine cOx (l:= [0,1,2]) c ?_|refine cOx (l:= [0,1,2]) d ?_|refine a0a ?_|(apply bRx<;>intro h<;>try (exfalso;(try dsimp only at h);omega)))
 all_goals (conv=>whnf)
 all_goals first
  |exact rOz [0,1,2]
  |trace_state
theorem e0t (k:Nat) (s:ByteArray) (h:k<4):
  FC Tryz.prog 3 326 [.ptr 2 0 0 0,.str s] [(1,exB true),(2,scB true k)] (a0d (.bool false) [] 3):=by
 have c:=a1v k 1 s ⟨h,.inl rfl⟩;refine fEx Tryz.func326 ?_;repeat' ((conv=>whnf);first|refine cOx (l:= [0,1,2]) c ?_|refine a0a ?_|(apply bRx<;>intro h<;>try (exfalso;(try dsimp only at h);omega)))
 all_goals (conv=>whnf)
 all_goals first
  |exact rOz [0,1,2]
  |trace_state
theorem f0n (k:Nat) (s:ByteArray) (h:k<4/\(k≠1\/s≠⟨#[61]⟩)):
  FC Tryz.prog 3 370 [.ptr 2 0 0 0,.str s] [(1,exB true),(2,scB true k)] (a0d (.bool false) [] 3):=by
 have c:=a1v k 4 s ⟨h.1,.inr ⟨rfl,h.2⟩⟩;refine fEx Tryz.func370 ?_;repeat' ((conv=>whnf);first|refine cOx (l:= [0,1,2]) c ?_|refine a0a ?_|(apply bRx<;>intro h<;>try (exfalso;(try dsimp only at h);omega)))
 all_goals (conv=>whnf)
 all_goals first
  |exact rOz [0,1,2]
  |trace_state
theorem c1v:FC Tryz.prog 3 370 [.ptr 2 0 0 0,.str ⟨#[61]⟩] [(1,exB true),(2,scB false 1)] (a0d (.bool true) [(2,scB false 2)] 3):=by
 have c:=c1u;refine fEx Tryz.func370 ?_;repeat' ((conv=>whnf);first|refine cOx (l:= [0,1,2]) c ?_|refine a0a ?_|(apply bRx<;>intro h<;>try (exfalso;(try dsimp only at h);omega)))
 all_goals (conv=>whnf)
 all_goals first
  |exact rOz [0,1,2]
  |trace_state
end
section
attribute [local irreducible] a0u a0v a0j b0b
abbrev psB (ro:Bool):Option HB:=ceB ro [.ptr 2 0 0 0]
abbrev q0g:SV:= .agg [.int .i64 1,.str ⟨#[]⟩,.str ⟨#[]⟩,.int .i64 1,.nsl]
abbrev eqS (h:Nat):SV:= .agg [.int .i64 8,.str ⟨#[]⟩,.str ⟨#[]⟩,.int .i64 0,.sl h 0 0 2]
abbrev arB (ro:Bool):Option HB:=some (.one ro (.cols 2 [.sc (.ints .i64 [1,1]),.sc (.strs [⟨#[]⟩,⟨#[]⟩]),.sc (.strs [⟨#[]⟩,⟨#[]⟩]),.sc (.ints .i64 [1,1]),.svs [.nsl,.nsl]]))
theorem u0n (k:Nat) (h:k=0\/k=2):FC Tryz.prog 4 378 [.ptr 3 0 0 0] [(1,exB true),(2,scB false k),(3,psB true)] (a0d q0g [(2,scB false (k+1))] 4):=by
 rcases h with rfl|rfl
 .have c:=d0O 0 2 1 0 ⟨#[]⟩ (by decide);have d:=n0t 0 2 1 0 ⟨#[]⟩ (by decide);have e1:=e0t 0 ⟨#[110,111,116]⟩ (by decide);have e2:=e0t 0 ⟨#[99,111,117,110,116]⟩ (by decide);have e3:=e0t 0 ⟨#[115,117,109]⟩ (by decide);have e4:=f0n 0 ⟨#[45]⟩ (by decide);have e5:=f0n 0 ⟨#[40]⟩ (by decide);refine fEx Tryz.func378 ?_;repeat' ((conv=>whnf);first|refine cOx (l:= [0,1,2]) c ?_|refine cOx (l:= [0,1,2]) d ?_|refine cOx (l:= [0,1,2]) e1 ?_|refine cOx (l:= [0,1,2]) e2 ?_|refine cOx (l:= [0,1,2]) e3 ?_|refine cOx (l:= [0,1,2]) e4 ?_|refine cOx (l:= [0,1,2]) e5 ?_|refine a0a ?_|(apply bRx<;>intro h<;>try (exfalso;(try dsimp only at h);omega)))
  all_goals (conv=>whnf)
  all_goals first
   |exact rOz [0,1,2,3]
   |trace_state
 .have c:=d0O 2 2 1 4 ⟨#[]⟩ (by decide);have d:=n0t 2 2 1 4 ⟨#[]⟩ (by decide);have e1:=e0t 2 ⟨#[110,111,116]⟩ (by decide);have e2:=e0t 2 ⟨#[99,111,117,110,116]⟩ (by decide);have e3:=e0t 2 ⟨#[115,117,109]⟩ (by decide);have e4:=f0n 2 ⟨#[45]⟩ (by decide);have e5:=f0n 2 ⟨#[40]⟩ (by decide);refine fEx Tryz.func378 ?_;repeat' ((conv=>whnf);first|refine cOx (l:= [0,1,2]) c ?_|refine cOx (l:= [0,1,2]) d ?_|refine cOx (l:= [0,1,2]) e1 ?_|refine cOx (l:= [0,1,2]) e2 ?_|refine cOx (l:= [0,1,2]) e3 ?_|refine cOx (l:= [0,1,2]) e4 ?_|refine cOx (l:= [0,1,2]) e5 ?_|refine a0a ?_|(apply bRx<;>intro h<;>try (exfalso;(try dsimp only at h);omega)))
  all_goals (conv=>whnf)
  all_goals first
   |exact rOz [0,1,2,3]
   |trace_state
end
section
attribute [local irreducible] a0u a0v a0j b0b
theorem x0F (k:Nat) (h:k=0\/k=2):FC Tryz.prog 4 375 [.ptr 3 0 0 0] [(1,exB true),(2,scB false k),(3,psB true)] (a0d q0g [(2,scB false (k+1))] 4):=by
 have c:=u0n k h;have e1:=f0n (k+1) ⟨#[42]⟩ (by rcases h with rfl|rfl<;>decide);rcases h with rfl|rfl
 all_goals refine fEx Tryz.func375 ?_
 all_goals repeat' ((conv=>whnf);first|refine a0c 2 ?_|refine cOx (l:= [0,1,2,3]) c ?_|refine cOx (l:= [0,1,2]) e1 ?_|refine a0a ?_|(apply bRx<;>intro h<;>try (exfalso;(try dsimp only at h);omega)))
 all_goals (conv=>whnf)
 all_goals first
  |exact rOz [0,1,2,3]
  |trace_state
theorem v0K (k:Nat) (h:k=0\/k=2):FC Tryz.prog 4 369 [.ptr 3 0 0 0] [(1,exB true),(2,scB false k),(3,psB true)] (a0d q0g [(2,scB false (k+1))] 4):=by
 have c:=x0F k h;have e1:=f0n (k+1) ⟨#[43]⟩ (by rcases h with rfl|rfl<;>decide);have e2:=f0n (k+1) ⟨#[45]⟩ (by rcases h with rfl|rfl<;>decide);rcases h with rfl|rfl
 all_goals refine fEx Tryz.func369 ?_
 all_goals repeat' ((conv=>whnf);first|refine a0c 2 ?_|refine cOx (l:= [0,1,2,3]) c ?_|refine cOx (l:= [0,1,2]) e1 ?_|refine cOx (l:= [0,1,2]) e2 ?_|refine a0a ?_|(apply bRx<;>intro h<;>try (exfalso;(try dsimp only at h);omega)))
 all_goals (conv=>whnf)
 all_goals first
  |exact rOz [0,1,2,3]
  |trace_state
theorem u0o:FC Tryz.prog 2 357 [.sl 1 0 0 2] [(1,arB true)] (a0d (.sl 2 0 0 2) [(2,arB false)] 3):=by
 refine fEx Tryz.func357 ?_;repeat' ((conv=>whnf);first|refine a0a ?_|(apply bRx<;>intro h<;>try (exfalso;(try dsimp only at h);omega)))
 all_goals (conv=>whnf)
 all_goals first
  |exact rOz [0,1,2]
  |exact rOz [0,1,3]
  |trace_state
theorem x0G:FC Tryz.prog 2 327 [.int .i64 8,.sl 1 0 0 2] [(1,arB true)] (a0d (eqS 2) [(2,arB false)] 3):=by
 have c:=u0o;refine fEx Tryz.func327 ?_;repeat' ((conv=>whnf);first|refine cOx (l:= [0,1]) c ?_|refine a0a ?_|(apply bRx<;>intro h<;>try (exfalso;(try dsimp only at h);omega)))
 all_goals (conv=>whnf)
 all_goals first
  |exact rOz [0,1,2]
  |exact rOz [0,1,3]
  |trace_state
end
section
attribute [local irreducible] a0u a0v a0j b0b
theorem x0H:FC Tryz.prog 4 355 [.ptr 3 0 0 0] [(1,exB true),(2,scB false 0),(3,psB true)] (a0d (eqS 4) [(2,scB false 3),(4,arB false)] 5):=by
 have c:=v0K 0 (by decide);have d:=v0K 2 (by decide);have e:=c1v;have f:=x0G;refine fEx Tryz.func355 ?_;repeat' ((conv=>whnf);first|refine cOx (l:= [0,1,2,3]) c ?_|refine cOx (l:= [0,1,2,3]) d ?_|refine cOx (l:= [0,1,2]) e ?_|refine cOx (l:= [0,6]) f ?_|refine cOx (l:= [0,7]) f ?_|refine a0a ?_|(apply bRx<;>intro h<;>try (exfalso;(try dsimp only at h);omega)))
 all_goals (conv=>whnf)
 all_goals first
  |exact rOz [0,1,2,3,7]
  |exact rOz [0,1,2,3,8]
  |trace_state
theorem x0I:FC Tryz.prog 4 325 [.ptr 3 0 0 0] [(1,exB true),(2,scB false 0),(3,psB true)] (a0d (eqS 4) [(2,scB false 3),(4,arB false)] 5):=by
 have c:=x0H;have e:=e0t 3 ⟨#[97,110,100]⟩ (by decide);refine fEx Tryz.func325 ?_;repeat' ((conv=>whnf);first|refine a0c 2 ?_|refine cOx (l:= [0,1,2,3]) c ?_|refine cOx (l:= [0,1,2]) e ?_|refine a0a ?_|(apply bRx<;>intro h<;>try (exfalso;(try dsimp only at h);omega)))
 all_goals (conv=>whnf)
 all_goals first
  |exact rOz [0,1,2,3,5]
  |trace_state
theorem x0J:FC Tryz.prog 4 274 [.ptr 3 0 0 0] [(1,exB true),(2,scB false 0),(3,psB true)] (a0d (eqS 4) [(2,scB false 3),(4,arB false)] 5):=by
 have c:=x0I;have e:=e0t 3 ⟨#[111,114]⟩ (by decide);refine fEx Tryz.func274 ?_;repeat' ((conv=>whnf);first|refine a0c 2 ?_|refine cOx (l:= [0,1,2,3]) c ?_|refine cOx (l:= [0,1,2]) e ?_|refine a0a ?_|(apply bRx<;>intro h<;>try (exfalso;(try dsimp only at h);omega)))
 all_goals (conv=>whnf)
 all_goals first
  |exact rOz [0,1,2,3,5]
  |trace_state
theorem c1w:FCD Tryz.prog 3 322 [.ptr 1 0 0 0,.ptr 2 0 0 0] [] (a0d (.tup []) [] 3):=by
 refine x0y mixed y0X Tryz.func322 rfl (by kernel_rfl) rfl rfl rfl (by kernel_rfl) (by kernel_rfl) (by kernel_rfl) ?_;repeat' ((conv=>whnf);first|refine a0a ?_|(apply bRx<;>intro h<;>try (exfalso;(try dsimp only at h);omega)))
 all_goals (conv=>whnf)
 all_goals first
  |exact rOz [0,1,2]
  |trace_state
theorem c1x (z:List SV) (h:z= [.int .i64 0,.str ⟨#[]⟩,.str ⟨#[]⟩,.int .i64 0,.nsl]):FC Tryz.prog 5 273 [.ptr 3 0 0 0,.ptr 4 0 0 0] [(1,exB true),(2,scB false 0),(3,psB true),(4,ceB false z)] (a0d (.tup []) [(2,scB false 3),(4,ceB false [.int .i64 8,.str ⟨#[]⟩,.str ⟨#[]⟩,.int .i64 0,.sl 5 0 0 2]),(5,arB false)] 6):=by
 subst h;have c:=x0J;refine fEx Tryz.func273 ?_;repeat' ((conv=>whnf);first|refine cOx (l:= [0,1,2,3]) c ?_|refine a0a ?_|(apply bRx<;>intro h<;>try (exfalso;(try dsimp only at h);omega)))
 all_goals (conv=>whnf)
 all_goals first
  |exact rOz [0,1,2,3,4,5]
  |trace_state
end
section
attribute [local irreducible] a0u a0v a0j b0b z0a
abbrev zeE:List SV:= [.int .i64 0,.str ⟨#[]⟩,.str ⟨#[]⟩,.int .i64 0,.nsl]
abbrev eqE (h:Nat):List SV:= [.int .i64 8,.str ⟨#[]⟩,.str ⟨#[]⟩,.int .i64 0,.sl h 0 0 2]
theorem x0K:FC Tryz.prog 2 272 [.str sEx,.fn 273 [.ptr 1 0 0 0]] [(1,ceB false zeE)] (a0d (.tup [.int .i64 0,.int .i64 0]) [(1,ceB false (eqE 2)),(2,arB false)] 3):=by
 have c:=a1u;have d:=c1x zeE rfl;have p:=d0O 3 0 0 6 ⟨#[]⟩ (by decide);have f:=c1w;refine i0i mixed y0X Tryz.func272 rfl (by kernel_rfl) (by kernel_rfl) (by kernel_rfl) ?_;repeat' ((conv=>whnf);first|refine cOx (l:= [0]) c ?_|refine cOx (l:= [0,4,5,6,1]) d ?_|refine cOx (l:= [0,4,5]) p ?_|(refine v0I (l:= [0,2,3]) f ?_)|refine a0a ?_|(apply bRx<;>intro h<;>try (exfalso;(try dsimp only at h);omega)))
 all_goals (conv=>whnf)
 all_goals first
  |exact rOz [0,1,7]
  |trace_state
theorem u0p:FC Tryz.prog 1 199 [.str sEx] [] (a0d (.tup [eqS 1,.int .i64 0,.int .i64 0]) [(1,arB false)] 2):=by
 have c:=x0K;refine fEx Tryz.func199 ?_;repeat' ((conv=>whnf);first|refine cOx (l:= [0,2]) c ?_|refine a0a ?_|(apply bRx<;>intro h<;>try (exfalso;(try dsimp only at h);omega)))
 all_goals (conv=>whnf)
 all_goals first
  |exact rOz [0,3]
  |trace_state
end
section
attribute [local irreducible] a0u a0v a0j b0b
abbrev fpB (ro:Bool) (k:Nat):Option HB:=ceB ro [.str sFt,.str sFb,.sl 1 0 0 11,.int .i64 k,.nsl]
theorem o0A:FC Tryz.prog 3 67 [.ptr 2 0 0 0] [(1,lxB true),(2,fpB true 0)] (a0d (lxE 1 ⟨#[102,101,101]⟩ 0 0) [] 3):=by
 refine fEx Tryz.func67 ?_;repeat' ((conv=>whnf);first|refine a0a ?_|(apply bRx<;>intro h<;>try (exfalso;(try dsimp only at h);omega)))
 all_goals (conv=>whnf)
 all_goals first
  |exact rOz [0,1,2]
  |trace_state
theorem u0q:FC Tryz.prog 3 67 [.ptr 2 0 0 0] [(1,lxB true),(2,fpB true 1)] (a0d (lxE 1 ⟨#[97,108,108]⟩ 0 4) [] 3):=by
 refine fEx Tryz.func67 ?_;repeat' ((conv=>whnf);first|refine a0a ?_|(apply bRx<;>intro h<;>try (exfalso;(try dsimp only at h);omega)))
 all_goals (conv=>whnf)
 all_goals first
  |exact rOz [0,1,2]
  |trace_state
theorem u0r:FC Tryz.prog 3 67 [.ptr 2 0 0 0] [(1,lxB true),(2,fpB true 2)] (a0d (lxE 1 ⟨#[119,104,101,110]⟩ 0 8) [] 3):=by
 refine fEx Tryz.func67 ?_;repeat' ((conv=>whnf);first|refine a0a ?_|(apply bRx<;>intro h<;>try (exfalso;(try dsimp only at h);omega)))
 all_goals (conv=>whnf)
 all_goals first
  |exact rOz [0,1,2]
  |trace_state
theorem o0B:FC Tryz.prog 3 67 [.ptr 2 0 0 0] [(1,lxB true),(2,fpB true 3)] (a0d (lxE 2 ⟨#[]⟩ 1 13) [] 3):=by
 refine fEx Tryz.func67 ?_;repeat' ((conv=>whnf);first|refine a0a ?_|(apply bRx<;>intro h<;>try (exfalso;(try dsimp only at h);omega)))
 all_goals (conv=>whnf)
 all_goals first
  |exact rOz [0,1,2]
  |trace_state
theorem o0C:FC Tryz.prog 3 67 [.ptr 2 0 0 0] [(1,lxB true),(2,fpB true 4)] (a0d (lxE 4 ⟨#[61]⟩ 0 15) [] 3):=by
 refine fEx Tryz.func67 ?_;repeat' ((conv=>whnf);first|refine a0a ?_|(apply bRx<;>intro h<;>try (exfalso;(try dsimp only at h);omega)))
 all_goals (conv=>whnf)
 all_goals first
  |exact rOz [0,1,2]
  |trace_state
theorem o0D:FC Tryz.prog 3 67 [.ptr 2 0 0 0] [(1,lxB true),(2,fpB true 5)] (a0d (lxE 2 ⟨#[]⟩ 1 17) [] 3):=by
 refine fEx Tryz.func67 ?_;repeat' ((conv=>whnf);first|refine a0a ?_|(apply bRx<;>intro h<;>try (exfalso;(try dsimp only at h);omega)))
 all_goals (conv=>whnf)
 all_goals first
  |exact rOz [0,1,2]
  |trace_state
theorem o0E:FC Tryz.prog 3 67 [.ptr 2 0 0 0] [(1,lxB true),(2,fpB true 6)] (a0d (lxE 4 ⟨#[58]⟩ 0 19) [] 3):=by
 refine fEx Tryz.func67 ?_;repeat' ((conv=>whnf);first|refine a0a ?_|(apply bRx<;>intro h<;>try (exfalso;(try dsimp only at h);omega)))
 all_goals (conv=>whnf)
 all_goals first
  |exact rOz [0,1,2]
  |trace_state
theorem o0F:FC Tryz.prog 3 67 [.ptr 2 0 0 0] [(1,lxB true),(2,fpB true 7)] (a0d (lxE 2 ⟨#[]⟩ 0 21) [] 3):=by
 refine fEx Tryz.func67 ?_;repeat' ((conv=>whnf);first|refine a0a ?_|(apply bRx<;>intro h<;>try (exfalso;(try dsimp only at h);omega)))
 all_goals (conv=>whnf)
 all_goals first
  |exact rOz [0,1,2]
  |trace_state
theorem o0G:FC Tryz.prog 3 67 [.ptr 2 0 0 0] [(1,lxB true),(2,fpB true 8)] (a0d (lxE 4 ⟨#[37]⟩ 0 24) [] 3):=by
 refine fEx Tryz.func67 ?_;repeat' ((conv=>whnf);first|refine a0a ?_|(apply bRx<;>intro h<;>try (exfalso;(try dsimp only at h);omega)))
 all_goals (conv=>whnf)
 all_goals first
  |exact rOz [0,1,2]
  |trace_state
theorem h0b:FC Tryz.prog 3 67 [.ptr 2 0 0 0] [(1,lxB true),(2,fpB true 9)] (a0d (lxE 4 ⟨#[59]⟩ 0 25) [] 3):=by
 refine fEx Tryz.func67 ?_;repeat' ((conv=>whnf);first|refine a0a ?_|(apply bRx<;>intro h<;>try (exfalso;(try dsimp only at h);omega)))
 all_goals (conv=>whnf)
 all_goals first
  |exact rOz [0,1,2]
  |trace_state
theorem v0L:FC Tryz.prog 3 131 [.ptr 2 0 0 0,.int .i64 1,.str ⟨#[102,101,101]⟩] [(1,lxB true),(2,fpB true 0)] (a0d (.bool true) [] 3):=by
 have c:=o0A;refine fEx Tryz.func131 ?_;repeat' ((conv=>whnf);first|refine cOx (l:= [0,1,2]) c ?_|refine a0a ?_|(apply bRx<;>intro h<;>try (exfalso;(try dsimp only at h);omega)))
 all_goals (conv=>whnf)
 all_goals first
  |exact rOz [0,1,2]
  |trace_state
theorem a1w:FC Tryz.prog 3 131 [.ptr 2 0 0 0,.int .i64 1,.str ⟨#[119,104,101,110]⟩] [(1,lxB true),(2,fpB true 2)] (a0d (.bool true) [] 3):=by
 have c:=u0r;refine fEx Tryz.func131 ?_;repeat' ((conv=>whnf);first|refine cOx (l:= [0,1,2]) c ?_|refine a0a ?_|(apply bRx<;>intro h<;>try (exfalso;(try dsimp only at h);omega)))
 all_goals (conv=>whnf)
 all_goals first
  |exact rOz [0,1,2]
  |trace_state
theorem a1x:FC Tryz.prog 3 131 [.ptr 2 0 0 0,.int .i64 4,.str ⟨#[58]⟩] [(1,lxB true),(2,fpB true 3)] (a0d (.bool false) [] 3):=by
 have c:=o0B;refine fEx Tryz.func131 ?_;repeat' ((conv=>whnf);first|refine cOx (l:= [0,1,2]) c ?_|refine a0a ?_|(apply bRx<;>intro h<;>try (exfalso;(try dsimp only at h);omega)))
 all_goals (conv=>whnf)
 all_goals first
  |exact rOz [0,1,2]
  |trace_state
theorem a1y:FC Tryz.prog 3 131 [.ptr 2 0 0 0,.int .i64 4,.str ⟨#[58]⟩] [(1,lxB true),(2,fpB true 4)] (a0d (.bool false) [] 3):=by
 have c:=o0C;refine fEx Tryz.func131 ?_;repeat' ((conv=>whnf);first|refine cOx (l:= [0,1,2]) c ?_|refine a0a ?_|(apply bRx<;>intro h<;>try (exfalso;(try dsimp only at h);omega)))
 all_goals (conv=>whnf)
 all_goals first
  |exact rOz [0,1,2]
  |trace_state
theorem a1z:FC Tryz.prog 3 131 [.ptr 2 0 0 0,.int .i64 4,.str ⟨#[58]⟩] [(1,lxB true),(2,fpB true 5)] (a0d (.bool false) [] 3):=by
 have c:=o0D;refine fEx Tryz.func131 ?_;repeat' ((conv=>whnf);first|refine cOx (l:= [0,1,2]) c ?_|refine a0a ?_|(apply bRx<;>intro h<;>try (exfalso;(try dsimp only at h);omega)))
 all_goals (conv=>whnf)
 all_goals first
  |exact rOz [0,1,2]
  |trace_state
theorem v0M:FC Tryz.prog 3 131 [.ptr 2 0 0 0,.int .i64 4,.str ⟨#[58]⟩] [(1,lxB true),(2,fpB true 6)] (a0d (.bool true) [] 3):=by
 have c:=o0E;refine fEx Tryz.func131 ?_;repeat' ((conv=>whnf);first|refine cOx (l:= [0,1,2]) c ?_|refine a0a ?_|(apply bRx<;>intro h<;>try (exfalso;(try dsimp only at h);omega)))
 all_goals (conv=>whnf)
 all_goals first
  |exact rOz [0,1,2]
  |trace_state
theorem a1A:FC Tryz.prog 3 131 [.ptr 2 0 0 0,.int .i64 4,.str ⟨#[37]⟩] [(1,lxB true),(2,fpB true 8)] (a0d (.bool true) [] 3):=by
 have c:=o0G;refine fEx Tryz.func131 ?_;repeat' ((conv=>whnf);first|refine cOx (l:= [0,1,2]) c ?_|refine a0a ?_|(apply bRx<;>intro h<;>try (exfalso;(try dsimp only at h);omega)))
 all_goals (conv=>whnf)
 all_goals first
  |exact rOz [0,1,2]
  |trace_state
theorem a1B:FC Tryz.prog 3 131 [.ptr 2 0 0 0,.int .i64 4,.str ⟨#[43]⟩] [(1,lxB true),(2,fpB true 9)] (a0d (.bool false) [] 3):=by
 have c:=h0b;refine fEx Tryz.func131 ?_;repeat' ((conv=>whnf);first|refine cOx (l:= [0,1,2]) c ?_|refine a0a ?_|(apply bRx<;>intro h<;>try (exfalso;(try dsimp only at h);omega)))
 all_goals (conv=>whnf)
 all_goals first
  |exact rOz [0,1,2]
  |trace_state
theorem a1C:FC Tryz.prog 3 131 [.ptr 2 0 0 0,.int .i64 1,.str ⟨#[109,105,110]⟩] [(1,lxB true),(2,fpB true 9)] (a0d (.bool false) [] 3):=by
 have c:=h0b;refine fEx Tryz.func131 ?_;repeat' ((conv=>whnf);first|refine cOx (l:= [0,1,2]) c ?_|refine a0a ?_|(apply bRx<;>intro h<;>try (exfalso;(try dsimp only at h);omega)))
 all_goals (conv=>whnf)
 all_goals first
  |exact rOz [0,1,2]
  |trace_state
theorem a1D:FC Tryz.prog 3 131 [.ptr 2 0 0 0,.int .i64 1,.str ⟨#[109,97,120]⟩] [(1,lxB true),(2,fpB true 9)] (a0d (.bool false) [] 3):=by
 have c:=h0b;refine fEx Tryz.func131 ?_;repeat' ((conv=>whnf);first|refine cOx (l:= [0,1,2]) c ?_|refine a0a ?_|(apply bRx<;>intro h<;>try (exfalso;(try dsimp only at h);omega)))
 all_goals (conv=>whnf)
 all_goals first
  |exact rOz [0,1,2]
  |trace_state
theorem x0L:FC Tryz.prog 3 131 [.ptr 2 0 0 0,.int .i64 4,.str ⟨#[59]⟩] [(1,lxB true),(2,fpB true 9)] (a0d (.bool true) [] 3):=by
 have c:=h0b;refine fEx Tryz.func131 ?_;repeat' ((conv=>whnf);first|refine cOx (l:= [0,1,2]) c ?_|refine a0a ?_|(apply bRx<;>intro h<;>try (exfalso;(try dsimp only at h);omega)))
 all_goals (conv=>whnf)
 all_goals first
  |exact rOz [0,1,2]
  |trace_state
theorem x0M:FC Tryz.prog 3 137 [.ptr 2 0 0 0,.int .i64 1,.str ⟨#[102,101,101]⟩] [(1,lxB true),(2,fpB false 0)] (a0d (.bool true) [(2,fpB false 1)] 3):=by
 have c:=v0L;refine fEx Tryz.func137 ?_;repeat' ((conv=>whnf);first|refine cOx (l:= [0,1,2]) c ?_|refine a0a ?_|(apply bRx<;>intro h<;>try (exfalso;(try dsimp only at h);omega)))
 all_goals (conv=>whnf)
 all_goals first
  |exact rOz [0,1,2]
  |trace_state
theorem x0N:FC Tryz.prog 3 133 [.ptr 2 0 0 0,.int .i64 1,.str ⟨#[102,101,101]⟩] [(1,lxB true),(2,fpB false 0)] (a0d (.tup []) [(2,fpB false 1)] 3):=by
 have c:=x0M;refine fEx Tryz.func133 ?_;repeat' ((conv=>whnf);first|refine cOx (l:= [0,1,2]) c ?_|refine a0a ?_|(apply bRx<;>intro h<;>try (exfalso;(try dsimp only at h);omega)))
 all_goals (conv=>whnf)
 all_goals first
  |exact rOz [0,1,2]
  |trace_state
theorem x0O:FC Tryz.prog 3 137 [.ptr 2 0 0 0,.int .i64 1,.str ⟨#[119,104,101,110]⟩] [(1,lxB true),(2,fpB false 2)] (a0d (.bool true) [(2,fpB false 3)] 3):=by
 have c:=a1w;refine fEx Tryz.func137 ?_;repeat' ((conv=>whnf);first|refine cOx (l:= [0,1,2]) c ?_|refine a0a ?_|(apply bRx<;>intro h<;>try (exfalso;(try dsimp only at h);omega)))
 all_goals (conv=>whnf)
 all_goals first
  |exact rOz [0,1,2]
  |trace_state
theorem x0P:FC Tryz.prog 3 133 [.ptr 2 0 0 0,.int .i64 1,.str ⟨#[119,104,101,110]⟩] [(1,lxB true),(2,fpB false 2)] (a0d (.tup []) [(2,fpB false 3)] 3):=by
 have c:=x0O;refine fEx Tryz.func133 ?_;repeat' ((conv=>whnf);first|refine cOx (l:= [0,1,2]) c ?_|refine a0a ?_|(apply bRx<;>intro h<;>try (exfalso;(try dsimp only at h);omega)))
 all_goals (conv=>whnf)
 all_goals first
  |exact rOz [0,1,2]
  |trace_state
theorem x0Q:FC Tryz.prog 3 137 [.ptr 2 0 0 0,.int .i64 4,.str ⟨#[58]⟩] [(1,lxB true),(2,fpB false 6)] (a0d (.bool true) [(2,fpB false 7)] 3):=by
 have c:=v0M;refine fEx Tryz.func137 ?_;repeat' ((conv=>whnf);first|refine cOx (l:= [0,1,2]) c ?_|refine a0a ?_|(apply bRx<;>intro h<;>try (exfalso;(try dsimp only at h);omega)))
 all_goals (conv=>whnf)
 all_goals first
  |exact rOz [0,1,2]
  |trace_state
theorem x0R:FC Tryz.prog 3 133 [.ptr 2 0 0 0,.int .i64 4,.str ⟨#[58]⟩] [(1,lxB true),(2,fpB false 6)] (a0d (.tup []) [(2,fpB false 7)] 3):=by
 have c:=x0Q;refine fEx Tryz.func133 ?_;repeat' ((conv=>whnf);first|refine cOx (l:= [0,1,2]) c ?_|refine a0a ?_|(apply bRx<;>intro h<;>try (exfalso;(try dsimp only at h);omega)))
 all_goals (conv=>whnf)
 all_goals first
  |exact rOz [0,1,2]
  |trace_state
theorem x0S:FC Tryz.prog 3 137 [.ptr 2 0 0 0,.int .i64 4,.str ⟨#[43]⟩] [(1,lxB true),(2,fpB true 9)] (a0d (.bool false) [] 3):=by
 have c:=a1B;refine fEx Tryz.func137 ?_;repeat' ((conv=>whnf);first|refine cOx (l:= [0,1,2]) c ?_|refine a0a ?_|(apply bRx<;>intro h<;>try (exfalso;(try dsimp only at h);omega)))
 all_goals (conv=>whnf)
 all_goals first
  |exact rOz [0,1,2]
  |trace_state
theorem x0T:FC Tryz.prog 3 137 [.ptr 2 0 0 0,.int .i64 1,.str ⟨#[109,105,110]⟩] [(1,lxB true),(2,fpB true 9)] (a0d (.bool false) [] 3):=by
 have c:=a1C;refine fEx Tryz.func137 ?_;repeat' ((conv=>whnf);first|refine cOx (l:= [0,1,2]) c ?_|refine a0a ?_|(apply bRx<;>intro h<;>try (exfalso;(try dsimp only at h);omega)))
 all_goals (conv=>whnf)
 all_goals first
  |exact rOz [0,1,2]
  |trace_state
theorem x0U:FC Tryz.prog 3 137 [.ptr 2 0 0 0,.int .i64 1,.str ⟨#[109,97,120]⟩] [(1,lxB true),(2,fpB true 9)] (a0d (.bool false) [] 3):=by
 have c:=a1D;refine fEx Tryz.func137 ?_;repeat' ((conv=>whnf);first|refine cOx (l:= [0,1,2]) c ?_|refine a0a ?_|(apply bRx<;>intro h<;>try (exfalso;(try dsimp only at h);omega)))
 all_goals (conv=>whnf)
 all_goals first
  |exact rOz [0,1,2]
  |trace_state
theorem u0s:FC Tryz.prog 3 137 [.ptr 2 0 0 0,.int .i64 4,.str ⟨#[59]⟩] [(1,lxB true),(2,fpB false 9)] (a0d (.bool true) [(2,fpB false 10)] 3):=by
 have c:=x0L;refine fEx Tryz.func137 ?_;repeat' ((conv=>whnf);first|refine cOx (l:= [0,1,2]) c ?_|refine a0a ?_|(apply bRx<;>intro h<;>try (exfalso;(try dsimp only at h);omega)))
 all_goals (conv=>whnf)
 all_goals first
  |exact rOz [0,1,2]
  |trace_state
theorem u0t:FC Tryz.prog 3 133 [.ptr 2 0 0 0,.int .i64 4,.str ⟨#[59]⟩] [(1,lxB true),(2,fpB false 9)] (a0d (.tup []) [(2,fpB false 10)] 3):=by
 have c:=u0s;refine fEx Tryz.func133 ?_;repeat' ((conv=>whnf);first|refine cOx (l:= [0,1,2]) c ?_|refine a0a ?_|(apply bRx<;>intro h<;>try (exfalso;(try dsimp only at h);omega)))
 all_goals (conv=>whnf)
 all_goals first
  |exact rOz [0,1,2]
  |trace_state
end
section
attribute [local irreducible] a0u a0v a0j b0b
def sPc:ByteArray:=⟨#[48,46,53,37]⟩
theorem a1E:sFt.extract 21 25=sPc:=by decide
theorem c1y:a0y Tryz.prog 220 [.str sPc,.str ⟨#[37]⟩] (.bool true):=by
 refine fEx Tryz.func220 ?_;repeat' ((conv=>whnf);first|refine a0a ?_|(apply bRx<;>intro h<;>try (exfalso;(try dsimp only at h);omega)))
 all_goals (conv=>whnf)
 all_goals first
  |exact a0b rfl
  |(refine a0b (congrArg SV.bool ?_);decide)
  |trace_state
theorem a1F:a0y Tryz.prog 328 [.str sPc,.str ⟨#[37]⟩] (.tup [.str ⟨#[48,46,53]⟩,.bool true]):=by
 have c:=c1y;refine fEx Tryz.func328 ?_;repeat' ((conv=>whnf);first|refine cPx c ?_|refine a0a ?_|(apply bRx<;>intro h<;>try (exfalso;(try dsimp only at h);omega)))
 all_goals (conv=>whnf)
 all_goals first
  |exact a0b rfl
  |trace_state
theorem c1z:a0y Tryz.prog 275 [.str sPc,.str ⟨#[37]⟩] (.tup [.str ⟨#[48,46,53]⟩,.bool true]):=by
 have c:=a1F;refine fEx Tryz.func275 ?_;repeat' ((conv=>whnf);first|refine cPx c ?_|refine a0a ?_|(apply bRx<;>intro h<;>try (exfalso;(try dsimp only at h);omega)))
 all_goals (conv=>whnf)
 all_goals exact a0b rfl
theorem c1A:a0y Tryz.prog 290 [.str ⟨#[48,46,53]⟩,.str ⟨#[46]⟩] (.int .i64 1):=by
 refine b0E (vals:= [.string ⟨#[48,46,53]⟩,.string ⟨#[46]⟩]) (v:= .int .i64 1) (b0g Tryz.func290 (by kernel_rfl) (by kernel_rfl)) ?_ (fun g=>by simp [Rv]) fun w=>(Tryz.stringslite_Index_one ⟨#[48,46,53]⟩ 46 w).mono ?_
 .intro g vs h;simp only [Rvs,Rv] at h;obtain ⟨_,_,rfl,rfl,_,_,rfl,rfl,rfl⟩:=h;rfl
 .rintro e w' ⟨rfl,rfl⟩;exact ⟨rfl,Below.refl _ _⟩
theorem x0V:a0y Tryz.prog 329 [.str ⟨#[48,46,53]⟩,.str ⟨#[46]⟩] (.tup [.str ⟨#[48]⟩,.str ⟨#[53]⟩,.bool true]):=by
 have c:=c1A;refine fEx Tryz.func329 ?_;repeat' ((conv=>whnf);first|refine cPx c ?_|refine a0a ?_|(apply bRx<;>intro h<;>try (exfalso;(try dsimp only at h);omega)))
 all_goals (conv=>whnf)
 all_goals first
  |exact a0b rfl
  |trace_state
theorem a1G:a0y Tryz.prog 276 [.str ⟨#[48,46,53]⟩,.str ⟨#[46]⟩] (.tup [.str ⟨#[48]⟩,.str ⟨#[53]⟩,.bool true]):=by
 have c:=x0V;refine fEx Tryz.func276 ?_;repeat' ((conv=>whnf);first|refine cPx c ?_|refine a0a ?_|(apply bRx<;>intro h<;>try (exfalso;(try dsimp only at h);omega)))
 all_goals (conv=>whnf)
 all_goals exact a0b rfl
theorem m0n (s:ByteArray) (h:s=⟨#[48]⟩\/s=⟨#[53]⟩):a0y Tryz.prog 277 [.str s] (.bool true):=by
 rcases h with rfl|rfl
 all_goals refine fEx Tryz.func277 ?_
 all_goals repeat' ((conv=>whnf);first|refine a0c 5 ?_|(refine cPx (g0Z _) ?_)|refine a0a ?_|(apply bRx<;>intro h<;>try (exfalso;(try dsimp only at h);omega)))
 all_goals (conv=>whnf)
 all_goals first
  |exact a0b rfl
  |trace_state
theorem p0O:a0y Tryz.prog 278 [.int .i64 0] (.int .i64 100):=by
 refine fEx Tryz.func278 ?_;repeat' ((conv=>whnf);first|refine a0c 5 ?_|refine a0a ?_|(apply bRx<;>intro h<;>try (exfalso;(try dsimp only at h);omega)))
 all_goals (conv=>whnf)
 all_goals exact a0b rfl
theorem u0u:a0y Tryz.prog 200 [.str sPc] (.tup [.int .i64 50,.int .i64 0]):=by
 have c:=c1z;have d:=a1G;have e0:=m0n ⟨#[48]⟩ (.inl rfl);have e5:=m0n ⟨#[53]⟩ (.inr rfl);have f:=p0O;refine fEx Tryz.func200 ?_;repeat' ((conv=>whnf);first|refine a0c 5 ?_|refine cPx c ?_|refine cPx d ?_|refine cPx e0 ?_|refine cPx e5 ?_|refine cPx f ?_|refine a0a ?_|(apply bRx<;>intro h<;>try (exfalso;(try dsimp only at h);omega)))
 all_goals (conv=>whnf)
 all_goals first
  |exact a0b rfl
  |trace_state
theorem x0W:a0y Tryz.prog 198 [.str ⟨#[97,108,108]⟩] (.bool true):=by
 have c:=c0j ⟨#[97,108,108]⟩;rw [show nmB ⟨#[97,108,108]⟩=true by decide] at c;refine fEx Tryz.func198 ?_;repeat' ((conv=>whnf);first|refine cPx c ?_|refine a0a ?_|(apply bRx<;>intro h<;>try (exfalso;(try dsimp only at h);omega)))
 all_goals (conv=>whnf)
 all_goals first
  |exact a0b rfl
  |trace_state
end
section
attribute [local irreducible] a0u a0v a0j b0b
theorem x0X:FC Tryz.prog 3 134 [.ptr 2 0 0 0] [(1,lxB true),(2,fpB false 1)] (a0d (.str ⟨#[97,108,108]⟩) [(2,fpB false 2)] 3):=by
 have c:=u0q;have d:=x0W;refine fEx Tryz.func134 ?_;repeat' ((conv=>whnf);first|refine a0c 3 ?_|refine cOx (l:= [0,1,2]) c ?_|refine cPx d ?_|refine a0a ?_|(apply bRx<;>intro h<;>try (exfalso;(try dsimp only at h);omega)))
 all_goals (conv=>whnf)
 all_goals first
  |exact rOz [0,1,2]
  |trace_state
theorem s0n:FC Tryz.prog 3 138 [.ptr 2 0 0 0] [(1,lxB true),(2,fpB false 7)] (a0d (.int .i64 0) [(2,fpB false 8)] 3):=by
 have c:=o0F;refine fEx Tryz.func138 ?_;repeat' ((conv=>whnf);first|refine cOx (l:= [0,1,2]) c ?_|refine a0a ?_|(apply bRx<;>intro h<;>try (exfalso;(try dsimp only at h);omega)))
 all_goals (conv=>whnf)
 all_goals first
  |exact rOz [0,1,2]
  |trace_state
theorem p0P:FC Tryz.prog 3 136 [.ptr 2 0 0 0] [(1,lxB true),(2,fpB false 7)] (a0d (.int .i64 50) [(2,fpB false 9)] 3):=by
 have c:=o0F;have d:=s0n;have e:=a1A;have f:=o0G;have g:=u0u;rw [<-a1E] at g;refine fEx Tryz.func136 ?_;repeat' ((conv=>whnf);first|refine cOx (l:= [0,1,2]) c ?_|refine cOx (l:= [0,1,2]) d ?_|refine cOx (l:= [0,1,2]) e ?_|refine cOx (l:= [0,1,2]) f ?_|refine cPx g ?_|refine a0a ?_|(apply bRx<;>intro h<;>try (exfalso;(try dsimp only at h);omega)))
 all_goals (conv=>whnf)
 all_goals first
  |exact rOz [0,1,2]
  |trace_state
theorem x0Y:FC Tryz.prog 3 135 [.ptr 2 0 0 0] [(1,lxB true),(2,fpB false 3)] (a0d (eqS 3) [(2,fpB false 6),(3,arB false)] 4):=by
 have p3:=o0B;have p4:=o0C;have p5:=o0D;have p6:=o0E;have q3:=a1x;have q4:=a1y;have q5:=a1z;have q6:=v0M;have g:=u0p;rw [show sEx=sFb.extract 13 19 by decide] at g;refine fEx Tryz.func135 ?_;repeat' ((conv=>whnf);first|refine a0c 5 ?_|refine cOx (l:= [0,1,2]) p3 ?_|refine cOx (l:= [0,1,2]) p4 ?_|refine cOx (l:= [0,1,2]) p5 ?_|refine cOx (l:= [0,1,2]) p6 ?_|refine cOx (l:= [0,1,2]) q3 ?_|refine cOx (l:= [0,1,2]) q4 ?_|refine cOx (l:= [0,1,2]) q5 ?_|refine cOx (l:= [0,1,2]) q6 ?_|refine cOx (l:= [0]) g ?_|refine a0a ?_|(apply bRx<;>intro h<;>try (exfalso;(try dsimp only at h);omega)))
 all_goals (conv=>whnf)
 all_goals first
  |exact rOz [0,1,2,3]
  |exact rOz [0,1,2,4]
  |exact rOz [0,1,2,5]
  |trace_state
abbrev ruB (ro:Bool) (h:Nat):Option HB:=some (.one ro (.cols 1 [.sc (.strs [i0Q]),.sc (.ints .i64 [8]),.sc (.strs [⟨#[]⟩]),.sc (.strs [⟨#[]⟩]),.sc (.ints .i64 [0]),.svs [.sl h 0 0 2],.sc (.ints .i64 [50]),.sc (.ints .i64 [0]),.sc (.ints .i64 [0]),.sc (.ints .i64 [0])]))
abbrev fpE (ro:Bool) (k h:Nat):Option HB:=ceB ro [.str sFt,.str sFb,.sl 1 0 0 11,.int .i64 k,.sl h 0 0 1]
theorem x0Z:FC Tryz.prog 3 68 [.ptr 2 0 0 0] [(1,lxB true),(2,fpB false 0)] (a0d (.tup []) [(2,fpE false 10 4),(3,arB false),(4,ruB false 3)] 5):=by
 have i0:=v0L;have e0:=x0N;have n:=x0X;have e1:=x0P;have x:=x0Y;have e5:=x0R;have p:=p0P;have a7:=x0S;have a8:=x0T;have a9:=x0U;have e10:=u0t;refine fEx Tryz.func68 ?_;repeat' ((conv=>whnf);first|refine cOx (l:= [0,1,2]) i0 ?_|refine cOx (l:= [0,1,2]) e0 ?_|refine cOx (l:= [0,1,2]) n ?_|refine cOx (l:= [0,1,2]) e1 ?_|refine cOx (l:= [0,1,2]) x ?_|refine cOx (l:= [0,1,2]) e5 ?_|refine cOx (l:= [0,1,2]) p ?_|refine cOx (l:= [0,1,2]) a7 ?_|refine cOx (l:= [0,1,2]) a8 ?_|refine cOx (l:= [0,1,2]) a9 ?_|refine cOx (l:= [0,1,2]) e10 ?_|refine a0a ?_|(apply bRx<;>intro h<;>try (exfalso;(try dsimp only at h);omega)))
 all_goals (conv=>whnf)
 all_goals first
  |exact rOz [0,1,2,4,5]
  |exact rOz [0,1,2,4,6]
  |exact rOz [0,1,2,5,6]
  |trace_state
end
section
attribute [local irreducible] a0u a0v a0j b0b z0a
theorem u0v:FC Tryz.prog 5 67 [.ptr 2 0 0 0] [(1,lxB true),(2,fpE true 10 4)] (a0d (lxE 0 ⟨#[]⟩ 0 26) [] 5):=by
 refine fEx Tryz.func67 ?_;repeat' ((conv=>whnf);first|refine a0a ?_|(apply bRx<;>intro h<;>try (exfalso;(try dsimp only at h);omega)))
 all_goals (conv=>whnf)
 all_goals first
  |exact rOz [0,1,2,3,4]
  |trace_state
theorem c1B:FCD Tryz.prog 4 64 [.ptr 1 0 0 0,.ptr 2 0 0 0,.ptr 3 0 0 0] [] (a0d (.tup []) [] 4):=by
 refine x0z mixed y0X Tryz.func64 rfl (by kernel_rfl) rfl rfl rfl (by kernel_rfl) rfl rfl rfl (by kernel_rfl) (by kernel_rfl) (by kernel_rfl) ?_;repeat' ((conv=>whnf);first|refine a0a ?_|(apply bRx<;>intro h<;>try (exfalso;(try dsimp only at h);omega)))
 all_goals (conv=>whnf)
 all_goals first
  |exact rOz [0,1,2,3]
  |trace_state
theorem u0w:FC Tryz.prog 1 29 [.str sFt] [] (a0d (.tup [.sl 2 0 0 1,.int .i64 0,.int .i64 0]) [(1,arB false),(2,ruB false 1)] 3):=by
 have c:=p0L;have d:=x0w;have p:=o0A;have r:=x0Z;have q:=u0v;have f:=c1B;refine i0i mixed y0X Tryz.func29 rfl (by kernel_rfl) (by kernel_rfl) (by kernel_rfl) ?_;repeat' ((conv=>whnf);first|refine a0c 3 ?_|refine cPx c ?_|refine cOx (l:= [0]) d ?_|refine cOx (l:= [0,4,5]) p ?_|refine cOx (l:= [0,4,5]) r ?_|refine cOx (l:= [0,4,5,6,7]) q ?_|(refine v0I (l:= [0,1,2,3]) f ?_)|refine a0a ?_|(apply bRx<;>intro h<;>try (exfalso;(try dsimp only at h);omega)))
 all_goals (conv=>whnf)
 all_goals first
  |exact rOz [0,6,7]
  |trace_state
end
section
attribute [local irreducible] a0u a0v a0j b0b
abbrev fnL:List ByteArray:= [⟨#[107,105,110,100]⟩,⟨#[99,97,116,101,103,111,114,121]⟩,⟨#[97,109,111,117,110,116]⟩,⟨#[100,97,116,101]⟩,⟨#[109,101,114,99,104,97,110,116]⟩,⟨#[105,115,115,117,101,114]⟩,⟨#[97,99,113,117,105,114,101,114]⟩,⟨#[99,117,114,114,101,110,99,121]⟩,⟨#[97,117,116,104,111,114,105,122,101,100]⟩]
abbrev fkL:List Int:= [1,1,1,1,2,2,2,2,3]
abbrev fvL (k ct am da:Int):List Int:= [k,ct,am,da,0,0,0,0,0]
abbrev ftL (me is ac cu:ByteArray):List ByteArray:= [⟨#[]⟩,⟨#[]⟩,⟨#[]⟩,⟨#[]⟩,me,is,ac,cu,⟨#[]⟩]
abbrev ftB (ro:Bool) (k ct am da:Int) (me is ac cu:ByteArray):Option HB:=some (.one ro (.cols 9 [.sc (.strs fnL),.sc (.ints .i64 fkL),.sc (.ints .i64 (fvL k ct am da)),.sc (.strs (ftL me is ac cu))]))
abbrev knB (ro:Bool) (k ct am da:Int) (me is ac cu:ByteArray):Option HB:=some (.one ro (.obj (.map false true 9 [.strs fnL] [.sc (.strs fnL),.sc (.ints .i64 fkL),.sc (.ints .i64 (fvL k ct am da)),.sc (.strs (ftL me is ac cu))] [0,1,2,3,4,5,6,7,8] 9)))
abbrev kn0 (ro:Bool):Option HB:=some (.one ro (.obj (.map false true 0 [.strs []] [.sc (.strs []),.sc (.ints .i64 []),.sc (.ints .i64 []),.sc (.strs [])] [] 0)))
abbrev rcA (k:Int) (id ac is me ca:ByteArray) (am:Int) (cu:ByteArray) (da ct:Int) (fi:Bool):SV:= .agg [.int .i64 k,.str id,.str ⟨#[]⟩,.str ac,.str is,.str me,.str ca,.int .i64 am,.str cu,.int .i64 da,.int .i64 ct,.bool fi]
set_option maxHeartbeats 4000000 in
theorem f0o (k:Int) (id ac is me ca:ByteArray) (am:Int) (cu:ByteArray) (da ct:Int) (fi:Bool) (hk:IntKind.i64.wrap k=k) (hc:IntKind.i64.wrap ct=ct) (hd:IntKind.i64.wrap da=da):FC Tryz.prog 1 44 [rcA k id ac is me ca am cu da ct fi] [] (a0d (.sl 1 0 0 9) [(1,ftB false k ct am da me is ac cu)] 2):=by
 refine fEx Tryz.func44 ?_;repeat' ((conv=>whnf);first|(rw [hk])|(rw [hc])|(rw [hd])|refine a0a ?_|(apply bRx<;>intro h<;>try (exfalso;(try dsimp only at h);omega)))
 all_goals (conv=>whnf)
 all_goals first
  |exact rOz [0,1]
  |exact rOz [0,2]
  |trace_state
theorem c0V (n:Int) (h: -4611686018427387904<=n/\n<=4611686018427387904):a0y Tryz.prog 279 [.int .i64 n] (.bool true):=by
 refine fEx Tryz.func279 ?_;repeat' ((conv=>whnf);first|refine a0a ?_|(apply bRx<;>intro h<;>try (exfalso;(try dsimp only at h);omega)))
 all_goals (conv=>whnf)
 all_goals first
  |exact a0b rfl
  |(refine a0b (congrArg SV.bool ?_);simp;omega)
  |trace_state
theorem d0P (s:ByteArray) (h:s∈fnL):a0y Tryz.prog 27 [.str s] (.bool true):=by
 have c:=c0j s
 rwa [show nmB s=true by
  simp only [d0z,n0s,or_false] at h;rcases h with rfl|rfl|rfl|rfl|rfl|rfl|rfl|rfl|rfl<;>decide] at c
theorem m0o:FC Tryz.prog 1 201 [.nsl] [] (a0d (.tup [.map 1 0,.int .i64 0]) [(1,kn0 false)] 2):=by
 refine fEx Tryz.func201 ?_;repeat' ((conv=>whnf);first|refine a0c 3 ?_|refine a0a ?_|(apply bRx<;>intro h<;>try (exfalso;(try dsimp only at h);omega)))
 all_goals (conv=>whnf)
 all_goals first
  |exact rOz [0,1]
  |trace_state
theorem o0H (k ct am da:Int) (me is ac cu:ByteArray) (hk: -4611686018427387904<=k/\k<=4611686018427387904) (hc: -4611686018427387904<=ct/\ct<=4611686018427387904) (ha: -4611686018427387904<=am/\am<=4611686018427387904) (hd: -4611686018427387904<=da/\da<=4611686018427387904):FC Tryz.prog 2 201 [.sl 1 0 0 9] [(1,ftB true k ct am da me is ac cu)] (a0d (.tup [.map 2 0,.int .i64 0]) [(2,knB false k ct am da me is ac cu)] 3):=by
 have n0:=d0P ⟨#[107,105,110,100]⟩ (by simp);have n1:=d0P ⟨#[99,97,116,101,103,111,114,121]⟩ (by simp);have n2:=d0P ⟨#[97,109,111,117,110,116]⟩ (by simp);have n3:=d0P ⟨#[100,97,116,101]⟩ (by simp);have n4:=d0P ⟨#[109,101,114,99,104,97,110,116]⟩ (by simp);have n5:=d0P ⟨#[105,115,115,117,101,114]⟩ (by simp);have n6:=d0P ⟨#[97,99,113,117,105,114,101,114]⟩ (by simp);have n7:=d0P ⟨#[99,117,114,114,101,110,99,121]⟩ (by simp);have n8:=d0P ⟨#[97,117,116,104,111,114,105,122,101,100]⟩ (by simp);have m0:=c0V k hk;have m1:=c0V ct hc;have m2:=c0V am ha;have m3:=c0V da hd;refine fEx Tryz.func201 ?_;repeat' ((conv=>whnf);first|refine a0a ?_|(apply bRx<;>intro h<;>try (exfalso;(try dsimp only at h);omega)))
 all_goals (conv=>whnf)
 refine a0n (fun i:Nat=>⟨[(4,.map 2 0),(10,.sl 1 0 0 9),(11,.int .i64 9),(12,.int .i64 i)],[(1,ftB true k ct am da me is ac cu),(2,some (.one false (.obj (.map false true i [.strs (fnL.take i)] [.sc (.strs (fnL.take i)),.sc (.ints .i64 (fkL.take i)),.sc (.ints .i64 ((fvL k ct am da).take i)),.sc (.strs ((ftL me is ac cu).take i))] (List.range i) i))))],3⟩) (fun i=>i<=9) (fun i=>9-i) 0 [0,1,2] [] wHx (by decide) ?_;rintro i hi;have e:i=0\/i=1\/i=2\/i=3\/i=4\/i=5\/i=6\/i=7\/i=8\/i=9:=by omega
 rcases e with rfl|rfl|rfl|rfl|rfl|rfl|rfl|rfl|rfl|rfl
 .repeat' ((conv=>whnf);first|refine cPx n0 ?_|refine cPx m0 ?_|refine a0a ?_|(apply bRx<;>intro h<;>try (exfalso;(try dsimp only at h);omega)))
  all_goals (conv=>whnf)
  all_goals first
   |exact ⟨1,[0,1,2],[],by decide,by decide,⟨rfl,⟨rfl,rfl,rfl,rfl,trivial⟩,⟨rfl,rfl,trivial⟩⟩⟩
   |trace_state
 .repeat' ((conv=>whnf);first|refine cPx n1 ?_|refine cPx m1 ?_|refine a0a ?_|(apply bRx<;>intro h<;>try (exfalso;(try dsimp only at h);omega)))
  all_goals (conv=>whnf)
  all_goals first
   |exact ⟨2,[0,1,2],[],by decide,by decide,⟨rfl,⟨rfl,rfl,rfl,rfl,trivial⟩,⟨rfl,rfl,trivial⟩⟩⟩
   |trace_state
 .repeat' ((conv=>whnf);first|refine cPx n2 ?_|refine cPx m2 ?_|refine a0a ?_|(apply bRx<;>intro h<;>try (exfalso;(try dsimp only at h);omega)))
  all_goals (conv=>whnf)
  all_goals first
   |exact ⟨3,[0,1,2],[],by decide,by decide,⟨rfl,⟨rfl,rfl,rfl,rfl,trivial⟩,⟨rfl,rfl,trivial⟩⟩⟩
   |trace_state
 .repeat' ((conv=>whnf);first|refine cPx n3 ?_|refine cPx m3 ?_|refine a0a ?_|(apply bRx<;>intro h<;>try (exfalso;(try dsimp only at h);omega)))
  all_goals (conv=>whnf)
  all_goals first
   |exact ⟨4,[0,1,2],[],by decide,by decide,⟨rfl,⟨rfl,rfl,rfl,rfl,trivial⟩,⟨rfl,rfl,trivial⟩⟩⟩
   |trace_state
 .repeat' ((conv=>whnf);first|refine cPx n4 ?_|refine a0a ?_|(apply bRx<;>intro h<;>try (exfalso;(try dsimp only at h);omega)))
  all_goals (conv=>whnf)
  all_goals first
   |exact ⟨5,[0,1,2],[],by decide,by decide,⟨rfl,⟨rfl,rfl,rfl,rfl,trivial⟩,⟨rfl,rfl,trivial⟩⟩⟩
   |trace_state
 .repeat' ((conv=>whnf);first|refine cPx n5 ?_|refine a0a ?_|(apply bRx<;>intro h<;>try (exfalso;(try dsimp only at h);omega)))
  all_goals (conv=>whnf)
  all_goals first
   |exact ⟨6,[0,1,2],[],by decide,by decide,⟨rfl,⟨rfl,rfl,rfl,rfl,trivial⟩,⟨rfl,rfl,trivial⟩⟩⟩
   |trace_state
 .repeat' ((conv=>whnf);first|refine cPx n6 ?_|refine a0a ?_|(apply bRx<;>intro h<;>try (exfalso;(try dsimp only at h);omega)))
  all_goals (conv=>whnf)
  all_goals first
   |exact ⟨7,[0,1,2],[],by decide,by decide,⟨rfl,⟨rfl,rfl,rfl,rfl,trivial⟩,⟨rfl,rfl,trivial⟩⟩⟩
   |trace_state
 .repeat' ((conv=>whnf);first|refine cPx n7 ?_|refine a0a ?_|(apply bRx<;>intro h<;>try (exfalso;(try dsimp only at h);omega)))
  all_goals (conv=>whnf)
  all_goals first
   |exact ⟨8,[0,1,2],[],by decide,by decide,⟨rfl,⟨rfl,rfl,rfl,rfl,trivial⟩,⟨rfl,rfl,trivial⟩⟩⟩
   |trace_state
 .repeat' ((conv=>whnf);first|refine cPx n8 ?_|refine a0a ?_|(apply bRx<;>intro h<;>try (exfalso;(try dsimp only at h);omega)))
  all_goals (conv=>whnf)
  all_goals first
   |exact ⟨9,[0,1,2],[],by decide,by decide,⟨rfl,⟨rfl,rfl,rfl,rfl,trivial⟩,⟨rfl,rfl,trivial⟩⟩⟩
   |trace_state
 .repeat' ((conv=>whnf);first|refine a0a ?_|(apply bRx<;>intro h<;>try (exfalso;(try dsimp only at h);omega)))
  all_goals (conv=>whnf)
  all_goals first
   |exact rOz [0,1,2]
   |trace_state
end
section
attribute [local irreducible] a0u a0v a0j b0b
theorem u0x (l:Nat) (h:1<=l/\l<=8):a0y Tryz.prog 202 [q0g,.int .i64 l] (.bool false):=by
 refine fEx Tryz.func202 ?_;repeat' ((conv=>whnf);first|refine a0c 2 ?_|refine a0a ?_|(apply bRx<;>intro h<;>try (exfalso;(try dsimp only at h);omega)))
 all_goals (conv=>whnf)
 all_goals first
  |exact a0b rfl
  |(exfalso;omega)
  |trace_state
theorem i0t:FC Tryz.prog 2 202 [eqS 1,.int .i64 8] [(1,arB true)] (a0d (.bool false) [] 2):=by
 have c:=u0x 7 (by decide);refine fEx Tryz.func202 ?_;repeat' ((conv=>whnf);first|refine a0c 4 ?_|refine cPx c ?_|refine a0a ?_|(apply bRx<;>intro h<;>try (exfalso;(try dsimp only at h);omega)))
 all_goals (conv=>whnf)
 all_goals first
  |exact rOz [0,1]
  |trace_state
theorem y0a:a0y Tryz.prog 280 [q0g] (.bool true):=by
 have c:=c0V 1 (by decide);refine fEx Tryz.func280 ?_;repeat' ((conv=>whnf);first|refine cPx c ?_|refine a0a ?_|(apply bRx<;>intro h<;>try (exfalso;(try dsimp only at h);omega)))
 all_goals (conv=>whnf)
 all_goals first
  |exact a0b rfl
  |trace_state
theorem u0y:a0y Tryz.prog 203 [q0g] (.bool true):=by
 have c:=y0a;refine fEx Tryz.func203 ?_;repeat' ((conv=>whnf);first|refine a0c 2 ?_|refine cPx c ?_|refine a0a ?_|(apply bRx<;>intro h<;>try (exfalso;(try dsimp only at h);omega)))
 all_goals (conv=>whnf)
 all_goals first
  |exact a0b rfl
  |trace_state
theorem y0b:FC Tryz.prog 2 280 [eqS 1] [] (a0d (.bool true) [] 2):=by
 refine fEx Tryz.func280 ?_;repeat' ((conv=>whnf);first|refine a0a ?_|(apply bRx<;>intro h<;>try (exfalso;(try dsimp only at h);omega)))
 all_goals (conv=>whnf)
 all_goals first
  |exact rOz [0,1]
  |trace_state
theorem i0u:FC Tryz.prog 2 203 [eqS 1] [(1,arB true)] (a0d (.bool true) [] 2):=by
 have c:=u0y;have d:=y0b;refine fEx Tryz.func203 ?_;repeat' ((conv=>whnf);first|refine a0c 4 ?_|refine cPx c ?_|refine cOx (l:= [0,1]) d ?_|refine a0a ?_|(apply bRx<;>intro h<;>try (exfalso;(try dsimp only at h);omega)))
 all_goals (conv=>whnf)
 all_goals first
  |exact rOz [0,1]
  |trace_state
def KnM (b:Option HB):Prop:=(∃k ct am da me is ac cu,b=knB true k ct am da me is ac cu)\/b=kn0 true
theorem u0z (b:Option HB) (hb:KnM b):FC Tryz.prog 2 204 [q0g,.map 1 0] [(1,b)] (a0d (.tup [.int .i64 1,.int .i64 0]) [] 2):=by
 rcases hb with ⟨k,ct,am,da,me,is,ac,cu,rfl⟩|rfl
 all_goals refine fEx Tryz.func204 ?_
 all_goals repeat' ((conv=>whnf);first|refine a0c 2 ?_|refine a0a ?_|(apply bRx<;>intro h<;>try (exfalso;(try dsimp only at h);omega)))
 all_goals (conv=>whnf)
 all_goals first
  |exact rOz [0,1]
  |trace_state
theorem a1H:FC Tryz.prog 2 281 [.sl 1 0 0 2,.int .i64 1] [(1,some (.one true (.cols 2 [.sc (.ints .i64 [1,1])])))] (a0d (.bool true) [] 2):=by
 refine fEx Tryz.func281 ?_;repeat' ((conv=>whnf);first|refine a0c 4 ?_|refine a0a ?_|(apply bRx<;>intro h<;>try (exfalso;(try dsimp only at h);omega)))
 all_goals (conv=>whnf)
 all_goals first
  |exact rOz [0,1]
  |trace_state
theorem m0p (b:Option HB) (hb:KnM b):FC Tryz.prog 3 204 [eqS 1,.map 2 0] [(1,arB true),(2,b)] (a0d (.tup [.int .i64 3,.int .i64 0]) [] 3):=by
 have c:=u0z b hb;have d:=a1H;rcases hb with ⟨k,ct,am,da,me,is,ac,cu,rfl⟩|rfl
 all_goals refine fEx Tryz.func204 ?_
 all_goals repeat' ((conv=>whnf);first|refine a0c 4 ?_|refine cOx (l:= [0,2]) c ?_|refine cOx (l:= [0,3]) d ?_|refine cOx (l:= [0,4]) d ?_|refine a0a ?_|(apply bRx<;>intro h<;>try (exfalso;(try dsimp only at h);omega)))
 all_goals (conv=>whnf)
 all_goals first
  |exact rOz [0,1,2]
  |trace_state
abbrev trF:SV:= .agg [.str ⟨#[]⟩,.int .i64 3,.int .i64 1,.str ⟨#[]⟩]
abbrev onF:SV:= .agg [.str ⟨#[]⟩,.int .i64 1,.int .i64 1,.str ⟨#[]⟩]
theorem s0o:a0y Tryz.prog 341 [.int .i64 1] onF:=by
 refine fEx Tryz.func341 ?_;repeat' ((conv=>whnf);first|refine a0a ?_|(apply bRx<;>intro h<;>try (exfalso;(try dsimp only at h);omega)))
 all_goals (conv=>whnf)
 all_goals exact a0b rfl
theorem u0A:a0y Tryz.prog 344 [.bool true] trF:=by
 refine fEx Tryz.func344 ?_;repeat' ((conv=>whnf);first|refine a0a ?_|(apply bRx<;>intro h<;>try (exfalso;(try dsimp only at h);omega)))
 all_goals (conv=>whnf)
 all_goals first
  |exact a0b rfl
  |exact rOz [0]
  |trace_state
theorem p0Q:a0y Tryz.prog 346 [.int .i64 8,onF,onF] (.tup [trF,.bool true]):=by
 have c:=u0A;refine fEx Tryz.func346 ?_;repeat' ((conv=>whnf);first|refine cPx c ?_|refine a0a ?_|(apply bRx<;>intro h<;>try (exfalso;(try dsimp only at h);omega)))
 all_goals (conv=>whnf)
 all_goals first
  |exact a0b rfl
  |trace_state
theorem y0c (z:SV):FC Tryz.prog 2 295 [.ptr 1 0 0 0,q0g] [] (a0d (.tup [onF,.bool true]) [] 2):=by
 have c:=s0o;refine fEx Tryz.func295 ?_;repeat' ((conv=>whnf);first|refine cPx c ?_|refine a0a ?_|(apply bRx<;>intro h<;>try (exfalso;(try dsimp only at h);omega)))
 all_goals (conv=>whnf)
 all_goals first
  |exact rOz [0,1]
  |trace_state
theorem o0I:FC Tryz.prog 3 295 [.ptr 1 0 0 0,eqS 2] [(2,arB true)] (a0d (.tup [trF,.bool true]) [] 3):=by
 have c:=y0c .nsl;have d:=p0Q;refine fEx Tryz.func295 ?_;repeat' ((conv=>whnf);first|refine cOx (l:= [0,1]) c ?_|refine cPx d ?_|refine a0a ?_|(apply bRx<;>intro h<;>try (exfalso;(try dsimp only at h);omega)))
 all_goals (conv=>whnf)
 all_goals first
  |exact rOz [0,1,2]
  |trace_state
end
section
attribute [local irreducible] a0u a0v a0j b0b
abbrev y0d (ro:Bool):Option HB:=some (.one ro (.obj (.map false false 0 [.ints .i64 []] [.sc (.bools [])] [] 0)))
abbrev y0e (ro:Bool) (h:Nat):Option HB:=some (.one ro (.cells [.map h 0]))
theorem a1I:FC Tryz.prog 1 6 [.nsl] [] (a0d (.tup [.ptr 1 0 0 0,.int .i64 0]) [(1,y0e false 2),(2,y0d false)] 3):=by
 refine fEx Tryz.func6 ?_;repeat' ((conv=>whnf);first|refine a0c 5 ?_|refine a0a ?_|(apply bRx<;>intro h<;>try (exfalso;(try dsimp only at h);omega)))
 all_goals (conv=>whnf)
 all_goals first
  |exact rOz [0,1,2]
  |exact rOz [0,2,1]
  |trace_state
theorem i0v:a0y Tryz.prog 24 [.int .i64 0] (.bool true):=by
 refine fEx Tryz.func24 ?_;repeat' ((conv=>whnf);first|refine a0a ?_|(apply bRx<;>intro h<;>try (exfalso;(try dsimp only at h);omega)))
 all_goals (conv=>whnf)
 all_goals exact a0b rfl
theorem p0R:a0y Tryz.prog 102 [.int .i64 0] (.int .i64 3):=by
 have c:=i0v;refine fEx Tryz.func102 ?_;repeat' ((conv=>whnf);first|refine cPx c ?_|refine a0a ?_|(apply bRx<;>intro h<;>try (exfalso;(try dsimp only at h);omega)))
 all_goals (conv=>whnf)
 all_goals exact a0b rfl
theorem a1J:a0y Tryz.prog 98 [.int .i64 100] (.tup [.int .i64 0,.int .i64 100]):=by
 have c:=i0v;refine fEx Tryz.func98 ?_;repeat' ((conv=>whnf);first|refine cPx c ?_|refine a0a ?_|(apply bRx<;>intro h<;>try (exfalso;(try dsimp only at h);omega)))
 all_goals (conv=>whnf)
 all_goals exact a0b rfl
theorem i0w:FC Tryz.prog 3 52 [.ptr 1 0 0 0,.int .i64 0] [(1,y0e true 2),(2,y0d true)] (a0d (.bool true) [] 3):=by
 have c:=i0v;have d:=p0R;refine fEx Tryz.func52 ?_;repeat' ((conv=>whnf);first|refine cPx c ?_|refine cPx d ?_|refine a0a ?_|(apply bRx<;>intro h<;>try (exfalso;(try dsimp only at h);omega)))
 all_goals (conv=>whnf)
 all_goals first
  |exact rOz [0,1,2]
  |trace_state
theorem d1V:FC Tryz.prog 2 26 [.sl 1 0 0 3] [(1,stB true 3 pr3)] (a0d (.sl 2 0 0 3) [(2,stB false 3 pr3)] 3):=by
 refine fEx Tryz.func26 ?_;repeat' ((conv=>whnf);first|refine a0a ?_|(apply bRx<;>intro h<;>try (exfalso;(try dsimp only at h);omega)))
 all_goals (conv=>whnf)
 all_goals first
  |exact rOz [0,1,3]
  |trace_state
abbrev bmB (ro made:Bool) (hb:Nat):Option HB:=some (.one ro (.obj (bif made then .map false false 1 [.ints .i64 [0]] [.ptrs hb 1] [0] 1 else .map false false 0 [.ints .i64 []] [.ptrs hb 0] [] 0)))
abbrev cdB (ro cl:Bool):Option HB:=some (.one ro (.obj (bif cl then .map false false 1 [.ints .i64 [0]] [.sc (.bools [true])] [0] 1 else .map false false 0 [.ints .i64 []] [.sc (.bools [])] [] 0)))
abbrev yC (ro:Bool) (h2 h4 h5 h6:Nat):Option HB:=some (.one ro (.cells [.ptr h2 0 0 0,.int .i64 64800,.sl h4 0 0 3,.map h5 0,.map h6 0]))
theorem a1K:FC Tryz.prog 4 7 [.ptr 1 0 0 0,.int .i64 64800,.sl 3 0 0 3] [(1,y0e true 2),(2,y0d true),(3,stB true 3 pr3)] (a0d (.tup [.ptr 4 0 0 0,.int .i64 0]) [(4,yC false 1 5 6 7),(5,stB false 3 pr3),(6,bmB false false 4),(7,cdB false false)] 8):=by
 have c:=v0w;have d:=d1V;refine fEx Tryz.func7 ?_;repeat' ((conv=>whnf);first|refine cOx (l:= [0,3]) c ?_|refine cOx (l:= [0,3]) d ?_|refine a0a ?_|(apply bRx<;>intro h<;>try (exfalso;(try dsimp only at h);omega)))
 all_goals (conv=>whnf)
 all_goals first
  |exact r0h (l:= [0,1,2,3,10,7,8,9]) [.relab (fun _ _=>none) (fun _=>0) [(8,some (.one false (.obj (.map false false 0 [.ints .i64 []] [.ptrs 10 0] [] 0))))] [] 0] ⟨i0r (n:=11) (th:=8) (tb0:= .obj (.map false false 0 [.ints .i64 []] [.svs []] [] 0)) (by decide) rfl (k0P rfl (fun i hi=>absurd hi (s0d i))),rfl,rfl,⟨rfl,rfl,rfl,rfl,trivial⟩⟩ (a0k (a0k (a0k (a0k a0t))))
  |trace_state
end
section
attribute [local irreducible] a0u a0v a0j b0b
theorem s0p {n h:Nat} {R:Nat->Nat->Option (Nat×Nat)}:∀i,i<1->SLe n R ((BCol.svs [.ptr h 0 0 0]).at i) ((BCol.ptrs h 1).at i):=by
 intro i hi;obtain rfl:i=0:=by omega
 exact k0O _
theorem c1C:FC Tryz.prog 7 48 [.ptr 1 0 0 0,.int .i64 100] [(1,yC true 2 4 5 6),(2,y0e true 3),(3,y0d true)] (a0d (.tup [.int .i64 0,.int .i64 0]) [] 7):=by
 have c:=a1J;have d:=i0w;refine fEx Tryz.func48 ?_;repeat' ((conv=>whnf);first|refine cPx c ?_|refine cOx (l:= [0,2,3]) d ?_|refine a0a ?_|(apply bRx<;>intro h<;>try (exfalso;(try dsimp only at h);omega)))
 all_goals (conv=>whnf)
 all_goals exact rOz [0,1,2,3,4,5,6]
theorem o0J:FC Tryz.prog 7 50 [.ptr 1 0 0 0,.int .i64 0] [(1,yC true 2 4 5 6),(4,stB true 3 pr3),(5,bmB true false 1)] (a0d (.tup [.ptr 7 0 0 0,.int .i64 0]) [(7,bkC false 8 9),(8,stB false 3 ps3),(9,rmB false false 0 0 0 0 0)] 10):=by
 have c:=v0w;refine fEx Tryz.func50 ?_;repeat' ((conv=>whnf);first|refine cOx (l:= [0,4]) c ?_|refine a0a ?_|(apply bRx<;>intro h<;>try (exfalso;(try dsimp only at h);omega)))
 all_goals (conv=>whnf)
 all_goals first
  |exact rOz [0,1,2,3,4,5,6,7,8,9]
  |trace_state
theorem k0V:FC Tryz.prog 8 50 [.ptr 1 0 0 0,.int .i64 0] [(1,yC true 2 4 5 6),(5,bmB true true 7)] (a0d (.tup [.ptr 7 0 0 0,.int .i64 0]) [] 8):=by
 refine fEx Tryz.func50 ?_;repeat' ((conv=>whnf);first|refine a0a ?_|(apply bRx<;>intro h<;>try (exfalso;(try dsimp only at h);omega)))
 all_goals (conv=>whnf)
 all_goals first
  |exact rOz [0,1,2,3,4,5,6,7]
  |trace_state
abbrev hpY (ro made cl z:Bool) (p n s:Int) (a ck:Nat):a0g:=(1,yC true 2 4 5 6)::(2,y0e true 3)::(3,y0d true)::(4,stB true 3 pr3)::(5,bmB ro made (bif made then 7 else 1))::(6,cdB ro cl)::(bif made then [(7,bkC ro 8 9),(8,stB ro 3 ps3),(9,rmB ro z p n s a ck)] else [])
set_option maxHeartbeats 1000000 in
theorem k0W (m:Nat) (hm:m<3) (made z:Bool) (p n s x:Int) (a ck:Nat) (hz:made=false->z=false) (hb:Rb z p n s) (hx:0<=x/\x<=1000000000):∃a' ck',FC Tryz.prog 10 16 [.ptr 1 0 0 0,.int .i64 100,.str (mF m),.str (mT m),.agg [.int .i64 x,.str sEu]] (hpY false made false z p n s a ck) (a0d (.tup [.int .i64 0,.int .i64 0]) [(5,bmB false true 10),(6,cdB false false),(10,bkC false 11 12),(11,stB false 3 ps3),(12,rmB false (nz (mP m p x) (mN m n x) (mS m s x)) (mP m p x) (mN m n x) (mS m s x) a' ck')] 13):=by
 have c1:=c1C;generalize hP:mP m p x=P at*;generalize hN:mN m n x=N at*;generalize hS:mS m s x=S at*;cases made with
 |false=>
  obtain rfl:=hz rfl;obtain ⟨rfl,rfl,rfl⟩:=hb.z rfl;obtain ⟨a',ck',k⟩:=r0w m hm false 0 0 0 x 0 0 hb hx;rw [hP,hN,hS] at k;refine ⟨a',ck',?_⟩;have b:=o0J;generalize nz P N S=zz at*;cases zz;all_goals refine fEx Tryz.func16 ?_
  all_goals repeat' ((conv=>whnf);first|refine a0c 5 ?_|refine cOx (l:= [0,1,2,3,4,5,6]) c1 ?_|refine cOx (l:= [0,1,2,3,4,5,6]) b ?_|refine cOx (l:= [0,11,12,13]) k ?_|refine a0a ?_|(apply bRx<;>intro h<;>try (exfalso;(try dsimp only at h);omega)))
  all_goals (conv=>whnf)
  all_goals first
   |exact r0h (l:= [0,1,2,3,4,5,6,7,8,9,11,12,13]) [.relab (fun _ _=>none) (fun _=>0) [(5,some (.one false (.obj (.map false false 1 [.ints .i64 [0]] [.ptrs 11 1] [0] 1))))] [] 0] ⟨i0r (n:=14) (th:=5) (tb0:= .obj (.map false false 1 [.ints .i64 [0]] [.svs [.ptr 11 0 0 0]] [0] 1)) (by decide) rfl (k0P rfl s0p),rfl,rfl,⟨rfl,rfl,rfl,rfl,rfl,trivial⟩⟩ (a0k (a0k (a0k (a0k (a0k a0t)))))
   |trace_state
 |true=>
  obtain ⟨a',ck',k⟩:=r0w m hm z p n s x a ck hb hx;rw [hP,hN,hS] at k;refine ⟨a',ck',?_⟩;have b:=k0V;generalize nz P N S=zz at*;cases z<;>cases zz;all_goals refine fEx Tryz.func16 ?_
  all_goals repeat' ((conv=>whnf);first|refine a0c 5 ?_|refine cOx (l:= [0,1,2,3,4,5,6]) c1 ?_|refine cOx (l:= [0,1,2,3,4,5,6,7]) b ?_|refine cOx (l:= [0,7,8,9]) k ?_|refine a0a ?_|(apply bRx<;>intro h<;>try (exfalso;(try dsimp only at h);omega)))
  all_goals (conv=>whnf)
  all_goals first
   |exact r0h (l:= [0,1,2,3,4,5,6,7,8,9,7,8,9]) [.relab (fun _ _=>none) (fun _=>0) [(5,some (.one false (.obj (.map false false 1 [.ints .i64 [0]] [.ptrs 7 1] [0] 1))))] [] 0] ⟨i0r (n:=11) (th:=5) (tb0:= .obj (.map false false 1 [.ints .i64 [0]] [.svs [.ptr 7 0 0 0]] [0] 1)) (by decide) rfl (k0P rfl s0p),rfl,rfl,⟨rfl,rfl,rfl,rfl,rfl,trivial⟩⟩ (a0k (a0k (a0k (a0k (a0k a0t)))))
   |trace_state
end
section
attribute [local irreducible] a0u a0v a0j b0b
theorem s0q (n:Nat) (ks:List ByteArray) (vs:List (List Int)) (bs:List Nat) (ck:Nat):FC Tryz.prog 2 173 [.map 1 0] [] (a0d (.fn 240 [.ptr 2 0 0 0]) [(2,some (.one false (.cells [.map 1 0])))] 3):=by
 refine fEx Tryz.func173 ?_;repeat' ((conv=>whnf);first|refine a0a ?_|(apply bRx<;>intro h<;>try (exfalso;(try dsimp only at h);omega)))
 all_goals (conv=>whnf)
 all_goals exact rOx [0,1,2] (a0k a0t)
theorem m0q {n:Nat} {ks:List ByteArray} (vs:List (List Int)) (bs:List Nat) (ck:Nat) (hn:n<=100000) (hz:∀s∈ks,s.size<=9223372036854775807) (hnd:ks.Nodup):
  FC Tryz.prog 3 172 [.fn 240 [.ptr 2 0 0 0]] [(1,some (.one true (.obj (.map false false n [.strs ks] [.arrs 16 .i64 vs] bs ck)))),(2,some (.one true (.cells [.map 1 0])))] (a0d (.sl 3 0 0 n) [(3,some (.one false (.cols n [.sc (.strs (sortS ks))])))] 4):=
 r0l (ρ:=Tryz.keys173_ren) (ρ':=Tryz.sorted_ren) rfl rfl rfl { Tryz.keys173 with} Tryz.sorted
  (fun m=>⟨fun blk off cap ss W hH hblk hsz=>callsIn_wide.2 (AnyM.slices_Sort_string Tryz.sortS blk off cap ss W hH hblk hsz),fun p cap W=>callsIn_wide.2 (AnyM.slices_Sort_string_none Tryz.sortS p cap W)⟩)
  (f0Q Tryz.func172 (by kernel_rfl) (by kernel_rfl)) (enters_of Tryz.func61 (by kernel_rfl) rfl) (enters_of Tryz.func240 (by kernel_rfl) rfl) Tryz.underlying9 hn hz hnd
theorem u0B:sortS []= []:=k0E (List.Perm.refl _) List.Pairwise.nil
theorem u0C (s:ByteArray):sortS [s]= [s]:=k0E (List.Perm.refl _) (List.pairwise_singleton _ _)
theorem o0K (z:Bool) (p n s:Int) (a ck:Nat):FC Tryz.prog 4 105 [.ptr 1 0 0 0] [(1,bkC true 2 3),(2,stB true 3 ps3),(3,rmB true z p n s a ck)] (a0d (.sl 4 0 0 (bif z then 1 else 0)) [(4,stB false (bif z then 1 else 0) (bif z then [sEu] else []))] 5):=by
 cases z with
 |false=>
  have c1:=s0q 0 [] [] [] ck;have c2:=m0q (n:=0) (ks:= []) [] [] ck (by decide) (by simp) e1P;rw [u0B] at c2;refine fEx Tryz.func105 ?_;repeat' ((conv=>whnf);first|refine cOx (l:= [0,3]) c1 ?_|refine cOx (l:= [0,3,4]) c2 ?_|refine a0a ?_|(apply bRx<;>intro h<;>try (exfalso;(try dsimp only at h);omega)))
  all_goals (conv=>whnf)
  all_goals exact rOz [0,1,2,3,5]
 |true=>
  have c1:=s0q 1 [sEu] [rw3 p n s] [a] ck;have c2:=m0q (n:=1) (ks:= [sEu]) [rw3 p n s] [a] ck (by decide) (by simp [sEu];decide) (by simp);rw [u0C] at c2;refine fEx Tryz.func105 ?_;repeat' ((conv=>whnf);first|refine cOx (l:= [0,3]) c1 ?_|refine cOx (l:= [0,3,4]) c2 ?_|refine a0a ?_|(apply bRx<;>intro h<;>try (exfalso;(try dsimp only at h);omega)))
  all_goals (conv=>whnf)
  all_goals exact rOz [0,1,2,3,5]
abbrev pL (b1 b2 b3:Bool):List ByteArray:=(bif b1 then [sHb] else [])++((bif b2 then [sNw] else [])++(bif b3 then [sSb] else []))
abbrev aL (b1 b2 b3:Bool) (p n s:Int):List Int:=(bif b1 then [p] else [])++((bif b2 then [n] else [])++(bif b3 then [s] else []))
abbrev cL (b1 b2 b3:Bool):List ByteArray:=(bif b1 then [sEu] else [])++((bif b2 then [sEu] else [])++(bif b3 then [sEu] else []))
abbrev kL (b1 b2 b3:Bool):Nat:=(pL b1 b2 b3).length
abbrev poB (ro b1 b2 b3:Bool) (p n s:Int):Option HB:=some (.one ro (.cols (kL b1 b2 b3) [.sc (.strs (pL b1 b2 b3)),.sc (.ints .i64 (aL b1 b2 b3 p n s)),.sc (.strs (cL b1 b2 b3))]))
structure Nz (b1 b2 b3:Bool) (p n s:Int):Prop where
 p:p=0↔b1=false
 n:n=0↔b2=false
 s:s=0↔b3=false
set_option maxHeartbeats 2000000 in
theorem y0f (b1 b2 b3:Bool) (p n s:Int) (a ck:Nat) (hz:Nz b1 b2 b3 p n s) (h0:(b1||b2||b3)=true):FC Tryz.prog 4 58 [.ptr 1 0 0 0] [(1,bkC true 2 3),(2,stB true 3 ps3),(3,rmB true true p n s a ck)] (a0d (.sl 4 0 0 (kL b1 b2 b3)) [(4,poB false b1 b2 b3 p n s)] 5):=by
 have c:=o0K true p n s a ck;obtain ⟨h1,h2,h3⟩:=hz;cases b1<;>cases b2<;>cases b3<;>simp only [reduceCtorEq,iff_true,iff_false,Bool.or_false,Bool.or_true,Bool.true_or,Bool.false_or] at h0 h1 h2 h3;all_goals refine fEx Tryz.func58 ?_
 all_goals repeat' ((conv=>whnf);first|refine a0c 20 ?_|refine cOx (l:= [0,1,2,3]) c ?_|(apply bRx<;>intro h<;>first|exact absurd h1 h|exact absurd h h1|exact absurd h2 h|exact absurd h h2|exact absurd h3 h|exact absurd h h3|exact aX|skip)|refine a0a ?_|(apply bRx<;>intro h<;>try (exfalso;(try dsimp only at h);omega)))
 all_goals (conv=>whnf)
 all_goals first
  |exact rOz [0,1,2,3,5]
  |exact rOz [0,1,2,3,6]
  |exact rOz [0,1,2,3,7]
  |exact rOz [0,1,2,3,8]
  |exact rOz [0,1,2,3,9]
  |exact rOz [0,1,2,3,10]
  |exact rOz [0,1,2,3,11]
  |exact rOz [0,1,2,3,12]
  |trace_state
end
section
attribute [local irreducible] a0u a0v a0j b0b
theorem u0D (p n s:Int) (a ck:Nat):FC Tryz.prog 4 58 [.ptr 1 0 0 0] [(1,bkC true 2 3),(2,stB true 3 ps3),(3,rmB true false p n s a ck)] (a0d .nsl [] 4):=by
 have c:=o0K false p n s a ck;refine fEx Tryz.func58 ?_;repeat' ((conv=>whnf);first|refine a0c 20 ?_|refine cOx (l:= [0,1,2,3]) c ?_|refine a0a ?_|(apply bRx<;>intro h<;>try (exfalso;(try dsimp only at h);omega)))
 all_goals (conv=>whnf)
 all_goals exact rOz [0,1,2,3]
theorem u0E:a0y Tryz.prog 58 [.nptr] .nsl:=by
 refine fEx Tryz.func58 ?_;repeat' ((conv=>whnf);first|refine a0c 20 ?_|refine a0a ?_|(apply bRx<;>intro h<;>try (exfalso;(try dsimp only at h);omega)))
 all_goals (conv=>whnf)
 all_goals exact a0b rfl
abbrev hpZ (r5 r6 r7 made cl z:Bool) (p n s:Int) (a ck:Nat):a0g:=(1,yC true 2 4 5 6)::(2,y0e true 3)::(3,y0d true)::(4,stB true 3 pr3)::(5,bmB r5 made (bif made then 7 else 1))::(6,cdB r6 cl)::(bif made then [(7,bkC r7 8 9),(8,stB r7 3 ps3),(9,rmB r7 z p n s a ck)] else [])
abbrev poS (z:Bool) (h:Nat) (b1 b2 b3:Bool):SV:=bif z then .sl h 0 0 (kL b1 b2 b3) else .nsl
abbrev poH (z:Bool) (h:Nat) (b1 b2 b3:Bool) (p n s:Int):a0g:=bif z then [(h,poB false b1 b2 b3 p n s)] else []
abbrev poN (z:Bool) (h:Nat):Nat:=bif z then h+1 else h
structure Yk (made z b1 b2 b3:Bool) (p n s:Int):Prop where
 nz:Nz b1 b2 b3 p n s
 zz:z=(b1||b2||b3)
 mm:made=false->z=false
theorem e0u (made z b1 b2 b3 cl:Bool) (p n s:Int) (a ck:Nat) (hk:Yk made z b1 b2 b3 p n s):FC Tryz.prog 10 21 [.ptr 1 0 0 0,.int .i64 0] (hpZ true true true made cl z p n s a ck) (a0d (poS z 10 b1 b2 b3) (poH z 10 b1 b2 b3 p n s) (poN z 10)):=by
 obtain ⟨hz,e,hm⟩:=hk;cases made with
 |false=>
  obtain rfl:=hm rfl;have c:=u0E;refine fEx Tryz.func21 ?_;repeat' ((conv=>whnf);first|refine cPx c ?_|refine a0a ?_|(apply bRx<;>intro h<;>try (exfalso;(try dsimp only at h);omega)))
  all_goals (conv=>whnf)
  all_goals exact rOz [0,1,2,3,4,5,6,7,8,9]
 |true=>
  cases z with
  |false=>
   have c:=u0D p n s a ck;refine fEx Tryz.func21 ?_;repeat' ((conv=>whnf);first|refine cOx (l:= [0,7,8,9]) c ?_|refine a0a ?_|(apply bRx<;>intro h<;>try (exfalso;(try dsimp only at h);omega)))
   all_goals (conv=>whnf)
   all_goals exact rOz [0,1,2,3,4,5,6,7,8,9]
  |true=>
   have c:=y0f b1 b2 b3 p n s a ck hz e.symm;clear e hm hz;cases b1<;>cases b2<;>cases b3;all_goals refine fEx Tryz.func21 ?_
   all_goals repeat' ((conv=>whnf);first|refine cOx (l:= [0,7,8,9]) c ?_|refine a0a ?_|(apply bRx<;>intro h<;>try (exfalso;(try dsimp only at h);omega)))
   all_goals (conv=>whnf)
   all_goals exact rOz [0,1,2,3,4,5,6,7,8,9,10]
theorem y0g:FC Tryz.prog 2 103 [.sl 1 0 0 1] [(1,some (.one false (.cols 1 [.sc (.ints .i64 [0])])))] (a0d (.tup []) [(1,some (.one false (.cols 1 [.sc (.ints .i64 [0])])))] 2):=by
 have:=t0J ⟨fun blk off cap ss W hH hblk hsz=>AnyM.slices_Sort_int Tryz.sortI blk off cap ss W hH hblk hsz,fun p cap W=>AnyM.slices_Sort_int_none Tryz.sortI p cap W⟩ (f0Q Tryz.func103 (by kernel_rfl) (by kernel_rfl)) 1 [0] (by decide);rw [show sortI [0]= [0] from by simp [sortI]] at this;exact this
theorem c1D:a0y Tryz.prog 192 [.int .u64 0] (.int .i64 0):=by
 refine fEx Tryz.func192 ?_;repeat' ((conv=>whnf);first|refine a0a ?_|(apply bRx<;>intro h<;>try (exfalso;(try dsimp only at h);omega)))
 all_goals (conv=>whnf)
 all_goals exact a0b rfl
theorem b1I:a0y Tryz.prog 122 [.int .u64 0] (.int .i64 0):=by
 have c:=c1D;refine fEx Tryz.func122 ?_;repeat' ((conv=>whnf);first|refine cPx c ?_|refine a0a ?_|(apply bRx<;>intro h<;>try (exfalso;(try dsimp only at h);omega)))
 all_goals (conv=>whnf)
 all_goals exact a0b rfl
theorem d1W:a0y Tryz.prog 230 [.nsl,.int .i64 0,.int .i64 0] (.tup []):=by
 refine fEx Tryz.func230 ?_;repeat' ((conv=>whnf);first|refine a0c 3 ?_|refine a0a ?_|(apply bRx<;>intro h<;>try (exfalso;(try dsimp only at h);omega)))
 all_goals (conv=>whnf)
 all_goals exact a0b rfl
theorem d1X:a0y Tryz.prog 171 [.nsl,.int .i64 0,.int .i64 0,.int .i64 0] (.tup []):=by
 have c:=d1W;refine fEx Tryz.func171 ?_;repeat' ((conv=>whnf);first|refine a0c 3 ?_|refine cPx c ?_|refine a0a ?_|(apply bRx<;>intro h<;>try (exfalso;(try dsimp only at h);omega)))
 all_goals (conv=>whnf)
 all_goals exact a0b rfl
theorem y0h:a0y Tryz.prog 103 [.nsl] (.tup []):=by
 have c:=d1X;have d:=b1I;refine fEx Tryz.func103 ?_;repeat' ((conv=>whnf);first|refine cPx c ?_|refine cPx d ?_|refine a0a ?_|(apply bRx<;>intro h<;>try (exfalso;(try dsimp only at h);omega)))
 all_goals (conv=>whnf)
 all_goals exact a0b rfl
abbrev opO (made:Bool):SV:=bif made then .sl 10 0 0 1 else .nsl
theorem y0i (made z:Bool) (p n s:Int) (a ck:Nat):FC Tryz.prog 10 53 [.ptr 1 0 0 0] (hpZ true true true made false z p n s a ck) (a0d (opO made) (bif made then [(10,some (.one false (.cols 1 [.sc (.ints .i64 [0])])))] else []) (bif made then 11 else 10)):=by
 have c0:=y0h;have c1:=y0g;cases made<;>cases z;all_goals refine fEx Tryz.func53 ?_
 all_goals repeat' ((conv=>whnf);first|refine a0c 5 ?_|refine cPx c0 ?_|refine cOx (l:= [0,10]) c1 ?_|refine cOx (l:= [0,11]) c1 ?_|refine cOx (l:= [0,12]) c1 ?_|(intro i hi hn;first|(exfalso;exact hn (by simp;omega))|(obtain rfl:i=0:=by omega))|(intro hA;try (exfalso;have h2:=hA 0 (by omega);revert h2;simp;done))|refine a0a ?_|(apply bRx<;>intro h<;>try (exfalso;(try dsimp only at h);omega))|refine And.intro ?_ ?_)
 all_goals (conv=>whnf)
 all_goals first
  |exact rOz [0,1,2,3,4,5,6,7,8,9]
  |exact rOz [0,1,2,3,4,5,6,7,8,9,10]
  |exact rOz [0,1,2,3,4,5,6,7,8,9,11]
  |exact rOz [0,1,2,3,4,5,6,7,8,9,12]
  |trace_state
end
section
attribute [local irreducible] a0u a0v a0j b0b
structure FtOk (k ct am da:Int):Prop where
 k: -4611686018427387904<=k/\k<=4611686018427387904
 c: -4611686018427387904<=ct/\ct<=4611686018427387904
 a: -4611686018427387904<=am/\am<=4611686018427387904
 d: -4611686018427387904<=da/\da<=4611686018427387904
theorem m0r (k ct am da:Int) (me is ac cu:ByteArray) (h:FtOk k ct am da):FC Tryz.prog 3 142 [eqS 1,.sl 2 0 0 9] [(1,arB true),(2,ftB true k ct am da me is ac cu)] (a0d (.tup [.int .i64 3,.int .i64 0]) [] 3):=by
 have c:=o0H k ct am da me is ac cu h.k h.c h.a h.d;have d:=i0t;have e:=i0u;have f:=m0p _ (.inl ⟨k,ct,am,da,me,is,ac,cu,rfl⟩);refine fEx Tryz.func142 ?_;repeat' ((conv=>whnf);first|refine cOx (l:= [0,2]) c ?_|refine cOx (l:= [0,1]) d ?_|refine cOx (l:= [0,1]) e ?_|refine cOx (l:= [0,1,3]) f ?_|refine cOx (l:= [0,1,4]) f ?_|refine cOx (l:= [0,1,5]) f ?_|refine cOx (l:= [0,1,6]) f ?_|refine a0a ?_|(apply bRx<;>intro h<;>try (exfalso;(try dsimp only at h);omega)))
 all_goals (conv=>whnf)
 all_goals first
  |exact rOz [0,1,2]
  |trace_state
theorem s0r:FC Tryz.prog 2 142 [eqS 1,.nsl] [(1,arB true)] (a0d (.tup [.int .i64 3,.int .i64 0]) [] 2):=by
 have c:=m0o;have d:=i0t;have e:=i0u;have f:=m0p _ (.inr rfl);refine fEx Tryz.func142 ?_;repeat' ((conv=>whnf);first|refine cOx (l:= [0]) c ?_|refine cOx (l:= [0,1]) d ?_|refine cOx (l:= [0,1]) e ?_|refine cOx (l:= [0,1,2]) f ?_|refine cOx (l:= [0,1,3]) f ?_|refine cOx (l:= [0,1,4]) f ?_|refine cOx (l:= [0,1,5]) f ?_|refine a0a ?_|(apply bRx<;>intro h<;>try (exfalso;(try dsimp only at h);omega)))
 all_goals (conv=>whnf)
 all_goals first
  |exact rOz [0,1]
  |trace_state
theorem u0F (k ct am da:Int) (me is ac cu:ByteArray) (h:FtOk k ct am da):FC Tryz.prog 3 226 [eqS 1,.sl 2 0 0 9,.nif] [(1,arB true),(2,ftB true k ct am da me is ac cu)] (a0d (.tup [trF,.int .i64 0]) [] 3):=by
 have c:=o0H k ct am da me is ac cu h.k h.c h.a h.d;have d:=m0r k ct am da me is ac cu h;have v:=o0I;refine fEx Tryz.func226 ?_;repeat' ((conv=>whnf);first|refine cOx (l:= [0,1,2]) d ?_|refine cOx (l:= [0,2]) c ?_|refine cOx (l:= [0,3,1]) v ?_|refine cOx (l:= [0,4,1]) v ?_|refine cOx (l:= [0,5,1]) v ?_|refine cOx (l:= [0,6,1]) v ?_|refine cOx (l:= [0,7,1]) v ?_|refine a0a ?_|(apply bRx<;>intro h<;>try (exfalso;(try dsimp only at h);omega)))
 all_goals (conv=>whnf)
 all_goals first
  |exact rOz [0,1,2]
  |trace_state
theorem u0G:FC Tryz.prog 2 226 [eqS 1,.nsl,.nif] [(1,arB true)] (a0d (.tup [trF,.int .i64 0]) [] 2):=by
 have c:=m0o;have d:=s0r;have v:=o0I;refine fEx Tryz.func226 ?_;repeat' ((conv=>whnf);first|refine cOx (l:= [0,1]) d ?_|refine cOx (l:= [0]) c ?_|refine cOx (l:= [0,2,1]) v ?_|refine cOx (l:= [0,3,1]) v ?_|refine cOx (l:= [0,4,1]) v ?_|refine cOx (l:= [0,5,1]) v ?_|refine cOx (l:= [0,6,1]) v ?_|refine a0a ?_|(apply bRx<;>intro h<;>try (exfalso;(try dsimp only at h);omega)))
 all_goals (conv=>whnf)
 all_goals first
  |exact rOz [0,1]
  |trace_state
theorem c1E:a0y Tryz.prog 182 [.nsl,.int .i64 0,.int .i64 0] (.tup []):=by
 refine fEx Tryz.func182 ?_;repeat' ((conv=>whnf);first|refine a0c 3 ?_|refine a0a ?_|(apply bRx<;>intro h<;>try (exfalso;(try dsimp only at h);omega)))
 all_goals (conv=>whnf)
 all_goals exact a0b rfl
theorem c1F:a0y Tryz.prog 121 [.nsl,.int .i64 0,.int .i64 0,.int .i64 0] (.tup []):=by
 have c:=c1E;refine fEx Tryz.func121 ?_;repeat' ((conv=>whnf);first|refine a0c 3 ?_|refine cPx c ?_|refine a0a ?_|(apply bRx<;>intro h<;>try (exfalso;(try dsimp only at h);omega)))
 all_goals (conv=>whnf)
 all_goals exact a0b rfl
theorem y0j:a0y Tryz.prog 61 [.nsl] (.tup []):=by
 have c:=c1F;have d:=b1I;refine fEx Tryz.func61 ?_;repeat' ((conv=>whnf);first|refine cPx c ?_|refine cPx d ?_|refine a0a ?_|(apply bRx<;>intro h<;>try (exfalso;(try dsimp only at h);omega)))
 all_goals (conv=>whnf)
 all_goals exact a0b rfl
theorem p0S:a0y Tryz.prog 229 [.nsl] .nsl:=by
 refine fEx Tryz.func229 ?_;repeat' ((conv=>whnf);first|refine a0c 3 ?_|refine a0a ?_|(apply bRx<;>intro h<;>try (exfalso;(try dsimp only at h);omega)))
 all_goals (conv=>whnf)
 all_goals exact a0b rfl
theorem a1L:FC Tryz.prog 2 228 [q0g,.ptr 1 0 0 0] [(1,ceB true [.nsl])] (a0d (.tup []) [] 2):=by
 refine fEx Tryz.func228 ?_;repeat' ((conv=>whnf);first|refine a0a ?_|(apply bRx<;>intro h<;>try (exfalso;(try dsimp only at h);omega)))
 all_goals (conv=>whnf)
 all_goals first
  |exact rOz [0,1]
  |trace_state
theorem a1M:FC Tryz.prog 3 228 [eqS 2,.ptr 1 0 0 0] [(1,ceB true [.nsl]),(2,arB true)] (a0d (.tup []) [] 3):=by
 refine fEx Tryz.func228 ?_;repeat' ((conv=>whnf);first|refine a0a ?_|(apply bRx<;>intro h<;>try (exfalso;(try dsimp only at h);omega)))
 all_goals (conv=>whnf)
 all_goals first
  |exact rOz [0,1,2]
  |trace_state
theorem s0s:FC Tryz.prog 2 227 [q0g,.fn 228 [.ptr 1 0 0 0]] [(1,ceB true [.nsl])] (a0d (.tup []) [] 2):=by
 have c:=a1L;refine fEx Tryz.func227 ?_;repeat' ((conv=>whnf);first|refine a0c 2 ?_|refine cOx (l:= [0,1]) c ?_|refine a0a ?_|(apply bRx<;>intro h<;>try (exfalso;(try dsimp only at h);omega)))
 all_goals (conv=>whnf)
 all_goals first
  |exact rOz [0,1]
  |trace_state
theorem u0H:FC Tryz.prog 3 227 [eqS 2,.fn 228 [.ptr 1 0 0 0]] [(1,ceB true [.nsl]),(2,arB true)] (a0d (.tup []) [] 3):=by
 have c:=a1M;have d:=s0s;refine fEx Tryz.func227 ?_;repeat' ((conv=>whnf);first|refine a0c 4 ?_|refine cOx (l:= [0,1,2]) c ?_|refine cOx (l:= [0,1]) d ?_|refine a0a ?_|(apply bRx<;>intro h<;>try (exfalso;(try dsimp only at h);omega)))
 all_goals (conv=>whnf)
 all_goals first
  |exact rOz [0,1,2]
  |trace_state
theorem o0L:FC Tryz.prog 2 168 [eqS 1] [(1,arB true)] (a0d .nsl [] 2):=by
 have c:=u0H;have d:=y0j;have e:=p0S;refine fEx Tryz.func168 ?_;repeat' ((conv=>whnf);first|refine cOx (l:= [0,2,1]) c ?_|refine cOx (l:= [0,3,1]) c ?_|refine cOx (l:= [0,4,1]) c ?_|refine cOx (l:= [0,5,1]) c ?_|refine cPx d ?_|refine cPx e ?_|refine a0a ?_|(apply bRx<;>intro h<;>try (exfalso;(try dsimp only at h);omega)))
 all_goals (conv=>whnf)
 all_goals first
  |exact rOz [0,1]
  |trace_state
theorem p0T:FC Tryz.prog 1 331 [trF] [] (a0d (eqS 1) [(1,arB false)] 2):=by
 refine fEx Tryz.func331 ?_;repeat' ((conv=>whnf);first|refine a0a ?_|(apply bRx<;>intro h<;>try (exfalso;(try dsimp only at h);omega)))
 all_goals (conv=>whnf)
 all_goals first
  |exact rOz [0,1]
  |exact rOz [0,2]
  |exact rOz [0,3]
  |exact rOz [0,4]
  |exact rOz [0,5]
  |exact rOz [0,6]
  |exact rOz [0,7]
  |exact rOz [0,8]
  |trace_state
theorem y0k:FC Tryz.prog 2 284 [eqS 1] [(1,arB true)] (a0d (eqS 2) [(2,arB false)] 3):=by
 have c:=o0L;have d:=u0G;have e:=p0T;refine fEx Tryz.func284 ?_;repeat' ((conv=>whnf);first|refine cOx (l:= [0,1]) c ?_|refine cOx (l:= [0,1]) d ?_|refine cOx (l:= [0]) e ?_|refine a0a ?_|(apply bRx<;>intro h<;>try (exfalso;(try dsimp only at h);omega)))
 all_goals (conv=>whnf)
 all_goals first
  |exact rOz [0,1,2]
  |exact rOz [0,1,3]
  |exact rOz [0,1,4]
  |exact rOz [0,1,5]
  |exact rOz [0,1,6]
  |exact rOz [0,1,7]
  |exact rOz [0,1,8]
  |trace_state
theorem y0l:FC Tryz.prog 2 206 [eqS 1] [(1,arB true)] (a0d (eqS 2) [(2,arB false)] 3):=by
 have c:=i0t;have d:=i0u;have e:=y0k;refine fEx Tryz.func206 ?_;repeat' ((conv=>whnf);first|refine cOx (l:= [0,1]) c ?_|refine cOx (l:= [0,1]) d ?_|refine cOx (l:= [0,1]) e ?_|refine a0a ?_|(apply bRx<;>intro h<;>try (exfalso;(try dsimp only at h);omega)))
 all_goals (conv=>whnf)
 all_goals first
  |exact rOz [0,1,2]
  |exact rOz [0,1,3]
  |exact rOz [0,1,4]
  |exact rOz [0,1,5]
  |exact rOz [0,1,6]
  |exact rOz [0,1,7]
  |exact rOz [0,1,8]
  |trace_state
theorem a1N:a0y Tryz.prog 282 [.nsl,.nsl,.fn 205 []] (.bool true):=by
 refine fEx Tryz.func282 ?_;repeat' ((conv=>whnf);first|refine a0c 2 ?_|refine a0a ?_|(apply bRx<;>intro h<;>try (exfalso;(try dsimp only at h);omega)))
 all_goals (conv=>whnf)
 all_goals exact a0b rfl
theorem u0I:a0y Tryz.prog 205 [q0g,q0g] (.bool true):=by
 have c:=a1N;refine fEx Tryz.func205 ?_;repeat' ((conv=>whnf);first|refine cPx c ?_|refine a0a ?_|(apply bRx<;>intro h<;>try (exfalso;(try dsimp only at h);omega)))
 all_goals (conv=>whnf)
 all_goals first
  |exact a0b rfl
  |trace_state
theorem a1O:FC Tryz.prog 3 282 [.sl 1 0 0 2,.sl 2 0 0 2,.fn 205 []] [(1,arB true),(2,arB true)] (a0d (.bool true) [] 3):=by
 have c:=u0I;refine fEx Tryz.func282 ?_;repeat' ((conv=>whnf);first|refine a0c 4 ?_|refine cPx c ?_|refine a0a ?_|(apply bRx<;>intro h<;>try (exfalso;(try dsimp only at h);omega)))
 all_goals (conv=>whnf)
 all_goals first
  |exact rOz [0,1,2]
  |trace_state
theorem y0m:FC Tryz.prog 3 205 [eqS 1,eqS 2] [(1,arB true),(2,arB true)] (a0d (.bool true) [] 3):=by
 have c:=a1O;refine fEx Tryz.func205 ?_;repeat' ((conv=>whnf);first|refine cOx (l:= [0,1,2]) c ?_|refine a0a ?_|(apply bRx<;>intro h<;>try (exfalso;(try dsimp only at h);omega)))
 all_goals (conv=>whnf)
 all_goals first
  |exact rOz [0,1,2]
  |trace_state
end
section
attribute [local irreducible] a0u a0v a0j b0b
theorem n0u:FC Tryz.prog 1 207 [.int .i64 1] [] (a0d (eqS 1) [(1,arB false)] 2):=by
 refine fEx Tryz.func207 ?_;repeat' ((conv=>whnf);first|refine a0a ?_|(apply bRx<;>intro h<;>try (exfalso;(try dsimp only at h);omega)))
 all_goals (conv=>whnf)
 all_goals first
  |exact rOz [0,1]
  |exact rOz [0,2]
  |exact rOz [0,3]
  |exact rOz [0,4]
  |exact rOz [0,5]
  |exact rOz [0,6]
  |exact rOz [0,7]
  |exact rOz [0,8]
  |trace_state
theorem s0t:FC Tryz.prog 2 143 [ruS 1] [(1,arB true)] (a0d (.bool true) [] 2):=by
 have c:=y0l;have d:=n0u;have e:=y0m;refine fEx Tryz.func143 ?_;repeat' ((conv=>whnf);first|refine cOx (l:= [0,1]) c ?_|refine cOx (l:= [0]) d ?_|refine cOx (l:= [0,2,3]) e ?_|refine cOx (l:= [0,3,4]) e ?_|refine cOx (l:= [0,4,5]) e ?_|refine cOx (l:= [0,5,6]) e ?_|refine cOx (l:= [0,3,2]) e ?_|refine cOx (l:= [0,4,3]) e ?_|refine cOx (l:= [0,5,4]) e ?_|refine cOx (l:= [0,6,5]) e ?_|refine a0a ?_|(apply bRx<;>intro h<;>try (exfalso;(try dsimp only at h);omega)))
 all_goals (conv=>whnf)
 all_goals first
  |exact rOz [0,1]
  |trace_state
theorem s0u:FC Tryz.prog 3 167 [.sl 2 0 0 1,.fn 143 []] [(1,arB true),(2,ruB true 1)] (a0d (.int .i64 0) [] 3):=by
 have c:=s0t;refine fEx Tryz.func167 ?_;repeat' ((conv=>whnf);first|refine a0c 3 ?_|refine cOx (l:= [0,1]) c ?_|refine a0a ?_|(apply bRx<;>intro h<;>try (exfalso;(try dsimp only at h);omega)))
 all_goals (conv=>whnf)
 all_goals first
  |exact rOz [0,1,2]
  |trace_state
theorem u0J:FC Tryz.prog 3 139 [.sl 2 0 0 1,.fn 143 []] [(1,arB true),(2,ruB true 1)] (a0d (.bool true) [] 3):=by
 have c:=s0u;refine fEx Tryz.func139 ?_;repeat' ((conv=>whnf);first|refine cOx (l:= [0,1,2]) c ?_|refine a0a ?_|(apply bRx<;>intro h<;>try (exfalso;(try dsimp only at h);omega)))
 all_goals (conv=>whnf)
 all_goals first
  |exact rOz [0,1,2]
  |trace_state
theorem u0K:FC Tryz.prog 3 70 [.sl 2 0 0 1] [(1,arB true),(2,ruB true 1)] (a0d (.bool true) [] 3):=by
 have c:=u0J;refine fEx Tryz.func70 ?_;repeat' ((conv=>whnf);first|refine cOx (l:= [0,1,2]) c ?_|refine a0a ?_|(apply bRx<;>intro h<;>try (exfalso;(try dsimp only at h);omega)))
 all_goals (conv=>whnf)
 all_goals first
  |exact rOz [0,1,2]
  |trace_state
theorem c1G:a0y Tryz.prog 27 [.str i0Q] (.bool true):=by
 have c:=c0j i0Q
 rwa [show nmB i0Q=true by decide] at c
theorem y0n:FC Tryz.prog 3 167 [.sl 1 0 0 0,.fn 140 [.ptr 2 0 0 0]] [] (a0d (.int .i64 (-1)) [] 3):=by
 refine fEx Tryz.func167 ?_;repeat' ((conv=>whnf);first|refine a0c 3 ?_|refine a0a ?_|(apply bRx<;>intro h<;>try (exfalso;(try dsimp only at h);omega)))
 all_goals (conv=>whnf)
 all_goals first
  |exact rOz [0,1,2]
  |trace_state
theorem u0L:FC Tryz.prog 3 139 [.sl 1 0 0 0,.fn 140 [.ptr 2 0 0 0]] [] (a0d (.bool false) [] 3):=by
 have c:=y0n;refine fEx Tryz.func139 ?_;repeat' ((conv=>whnf);first|refine cOx (l:= [0,1,2]) c ?_|refine a0a ?_|(apply bRx<;>intro h<;>try (exfalso;(try dsimp only at h);omega)))
 all_goals (conv=>whnf)
 all_goals first
  |exact rOz [0,1,2]
  |trace_state
theorem u0M (k ct am da:Int) (me is ac cu:ByteArray) (h:FtOk k ct am da):FC Tryz.prog 4 69 [.sl 2 0 0 1,.sl 3 0 0 9] [(1,arB true),(2,ruB true 1),(3,ftB true k ct am da me is ac cu)] (a0d (.int .i64 0) [] 4):=by
 have c:=c1G;have p:=i0g;have d:=m0r k ct am da me is ac cu h;have z:=u0L;refine fEx Tryz.func69 ?_;repeat' ((conv=>whnf);first|refine a0c 3 ?_|refine cPx c ?_|refine cOx (l:= [0,1]) p ?_|refine cOx (l:= [0,1,3]) d ?_|refine cOx (l:= [0,2,4]) z ?_|refine cOx (l:= [0,2,5]) z ?_|refine cOx (l:= [0,2,6]) z ?_|refine cOx (l:= [0,2,7]) z ?_|refine a0a ?_|(apply bRx<;>intro h<;>try (exfalso;(try dsimp only at h);omega)))
 all_goals (conv=>whnf)
 all_goals first
  |exact rOz [0,1,2,3]
  |trace_state
theorem u0N (k ct am da:Int) (me is ac cu:ByteArray) (h:FtOk k ct am da):FC Tryz.prog 3 166 [.sl 2 0 0 9,ruS 1] [(1,arB true),(2,ftB true k ct am da me is ac cu)] (a0d (.bool true) [] 3):=by
 have c:=u0F k ct am da me is ac cu h;refine fEx Tryz.func166 ?_;repeat' ((conv=>whnf);first|refine cOx (l:= [0,1,2]) c ?_|refine a0a ?_|(apply bRx<;>intro h<;>try (exfalso;(try dsimp only at h);omega)))
 all_goals (conv=>whnf)
 all_goals first
  |exact rOz [0,1,2]
  |trace_state
end
section
attribute [local irreducible] a0u a0v a0j b0b
theorem y0o (k ct am da:Int) (me is ac cu:ByteArray) (h:FtOk k ct am da):FC Tryz.prog 4 167 [.sl 2 0 0 1,.fn (166+1048576) [.sl 3 0 0 9]] [(1,arB true),(2,ruB true 1),(3,ftB true k ct am da me is ac cu)] (a0d (.int .i64 0) [] 4):=by
 have c:=u0N k ct am da me is ac cu h;refine fEx Tryz.func167 ?_;repeat' ((conv=>whnf);first|refine a0c 3 ?_|refine cOx (l:= [0,1,3]) c ?_|refine a0a ?_|(apply bRx<;>intro h<;>try (exfalso;(try dsimp only at h);omega)))
 all_goals (conv=>whnf)
 all_goals first
  |exact rOz [0,1,2,3]
  |trace_state
theorem y0p (k ct am da:Int) (me is ac cu:ByteArray) (h:FtOk k ct am da):FC Tryz.prog 4 95 [.sl 2 0 0 1,.sl 3 0 0 9] [(1,arB true),(2,ruB true 1),(3,ftB true k ct am da me is ac cu)] (a0d (.tup [.int .i64 0,.int .i64 0]) [] 4):=by
 have c:=y0o k ct am da me is ac cu h;refine fEx Tryz.func95 ?_;repeat' ((conv=>whnf);first|refine cOx (l:= [0,1,2,3]) c ?_|refine a0a ?_|(apply bRx<;>intro h<;>try (exfalso;(try dsimp only at h);omega)))
 all_goals (conv=>whnf)
 all_goals first
  |exact rOz [0,1,2,3]
  |trace_state
theorem y0q:a0y Tryz.prog 76 [.nsl,.str ⟨#[32]⟩] (.str ⟨#[]⟩):=by
 refine fEx Tryz.func76 ?_;repeat' ((conv=>whnf);first|refine a0a ?_|(apply bRx<;>intro h<;>try (exfalso;(try dsimp only at h);omega)))
 all_goals (conv=>whnf)
 all_goals exact a0b rfl
theorem a1P (k ct am da:Int) (me is ac cu:ByteArray):FC Tryz.prog 3 97 [eqS 1,.sl 2 0 0 9] [(1,arB true),(2,ftB true k ct am da me is ac cu)] (a0d (.str ⟨#[]⟩) [] 3):=by
 have c:=o0L;have d:=y0q;refine fEx Tryz.func97 ?_;repeat' ((conv=>whnf);first|refine a0c 2 ?_|refine cOx (l:= [0,1]) c ?_|refine cPx d ?_|refine a0a ?_|(apply bRx<;>intro h<;>try (exfalso;(try dsimp only at h);omega)))
 all_goals (conv=>whnf)
 all_goals first
  |exact rOz [0,1,2]
  |trace_state
theorem o0M (k ct am da:Int) (me is ac cu:ByteArray) (h:FtOk k ct am da) (a:Int) (ha:1<=a/\a<=1000000000):FC Tryz.prog 4 45 [.sl 2 0 0 1,.sl 3 0 0 9,.int .i64 a] [(1,arB true),(2,ruB true 1),(3,ftB true k ct am da me is ac cu)] (a0d (.tup [.agg [.str i0Q,.int .i64 (feV a),.str ⟨#[]⟩],.int .i64 0]) [] 4):=by
 have c:=y0p k ct am da me is ac cu h;have d:=a1j a ha;have e:=a1P k ct am da me is ac cu;generalize feV a=f at*;refine fEx Tryz.func45 ?_;repeat' ((conv=>whnf);first|refine cOx (l:= [0,1,2,3]) c ?_|refine cOx (l:= [0,1]) d ?_|refine cOx (l:= [0,1,3]) e ?_|refine a0a ?_|(apply bRx<;>intro h<;>try (exfalso;(try dsimp only at h);omega)))
 all_goals (conv=>whnf)
 all_goals first
  |exact rOz [0,1,2,3]
  |trace_state
abbrev tbS (h:Nat):SV:= .agg [.sl h 0 0 1,.sl h 0 0 1,.sl h 0 0 1]
theorem k0X:FC Tryz.prog 3 30 [tbS 2] [(1,arB true),(2,ruB true 1)] (a0d (.int .i64 0) [] 3):=by
 have c:=f0o 0 ⟨#[]⟩ ⟨#[]⟩ ⟨#[]⟩ ⟨#[]⟩ ⟨#[]⟩ 0 ⟨#[]⟩ 0 0 false rfl rfl rfl;have d:=u0M 0 0 0 0 ⟨#[]⟩ ⟨#[]⟩ ⟨#[]⟩ ⟨#[]⟩ ⟨by decide,by decide,by decide,by decide⟩;have e:=u0K;refine fEx Tryz.func30 ?_;repeat' ((conv=>whnf);first|refine a0c 5 ?_|refine cOx (l:= [0]) c ?_|refine cOx (l:= [0,1,2,3]) d ?_|refine cOx (l:= [0,1,2,4]) d ?_|refine cOx (l:= [0,1,2,5]) d ?_|refine cOx (l:= [0,1,2,6]) d ?_|refine cOx (l:= [0,1,2]) e ?_|refine a0a ?_|(apply bRx<;>intro h<;>try (exfalso;(try dsimp only at h);omega)))
 all_goals (conv=>whnf)
 all_goals first
  |exact rOz [0,1,2]
  |trace_state
end
section
attribute [local irreducible] a0u a0v a0j b0b
theorem m0s {a:Int} (h:1<=a/\a<=1000000000):0<=feV a/\feV a<=a:=by unfold feV;omega
abbrev asO (f c i a s:Int):SV:=asR i0Q ⟨#[]⟩ i0Q ⟨#[]⟩ i0Q ⟨#[]⟩ f f f c i a s f
set_option maxHeartbeats 1000000 in
theorem p0U (id:ByteArray) (a:Int) (hi:auI id=true) (ha:1<=a/\a<=1000000000):FC Tryz.prog 3 14 [tbS 2,(mkR 1 id a).s] [(1,arB true),(2,ruB true 1)] (a0d (.tup [asO (feV a) (-a) (feV a) (-feV a) (a-feV a),.int .i64 0]) [] 3):=by
 have c:=f0W (mkR 1 id a) ⟨1,id,a,rfl,.inl rfl,hi,ha⟩;have d:=k0X;have e:=f0o 1 id sSb sHb sM1 sCd a sEu 0 5411 true rfl rfl rfl;have p:=o0M 1 5411 a 0 sM1 sHb sSb sEu ⟨by decide,by decide,by omega,by decide⟩ a ha;have hf:=m0s ha;unfold mkR at*;have e1:IntKind.i64.wrap (0-a)= -a:=by rw [a0e (by omega) (by omega)];omega
 have e2:IntKind.i64.wrap (a-feV a)=a-feV a:=a0e (by omega) (by omega);have e3:IntKind.i64.wrap (feV a-feV a)=0:=by rw [a0e (by omega) (by omega)];omega
 have e4:IntKind.i64.wrap (0-feV a)= -feV a:=by rw [a0e (by omega) (by omega)];omega
 generalize feV a=f at*;refine fEx Tryz.func14 ?_;repeat' ((conv=>whnf);first|(rw [e1])|(rw [e2])|(rw [e3])|(rw [e4])|refine a0c 5 ?_|refine cPx c ?_|refine cOx (l:= [0,1,2]) d ?_|refine cOx (l:= [0]) e ?_|refine cOx (l:= [0,1,2,3]) p ?_|refine cOx (l:= [0,1,2,4]) p ?_|refine cOx (l:= [0,1,2,5]) p ?_|refine cOx (l:= [0,1,2,6]) p ?_|refine a0a ?_|(apply bRx<;>intro h<;>try (exfalso;(try dsimp only at h);omega)))
 all_goals (conv=>whnf)
 all_goals first
  |(refine rOz (r0:= .tup [asO f (-a) f (-f) (a-f),.int .i64 0]) (H0:= []) [0,1,2] rfl (?_:SV.tup [asR i0Q ⟨#[]⟩ i0Q ⟨#[]⟩ i0Q ⟨#[]⟩ f f f (-a) f (IntKind.i64.wrap (IntKind.i64.wrap (f-f)-f)) (IntKind.i64.wrap (a-f)) f,.int .i64 0]=_) trivial a0t
    rw [e3,e4,e2];try rfl)
  |trace_state
set_option maxHeartbeats 1000000 in
theorem p0V (id:ByteArray) (a:Int) (hi:auI id=true) (ha:1<=a/\a<=1000000000):FC Tryz.prog 3 14 [tbS 2,(mkR 2 id a).s] [(1,arB true),(2,ruB true 1)] (a0d (.tup [asO (feV a) a (-feV a) (-feV a) (feV a-a),.int .i64 0]) [] 3):=by
 have c:=f0W (mkR 2 id a) ⟨2,id,a,rfl,.inr rfl,hi,ha⟩;have d:=k0X;have e:=f0o 2 id sSb sHb sM1 sCd a sEu 0 5411 true rfl rfl rfl;have p:=o0M 2 5411 a 0 sM1 sHb sSb sEu ⟨by decide,by decide,by omega,by decide⟩ a ha;have hf:=m0s ha;unfold mkR at*;have e1:IntKind.i64.wrap (feV a-a)=feV a-a:=a0e (by omega) (by omega);have e3:IntKind.i64.wrap (feV a-feV a)=0:=by rw [a0e (by omega) (by omega)];omega
 have e4:IntKind.i64.wrap (0-feV a)= -feV a:=by rw [a0e (by omega) (by omega)];omega
 generalize feV a=f at*;refine fEx Tryz.func14 ?_;repeat' ((conv=>whnf);first|(rw [e1])|(rw [e3])|(rw [e4])|refine a0c 5 ?_|refine cPx c ?_|refine cOx (l:= [0,1,2]) d ?_|refine cOx (l:= [0]) e ?_|refine cOx (l:= [0,1,2,3]) p ?_|refine cOx (l:= [0,1,2,4]) p ?_|refine cOx (l:= [0,1,2,5]) p ?_|refine cOx (l:= [0,1,2,6]) p ?_|refine a0a ?_|(apply bRx<;>intro h<;>try (exfalso;(try dsimp only at h);omega)))
 all_goals (conv=>whnf)
 all_goals first
  |(refine rOz (r0:= .tup [asO f a (-f) (-f) (f-a),.int .i64 0]) (H0:= []) [0,1,2] rfl (?_:SV.tup [asR i0Q ⟨#[]⟩ i0Q ⟨#[]⟩ i0Q ⟨#[]⟩ f f f a (IntKind.i64.wrap (0-f)) (IntKind.i64.wrap (IntKind.i64.wrap (f-f)-f)) (IntKind.i64.wrap (f-a)) f,.int .i64 0]=_) trivial a0t
    rw [e1,e3,e4];try rfl)
  |trace_state
theorem s0v:FC Tryz.prog 1 9 [.str sFt] [] (a0d (.tup [tbS 2,.bool true]) [(1,arB false),(2,ruB false 1)] 3):=by
 have c:=u0w;have d:=k0X;refine fEx Tryz.func9 ?_;repeat' ((conv=>whnf);first|refine cOx (l:= [0]) c ?_|refine cOx (l:= [0,1,2]) d ?_|refine cOx (l:= [0,2,3]) d ?_|refine cOx (l:= [0,3,4]) d ?_|refine cOx (l:= [0,4,5]) d ?_|refine cOx (l:= [0,5,6]) d ?_|refine a0a ?_|(apply bRx<;>intro h<;>try (exfalso;(try dsimp only at h);omega)))
 all_goals (conv=>whnf)
 all_goals first
  |exact rOz [0,1,2]
  |exact rOz [0,2,3]
  |trace_state
end
section
open Go.RowKit Go.Sy Go.Proofs
def m0t (w:World) (e:TypeId) (v:Value) (s:ByteArray):Prop:=
 (v= .slice none 0 0/\s=⟨#[]⟩)\/∃g cap cur fz,v= .slice (some ⟨g,0,none⟩) s.size cap/\w.heap[g]? =some (.cells cur e fz)/\fz.2<=s.size/\cur.size=cap/\s.size<=cap/\cap<=maxLen/\cur.toList.take s.size=Lib.strCells s
def j0N (w w':World) (e:TypeId) (v v':Value) (s:ByteArray):Prop:=
 ∃g cap cur fz,v'= .slice (some ⟨g,0,none⟩) s.size cap/\w'.heap[g]? =some (.cells cur e fz)/\fz.2<=s.size/\cur.size=cap/\s.size<=cap/\cap<=maxLen/\cur.toList.take s.size=Lib.strCells s/\(w.heap.size<=g\/v.ownBlock=some g)
theorem b0Y (a b:ByteArray):Lib.strCells (a++b)=Lib.strCells a++Lib.strCells b:=by
 rw [z0C,z0C,z0C,<-Lib.byteCells_append];simp
theorem y0r {P:Program} (w:World) (t u ty e:TypeId) (i:TypeInfo) (ht:P.underlying t=some (.slice e)) (hu:P.underlying u=some .string) (hi:P.info? e=some i) (hz:i.zero=some (.int .u8 0)) (hsize:i.size=1) (hby:i.bytes=1)
  (v:Value) (s0 s:ByteArray) (hv:m0t w e v s0) (h0:0<s.size) (hb:s0.size+s.size<=1000000000):
  ∃v' w',(Builtin.append_ #[t,u] ty #[v,.string s]).run P w= .ok v' w'/\j0N w w' e v v' (s0++s)/\w.grownBy w' v.ownBlock:=by
 have hsz:(s0++s).size=s0.size+s.size:=by simp
 have hcl:∀x:ByteArray,(Lib.strCells x).length=x.size:=Lib.strCells_length;have mx:maxLen=maxLen:=rfl;have grown:∀(W:World) (xs:List Value) (n old:Nat),W.heap.size=w.heap.size->xs=Lib.strCells (s0++s)->n=s0.size+s.size->∀cur:Array Value,cur=xs.toArray++Builtin.zeroCells (Value.int .u8 0).cells (grownCap w n old e-n)->
   cur.size=grownCap w n old e/\(s0++s).size<=grownCap w n old e/\grownCap w n old e<=maxLen/\cur.toList.take (s0++s).size=Lib.strCells (s0++s):=by
  intro W xs n old _ hxs hn cur hcur;have hge:=grownCap_ge w n old e;have hcm:grownCap w n old e<=maxLen:=grownCap_le_maxLen w n old e (by unfold maxLen;omega);have hz1:(Value.int IntKind.u8 0).cells.size=1:=rfl;refine ⟨?_,by omega,hcm,?_⟩
  .rw [hcur,hxs];simp only [b1B,b1D,size_zeroCells,hz1,hcl,hsz];omega
  .rw [hcur,hxs];simp only [u0Y];rw [<-hcl (s0++s)];exact d1w
 rcases hv with ⟨rfl,rfl⟩|⟨g,cap,cur,fz,rfl,hg,hfz,hcs,hnc,hcm,htake⟩
 .have hr:=run_append_nil_string (P:=P) w t u ty e i (.int .u8 0) ht hu hi hz s (by omega) (by omega) (by rw [hby];omega);have e1:(s.data.map fun b=>Value.int .u8 b.toNat)=(Lib.strCells s).toArray:=by
   apply Array.ext';simp [Lib.strCells]
  rw [e1] at hr;have hs:(⟨#[]⟩:ByteArray)++s=s:=by apply ByteArray.ext;simp
  obtain ⟨k1,k2,k3,k4⟩:=grown w (Lib.strCells s) s.size 0 rfl (by rw [hs]) (by show s.size=0+s.size;omega) _ rfl;rw [hs] at k2 k4;refine ⟨_,_,hr,⟨w.heap.size,_,_,(0,0),by rw [hs],heap_alloc_new w.drew _,k0R _,k1,by rw [hs];exact k2,k3,by rw [hs];exact k4,.inl (d0M _)⟩,⟨rfl,rfl,rfl,by simp,fun k hk _=>heap_alloc_old w.drew _ hk⟩⟩
 .by_cases hroom:s0.size+s.size<=cap
  .have hr:=Lib.run_append_room_stringF (P:=P) w t u ty e i ht hu hi hsize g s0.size cap cur fz hg hfz s hroom (by omega);refine ⟨_,_,hr,⟨g,cap,_,fz,by rw [hsz],setRow_heap w g cur _ e _ hg,by omega,?_,by rw [hsz];exact hroom,hcm,?_,.inr rfl⟩,⟨rfl,rfl,rfl,by simp,fun k _ hk=>setRow_other w g k _ (fun e=>hk (by simp [Value.ownBlock,e]))⟩⟩
   .simp only [b1D,u0m,m0z,x0A,o0w,hcl];omega
   .rw [htake,<-b0Y,<-hcl (s0++s)];exact d1w
  .have holds:∀j u,(Lib.strCells s0)[j]? =some u->w.cell? ((⟨g,0,none⟩:Addr).add j)=some u:=by
    intro j u hj;rw [<-htake,p0N] at hj;split at hj
    .have ea:((⟨g,0,none⟩:Addr).add j)=⟨g,j,none⟩:=by
      unfold Addr.add;split
      .rename_i e;subst e;rfl
      .simp
     rw [ea,o0u hg];simpa using hj
    .cases hj
   have hr:=Lib.run_append_grow_string (P:=P) w t u ty e i (.int .u8 0) ht hu hi hz ⟨g,0,none⟩ s0.size cap (Lib.strCells s0) (by rw [hsize,hcl];simp) holds s (by omega) (by omega) (by rw [hby];exact growslice_fits (by omega) (by omega));obtain ⟨k1,k2,k3,k4⟩:=grown w (Lib.strCells (s0++s)) (s0.size+s.size) cap rfl rfl rfl _ rfl;have e2:(Lib.strCells s0).toArray++(Lib.strCells s).toArray=(Lib.strCells (s0++s)).toArray:=by rw [b0Y];simp
   rw [e2] at hr;exact ⟨_,_,hr,⟨w.heap.size,_,_,(0,0),by rw [hsz],heap_alloc_new w.drew _,k0R _,k1,k2,k3,k4,.inl (d0M _)⟩,⟨rfl,rfl,rfl,by simp,fun k hk _=>heap_alloc_old w.drew _ hk⟩⟩
theorem p0W {P:Program} {ops:Array Oper} {rest:List Oper} {o:Oper} {a:Act} {Q:Exit->Act->World->Prop} {w:World} (hgd:o.guard=none) (sl x:Operand) (t u:TypeId)
  (ho:o.op= .call { callee:= .builtin .append,args:= #[sl,x],argTypes:= #[t,u]})
  (e:TypeId) (i:TypeInfo) (ht:P.underlying t=some (.slice e)) (hu:P.underlying u=some .string) (hi:P.info? e=some i) (hz:i.zero=some (.int .u8 0))
  (hsize:i.size=1) (hby:i.bytes=1)
  (v:Value) (s0 s:ByteArray) (hs:a.eval sl=v) (hv:m0t w e v s0) (hx:a.eval x= .string s) (h0:0<s.size) (hb:s0.size+s.size<=1000000000)
  (h:∀v' w',j0N w w' e v v' (s0++s)->w.grownBy w' v.ownBlock->wpList P ops Q rest (a.put o.dst v') w'):wpList P ops Q (o::rest) a w:=by
 refine wpList_plain hgd fun K hK=> ?_
 obtain ⟨v',w',hr,h2,h3⟩:=y0r (P:=P) w t u o.type e i ht hu hi hz hsize hby v s0 s hv h0 hb;unfold Oper.wp execOp;simp only [ho,resolve,invoke,builtin,e0M,i0S,d0N,List.map_toArray,k0N,s0c,hs,hx,hr];exact hK _ _ (h v' w' h2 h3)
theorem u0O {P:Program} (w:World) (t ty e:TypeId) (i:TypeInfo) (ht:P.underlying t=some (.slice e)) (hi:P.info? e=some i) (hz:i.zero=some (.int .u8 0)) (hsize:i.size=1) (hby:i.bytes=1)
  (v:Value) (s0:ByteArray) (c:UInt8) (hv:m0t w e v s0) (h0:0<s0.size) (hb:s0.size+1<=1000000000) (ad:Addr) (hx:w.cell? (ad.add 0)=some (.int .u8 c.toNat)):
  ∃v' w',(Builtin.append_ #[t,t] ty #[v,.slice (some ad) 1 1]).run P w= .ok v' w'/\j0N w w' e v v' (s0++⟨#[c]⟩)/\w.grownBy w' v.ownBlock:=by
 have hsz:(s0++⟨#[c]⟩:ByteArray).size=s0.size+1:=by simp;rfl
 have hcl:∀x:ByteArray,(Lib.strCells x).length=x.size:=Lib.strCells_length;have hc1:Lib.strCells ⟨#[c]⟩= [.int .u8 c.toNat]:=rfl;have hnews:∀j u,(Lib.strCells ⟨#[c]⟩)[j]? =some u->w.cell? (ad.add j)=some u:=by
  intro j u hj
  match j,hj with
  |0,hj=>rw [hc1] at hj;simp at hj;subst hj;exact hx
 rcases hv with ⟨rfl,rfl⟩|⟨g,cap,cur,fz,rfl,hg,hfz,hcs,hnc,hcm,htake⟩
 .exact absurd h0 (by decide)
 .by_cases hroom:s0.size+1<=cap
  .have hr:=run_append_roomF (P:=P) w t ty e i ht hi g s0.size cap cur fz hg (by rw [hsize];omega) ad 1 1 (Lib.strCells ⟨#[c]⟩) (by rw [hsize];rfl) hnews (Lib.strCells_oneCell _) hroom (by rw [hsize,hcl];show s0.size*1+1<=cur.size;omega);rw [hsize,b1G] at hr;refine ⟨_,_,hr,⟨g,cap,_,fz,by rw [hsz],setRow_heap w g cur _ e _ hg,by omega,?_,by rw [hsz];exact hroom,hcm,?_,.inr rfl⟩,⟨rfl,rfl,rfl,by simp,fun k _ hk=>setRow_other w g k _ (fun e=>hk (by simp [Value.ownBlock,e]))⟩⟩
   .simp only [b1D,u0m,m0z,x0A,o0w,hcl];show _+1+(_-(_+1))=_;omega
   .rw [htake,<-b0Y,<-hcl (s0++⟨#[c]⟩)];exact d1w
  .have holds:∀j u,(Lib.strCells s0)[j]? =some u->w.cell? ((⟨g,0,none⟩:Addr).add j)=some u:=by
    intro j u hj;rw [<-htake,p0N] at hj;split at hj
    .have ea:((⟨g,0,none⟩:Addr).add j)=⟨g,j,none⟩:=by
      unfold Addr.add;split
      .rename_i e;subst e;rfl
      .simp
     rw [ea,o0u hg];simpa using hj
    .cases hj
   have hr:=run_append_grow (P:=P) w t ty e i (.int .u8 0) ht hi hz ⟨g,0,none⟩ s0.size cap (Lib.strCells s0) (by rw [hsize,hcl];simp) holds ad 1 1 (Lib.strCells ⟨#[c]⟩) (by rw [hsize];rfl) hnews (by omega) (by omega) (by rw [hby];exact growslice_fits (by omega) (by omega));have hge:=grownCap_ge w (s0.size+1) cap e;have hcm2:grownCap w (s0.size+1) cap e<=maxLen:=grownCap_le_maxLen w (s0.size+1) cap e (by unfold maxLen;omega);have hz1:(Value.int IntKind.u8 0).cells.size=1:=rfl;refine ⟨_,_,hr,⟨w.heap.size,_,_,(0,0),by rw [hsz],heap_alloc_new w.drew _,k0R _,?_,by rw [hsz];exact hge,hcm2,?_,.inl (d0M _)⟩,⟨rfl,rfl,rfl,by simp,fun k hk _=>heap_alloc_old w.drew _ hk⟩⟩
   .simp only [b1B,b1D,size_zeroCells,hz1,hcl];show s0.size+1+_=_;omega
   .simp only [u0Y,r0d];rw [<-r0d,<-b0Y,<-hcl (s0++⟨#[c]⟩)];exact d1w
theorem n0v {P:Program} {ops:Array Oper} {rest:List Oper} {o:Oper} {a:Act} {Q:Exit->Act->World->Prop} {w:World} (hgd:o.guard=none) (sl x:Operand) (t:TypeId)
  (ho:o.op= .call { callee:= .builtin .append,args:= #[sl,x],argTypes:= #[t,t]})
  (e:TypeId) (i:TypeInfo) (ht:P.underlying t=some (.slice e)) (hi:P.info? e=some i) (hz:i.zero=some (.int .u8 0))
  (hsize:i.size=1) (hby:i.bytes=1)
  (v:Value) (s0:ByteArray) (c:UInt8) (hs:a.eval sl=v) (hv:m0t w e v s0) (ad:Addr) (hx:a.eval x= .slice (some ad) 1 1) (hc:w.cell? (ad.add 0)=some (.int .u8 c.toNat)) (h0:0<s0.size) (hb:s0.size+1<=1000000000)
  (h:∀v' w',j0N w w' e v v' (s0++⟨#[c]⟩)->w.grownBy w' v.ownBlock->wpList P ops Q rest (a.put o.dst v') w'):wpList P ops Q (o::rest) a w:=by
 refine wpList_plain hgd fun K hK=> ?_
 obtain ⟨v',w',hr,h2,h3⟩:=u0O (P:=P) w t o.type e i ht hi hz hsize hby v s0 c hv h0 hb ad hc;unfold Oper.wp execOp;simp only [ho,resolve,invoke,builtin,e0M,i0S,d0N,List.map_toArray,k0N,s0c,hs,hx,hr];exact hK _ _ (h v' w' h2 h3)
theorem v0N:(Tryz.prog.info? 111).map (·.size)=some 2:=by kernel_rfl
theorem a1Q:liesAt Tryz.prog Tryz.prog.depth 111 (2/Tryz.prog.cellsOf 111) 0 111 1=true:=by kernel_rfl
theorem y0s:Tryz.prog.underlying 109=some (.pointer 111):=by kernel_rfl
theorem a1R:Tryz.prog.underlying 327=some .unsafePointer:=by kernel_rfl
theorem d1I:Tryz.prog.underlying 107=some (.slice 5):=by kernel_rfl
theorem c1H:Tryz.prog.underlying 9=some .string:=by kernel_rfl
theorem d1J:(Tryz.prog.info? 5).map (fun i=>(i.zero,i.size,i.bytes))=some (some (.int .u8 0),1,1):=by kernel_rfl
set_option maxHeartbeats 1000000 in
theorem d0U (b:Nat) (w:World) (h0:w.cell? ⟨b,0,none⟩=some (.pointer (some ⟨b,0,none⟩))):
  Calls Tryz.prog 144 #[.pointer (some ⟨b,0,none⟩)] w fun e w'=>e= .returned (.tuple #[])/\w'=w:=by
 obtain ⟨j,hj,_⟩:=z0h.1 v0N
 go_enter Tryz.func144,Tryz.ntmps144
 go_wp2
 rw [Lib.run_neq_ptr_same w _ y0s hj]
 go_wp2
 go_end0
 exact ⟨rfl,rfl⟩
set_option maxHeartbeats 1000000 in
theorem g0x (b:Nat) (w:World) (h0:w.cell? ⟨b,0,none⟩=some (.pointer none)) (hsh:w.shape? b=some (111,2)) (hfz:w.frozen? ⟨b,0,none⟩=false):
  Calls Tryz.prog 144 #[.pointer (some ⟨b,0,none⟩)] w fun e w'=>e= .returned (.tuple #[])/\w'=w.setCell ⟨b,0,none⟩ (.pointer (some ⟨b,0,none⟩)):=by
 obtain ⟨j,hj,hjs⟩:=z0h.1 v0N
 go_enter Tryz.func144,Tryz.ntmps144
 go_wp2
 rw [Lib.run_to_unsafe w ⟨b,0,none⟩ y0s a1R hj (by rw [hjs];decide) hsh (Nat.zero_lt_succ 1)];simp only [Result.andThen];rw [e1K]
 go_wp2
 rw [run_callFunc_extern Tryz.func208 (by kernel_rfl) (by kernel_rfl) (by kernel_rfl) (e:=Extern.AbiNoEscape.same) (by kernel_rfl)];rw [Lib.run_noEscape];simp only [Result.andThen];rw [e1K]
 go_wp2
 rw [Lib.run_from_unsafe w ⟨b,0,none⟩ a1R y0s hj hsh a1Q];simp only [Result.andThen];rw [e1K]
 go_wp2
 go_end0
 exact ⟨rfl,rfl⟩
def s0w (B:Nat->Prop) (w w':World):Prop:=w'.os=w.os/\w'.tape=w.tape/\w'.output=w.output/\w.heap.size<=w'.heap.size/\∀k,k<w.heap.size->¬B k->w'.heap[k]? =w.heap[k]?
set_option maxHeartbeats 2000000 in
theorem g0a (b:Nat) (p v:Value) (s0 s:ByteArray) (w:World) (hb:w.heap[b]? =some (.cells #[p,v] 111 (0,0))) (hp:p= .pointer none\/p= .pointer (some ⟨b,0,none⟩)) (hv:m0t w 5 v s0) (hne:v.ownBlock≠some b) (h0:0<s.size) (hsz:s0.size+s.size<=1000000000):
  Calls Tryz.prog 73 #[.pointer (some ⟨b,0,none⟩),.string s] w fun e w'=>e= .returned (.tuple #[.int .i64 s.size,.nilIface])/\∃v',w'.heap[b]? =some (.cells #[.pointer (some ⟨b,0,none⟩),v'] 111 (0,0))/\j0N w w' 5 v v' (s0++s)/\s0w (fun k=>k=b\/v.ownBlock=some k) w w':=by
 obtain ⟨i0,hi,hi3⟩:=z0h.1 d1J;simp only [Prod.mk.injEq] at hi3;obtain ⟨hz0,hz1,hz2⟩:=hi3;have hlt:b<w.heap.size:=by
  rcases f0m b w.heap.size with h'|h'
  .exact h'
  .simp [w0B h'] at hb
 have cc:Calls Tryz.prog 144 #[.pointer (some ⟨b,0,none⟩)] w fun e w'=>e= .returned (.tuple #[])/\w'.heap[b]? =some (.cells #[.pointer (some ⟨b,0,none⟩),v] 111 (0,0))/\w'.heap.size=w.heap.size/\w'.os=w.os/\w'.tape=w.tape/\w'.output=w.output/\∀k,k≠b->w'.heap[k]? =w.heap[k]?:=by
  rcases hp with rfl|rfl
  .refine (g0x b w (by rw [o0u hb];rfl) (by simp [World.shape?,hb]) (Lib.frozen_of_heap hb 0)).mono ?_;rintro e w' ⟨rfl,rfl⟩;refine ⟨rfl,?_,by simp [World.setCell],rfl,rfl,rfl,fun k hk=> ?_⟩
   .simp [World.setCell,i0l,hb]
   .simp [World.setCell,i0l,Ne.symm hk]
  .refine (d0U b w (by rw [o0u hb];rfl)).mono ?_;rintro e w' ⟨rfl,rfl⟩;exact ⟨rfl,hb,rfl,rfl,rfl,rfl,fun _ _=>rfl⟩
 go_enter Tryz.func73,Tryz.ntmps73
 go_wp2_with (go_at_call 144;refine cc.mono ?_)
 rintro e w1 ⟨rfl,hb1,hs1,ho1,ht1,hu1,hk1⟩;have c0:w1.cell? ⟨b,0,none⟩=some (.pointer (some ⟨b,0,none⟩)):=by rw [o0u hb1];rfl
 have c1:w1.cell? ⟨b,1,none⟩=some v:=by rw [o0u hb1];rfl
 have hv1:m0t w1 5 v s0:=by
  rcases hv with h|⟨g,cap,cur,fz,rfl,hg,h⟩
  .exact .inl h
  .refine .inr ⟨g,cap,cur,fz,rfl,?_,h⟩;rw [hk1 g (fun e=>hne (by rw [e];rfl))];exact hg
 go_wp2_with (at_builtin;refine p0W rfl _ _ 107 9 rfl 5 i0 d1I c1H hi hz0 hz1 hz2 v s0 s rfl hv1 rfl h0 hsz ?_)
 intro v' w2 hrow hgrow;have hb2:w2.heap[b]? =some (.cells #[.pointer (some ⟨b,0,none⟩),v] 111 (0,0)):=by
  rw [hgrow.block b (by omega) (fun e=>hne e.symm)];exact hb1
 have d0:w2.cell? ⟨b,0,none⟩=some (.pointer (some ⟨b,0,none⟩)):=by rw [o0u hb2];rfl
 have d1:w2.cell? ⟨b,1,none⟩=some v:=by rw [o0u hb2];rfl
 have f1:w2.frozen? ⟨b,1,none⟩=false:=Lib.frozen_of_heap hb2 1;obtain ⟨g,cap,cur,fz,rfl,r2,r0,r3,r4,r5,r6,r7⟩:=hrow;have hgb:g≠b:=by
  rcases r7 with r7|r7
  .omega
  .exact fun e=>hne (by rw [r7,e])
 go_wp2
 go_ret2
 refine ⟨rfl,_,?_,⟨g,cap,cur,fz,rfl,?_,r0,r3,r4,r5,r6,by rw [<-hs1];exact r7⟩,?_⟩
 .simp [World.setCell,i0l,hb2]
 .simp [World.setCell,i0l,Ne.symm hgb,r2]
 .refine ⟨?_,?_,?_,?_,fun k hk hn=> ?_⟩
  .show w2.os=w.os;rw [hgrow.os,ho1]
  .show w2.tape=w.tape;rw [hgrow.tape,ht1]
  .show w2.output=w.output;rw [hgrow.output,hu1]
  .have:=hgrow.size;simp [World.setCell];omega
  .have k1:k≠b:=fun e=>hn (.inl e)
   have k2:some k≠v.ownBlock:=fun e=>hn (.inr e.symm)
   have:∀x,(w2.setCell ⟨b,1,none⟩ x).heap[k]? =w2.heap[k]?:=fun x=>by simp [World.setCell,i0l,Ne.symm k1]
   rw [this,hgrow.block k (by omega) k2,hk1 k k1]
set_option maxHeartbeats 2000000 in
theorem n0w (b:Nat) (v:Value) (s0:ByteArray) (c:UInt8) (w:World) (hb:w.heap[b]? =some (.cells #[.pointer (some ⟨b,0,none⟩),v] 111 (0,0))) (hv:m0t w 5 v s0) (hne:v.ownBlock≠some b) (h0:0<s0.size) (hsz:s0.size+1<=1000000000):
  Calls Tryz.prog 72 #[.pointer (some ⟨b,0,none⟩),.int .u8 c.toNat] w fun e w'=>e= .returned .nilIface/\∃v',w'.heap[b]? =some (.cells #[.pointer (some ⟨b,0,none⟩),v'] 111 (0,0))/\j0N w w' 5 v v' (s0++⟨#[c]⟩)/\s0w (fun k=>k=b\/v.ownBlock=some k) w w':=by
 obtain ⟨i0,hi,hi3⟩:=z0h.1 d1J;simp only [Prod.mk.injEq] at hi3;obtain ⟨hz0,hz1,hz2⟩:=hi3;have hlt:b<w.heap.size:=by
  rcases f0m b w.heap.size with h'|h'
  .exact h'
  .simp [w0B h'] at hb
 have cc:=d0U b w (by rw [o0u hb];rfl)
 go_enter Tryz.func72,Tryz.ntmps72
 go_wp2_with (go_at_call 144;refine cc.mono ?_)
 rintro e w1 ⟨rfl,rfl⟩;have c0:w1.cell? ⟨b,0,none⟩=some (.pointer (some ⟨b,0,none⟩)):=by rw [o0u hb];rfl
 have c1:w1.cell? ⟨b,1,none⟩=some v:=by rw [o0u hb];rfl
 have hv1:∀o,m0t (w1.alloc o) 5 v s0:=by
  intro o;rcases hv with h|⟨g,cap,cur,fz,rfl,hg,h⟩
  .exact .inl h
  .refine .inr ⟨g,cap,cur,fz,rfl,?_,h⟩;have hgl:g<w1.heap.size:=by
    rcases f0m g w1.heap.size with h'|h'
    .exact h'
    .simp [w0B h'] at hg
   rw [Lib.alloc_old w1 o g hgl];exact hg
 go_wp2_with (at_builtin;refine n0v rfl _ _ 107 rfl 5 i0 d1I hi hz0 hz1 hz2 v s0 c rfl (hv1 _) ⟨w1.heap.size,0,none⟩ rfl ?c1 h0 hsz ?_)
 case c1=>simp [Addr.add]
 intro v' w2 hrow hgrow;have hb2:w2.heap[b]? =some (.cells #[.pointer (some ⟨b,0,none⟩),v] 111 (0,0)):=by
  rw [hgrow.block b (by simp;omega) (fun e=>hne e.symm),Lib.alloc_old w1 _ b hlt];exact hb
 have d0:w2.cell? ⟨b,0,none⟩=some (.pointer (some ⟨b,0,none⟩)):=by rw [o0u hb2];rfl
 have d1:w2.cell? ⟨b,1,none⟩=some v:=by rw [o0u hb2];rfl
 have f1:w2.frozen? ⟨b,1,none⟩=false:=Lib.frozen_of_heap hb2 1;obtain ⟨g,cap,cur,fz,rfl,r2,r0,r3,r4,r5,r6,r7⟩:=hrow;have hr7:w1.heap.size<=g\/v.ownBlock=some g:=by
  rcases r7 with r7|r7
  .refine .inl ?_;simp at r7;omega
  .exact .inr r7
 have hgb:g≠b:=by
  rcases hr7 with r7|r7
  .omega
  .exact fun e=>hne (by rw [r7,e])
 go_wp2
 go_ret
 refine ⟨rfl,_,?_,⟨g,cap,cur,fz,rfl,?_,r0,r3,r4,r5,r6,hr7⟩,?_⟩
 .simp [World.setCell,i0l,hb2];rfl
 .simp [World.setCell,i0l,Ne.symm hgb,r2]
 .refine ⟨?_,?_,?_,?_,fun k hk hn=> ?_⟩
  .show w2.os=w1.os;rw [hgrow.os];rfl
  .show w2.tape=w1.tape;rw [hgrow.tape];rfl
  .show w2.output=w1.output;rw [hgrow.output];rfl
  .have:=hgrow.size;simp [World.setCell] at this⊢;omega
  .have k1:k≠b:=fun e=>hn (.inl e)
   have k2:some k≠v.ownBlock:=fun e=>hn (.inr e.symm)
   have:∀x,(w2.setCell ⟨b,1,none⟩ x).heap[k]? =w2.heap[k]?:=fun x=>by simp [World.setCell,i0l,Ne.symm k1]
   rw [this,hgrow.block k (by simp;omega) k2,Lib.alloc_old w1 _ k hk]
theorem d1Y:Tryz.prog.underlying 183=some (.pointer 5):=by kernel_rfl
theorem d1Z:Tryz.prog.cellsOf 5=1:=by kernel_rfl
set_option maxHeartbeats 2000000 in
theorem u0P (b g cap:Nat) (p:Value) (cur:Array Value) (fz:Nat×Nat) (s:ByteArray) (w:World) (hb:w.heap[b]? =some (.cells #[p,.slice (some ⟨g,0,none⟩) s.size cap] 111 (0,0))) (hg:w.heap[g]? =some (.cells cur 5 fz)) (hfz:fz.2<=s.size) (hgb:g≠b) (hcs:cur.size=cap) (hnc:s.size<=cap) (hcm:cap<=maxLen) (htake:cur.toList.take s.size=Lib.strCells s) (h0:0<s.size):
  Calls Tryz.prog 38 #[.pointer (some ⟨b,0,none⟩)] w fun e w'=>e= .returned (.string s)/\(∃fz',fz'.2<=s.size/\w'.heap[g]? =some (.cells cur 5 fz'))/\s0w (fun k=>k=g) w w':=by
 have hl0:s.data.toList≠[]:=by
  intro e;have h1:s.data.toList.length=s.size:=by simp
  rw [e] at h1;simp at h1;omega
 have hll:s.data.toList.length=s.size:=by simp
 have c1:w.drew.cell? ⟨b,1,none⟩=some (.slice (some ⟨g,0,none⟩) s.size cap):=by
  have:w.drew.heap[b]? =some (.cells #[p,.slice (some ⟨g,0,none⟩) s.size cap] 111 (0,0)):=hb;rw [o0u this];rfl
 have hg':w.drew.heap[g]? =some (.cells cur 5 fz):=hg;have hSD:(Builtin.unsafeSliceData_ #[107] 183 #[.slice (some ⟨g,0,none⟩) s.size cap]).run Tryz.prog w.drew= .ok (.pointer (some ⟨g,0,none⟩)) w.drew:=
  Lib.run_unsafeSliceData_row _ _ _ _ _ _ (by omega)
 have hUS:(Builtin.unsafeString_ #[183,3] 9 #[.pointer (some ⟨g,0,none⟩),.int .i64 s.size]).run Tryz.prog w.drew= .ok (.string s) (w.drew.freeze ⟨g,0,none⟩ s.size):=by
  have:=Lib.run_unsafeString_row (P:=Tryz.prog) w.drew 183 3 9 5 d1Y d1Z g cur.size (by simp [World.shape?,hg']) s.data.toList hl0 (by omega) (by unfold maxLen at hcm;omega) (by
   intro j x hx;have ea:((⟨g,0,none⟩:Addr).add j)=⟨g,j,none⟩:=by
    unfold Addr.add;split
    .rename_i e;subst e;rfl
    .simp
   rw [ea,o0u hg'];have h1:(Lib.strCells s)[j]? =some (.int .u8 x.toNat):=by rw [z0C];simp only [Lib.byteCells,f0l,hx];rfl
   rw [<-htake,p0N] at h1;split at h1
   .simpa using h1
   .cases h1)
  rw [hll] at this;exact this
 have hkeep:s0w (fun k=>k=g) w (w.drew.freeze ⟨g,0,none⟩ s.size):=by
  unfold World.freeze;split
  .exact ⟨rfl,rfl,rfl,d0M _,fun _ _ _=>rfl⟩
  .refine ⟨rfl,rfl,rfl,by simp,fun k hk hn=> ?_⟩;simp only [i0l];rw [if_neg (fun e=>hn e.symm)];rfl
 have hrow:∃fz':Nat×Nat,fz'.2<=s.size/\(w.drew.freeze ⟨g,0,none⟩ s.size).heap[g]? =some (.cells cur 5 fz'):=by
  unfold World.freeze;rw [if_neg (by omega)];obtain ⟨lo,hi⟩:=fz;refine ⟨if lo==hi then (0,0+s.size) else (min lo 0,max hi (0+s.size)),?_,?_⟩
  .split
   .show 0+s.size<=s.size;omega
   .show max hi (0+s.size)<=s.size;have:hi<=s.size:=hfz;omega
  .simp only [i0l,hg',g0w,if_true]
 have mixed:Tryz.prog.follows .mixedOrders=true:=by kernel_rfl
 go_enter Tryz.func38,Tryz.ntmps38
 go_wp2
 go_region_o
 all_goals (go_wp2;go_ret;exact ⟨rfl,hrow,hkeep⟩)
end
section
open Go.RowKit Go.Sy Go.Proofs
def e0y (h n:Nat):Option HB:=some (.one false (.obj (.bld 111 h 0 n)))
def y0t:Option HB:=some (.one false (.obj (.bld0 111)))
def c0l (s:ByteArray):Option HB:=some (.one false (.obj (.brow 5 s)))
theorem g0y {h1 h2 h q:Nat} {ro:Bool} {b1 b2 b:Blk} (he:Ent [(h1,some (.one false b1)),(h2,some (.one false b2))] h q ro b):(h=h1/\q=0/\ro=false/\b=b1)\/(h≠h1/\h=h2/\q=0/\ro=false/\b=b2):=by
 rcases a0l.1 he with ⟨e,hb,k1,k2,k3⟩|⟨e,he⟩
 .cases k1;exact .inl ⟨e.symm,k2.1,k3.symm,k2.2⟩
 .rcases a0l.1 he with ⟨e',hb,k1,k2,k3⟩|⟨_,he⟩
  .cases k1;exact .inr ⟨fun x=>e x.symm,e'.symm,k2.1,k3.symm,k2.2⟩
  .obtain ⟨hb,k,_⟩:=he;simp [a0x] at k
theorem m0u {g:G} {w:World} {h1 h2:Nat} {b1 b2:Blk} {β1 β2:Base} (e1:g h1 0=some β1) (B1:BlkAt g β1 false b1 w) (e2:g h2 0=some β2) (B2:BlkAt g β2 false b2 w) (hd:β1.blk≠β2.blk):Holds g [(h1,some (.one false b1)),(h2,some (.one false b2))] w:=by
 refine ⟨?_,?_⟩
 .intro h q ro b he;rcases g0y he with ⟨rfl,rfl,rfl,rfl⟩|⟨_,rfl,rfl,rfl,rfl⟩
  .exact ⟨_,e1,B1⟩
  .exact ⟨_,e2,B2⟩
 .intro h q h' q' b ro' b' β β' hne he he' hg hg' hc hc';rcases g0y he with ⟨rfl,rfl,_,rfl⟩|⟨hx,rfl,rfl,_,rfl⟩
  .rcases g0y he' with ⟨rfl,rfl,_,rfl⟩|⟨_,rfl,rfl,_,rfl⟩
   .exact absurd ⟨rfl,rfl⟩ hne
   .rw [e1] at hg;cases hg;rw [e2] at hg';cases hg';exact hd
  .rcases g0y he' with ⟨rfl,rfl,_,rfl⟩|⟨_,rfl,rfl,_,rfl⟩
   .rw [e2] at hg;cases hg;rw [e1] at hg';cases hg';exact hd.symm
   .exact absurd ⟨rfl,rfl⟩ hne
theorem a1S (m:Nat) (g:G):Rv g (.tup [.int .i64 m,.nif]) (.tuple #[.int .i64 m,.nilIface]):=by
 simp only [Rv,Rvs];exact ⟨_,rfl,_,_,rfl,rfl,_,_,rfl,rfl,rfl⟩
theorem n0x {g:G} {w w':World} {n r cap:Nat} {H:a0g} {β:Base} {cur:Array Value} {s:ByteArray} {Bk:Nat->Prop} {r0:SV} {v0:Value} (hrv:∀g,Rv g r0 v0) (hg1:g 1 0=some β) (hcap:0<β.cap) (hoff:β.off=0) (hes:β.es=0) (h1n:1<n) (hu:g.upto n)
  (hb:w'.heap[β.blk]? =some (.cells #[.pointer (some ⟨β.blk,0,none⟩),.slice (some ⟨r,0,none⟩) s.size cap] 111 (0,0))) {fz:Nat×Nat} (hr:w'.heap[r]? =some (.cells cur 5 fz)) (hfz:fz.2<=s.size) (hcs:cur.size=cap) (hnc:s.size<=cap) (hcm:cap<=maxLen) (htake:cur.toList.take s.size=Lib.strCells s) (h0:0<s.size)
  (hne:r≠β.blk) (hk:s0w Bk w w') (hBk:∀k,Bk k->d0o g H k) (hW:d0o g H β.blk) (hWr:d0o g H r\/w.heap.size<=r):
  Out g w n H (a0d r0 [(1,e0y n s.size),(n,c0l s)] (n+1)) v0 w':=by
 obtain ⟨k1,k2,k3,k4,k5⟩:=hk;have lt:∀{k:Nat} {o:Obj},w'.heap[k]? =some o->k<w'.heap.size:=by
  intro k o h;rcases f0m k w'.heap.size with h'|h'
  .exact h'
  .simp [w0B h'] at h
 have g1:(g.add n ⟨r,0,0,cap⟩) 1 0=some β:=by simp only [G.add];rw [if_neg (by omega)];exact hg1
 have gn:(g.add n ⟨r,0,0,cap⟩) n 0=some ⟨r,0,0,cap⟩:=by simp [G.add]
 refine ⟨_,_,n+1,g.add n ⟨r,0,0,cap⟩,⟨rfl,rfl,rfl⟩,Nat.le_succ _,?_,?_,?_,?_,a0k (a0k a0t),⟨k1,k2,k3,k4,fun k hk hn=>k5 k hk (fun hb=>hn (hBk k hb))⟩,?_⟩
 .intro h q hh;simp only [G.add];rw [if_neg (by omega)];exact hu h q (by omega)
 .intro h q hh;simp only [G.add];rw [if_neg (by omega)]
 .exact hrv _
 .refine m0u g1 (h0E hes hcap hoff (lt hb) ?_) gn (h0E rfl (by show 0<cap;omega) rfl (lt hr) ?_) hne.symm
  .exact ⟨_,gn,hb⟩
  .exact ⟨cur,fz,hr,hfz,hcs,hnc,hcm,by rw [htake,z0C];rfl⟩
 .intro h q b β' he hg hc;rcases g0y he with ⟨rfl,rfl,_,rfl⟩|⟨_,rfl,rfl,_,rfl⟩
  .rw [g1] at hg;cases hg;exact .inl hW
  .rw [gn] at hg;cases hg;exact hWr
theorem y0u (s:ByteArray) (h0:0<s.size) (hs:s.size<=1000000000):FC Tryz.prog 2 73 [.ptr 1 0 0 0,.str s] [(1,y0t)] (a0d (.tup [.int .i64 s.size,.nif]) [(1,e0y 2 s.size),(2,c0l s)] 3):=by
 refine .inl ⟨b0g Tryz.func73 (by kernel_rfl) (by kernel_rfl),fun g w vs hg hu hH hvs=> ?_⟩;obtain ⟨β,hβ,hB⟩:=hH.blk 1 0 false (.obj (.bld0 111)) ⟨_,rfl,⟨rfl,rfl⟩,rfl⟩;obtain ⟨hcap,hoff,hheap⟩:=hB.obj;have hW:d0o g [(1,y0t)] β.blk:=⟨1,0,_,β,⟨_,rfl,⟨rfl,rfl⟩,rfl⟩,hβ,hcap,rfl⟩;have haddr:β.addr 0 0=⟨β.blk,0,none⟩:=by simp [Base.addr,hoff]
 simp only [Rvs,Rv] at hvs;obtain ⟨v,r1,rfl,⟨β',e',rfl⟩,v2,r2,rfl,rfl,rfl⟩:=hvs;rw [hβ] at e';cases e';rw [haddr];have hz:(⟨#[]⟩:ByteArray).size=0:=rfl;have hs0:(⟨#[]⟩:ByteArray)++s=s:=by apply ByteArray.ext;simp
 have hlt:=hB.lt hcap;refine (g0a β.blk (.pointer none) (.slice none 0 0) ⟨#[]⟩ s w hheap (.inl rfl) (.inl ⟨rfl,rfl⟩) (by simp [Value.ownBlock]) h0 (by rw [hz];omega)).mono ?_;rw [hs0];rintro e w' ⟨rfl,v',hb',⟨r,cap,cur,fz,rfl,hr,hfz,hcs,hnc,hcm,htake,hr2⟩,hk⟩;have hr3:w.heap.size<=r:=by
  rcases hr2 with h|h
  .exact h
  .cases h
 refine ⟨_,rfl,n0x (a1S _) hβ hcap hoff hB.es (by omega) hu hb' hr hfz hcs hnc hcm htake h0 (by omega) hk ?_ hW (.inr hr3)⟩;rintro k (rfl|h)
 .exact hW
 .cases h
theorem e0X (s0 s:ByteArray) (h0:0<s.size) (hs:s0.size+s.size<=1000000000):FC Tryz.prog 3 73 [.ptr 1 0 0 0,.str s] [(1,e0y 2 s0.size),(2,c0l s0)] (a0d (.tup [.int .i64 s.size,.nif]) [(1,e0y 3 (s0++s).size),(3,c0l (s0++s))] 4):=by
 refine .inl ⟨b0g Tryz.func73 (by kernel_rfl) (by kernel_rfl),fun g w vs hg hu hH hvs=> ?_⟩;have en1:Ent [(1,e0y 2 s0.size),(2,c0l s0)] 1 0 false (.obj (.bld 111 2 0 s0.size)):=⟨_,rfl,⟨rfl,rfl⟩,rfl⟩;have en2:Ent [(1,e0y 2 s0.size),(2,c0l s0)] 2 0 false (.obj (.brow 5 s0)):=⟨_,rfl,⟨rfl,rfl⟩,rfl⟩;obtain ⟨β,hβ,hB⟩:=hH.blk _ _ _ _ en1;obtain ⟨β2,hβ2,hB2⟩:=hH.blk _ _ _ _ en2;obtain ⟨hcap,hoff,β2',e2,hheap⟩:=hB.obj;rw [hβ2] at e2;cases e2;obtain ⟨hcap2,hoff2,cur0,fz0,hheap2,j0,j1,j2,j3,j4⟩:=hB2.obj;have hW:d0o g [(1,e0y 2 s0.size),(2,c0l s0)] β.blk:=⟨1,0,_,β,en1,hβ,hcap,rfl⟩;have hW2:d0o g [(1,e0y 2 s0.size),(2,c0l s0)] β2.blk:=⟨2,0,_,β2,en2,hβ2,hcap2,rfl⟩;have hd:β.blk≠β2.blk:=hH.sep 1 0 2 0 _ _ _ β β2 (by omega) en1 en2 hβ hβ2 hcap hcap2;have haddr:β.addr 0 0=⟨β.blk,0,none⟩:=by simp [Base.addr,hoff]
 simp only [Rvs,Rv] at hvs;obtain ⟨v,r1,rfl,⟨β',e',rfl⟩,v2,r2,rfl,rfl,rfl⟩:=hvs;rw [hβ] at e';cases e';rw [haddr];have hlt:=hB.lt hcap;refine (g0a β.blk _ _ s0 s w hheap (.inr rfl) (.inr ⟨β2.blk,β2.cap,cur0,fz0,rfl,hheap2,j0,j1,j2,j3,by rw [j4,z0C];rfl⟩) (by simp [Value.ownBlock];exact fun e=>hd e.symm) h0 hs).mono ?_;rintro e w' ⟨rfl,v',hb',⟨r,cap,cur,fz,rfl,hr,hfz,hcs,hnc,hcm,htake,hr2⟩,hk⟩;have hr3:d0o g [(1,e0y 2 s0.size),(2,c0l s0)] r\/w.heap.size<=r:=by
  rcases hr2 with h|h
  .exact .inr h
  .simp only [Value.ownBlock,Option.some.injEq] at h;subst h;exact .inl hW2
 refine ⟨_,rfl,n0x (a1S _) hβ hcap hoff hB.es (by omega) hu hb' hr hfz hcs hnc hcm htake (by simp;omega) ?_ hk ?_ hW hr3⟩
 .rcases hr2 with h|h
  .omega
  .simp only [Value.ownBlock,Option.some.injEq] at h;subst h;exact hd.symm
 .rintro k (rfl|h)
  .exact hW
  .simp only [Value.ownBlock,Option.some.injEq] at h;subst h;exact hW2
theorem e0v (s0:ByteArray) (c:UInt8) (h0:0<s0.size) (hs:s0.size+1<=1000000000):FC Tryz.prog 3 72 [.ptr 1 0 0 0,.int .u8 c.toNat] [(1,e0y 2 s0.size),(2,c0l s0)] (a0d .nif [(1,e0y 3 (s0++⟨#[c]⟩).size),(3,c0l (s0++⟨#[c]⟩))] 4):=by
 refine .inl ⟨b0g Tryz.func72 (by kernel_rfl) (by kernel_rfl),fun g w vs hg hu hH hvs=> ?_⟩;have en1:Ent [(1,e0y 2 s0.size),(2,c0l s0)] 1 0 false (.obj (.bld 111 2 0 s0.size)):=⟨_,rfl,⟨rfl,rfl⟩,rfl⟩;have en2:Ent [(1,e0y 2 s0.size),(2,c0l s0)] 2 0 false (.obj (.brow 5 s0)):=⟨_,rfl,⟨rfl,rfl⟩,rfl⟩;obtain ⟨β,hβ,hB⟩:=hH.blk _ _ _ _ en1;obtain ⟨β2,hβ2,hB2⟩:=hH.blk _ _ _ _ en2;obtain ⟨hcap,hoff,β2',e2,hheap⟩:=hB.obj;rw [hβ2] at e2;cases e2;obtain ⟨hcap2,hoff2,cur0,fz0,hheap2,j0,j1,j2,j3,j4⟩:=hB2.obj;have hW:d0o g [(1,e0y 2 s0.size),(2,c0l s0)] β.blk:=⟨1,0,_,β,en1,hβ,hcap,rfl⟩;have hW2:d0o g [(1,e0y 2 s0.size),(2,c0l s0)] β2.blk:=⟨2,0,_,β2,en2,hβ2,hcap2,rfl⟩;have hd:β.blk≠β2.blk:=hH.sep 1 0 2 0 _ _ _ β β2 (by omega) en1 en2 hβ hβ2 hcap hcap2;have haddr:β.addr 0 0=⟨β.blk,0,none⟩:=by simp [Base.addr,hoff]
 simp only [Rvs,Rv] at hvs;obtain ⟨v,r1,rfl,⟨β',e',rfl⟩,v2,r2,rfl,rfl,rfl⟩:=hvs;rw [hβ] at e';cases e';rw [haddr];have hlt:=hB.lt hcap;refine (n0w β.blk _ s0 c w hheap (.inr ⟨β2.blk,β2.cap,cur0,fz0,rfl,hheap2,j0,j1,j2,j3,by rw [j4,z0C];rfl⟩) (by simp [Value.ownBlock];exact fun e=>hd e.symm) h0 hs).mono ?_;rintro e w' ⟨rfl,v',hb',⟨r,cap,cur,fz,rfl,hr,hfz,hcs,hnc,hcm,htake,hr2⟩,hk⟩;have hr3:d0o g [(1,e0y 2 s0.size),(2,c0l s0)] r\/w.heap.size<=r:=by
  rcases hr2 with h|h
  .exact .inr h
  .simp only [Value.ownBlock,Option.some.injEq] at h;subst h;exact .inl hW2
 refine ⟨_,rfl,n0x (fun g=>by simp [Rv]) hβ hcap hoff hB.es (by omega) hu hb' hr hfz hcs hnc hcm htake (by simp;omega) ?_ hk ?_ hW hr3⟩
 .rcases hr2 with h|h
  .omega
  .simp only [Value.ownBlock,Option.some.injEq] at h;subst h;exact hd.symm
 .rintro k (rfl|h)
  .exact hW
  .simp only [Value.ownBlock,Option.some.injEq] at h;subst h;exact hW2
theorem j0O (s:ByteArray) (h0:0<s.size):FC Tryz.prog 3 38 [.ptr 1 0 0 0] [(1,e0y 2 s.size),(2,c0l s)] (a0d (.str s) [(1,e0y 2 s.size),(2,c0l s)] 3):=by
 refine .inl ⟨b0g Tryz.func38 (by kernel_rfl) (by kernel_rfl),fun g w vs hg hu hH hvs=> ?_⟩;have en1:Ent [(1,e0y 2 s.size),(2,c0l s)] 1 0 false (.obj (.bld 111 2 0 s.size)):=⟨_,rfl,⟨rfl,rfl⟩,rfl⟩;have en2:Ent [(1,e0y 2 s.size),(2,c0l s)] 2 0 false (.obj (.brow 5 s)):=⟨_,rfl,⟨rfl,rfl⟩,rfl⟩;obtain ⟨β,hβ,hB⟩:=hH.blk _ _ _ _ en1;obtain ⟨β2,hβ2,hB2⟩:=hH.blk _ _ _ _ en2;obtain ⟨hcap,hoff,β2',e2,hheap⟩:=hB.obj;rw [hβ2] at e2;cases e2;obtain ⟨hcap2,hoff2,cur0,fz0,hheap2,j0,j1,j2,j3,j4⟩:=hB2.obj;have hW2:d0o g [(1,e0y 2 s.size),(2,c0l s)] β2.blk:=⟨2,0,_,β2,en2,hβ2,hcap2,rfl⟩;have haddr:β.addr 0 0=⟨β.blk,0,none⟩:=by simp [Base.addr,hoff]
 simp only [Rvs,Rv] at hvs;obtain ⟨v,r1,rfl,⟨β',e',rfl⟩,rfl⟩:=hvs;rw [hβ] at e';cases e';rw [haddr];have hd:β.blk≠β2.blk:=hH.sep 1 0 2 0 _ _ _ β β2 (by omega) en1 en2 hβ hβ2 hcap hcap2;refine (u0P β.blk β2.blk β2.cap _ cur0 fz0 s w hheap hheap2 j0 (fun e=>hd e.symm) j1 j2 j3 (by rw [j4,z0C];rfl) h0).mono ?_;rintro e w' ⟨rfl,⟨fz',q1,q2⟩,k1,k2,k3,k4,k5⟩;have lt:∀{k:Nat} {o:Obj},w'.heap[k]? =some o->k<w'.heap.size:=by
  intro k o h;rcases f0m k w'.heap.size with h'|h'
  .exact h'
  .simp [w0B h'] at h
 have hb1:w'.heap[β.blk]? =some (.cells #[.pointer (some ⟨β.blk,0,none⟩),.slice (some ⟨β2.blk,0,none⟩) s.size β2.cap] 111 (0,0)):=by
  rw [k5 β.blk (hB.lt hcap) hd];exact hheap
 refine ⟨_,rfl,.str s,_,3,g,⟨rfl,rfl,rfl⟩,d0M _,hu,fun _ _ _=>rfl,by simp only [Rv],m0u hβ (h0E hB.es hcap hoff (lt hb1) ⟨_,hβ2,hb1⟩) hβ2 (h0E hB2.es hcap2 hoff2 (lt q2) ⟨cur0,fz',q2,q1,j1,j2,j3,j4⟩) hd,a0k (a0k a0t),⟨k1,k2,k3,k4,fun k hk hn=>k5 k hk (fun e=>hn (e▸hW2))⟩,?_⟩;intro h q b β' he hg hc;rcases g0y he with ⟨rfl,rfl,_,rfl⟩|⟨_,rfl,rfl,_,rfl⟩
 .rw [hβ] at hg;cases hg;exact .inl ⟨1,0,_,β,en1,hβ,hcap,rfl⟩
 .rw [hβ2] at hg;cases hg;exact .inl hW2
end
section
attribute [local irreducible] a0u a0v a0j b0b
theorem b0J (a b:ByteArray):(a++b).size=a.size+b.size:=by simp
theorem b0K (c:UInt8):(⟨#[c]⟩:ByteArray).size=1:=rfl
theorem e1a (p0 p1 p2 p3:ByteArray) (h0:1<=p0.size/\p0.size<=200) (h1:1<=p1.size/\p1.size<=200) (h2:1<=p2.size/\p2.size<=200) (h3:1<=p3.size/\p3.size<=200):FC Tryz.prog 3 32 [.ptr 1 0 0 0,.sl 2 0 0 4] [(1,y0t),(2,some (.one true (.cols 4 [.sc (.strs [p0,p1,p2,p3])])))] (a0d (.tup []) [(1,e0y 3 (a0V [p0,p1,p2,p3] ⟨#[124]⟩++⟨#[10]⟩).size),(3,c0l (a0V [p0,p1,p2,p3] ⟨#[124]⟩++⟨#[10]⟩))] 4):=by
 have c0:=y0u p0 (by omega) (by omega);have c1:=e0v p0 124 (by (try simp only [b0J,b0K]);omega) (by (try simp only [b0J,b0K]);omega);have c2:=e0X (p0++⟨#[124]⟩) p1 (by omega) (by (try simp only [b0J,b0K]);omega);have c3:=e0v ((p0++⟨#[124]⟩)++p1) 124 (by (try simp only [b0J,b0K]);omega) (by (try simp only [b0J,b0K]);omega);have c4:=e0X (((p0++⟨#[124]⟩)++p1)++⟨#[124]⟩) p2 (by omega) (by (try simp only [b0J,b0K]);omega);have c5:=e0v ((((p0++⟨#[124]⟩)++p1)++⟨#[124]⟩)++p2) 124 (by (try simp only [b0J,b0K]);omega) (by (try simp only [b0J,b0K]);omega);have c6:=e0X (((((p0++⟨#[124]⟩)++p1)++⟨#[124]⟩)++p2)++⟨#[124]⟩) p3 (by omega) (by (try simp only [b0J,b0K]);omega);have c7:=e0v ((((((p0++⟨#[124]⟩)++p1)++⟨#[124]⟩)++p2)++⟨#[124]⟩)++p3) 10 (by (try simp only [b0J,b0K]);omega) (by (try simp only [b0J,b0K]);omega);have e:(a0V [p0,p1,p2,p3] ⟨#[124]⟩++⟨#[10]⟩)=(((((((p0++⟨#[124]⟩)++p1)++⟨#[124]⟩)++p2)++⟨#[124]⟩)++p3)++⟨#[10]⟩):=by simp only [b0p,b0F,d0J]
 rw [e];clear e h0 h1 h2 h3;refine fEx Tryz.func32 ?_;repeat' ((conv=>whnf);first|refine a0c 6 ?_|refine cOx (l:= [0,1]) c0 ?_|refine cOx (l:= [0,1,3]) c1 ?_|refine cOx (l:= [0,1,4]) c2 ?_|refine cOx (l:= [0,1,5]) c3 ?_|refine cOx (l:= [0,1,6]) c4 ?_|refine cOx (l:= [0,1,7]) c5 ?_|refine cOx (l:= [0,1,8]) c6 ?_|refine cOx (l:= [0,1,9]) c7 ?_|refine a0a ?_|(apply bRx<;>intro h<;>try (exfalso;(try dsimp only at h);omega)))
 all_goals (conv=>whnf)
 all_goals first
  |exact rOz [0,1,2,10]
  |trace_state
theorem d1K (p0 p1:ByteArray) (h0:1<=p0.size/\p0.size<=200) (h1:1<=p1.size/\p1.size<=200) (s0:ByteArray) (hs0:1<=s0.size) (hs1:s0.size<=100000000):FC Tryz.prog 4 32 [.ptr 1 0 0 0,.sl 2 0 0 2] [(1,e0y 3 s0.size),(2,some (.one true (.cols 2 [.sc (.strs [p0,p1])]))),(3,c0l s0)] (a0d (.tup []) [(1,e0y 4 (s0++(a0V [p0,p1] ⟨#[124]⟩++⟨#[10]⟩)).size),(4,c0l (s0++(a0V [p0,p1] ⟨#[124]⟩++⟨#[10]⟩)))] 5):=by
 have c0:=e0X s0 p0 (by omega) (by (try simp only [b0J,b0K]);omega);have c1:=e0v (s0++p0) 124 (by (try simp only [b0J,b0K]);omega) (by (try simp only [b0J,b0K]);omega);have c2:=e0X ((s0++p0)++⟨#[124]⟩) p1 (by omega) (by (try simp only [b0J,b0K]);omega);have c3:=e0v (((s0++p0)++⟨#[124]⟩)++p1) 10 (by (try simp only [b0J,b0K]);omega) (by (try simp only [b0J,b0K]);omega);have e:(s0++(a0V [p0,p1] ⟨#[124]⟩++⟨#[10]⟩))=((((s0++p0)++⟨#[124]⟩)++p1)++⟨#[10]⟩):=by simp only [b0p,b0F,d0J]
 rw [e];clear e h0 h1 hs0 hs1;refine fEx Tryz.func32 ?_;repeat' ((conv=>whnf);first|refine a0c 4 ?_|refine cOx (l:= [0,1,3]) c0 ?_|refine cOx (l:= [0,1,4]) c1 ?_|refine cOx (l:= [0,1,5]) c2 ?_|refine cOx (l:= [0,1,6]) c3 ?_|refine a0a ?_|(apply bRx<;>intro h<;>try (exfalso;(try dsimp only at h);omega)))
 all_goals (conv=>whnf)
 all_goals first
  |exact rOz [0,1,2,3,7]
  |trace_state
theorem e1b (p0 p1 p2 p3 p4:ByteArray) (h0:1<=p0.size/\p0.size<=200) (h1:1<=p1.size/\p1.size<=200) (h2:1<=p2.size/\p2.size<=200) (h3:1<=p3.size/\p3.size<=200) (h4:1<=p4.size/\p4.size<=200) (s0:ByteArray) (hs0:1<=s0.size) (hs1:s0.size<=100000000):FC Tryz.prog 4 32 [.ptr 1 0 0 0,.sl 2 0 0 5] [(1,e0y 3 s0.size),(2,some (.one true (.cols 5 [.sc (.strs [p0,p1,p2,p3,p4])]))),(3,c0l s0)] (a0d (.tup []) [(1,e0y 4 (s0++(a0V [p0,p1,p2,p3,p4] ⟨#[124]⟩++⟨#[10]⟩)).size),(4,c0l (s0++(a0V [p0,p1,p2,p3,p4] ⟨#[124]⟩++⟨#[10]⟩)))] 5):=by
 have c0:=e0X s0 p0 (by omega) (by (try simp only [b0J,b0K]);omega);have c1:=e0v (s0++p0) 124 (by (try simp only [b0J,b0K]);omega) (by (try simp only [b0J,b0K]);omega);have c2:=e0X ((s0++p0)++⟨#[124]⟩) p1 (by omega) (by (try simp only [b0J,b0K]);omega);have c3:=e0v (((s0++p0)++⟨#[124]⟩)++p1) 124 (by (try simp only [b0J,b0K]);omega) (by (try simp only [b0J,b0K]);omega);have c4:=e0X ((((s0++p0)++⟨#[124]⟩)++p1)++⟨#[124]⟩) p2 (by omega) (by (try simp only [b0J,b0K]);omega);have c5:=e0v (((((s0++p0)++⟨#[124]⟩)++p1)++⟨#[124]⟩)++p2) 124 (by (try simp only [b0J,b0K]);omega) (by (try simp only [b0J,b0K]);omega);have c6:=e0X ((((((s0++p0)++⟨#[124]⟩)++p1)++⟨#[124]⟩)++p2)++⟨#[124]⟩) p3 (by omega) (by (try simp only [b0J,b0K]);omega);have c7:=e0v (((((((s0++p0)++⟨#[124]⟩)++p1)++⟨#[124]⟩)++p2)++⟨#[124]⟩)++p3) 124 (by (try simp only [b0J,b0K]);omega) (by (try simp only [b0J,b0K]);omega);have c8:=e0X ((((((((s0++p0)++⟨#[124]⟩)++p1)++⟨#[124]⟩)++p2)++⟨#[124]⟩)++p3)++⟨#[124]⟩) p4 (by omega) (by (try simp only [b0J,b0K]);omega);have c9:=e0v (((((((((s0++p0)++⟨#[124]⟩)++p1)++⟨#[124]⟩)++p2)++⟨#[124]⟩)++p3)++⟨#[124]⟩)++p4) 10 (by (try simp only [b0J,b0K]);omega) (by (try simp only [b0J,b0K]);omega);have e:(s0++(a0V [p0,p1,p2,p3,p4] ⟨#[124]⟩++⟨#[10]⟩))=((((((((((s0++p0)++⟨#[124]⟩)++p1)++⟨#[124]⟩)++p2)++⟨#[124]⟩)++p3)++⟨#[124]⟩)++p4)++⟨#[10]⟩):=by simp only [b0p,b0F,d0J]
 rw [e];clear e h0 h1 h2 h3 h4 hs0 hs1;refine fEx Tryz.func32 ?_;repeat' ((conv=>whnf);first|refine a0c 7 ?_|refine cOx (l:= [0,1,3]) c0 ?_|refine cOx (l:= [0,1,4]) c1 ?_|refine cOx (l:= [0,1,5]) c2 ?_|refine cOx (l:= [0,1,6]) c3 ?_|refine cOx (l:= [0,1,7]) c4 ?_|refine cOx (l:= [0,1,8]) c5 ?_|refine cOx (l:= [0,1,9]) c6 ?_|refine cOx (l:= [0,1,10]) c7 ?_|refine cOx (l:= [0,1,11]) c8 ?_|refine cOx (l:= [0,1,12]) c9 ?_|refine a0a ?_|(apply bRx<;>intro h<;>try (exfalso;(try dsimp only at h);omega)))
 all_goals (conv=>whnf)
 all_goals first
  |exact rOz [0,1,2,3,13]
  |trace_state
end
section
attribute [local irreducible] a0u a0v a0j b0b
theorem g0z (i:Int) (h1: -9223372036854775808<=i) (h2:i<=9223372036854775807):f0h Tryz.prog glT 36 [.int .i64 i] (.str (b0P i)):=by
 have c:=c0p i h1 h2;refine fEx Tryz.func36 ?_;repeat' ((conv=>whnf);first|refine cGx c ?_|refine a0a ?_|(apply bRx<;>intro h<;>try (exfalso;(try dsimp only at h);omega)))
 all_goals (conv=>whnf)
 exact a0b rfl
def bT (id:ByteArray) (R:List Rc) (k:Nat):ByteArray:=lnS (hdL id::(R.take k).map rcL)
theorem e1c (id:ByteArray) (R:List Rc):a0V [⟨#[72]⟩,id,sSb,b0P 0] ⟨#[124]⟩++⟨#[10]⟩=bT id R 0:=by
 unfold bT;rw [List.take_zero,s0c,k0B];rfl
theorem y0v (id:ByteArray) {R:List Rc} {k:Nat} (h:k<R.length):bT id R k++(a0V [⟨#[82]⟩,rcT R[k]] ⟨#[124]⟩++⟨#[10]⟩)=bT id R (k+1):=by
 unfold bT;rw [x0B h,z0B,k0N,s0c,<-i0k,k0A,k0B];rfl
theorem a1T (id:ByteArray) (R:List Rc):bT id R R.length++(a0V [⟨#[84]⟩,b0P R.length,b0P (b0Z 1 R),b0P (b0Z 2 R),b0P (2*R.length)] ⟨#[124]⟩++⟨#[10]⟩)=lnS (ahL id R):=by
 unfold bT ahL;rw [List.take_length,<-i0k,k0A,k0B];rfl
theorem e1d {id:ByteArray} {R:List Rc} (hi:auI id=true) (h:∀r∈R,d0V r) (hn:R.length<=100) (k:Nat):1<=(bT id R k).size/\(bT id R k).size<=30000:=by
 refine ⟨r0q,?_⟩;have hz:=x0j (B:=202) (hdL id::(R.take k).map rcL) (by
  intro x hx;rcases d0z.1 hx with rfl|hx
  .have:=x0i hi;omega
  .obtain ⟨r,hr,rfl⟩:=m0l.1 hx;have h1:=r0S (h r (c1r hr));have h2:=u0h (h r (c1r hr));omega)
 have e:(hdL id::(R.take k).map rcL).length<=101:=by simp;omega
 have:(hdL id::(R.take k).map rcL).length*(202+1)<=101*203:=j0c _ e;unfold bT;omega
theorem s0x {i:Int} (h1:0<=i) (h2:i<=1000000000000):1<=(b0P i).size/\(b0P i).size<=200:=by
 have h:=a0R i (by omega) (by omega);refine ⟨?_,by omega⟩;unfold b0P dec;rw [if_neg (by omega)];rw [a0X,a0D];exact d0H _
attribute [local irreducible] bT
set_option maxHeartbeats 4000000 in
theorem s0y (id:ByteArray) (R:List Rc) (n:Nat) (hn:R.length=n) (h1:1<=n) (h100:n<=100) (hi:auI id=true) (hR:∀r∈R,d0V r) (hd:(R.map Rc.id).Nodup):
  FC Tryz.prog 2 12 [.agg [.str id,.str sSb,.int .i64 0,.sl 1 0 0 n]] [(0,some (GB glT)),(1,rcB true n R)] (a0d (.tup [.str (flT id R (ckS (crU (lnS (ahL id R))))),.int .i64 0]) [] 2):=by
 have hz:=e1d hi hR (by omega);have hzi:=x0h hi;have hza:=x0k hi hR (by omega);have b1:=f0j 1 R hR;have b2:=f0j 2 R hR;have c0:=t0W R n hn hR hd h100 id hi;have g0:=e0q 0 (by omega) (by omega);have w4:=e1a ⟨#[72]⟩ id sSb (b0P 0) (by decide) (by omega) (by decide) (s0x (by omega) (by omega));rw [e1c id R] at w4;have hall:=a1T id R;rw [hn] at hall b1 b2;have w5:=e1b ⟨#[84]⟩ (b0P n) (b0P (b0Z 1 R)) (b0P (b0Z 2 R)) (b0P (2*(n:Int))) (by decide) (s0x (by omega) (by omega)) (s0x (by omega) (by omega)) (s0x (by omega) (by omega)) (s0x (by omega) (by omega)) (bT id R n) (hz n).1 (by have:=(hz n).2;omega);rw [hall] at w5;have gn:=e0q n (by omega) (by omega);have gD:=g0z (b0Z 1 R) (by omega) (by omega);have gC:=g0z (b0Z 2 R) (by omega) (by omega);have gH:=g0z (2*(n:Int)) (by omega) (by omega);have cs:=r0M R n hn (fun r hr=>w0U (hR r hr)) h100;have hcp:1<=(lnS (ahL id R)).size:=r0q;have cx:=v0E (lnS (ahL id R)) (by omega);have hx:=k0M (crU (lnS (ahL id R)));have wc:=d1K ⟨#[67]⟩ (ckS (crU (lnS (ahL id R)))) (by decide) (by omega) (lnS (ahL id R)) hcp (by omega);have s1:=j0O (lnS (ahL id R)) (by omega);have hf:lnS (ahL id R)++(a0V [⟨#[67]⟩,ckS (crU (lnS (ahL id R)))] ⟨#[124]⟩++⟨#[10]⟩)=flT id R (ckS (crU (lnS (ahL id R)))):=by rw [n0k];rfl
 rw [hf] at wc;have s2:=j0O (flT id R (ckS (crU (lnS (ahL id R))))) (by rw [n0k,v0F];omega);have hsc:∀k (h:k<R.length),bT id R k++(a0V [⟨#[82]⟩,rcT R[k]] ⟨#[124]⟩++⟨#[10]⟩)=bT id R (k+1):=fun k h=>y0v id h
 clear hall hf;generalize flT id R (ckS (crU (lnS (ahL id R))))=F at*;generalize ckS (crU (lnS (ahL id R)))=x at*;generalize lnS (ahL id R)=cov at*;generalize b0Z 1 R=D at*;generalize b0Z 2 R=C at*;generalize b0P 0=Z at*;generalize b0P n=dn at*;generalize b0P D=dD at*;generalize b0P C=dC at*;generalize b0P (2*(n:Int))=dH at*;refine fEx Tryz.func12 ?_;repeat' ((conv=>whnf);first|refine cOx (l:= [0,1]) c0 ?_|refine cGx g0 ?_|refine cOx (l:= [0,3,4]) w4 ?_|refine cOx (l:= [0,3,5]) w4 ?_|refine a0a ?_|(apply bRx<;>intro h<;>try (exfalso;(try dsimp only at h);omega)))
 all_goals (conv=>whnf)
 refine a0n (fun k:Nat=>⟨[(1,.ptr 2 0 0 0),(5,.ptr 3 0 0 0),(27,.sl 1 0 0 n),(28,.int .i64 n),(29,.int .i64 k)],[(0,some (GB glT)),(1,rcB true n R),(2,some (.one false (.cells [.str id,.str sSb,.int .i64 0,.sl 1 0 0 n]))),(3,e0y 4 (bT id R k).size),(4,c0l (bT id R k))],5⟩) (fun k=>k<=n) (fun k=>n-k) 0 [0,1,2,3,5] [] wHx (k0R _) ?_;rintro k hk;by_cases hk2:k<n
 .have hkl:k<R.length:=by omega
  have ok:=r0x hR hkl;have c:=r0P (rcG R k) ok;have hrt:=u0h (hR _ (o0z hkl));have w2:=d1K ⟨#[82]⟩ (rcT R[k]) (by decide) hrt (bT id R k) (hz k).1 (by have:=(hz k).2;omega);rw [hsc k hkl] at w2;rw [show rcT (rcG R k)=rcT R[k] by rw [o0n hkl]] at c;generalize rcT R[k]=t at*;clear hsc w4 w5 wc s1 s2 c0 cx;generalize bT id R k=t0 at*;repeat' ((conv=>whnf);first|refine cGx c ?_|refine cOx (l:= [0,3,6,4]) w2 ?_|refine cOx (l:= [0,3,7,4]) w2 ?_|refine a0a ?_|(apply bRx<;>intro h<;>try (exfalso;(try dsimp only at h);omega)))
  all_goals (conv=>whnf)
  all_goals first
   |exact ⟨k+1,[0,1,2,3,7],[],hk2,(show n-(k+1)<n-k by omega),⟨rfl,⟨rfl,rfl,rfl,rfl,congrArg (fun z=>some (SV.int .i64 z)) (a0G (by omega)),trivial⟩,⟨gwk rfl,rfl,rfl,rfl,rfl,trivial⟩⟩⟩
   |(exfalso;omega)
   |trace_state
 .have ek:k=n:=by omega
  subst ek;clear hsc w4 c0;generalize bT id R k=t0 at*;repeat' ((conv=>whnf);first|refine cOx (l:= [0,1]) cs ?_|refine cGx gn ?_|refine cGx gD ?_|refine cGx gC ?_|refine cGx gH ?_|refine cOx (l:= [0,3,6,4]) w5 ?_|refine cOx (l:= [0,3,7]) s1 ?_|refine cGx cx ?_|refine cOx (l:= [0,3,8,7]) wc ?_|refine cOx (l:= [0,3,9]) s2 ?_|refine a0a ?_|(apply bRx<;>intro h<;>try (exfalso;(try dsimp only at h);omega)))
  all_goals (conv=>whnf)
  all_goals first
   |exact rOz [0,1]
   |(exfalso;omega)
   |trace_state
end
section
attribute [local irreducible] a0u a0v a0j b0b
theorem s0z (x y:Nat) (w:World):(callFunc 177 #[.int .u64 x,.int .u64 y,.int .u64 0]).run Tryz.prog w= .ok (.value (.tuple #[.int .u64 ((x+y)%18446744073709551616:Nat),.int .u64 ((x+y)/18446744073709551616:Nat)])) w:=by
 have hf:=Tryz.func177;have h1:(Tryz.f177.name=="runtime.NumGoroutine")=false:=by kernel_rfl
 have h2:Tryz.f177.body.isNone=true:=by kernel_rfl
 have h3:Extern.findNext Tryz.f177=none:=Option.isNone_iff_eq_none.1 (by kernel_rfl);have h4:Extern.find Tryz.f177=some (fun args=>do
  let (x,y,c)<-Extern.MathBitsCarry.three "Add64" args
  pure (Extern.MathBitsCarry.pair ((x+y+c)%Extern.MathBitsCarry.m64) ((x+y+c)/Extern.MathBitsCarry.m64))):=by kernel_rfl
 rw [run_callFunc_extern hf h1 h2 h3 h4];rfl
theorem p0X (x y:Nat):a0y Tryz.prog 177 [.int .u64 x,.int .u64 y,.int .u64 0] (.tup [.int .u64 ((x+y)%18446744073709551616:Nat),.int .u64 ((x+y)/18446744073709551616:Nat)]):=by
 refine Or.inr fun g w vs hg hu hH hvs=> ?_
 have hv:vs= [.int .u64 x,.int .u64 y,.int .u64 0]:=by
  simp only [Rvs,Rv] at hvs;obtain ⟨_,_,rfl,rfl,_,_,rfl,rfl,_,_,rfl,rfl,rfl⟩:=hvs;rfl
 subst hv;refine ⟨_,w,s0z x y w,_,[],1,g,⟨rfl,rfl,rfl⟩,d0M _,hu,fun _ _ _=>rfl,?_,⟨?_,?_⟩,a0t,⟨rfl,rfl,rfl,d0M _,fun k _ _=>rfl⟩,?_⟩
 .simp [Rv,Rvs]
 .intro h q ro b he;obtain ⟨hb,e,_⟩:=he;simp [a0x] at e
 .intro h q h' q' b ro' b' β β' _ he;obtain ⟨hb,e,_⟩:=he;simp [a0x] at e
 .intro h q b β he;obtain ⟨hb,e,_⟩:=he;simp [a0x] at e
theorem v0O (n:Int) (h1: -9223372036854775808<=n) (h2:n<=9223372036854775807):h0d .i64 n 63=if n<0 then-1 else 0:=by
 have e:h0d .i64 n 63=n/9223372036854775808:=e0F (k:= .i64) 63 (by decide);rw [e];split<;>omega
theorem v0P {n:Int} (h1: -9223372036854775808<=n) (h2:n<=9223372036854775807):IntKind.u64.wrap n=if n<0 then n+18446744073709551616 else n:=by
 unfold IntKind.wrap;simp only [IntKind.bits,IntKind.signed,Bool.false_and,u0l,if_false];rw [show (2:Int)^64=18446744073709551616 from rfl];split<;>omega
theorem a1U {n:Int} (h1:0<=n) (h2:n<18446744073709551616):IntKind.i64.wrap n=if n<9223372036854775808 then n else n-18446744073709551616:=by
 have e:IntKind.i64.wrap n=if (decide (n%18446744073709551616>=9223372036854775808))=true then n%18446744073709551616-18446744073709551616 else n%18446744073709551616:=rfl
 rw [e,Int.emod_eq_of_lt h1 h2];simp only [decide_eq_true_eq];split<;>split<;>omega
end
section
attribute [local irreducible] a0u a0v a0j b0b
theorem a1V {k:Nat} (h:k<4611686018427387904):IntKind.i64.wrap ((k:Int)+1)=((k+1:Nat):Int):=by rw [a0e (by omega) (by omega)];rfl
def sgH (n:Int):Int:=if n<0 then-1 else 0
abbrev exC (ro:Bool) (hs ls:List Int):Option HB:=some (.one ro (.cols 16 [.sc (.ints .i64 hs),.sc (.ints .u64 ls)]))
theorem a1W (hs ls:List Int) (i:Nat) (h0:hs.getD i 0=0) (l0:ls.getD i 0=0) (n:Int) (hb: -1000000000000<=n/\n<=1000000000000) (hi:i<16):FC Tryz.prog 2 107 [.ptr 1 0 i 0,.int .i64 n] [(1,exC false hs ls)] (a0d (.tup []) [(1,exC false (hs.set i (sgH n)) (ls.set i (IntKind.u64.wrap n)))] 2):=by
 have hu:=v0P (n:=n) (by omega) (by omega);have hs':=v0O n (by omega) (by omega);obtain ⟨y,hy⟩:∃y:Nat,IntKind.u64.wrap n=(y:Int):=Int.eq_ofNat_of_zero_le (by rw [hu];split<;>omega);have hy3:y<18446744073709551616:=by rw [hu] at hy;split at hy<;>omega
 have c1:=p0X 0 y;rw [<-hy,show ((0:Nat):Int)=ls.getD i 0 from l0.symm] at c1;have e1:IntKind.i64.wrap (hs.getD i 0+IntKind.i64.wrap (h0d .i64 n 63+IntKind.i64.wrap (((0+y)/18446744073709551616:Nat):Int)))=sgH n:=by
  have hc:(((0+y)/18446744073709551616:Nat):Int)=0:=by omega
  rw [hc,h0,hs'];unfold sgH;split<;>decide
 have e2:(((0+y)%18446744073709551616:Nat):Int)=IntKind.u64.wrap n:=by rw [hy];omega
 rw [<-e1,<-e2];refine fEx Tryz.func107 ?_;repeat' ((conv=>whnf);first|refine cPx c1 ?_|refine a0a ?_|(apply bRx<;>intro h<;>try (exfalso;(try dsimp only at h);omega)))
 all_goals (conv=>whnf)
 all_goals first
  |exact rOz [0,1]
  |(exfalso;omega)
  |trace_state
theorem e0N (hs ls:List Int) (i:Nat) (n:Int) (h0:hs.getD i 0=sgH n) (l0:ls.getD i 0=IntKind.u64.wrap n) (hb: -1000000000000<=n/\n<=1000000000000) (hi:i<16):FC Tryz.prog 2 108 [.ptr 1 0 i 0,.int .i64 4611686018427387904] [(1,exC true hs ls)] (a0d (.int .i64 n) [] 2):=by
 have hu:=v0P (n:=n) (by omega) (by omega);have e1:IntKind.i64.wrap (ls.getD i 0)=n:=by
  rw [l0,hu,a1U (by split<;>omega) (by split<;>omega)];split<;>split<;>omega
 have e3:hs.getD i 0=h0d .i64 n 63:=h0.trans (v0O n (by omega) (by omega)).symm;have e4:IntKind.i64.wrap (0-4611686018427387904)= -4611686018427387904:=by decide
 refine fEx Tryz.func108 ?_;repeat' ((conv=>whnf);first|(rw [e1])|(rw [e4])|(apply bRx<;>intro h<;>first|exact absurd e3 h|exact aX|skip)|refine a0a ?_|(apply bRx<;>intro h<;>try (exfalso;(try dsimp only at h);omega)))
 all_goals (conv=>whnf)
 all_goals first
  |exact rOz [0,1]
  |(exfalso;omega)
  |(exfalso;simp at h;done)
  |trace_state
end
section
attribute [local irreducible] a0u a0v a0j b0b
set_option maxHeartbeats 1000000 in
theorem o0N (made z b1 b2 b3:Bool) (p n s:Int) (a ck:Nat) (hk:Yk made z b1 b2 b3 p n s):FC Tryz.prog 10 17 [.ptr 1 0 0 0,.int .i64 0] (hpZ true false true made false z p n s a ck) (a0d (.tup [poS z 10 b1 b2 b3,.int .i64 0]) ((6,cdB false true)::poH z 10 b1 b2 b3 p n s) (poN z 10)):=by
 have c0:=i0w;have c1:=y0i made z p n s a ck;have c2:=e0u made z b1 b2 b3 true p n s a ck hk;obtain ⟨hz,e,hm⟩:=hk;clear hz;cases made<;>cases z<;>cases b1<;>cases b2<;>cases b3<;>first|(exfalso;revert e hm;simp;done)|skip
 all_goals clear e hm
 all_goals refine fEx Tryz.func17 ?_
 all_goals repeat' ((conv=>whnf);first|refine cOx (l:= [0,2,3]) c0 ?_|refine cOx (l:= [0,1,2,3,4,5,6,7,8,9]) c1 ?_|refine cOx (l:= [0,1,2,3,4,5,6,7,8,9]) c2 ?_|refine a0a ?_|(apply bRx<;>intro h<;>try (exfalso;(try dsimp only at h);omega)))
 all_goals (conv=>whnf)
 all_goals first
  |exact rOz [0,1,2,3,4,5,6,7,8,9]
  |exact rOz [0,1,2,3,4,5,6,7,8,9,10]
  |exact rOz [0,1,2,3,4,5,6,7,8,9,11]
  |trace_state
theorem v0Q:a0y Tryz.prog 104 [.str sEu] (.bool true):=by
 refine fEx Tryz.func104 ?_;repeat' ((conv=>whnf);first|refine a0c 5 ?_|refine a0a ?_|(apply bRx<;>intro h<;>try (exfalso;(try dsimp only at h);omega)))
 all_goals (conv=>whnf)
 all_goals exact a0b rfl
def HS (r:List Int):Nat->List Int
 |0=>List.replicate 16 0
 |k+1=>(HS r k).set k (sgH (r.getD k 0))
def LS (r:List Int):Nat->List Int
 |0=>List.replicate 16 0
 |k+1=>(LS r k).set k (IntKind.u64.wrap (r.getD k 0))
theorem d1L (r:List Int):∀(k j:Nat),k<=j->(HS r k).getD j 0=0
 |0,j,_=>by
  show (List.replicate 16 (0:Int)).getD j 0=0;rw [List.getD,v0m];split<;>rfl
 |k+1,j,h=>by
  show ((HS r k).set k _).getD j 0=0;rw [List.getD,c1s (by omega)];exact d1L r k j (by omega)
theorem d1M (r:List Int):∀(k j:Nat),k<=j->(LS r k).getD j 0=0
 |0,j,_=>by
  show (List.replicate 16 (0:Int)).getD j 0=0;rw [List.getD,v0m];split<;>rfl
 |k+1,j,h=>by
  show ((LS r k).set k _).getD j 0=0;rw [List.getD,c1s (by omega)];exact d1M r k j (by omega)
theorem v0R (r:List Int):∀k,(HS r k).length=16
 |0=>a1o
 |k+1=>by show ((HS r k).set k _).length=16;rw [List.length_set];exact v0R r k
theorem v0S (r:List Int):∀k,(LS r k).length=16
 |0=>a1o
 |k+1=>by show ((LS r k).set k _).length=16;rw [List.length_set];exact v0S r k
theorem u0Q (r:List Int):∀(k j:Nat),j<k->k<=16->(HS r k).getD j 0=sgH (r.getD j 0)
 |k+1,j,h,hk=>by
  have hl:=v0R r k;show ((HS r k).set k _).getD j 0=_;by_cases e:j=k
  .subst e;rw [List.getD,List.getElem?_set_self (by omega)];rfl
  .rw [List.getD,c1s (by omega)];exact u0Q r k j (by omega) (by omega)
theorem u0R (r:List Int):∀(k j:Nat),j<k->k<=16->(LS r k).getD j 0=IntKind.u64.wrap (r.getD j 0)
 |k+1,j,h,hk=>by
  have hl:=v0S r k;show ((LS r k).set k _).getD j 0=_;by_cases e:j=k
  .subst e;rw [List.getD,List.getElem?_set_self (by omega)];rfl
  .rw [List.getD,c1s (by omega)];exact u0R r k j (by omega) (by omega)
theorem a1X {p n s:Int} (hb:Rb true p n s) (k:Nat): -1000000000000<=(rw3 p n s).getD k 0/\(rw3 p n s).getD k 0<=1000000000000:=by
 match k with
 |0=>exact hb.p
 |1=>exact hb.n
 |2=>exact hb.s
 |k+3=>
  have:(rw3 p n s).getD (k+3) 0=0:=by
   show (List.replicate 13 (0:Int)).getD k 0=0;rw [List.getD,v0m];split<;>rfl
  rw [this];decide
abbrev cvV (p n s:Int) (a ck:Nat) (k:Nat):VS:=⟨[(0,.ptr 1 0 0 0),(2,.str sEu),(10,.ptr 4 0 0 0),(28,.sl 5 0 0 1),(29,.int .i64 1),(30,.int .i64 0),(56,.arr 16 [.ints .i64 (rw3 p n s)]),(57,.int .i64 k)],[(1,bkC true 2 3),(2,stB true 3 ps3),(3,rmB true true p n s a ck),(4,exC false (HS (rw3 p n s) k) (LS (rw3 p n s) k)),(5,stB false 1 [sEu])],6⟩
set_option maxHeartbeats 4000000 in
theorem u0S (b1 b2 b3:Bool) (p n s:Int) (a ck:Nat) (hz:Nz b1 b2 b3 p n s) (hb:Rb true p n s):FC Tryz.prog 4 54 [.ptr 1 0 0 0,.nsl,.str sEu,.str sEu] [(1,bkC true 2 3),(2,stB true 3 ps3),(3,rmB true true p n s a ck)] (a0d (.tup [poS (b1||b2||b3) 4 b1 b2 b3,.int .i64 0]) (poH (b1||b2||b3) 4 b1 b2 b3 p n s) (poN (b1||b2||b3) 4)):=by
 have c:=o0K true p n s a ck;have c0:=v0Q;have hp:=hb.p;have hn:=hb.n;have hs:=hb.s;have q1:=i0K p (by omega);have q2:=i0K n (by omega);have q3:=i0K s (by omega);refine fEx Tryz.func54 ?_;repeat' ((conv=>whnf);first|refine cPx c0 ?_|refine cOx (l:= [0,1,2,3]) c ?_|refine a0a ?_|(apply bRx<;>intro h<;>try (exfalso;(try dsimp only at h);omega)))
 all_goals (conv=>whnf)
 all_goals refine a0c 3 ?_
 all_goals repeat' ((conv=>whnf);first|refine cPx c0 ?_|refine cOx (l:= [0,1,2,3]) c ?_|refine a0a ?_|(apply bRx<;>intro h<;>try (exfalso;(try dsimp only at h);omega)))
 all_goals (conv=>whnf)
 all_goals refine a0n (cvV p n s a ck) (fun k=>k<=16) (fun k=>16-k) 0 [0,1,2,3,4,5] [] ⟨rfl,⟨rfl,rfl,rfl,rfl,rfl,rfl,rfl,rfl,trivial⟩,(by (repeat' (first|exact trivial|exact rfl|constructor));first|done|fail)⟩ (by decide) ?_
 all_goals
  intro k hk;by_cases hk2:k<16
  .have ca:=a1W (HS (rw3 p n s) k) (LS (rw3 p n s) k) k (d1L _ k k (d0M _)) (d1M _ k k (d0M _)) ((rw3 p n s).getD k 0) (a1X hb k) hk2;repeat' ((conv=>whnf);first|refine cOx (l:= [0,4]) ca ?_|refine a0a ?_|(apply bRx<;>intro h<;>try (exfalso;(try dsimp only at h);omega)))
   all_goals (conv=>whnf)
   all_goals first
    |exact ⟨k+1,[0,1,2,3,4,5],[],hk2,(show 16-(k+1)<16-k by omega),⟨rfl,⟨rfl,rfl,rfl,rfl,rfl,rfl,rfl,congrArg (fun z=>some (SV.int .i64 z)) (a1V (by omega)),trivial⟩,(by (repeat' (first|exact trivial|exact rfl|constructor));first|done|fail)⟩⟩
    |(exfalso;omega)
    |trace_state
  .obtain rfl:k=16:=by omega
   have k1:=e0N (HS (rw3 p n s) 16) (LS (rw3 p n s) 16) 0 p (u0Q _ 16 0 (by decide) (d0M _)) (u0R _ 16 0 (by decide) (d0M _)) hp (by decide);have k2:=e0N (HS (rw3 p n s) 16) (LS (rw3 p n s) 16) 1 n (u0Q _ 16 1 (by decide) (d0M _)) (u0R _ 16 1 (by decide) (d0M _)) hn (by decide);have k3:=e0N (HS (rw3 p n s) 16) (LS (rw3 p n s) 16) 2 s (u0Q _ 16 2 (by decide) (d0M _)) (u0R _ 16 2 (by decide) (d0M _)) hs (by decide);obtain ⟨h1,h2,h3⟩:=hz;cases b1<;>cases b2<;>cases b3<;>simp only [reduceCtorEq,iff_true,iff_false] at h1 h2 h3;all_goals repeat' ((conv=>whnf);first|refine a0c 5 ?_|refine cPx q1 ?_|refine cPx q2 ?_|refine cPx q3 ?_|refine cOx (l:= [0,4]) k1 ?_|refine cOx (l:= [0,4]) k2 ?_|refine cOx (l:= [0,4]) k3 ?_|(apply bRx<;>intro h<;>first|exact absurd h1 h|exact absurd h h1|exact absurd h2 h|exact absurd h h2|exact absurd h3 h|exact absurd h h3|exact aX|skip)|refine a0a ?_|(apply bRx<;>intro h<;>try (exfalso;(try dsimp only at h);omega)))
   all_goals (conv=>whnf)
   all_goals first
    |exact rOz [0,1,2,3]
    |exact rOz [0,1,2,3,7]
    |exact rOz [0,1,2,3,9]
    |exact rOz [0,1,2,3,11]
    |trace_state
end
section
attribute [local irreducible] a0u a0v a0j b0b
theorem o0O (made:Bool) (p n s:Int) (a ck:Nat):FC Tryz.prog 4 54 [.ptr 1 0 0 0,.nsl,.str sEu,.str sEu] [(1,bkC true 2 3),(2,stB true 3 ps3),(3,rmB true false p n s a ck)] (a0d (.tup [.nsl,.int .i64 0]) [] 4):=by
 have c:=o0K false p n s a ck;have c0:=v0Q;have q:=i0K 0 (by decide);have k0:=e0N (List.replicate 16 0) (List.replicate 16 0) 0 0 (by decide) (by decide) (by decide) (by decide);have k1:=e0N (List.replicate 16 0) (List.replicate 16 0) 1 0 (by decide) (by decide) (by decide) (by decide);have k2:=e0N (List.replicate 16 0) (List.replicate 16 0) 2 0 (by decide) (by decide) (by decide) (by decide);refine fEx Tryz.func54 ?_;repeat' ((conv=>whnf);first|refine a0c 5 ?_|refine cPx c0 ?_|refine cPx q ?_|refine cOx (l:= [0,1,2,3]) c ?_|refine cOx (l:= [0,4]) k0 ?_|refine cOx (l:= [0,4]) k1 ?_|refine cOx (l:= [0,4]) k2 ?_|refine a0a ?_|(apply bRx<;>intro h<;>try (exfalso;(try dsimp only at h);omega)))
 all_goals (conv=>whnf)
 all_goals first
  |exact rOz [0,1,2,3]
  |trace_state
def beh (x y:ByteArray):Prop:=(x=sNw/\y=sHb)\/(x=sSb/\y=sNw)\/(x=sSb/\y=sHb)
theorem k0Y (s:ByteArray):a0y Tryz.prog 254 [.str s] (.bool false):=by
 refine fEx Tryz.func254 ?_;repeat' ((conv=>whnf);first|refine a0a ?_|(apply bRx<;>intro h<;>try (exfalso;(try dsimp only at h);omega)))
 all_goals (conv=>whnf)
 all_goals first
  |exact a0b (congrArg SV.bool (by unfold seq;simp))
  |trace_state
theorem c1I:a0y Tryz.prog 180 [.str sEu,.str sEu] (.int .i64 0):=by
 have c:=k0Y sEu;refine fEx Tryz.func180 ?_;repeat' ((conv=>whnf);first|(rw [g0R])|refine cPx c ?_|refine a0a ?_|(apply bRx<;>intro h<;>try (exfalso;(try dsimp only at h);omega)))
 all_goals (conv=>whnf)
 all_goals first
  |exact a0b rfl
  |trace_state
theorem c1J (x y:ByteArray) (h:beh x y):a0y Tryz.prog 180 [.str x,.str y] (.int .i64 1):=by
 have c:=k0Y x;have d:=k0Y y;have h1:c0J x y=false:=by rcases h with ⟨rfl,rfl⟩|⟨rfl,rfl⟩|⟨rfl,rfl⟩<;>(rw [e0K];decide)
 have h2:c0J y x=true:=by rcases h with ⟨rfl,rfl⟩|⟨rfl,rfl⟩|⟨rfl,rfl⟩<;>(rw [e0K];decide)
 have h3:(c0J x y||seq x y)=false:=by rcases h with ⟨rfl,rfl⟩|⟨rfl,rfl⟩|⟨rfl,rfl⟩<;>(rw [h1];decide)
 clear h;refine fEx Tryz.func180 ?_;repeat' ((conv=>whnf);first|(rw [h3])|(rw [h1])|(rw [h2])|refine cPx c ?_|refine cPx d ?_|refine a0a ?_|(apply bRx<;>intro h<;>try (exfalso;(try dsimp only at h);omega)))
 all_goals (conv=>whnf)
 all_goals first
  |exact a0b rfl
  |trace_state
theorem c1K:FC Tryz.prog 2 179 [.sl 1 0 0 2] [(1,some (.one true (.cols 2 [.sc (.ints .i64 [0,1])])))] (a0d (.int .i64 1) [] 2):=by
 refine fEx Tryz.func179 ?_;repeat' ((conv=>whnf);first|refine a0c 5 ?_|refine a0a ?_|(apply bRx<;>intro h<;>try (exfalso;(try dsimp only at h);omega)))
 all_goals (conv=>whnf)
 all_goals first
  |exact rOz [0,1]
  |trace_state
theorem a1Y (x y:ByteArray) (h:beh x y):a0y Tryz.prog 112 [.agg [.str sEu,.str x],.agg [.str sEu,.str y]] (.int .i64 1):=by
 have c:=c1I;have d:=c1J x y h;have e:=c1K;refine fEx Tryz.func112 ?_;repeat' ((conv=>whnf);first|refine cPx c ?_|refine cPx d ?_|refine cOx (l:= [0,1]) e ?_|refine cOx (l:= [0,2]) e ?_|refine cOx (l:= [0,3]) e ?_|refine cOx (l:= [0,4]) e ?_|refine a0a ?_|(apply bRx<;>intro h<;>try (exfalso;(try dsimp only at h);omega)))
 all_goals (conv=>whnf)
 all_goals first
  |exact a0b rfl
  |exact rOz [0]
  |trace_state
theorem a0r (x:ByteArray) (a:Int):a0y Tryz.prog 113 [.agg [.str x,.int .i64 a,.str sEu]] (.agg [.str sEu,.str x]):=by
 refine fEx Tryz.func113 ?_;repeat' ((conv=>whnf);first|refine a0a ?_|(apply bRx<;>intro h<;>try (exfalso;(try dsimp only at h);omega)))
 all_goals (conv=>whnf)
 all_goals exact a0b rfl
theorem y0w (x y:ByteArray) (a b:Int) (h:beh x y):a0y Tryz.prog 111 [.agg [.str x,.int .i64 a,.str sEu],.agg [.str y,.int .i64 b,.str sEu]] (.int .i64 1):=by
 have c:=a0r x a;have d:=a0r y b;have e:=a1Y x y h;refine fEx Tryz.func111 ?_;repeat' ((conv=>whnf);first|refine cPx c ?_|refine cPx d ?_|refine cPx e ?_|refine a0a ?_|(apply bRx<;>intro h<;>try (exfalso;(try dsimp only at h);omega)))
 all_goals (conv=>whnf)
 all_goals exact a0b rfl
theorem a1Z (n:Nat) (h:n=2\/n=3):a0y Tryz.prog 192 [.int .u64 n] (.int .i64 2):=by
 rcases h with rfl|rfl
 all_goals refine fEx Tryz.func192 ?_
 all_goals repeat' ((conv=>whnf);first|refine a0a ?_|(apply bRx<;>intro h<;>try (exfalso;(try dsimp only at h);omega)))
 all_goals (conv=>whnf)
 all_goals exact a0b rfl
end
section
attribute [local irreducible] a0u a0v a0j b0b
theorem d1N (n:Nat) (h:n=2\/n=3):a0y Tryz.prog 122 [.int .u64 n] (.int .i64 2):=by
 have c:=a1Z n h;refine fEx Tryz.func122 ?_;repeat' ((conv=>whnf);first|refine cPx c ?_|refine a0a ?_|(apply bRx<;>intro h<;>try (exfalso;(try dsimp only at h);omega)))
 all_goals (conv=>whnf)
 all_goals exact a0b rfl
def two (b1 b2 b3:Bool):Bool:=(b1&&b2)||((b1&&b3)||(b2&&b3))
theorem m0v {b1 b2 b3:Bool} (h:two b1 b2 b3=true):(b1=true/\b2=true/\b3=false)\/(b1=true/\b2=false/\b3=true)\/(b1=false/\b2=true/\b3=true)\/(b1=true/\b2=true/\b3=true):=by
 cases b1<;>cases b2<;>cases b3<;>simp [two] at*
theorem b1a (b1 b2 b3:Bool) (p n s:Int) (h:two b1 b2 b3=true):FC Tryz.prog 2 246 [.sl 1 0 0 (kL b1 b2 b3),.int .i64 0,.int .i64 (kL b1 b2 b3),.fn 111 []] [(1,poB false b1 b2 b3 p n s)] (a0d (.tup []) [(1,poB false b1 b2 b3 p n s)] 2):=by
 have c1:=y0w sNw sHb n p (.inl ⟨rfl,rfl⟩);have c2:=y0w sSb sNw s n (.inr (.inl ⟨rfl,rfl⟩));have c3:=y0w sSb sHb s p (.inr (.inr ⟨rfl,rfl⟩));rcases m0v h with ⟨rfl,rfl,rfl⟩|⟨rfl,rfl,rfl⟩|⟨rfl,rfl,rfl⟩|⟨rfl,rfl,rfl⟩
 all_goals refine fEx Tryz.func246 ?_
 all_goals repeat' ((conv=>whnf);first|refine a0c 5 ?_|refine cPx c1 ?_|refine cPx c2 ?_|refine cPx c3 ?_|refine a0a ?_|(apply bRx<;>intro h<;>try (exfalso;(try dsimp only at h);omega)))
 all_goals (conv=>whnf)
 all_goals first
  |exact rOz [0,1]
  |trace_state
theorem b1b (b1 b2 b3:Bool) (p n s:Int) (h:two b1 b2 b3=true):FC Tryz.prog 2 178 [.sl 1 0 0 (kL b1 b2 b3),.int .i64 0,.int .i64 (kL b1 b2 b3),.int .i64 2,.fn 111 []] [(1,poB false b1 b2 b3 p n s)] (a0d (.tup []) [(1,poB false b1 b2 b3 p n s)] 2):=by
 have c:=b1a b1 b2 b3 p n s h;rcases m0v h with ⟨rfl,rfl,rfl⟩|⟨rfl,rfl,rfl⟩|⟨rfl,rfl,rfl⟩|⟨rfl,rfl,rfl⟩
 all_goals refine fEx Tryz.func178 ?_
 all_goals repeat' ((conv=>whnf);first|refine a0c 5 ?_|refine cOx (l:= [0,1]) c ?_|refine a0a ?_|(apply bRx<;>intro h<;>try (exfalso;(try dsimp only at h);omega)))
 all_goals (conv=>whnf)
 all_goals first
  |exact rOz [0,1]
  |trace_state
theorem d0l (b1 b2 b3:Bool) (p n s:Int) (h:two b1 b2 b3=true):FC Tryz.prog 2 110 [.sl 1 0 0 (kL b1 b2 b3),.fn 111 []] [(1,poB false b1 b2 b3 p n s)] (a0d (.tup []) [(1,poB false b1 b2 b3 p n s)] 2):=by
 have c:=b1b b1 b2 b3 p n s h;have d2:=d1N 2 (.inl rfl);have d3:=d1N 3 (.inr rfl);rcases m0v h with ⟨rfl,rfl,rfl⟩|⟨rfl,rfl,rfl⟩|⟨rfl,rfl,rfl⟩|⟨rfl,rfl,rfl⟩
 all_goals refine fEx Tryz.func110 ?_
 all_goals repeat' ((conv=>whnf);first|refine cOx (l:= [0,1]) c ?_|refine cPx d2 ?_|refine cPx d3 ?_|refine a0a ?_|(apply bRx<;>intro h<;>try (exfalso;(try dsimp only at h);omega)))
 all_goals (conv=>whnf)
 all_goals first
  |exact rOz [0,1]
  |trace_state
theorem c0r (b1 b2 b3:Bool) (p n s:Int) (h:two b1 b2 b3=true):FC Tryz.prog 2 109 [.sl 1 0 0 (kL b1 b2 b3)] [(1,poB true b1 b2 b3 p n s)] (a0d (.sl 2 0 0 (kL b1 b2 b3)) [(2,poB false b1 b2 b3 p n s)] 3):=by
 rcases m0v h with ⟨rfl,rfl,rfl⟩|⟨rfl,rfl,rfl⟩|⟨rfl,rfl,rfl⟩|⟨rfl,rfl,rfl⟩
 all_goals refine fEx Tryz.func109 ?_
 all_goals repeat' ((conv=>whnf);first|refine a0a ?_|(apply bRx<;>intro h<;>try (exfalso;(try dsimp only at h);omega)))
 all_goals (conv=>whnf)
 all_goals first
  |exact rOz [0,1,3]
  |trace_state
theorem a0E (s:ByteArray) (h:s=sHb\/s=sNw\/s=sSb):a0y Tryz.prog 116 [.str s] (.bool true):=by
 rcases h with rfl|rfl|rfl
 all_goals refine fEx Tryz.func116 ?_
 all_goals repeat' ((conv=>whnf);first|refine a0c 12 ?_|refine a0a ?_|(apply bRx<;>intro h<;>try (exfalso;(try dsimp only at h);omega)))
 all_goals (conv=>whnf)
 all_goals exact a0b rfl
set_option maxHeartbeats 2000000 in
theorem c0W (b1 b2 b3:Bool) (p n s:Int) (hb:Rb true p n s) (h:two b1 b2 b3=true):FC Tryz.prog 2 115 [.sl 1 0 0 (kL b1 b2 b3)] [(1,poB true b1 b2 b3 p n s)] (a0d (.int .i64 0) [] 2):=by
 have hp:=hb.p;have hn:=hb.n;have hs:=hb.s;have n1:=a0E sHb (.inl rfl);have n2:=a0E sNw (.inr (.inl rfl));have n3:=a0E sSb (.inr (.inr rfl));have m1:=a0F p (by omega);have m2:=a0F n (by omega);have m3:=a0F s (by omega);have p1:=a0r sHb p;have p2:=a0r sNw n;have p3:=a0r sSb s;rcases m0v h with ⟨rfl,rfl,rfl⟩|⟨rfl,rfl,rfl⟩|⟨rfl,rfl,rfl⟩|⟨rfl,rfl,rfl⟩
 all_goals refine fEx Tryz.func115 ?_
 all_goals repeat' ((conv=>whnf);first|refine a0c 5 ?_|refine cPx n1 ?_|refine cPx n2 ?_|refine cPx n3 ?_|refine cPx m1 ?_|refine cPx m2 ?_|refine cPx m3 ?_|refine cPx p1 ?_|refine cPx p2 ?_|refine cPx p3 ?_|refine a0a ?_|(apply bRx<;>intro h<;>try (exfalso;(try dsimp only at h);omega)))
 all_goals (conv=>whnf)
 all_goals first
  |exact rOz [0,1]
  |trace_state
end
section
attribute [local irreducible] a0u a0v a0j b0b
set_option maxHeartbeats 2000000 in
theorem a0O (b1 b2 b3:Bool) (p n s:Int) (hb:Rb true p n s) (hz:Nz b1 b2 b3 p n s) (h0:p+n+s=0) (h:two b1 b2 b3=true):FC Tryz.prog 2 56 [.sl 1 0 0 (kL b1 b2 b3)] [(1,poB true b1 b2 b3 p n s)] (a0d (.int .i64 0) [] 2):=by
 have hp:=hb.p;have hn:=hb.n;have hs:=hb.s;have c:=c0W b1 b2 b3 p n s hb h;obtain ⟨h1,h2,h3⟩:=hz;rcases m0v h with ⟨rfl,rfl,rfl⟩|⟨rfl,rfl,rfl⟩|⟨rfl,rfl,rfl⟩|⟨rfl,rfl,rfl⟩<;>simp only [reduceCtorEq,iff_true,iff_false] at h1 h2 h3
 .have e:IntKind.i64.wrap (IntKind.i64.wrap (0+p)+n)=0:=by rw [a0e (n:=0+p) (by omega) (by omega),a0e (by omega) (by omega)];omega
  refine fEx Tryz.func56 ?_;repeat' ((conv=>whnf);first|refine a0c 5 ?_|refine cOx (l:= [0,1]) c ?_|(apply bRx<;>intro h<;>first|exact absurd e h|exact aX|skip)|(intro i hi hn;have hi:i<1:=hi;first|(exfalso;refine hn ?_;simp;omega)|(obtain rfl:i=0:=by omega))|(intro hA;try (exfalso;have h2:=hA 0 (b1M 0);revert h2;simp;done))|refine a0a ?_|(apply bRx<;>intro h<;>try (exfalso;(try dsimp only at h);omega))|refine And.intro ?_ ?_)
  all_goals (conv=>whnf)
  all_goals first
   |exact rOz [0,1]
   |trace_state
 .have e:IntKind.i64.wrap (IntKind.i64.wrap (0+p)+s)=0:=by rw [a0e (n:=0+p) (by omega) (by omega),a0e (by omega) (by omega)];omega
  refine fEx Tryz.func56 ?_;repeat' ((conv=>whnf);first|refine a0c 5 ?_|refine cOx (l:= [0,1]) c ?_|(apply bRx<;>intro h<;>first|exact absurd e h|exact aX|skip)|(intro i hi hn;have hi:i<1:=hi;first|(exfalso;refine hn ?_;simp;omega)|(obtain rfl:i=0:=by omega))|(intro hA;try (exfalso;have h2:=hA 0 (b1M 0);revert h2;simp;done))|refine a0a ?_|(apply bRx<;>intro h<;>try (exfalso;(try dsimp only at h);omega))|refine And.intro ?_ ?_)
  all_goals (conv=>whnf)
  all_goals first
   |exact rOz [0,1]
   |trace_state
 .have e:IntKind.i64.wrap (IntKind.i64.wrap (0+n)+s)=0:=by rw [a0e (n:=0+n) (by omega) (by omega),a0e (by omega) (by omega)];omega
  refine fEx Tryz.func56 ?_;repeat' ((conv=>whnf);first|refine a0c 5 ?_|refine cOx (l:= [0,1]) c ?_|(apply bRx<;>intro h<;>first|exact absurd e h|exact aX|skip)|(intro i hi hn;have hi:i<1:=hi;first|(exfalso;refine hn ?_;simp;omega)|(obtain rfl:i=0:=by omega))|(intro hA;try (exfalso;have h2:=hA 0 (b1M 0);revert h2;simp;done))|refine a0a ?_|(apply bRx<;>intro h<;>try (exfalso;(try dsimp only at h);omega))|refine And.intro ?_ ?_)
  all_goals (conv=>whnf)
  all_goals first
   |exact rOz [0,1]
   |trace_state
 .have e:IntKind.i64.wrap (IntKind.i64.wrap (IntKind.i64.wrap (0+p)+n)+s)=0:=by rw [a0e (n:=0+p) (by omega) (by omega),a0e (n:=0+p+n) (by omega) (by omega),a0e (by omega) (by omega)];omega
  refine fEx Tryz.func56 ?_;repeat' ((conv=>whnf);first|refine a0c 5 ?_|refine cOx (l:= [0,1]) c ?_|(apply bRx<;>intro h<;>first|exact absurd e h|exact aX|skip)|(intro i hi hn;have hi:i<1:=hi;first|(exfalso;refine hn ?_;simp;omega)|(obtain rfl:i=0:=by omega))|(intro hA;try (exfalso;have h2:=hA 0 (b1M 0);revert h2;simp;done))|refine a0a ?_|(apply bRx<;>intro h<;>try (exfalso;(try dsimp only at h);omega))|refine And.intro ?_ ?_)
  all_goals (conv=>whnf)
  all_goals first
   |exact rOz [0,1]
   |trace_state
end
section
attribute [local irreducible] a0u a0v a0j b0b
def e1e (d x y z:Int):Prop:=(d=0/\x<0/\x<=y/\x<=z)\/(d=1/\y<0/\y<x/\y<=z)\/(d=2/\z<0/\z<x/\z<y)\/(d= -1/\0<=x/\0<=y/\0<=z)
def e1f (c x y z:Int):Prop:=(c=0/\0<x/\y<=x/\z<=x)\/(c=1/\0<y/\x<y/\z<=y)\/(c=2/\0<z/\x<z/\y<z)\/(c= -1/\x<=0/\y<=0/\z<=0)
abbrev g0V (ro:Bool) (x y z:Int):Option HB:=some (.one ro (.cols 3 [.sc (.strs [sHb,sNw,sSb]),.sc (.ints .i64 [x,y,z]),.sc (.strs [sEu,sEu,sEu])]))
abbrev m0w (ro:Bool) (a b:ByteArray) (x y:Int):Option HB:=some (.one ro (.cols 2 [.sc (.strs [a,b]),.sc (.ints .i64 [x,y]),.sc (.strs [sEu,sEu])]))
set_option maxHeartbeats 4000000 in
theorem l0a (d c x y z:Int) (hd:e1e d x y z) (hc:e1f c x y z):FC Tryz.prog 2 114 [.sl 1 0 0 3] [(1,g0V true x y z)] (a0d (.tup [.int .i64 d,.int .i64 c]) [] 2):=by
 rcases hd with ⟨rfl,d1,d2,d3⟩|⟨rfl,d1,d2,d3⟩|⟨rfl,d1,d2,d3⟩|⟨rfl,d1,d2,d3⟩<;>rcases hc with ⟨rfl,c1,c2,c3⟩|⟨rfl,c1,c2,c3⟩|⟨rfl,c1,c2,c3⟩|⟨rfl,c1,c2,c3⟩
 all_goals try (exfalso;omega)
 all_goals refine fEx Tryz.func114 ?_
 all_goals repeat' ((conv=>whnf);first|refine a0c 5 ?_|(apply bRx<;>intro h<;>first|exact aX|(have h:x<0:=h;exact aX)|(have h:¬x<0:=h;exact aX)|(have h:y<0:=h;exact aX)|(have h:¬y<0:=h;exact aX)|(have h:z<0:=h;exact aX)|(have h:¬z<0:=h;exact aX)|(have h:0<x:=h;exact aX)|(have h:¬0<x:=h;exact aX)|(have h:0<y:=h;exact aX)|(have h:¬0<y:=h;exact aX)|(have h:0<z:=h;exact aX)|(have h:¬0<z:=h;exact aX)|(have h:y<x:=h;exact aX)|(have h:¬y<x:=h;exact aX)|(have h:z<x:=h;exact aX)|(have h:¬z<x:=h;exact aX)|(have h:z<y:=h;exact aX)|(have h:¬z<y:=h;exact aX)|(have h:x<y:=h;exact aX)|(have h:¬x<y:=h;exact aX)|(have h:x<z:=h;exact aX)|(have h:¬x<z:=h;exact aX)|(have h:y<z:=h;exact aX)|(have h:¬y<z:=h;exact aX)|skip)|refine a0a ?_|(apply bRx<;>intro h<;>try (exfalso;(try dsimp only at h);omega)))
 all_goals (conv=>whnf)
 all_goals first
  |exact rOz [0,1]
  |trace_state
end
section
attribute [local irreducible] a0u a0v a0j b0b
abbrev trB (ro:Bool) (k:Nat) (f t:List ByteArray) (v:List Int) (c:List ByteArray):Option HB:=some (.one ro (.cols k [.sc (.strs f),.sc (.strs t),.sc (.ints .i64 v),.sc (.strs c)]))
set_option maxHeartbeats 4000000 in
theorem c1L (p n s:Int) (hb:Rb true p n s) (h0:p+n+s=0) (hn0:0<n) (g0:p<0) (g1:0<s) (g2:s<=n):FC Tryz.prog 2 55 [.sl 1 0 0 3] [(1,g0V true p n s)] (a0d (.tup [.sl 2 0 0 2,.int .i64 0]) [(2,trB false 2 [sHb,sHb] [sNw,sSb] [n,s] [sEu,sEu])] 3):=by
 have hp:=hb.p;have hn:=hb.n;have hs:=hb.s;have hz:Nz true true true p n s:=⟨by simp;omega,by simp;omega,by simp;omega⟩;have k0:=a0O true true true p n s hb hz h0 rfl;have k1:=c0r true true true p n s rfl;have k2:=d0l true true true p n s rfl;have x1:=l0a (0) (1) p n s (.inl ⟨rfl,by omega,by omega,by omega⟩) (.inr (.inl ⟨rfl,by omega,by omega,by omega⟩));have a1:IntKind.i64.wrap (0-(p))= -(p):=by rw [show p=p from rfl];exact (a0e (by omega) (by omega)).trans (by omega)
 have m1:min (IntKind.i64.wrap (0-(p))) (n)=n:=by rw [a1];omega
 have y10:IntKind.i64.wrap (p+min (IntKind.i64.wrap (0-(p))) (n))=(p+n):=by rw [m1];exact (a0e (by omega) (by omega)).trans (by omega)
 have y11:IntKind.i64.wrap (n-min (IntKind.i64.wrap (0-(p))) (n))=(n-n):=by rw [m1];exact (a0e (by omega) (by omega)).trans (by omega)
 have x2:=l0a (0) (2) (IntKind.i64.wrap (p+min (IntKind.i64.wrap (0-(p))) (n))) (IntKind.i64.wrap (n-min (IntKind.i64.wrap (0-(p))) (n))) (s) (.inl ⟨rfl,by omega,by omega,by omega⟩) (.inr (.inr (.inl ⟨rfl,by omega,by omega,by omega⟩)));have a2:IntKind.i64.wrap (0-(IntKind.i64.wrap (p+min (IntKind.i64.wrap (0-(p))) (n))))= -((p+n)):=by rw [show IntKind.i64.wrap (p+min (IntKind.i64.wrap (0-(p))) (n))=(p+n) from y10];exact (a0e (by omega) (by omega)).trans (by omega)
 have m2:min (IntKind.i64.wrap (0-(IntKind.i64.wrap (p+min (IntKind.i64.wrap (0-(p))) (n))))) (s)=s:=by rw [a2];omega
 have y20:IntKind.i64.wrap (IntKind.i64.wrap (p+min (IntKind.i64.wrap (0-(p))) (n))+min (IntKind.i64.wrap (0-(IntKind.i64.wrap (p+min (IntKind.i64.wrap (0-(p))) (n))))) (s))=0:=by rw [m2,y10];exact (a0e (by omega) (by omega)).trans (by omega)
 have y22:IntKind.i64.wrap (s-min (IntKind.i64.wrap (0-(IntKind.i64.wrap (p+min (IntKind.i64.wrap (0-(p))) (n))))) (s))=0:=by rw [m2];exact (a0e (by omega) (by omega)).trans (by omega)
 have y21:=y11;have x3:=l0a (-1) (-1) (IntKind.i64.wrap (IntKind.i64.wrap (p+min (IntKind.i64.wrap (0-(p))) (n))+min (IntKind.i64.wrap (0-(IntKind.i64.wrap (p+min (IntKind.i64.wrap (0-(p))) (n))))) (s))) (IntKind.i64.wrap (n-min (IntKind.i64.wrap (0-(p))) (n))) (IntKind.i64.wrap (s-min (IntKind.i64.wrap (0-(IntKind.i64.wrap (p+min (IntKind.i64.wrap (0-(p))) (n))))) (s))) (.inr (.inr (.inr ⟨rfl,by omega,by omega,by omega⟩))) (.inr (.inr (.inr ⟨rfl,by omega,by omega,by omega⟩)));have key:FC Tryz.prog 2 55 [.sl 1 0 0 3] [(1,g0V true p n s)] (a0d (.tup [.sl 2 0 0 2,.int .i64 0]) [(2,trB false 2 [sHb,sHb] [sNw,sSb] [min (IntKind.i64.wrap (0-(p))) (n),min (IntKind.i64.wrap (0-(IntKind.i64.wrap (p+min (IntKind.i64.wrap (0-(p))) (n))))) (s)] [sEu,sEu])] 3):=by
  refine fEx Tryz.func55 ?_;repeat' ((conv=>whnf);first|refine a0c 8 ?_|refine cOx (l:= [0,1]) k0 ?_|refine cOx (l:= [0,1]) k1 ?_|refine cOx (l:= [0,2]) k2 ?_|refine cOx (l:= [0,2]) x1 ?_|refine cOx (l:= [0,2]) x2 ?_|refine cOx (l:= [0,2]) x3 ?_|refine a0a ?_|(apply bRx<;>intro h<;>try (exfalso;(try dsimp only at h);omega)))
  all_goals (conv=>whnf)
  all_goals first
   |exact rOz [0,1,3]
   |exact rOz [0,1,4]
   |exact rOz [0,1,5]
   |exact rOz [0,1,6]
   |exact rOz [0,1,7]
   |trace_state
 rw [m2,m1] at key;exact key
set_option maxHeartbeats 4000000 in
theorem c1M (p n s:Int) (hb:Rb true p n s) (h0:p+n+s=0) (hn0:0<n) (g0:p<0) (g1:0<s) (g2:n<s):FC Tryz.prog 2 55 [.sl 1 0 0 3] [(1,g0V true p n s)] (a0d (.tup [.sl 2 0 0 2,.int .i64 0]) [(2,trB false 2 [sHb,sHb] [sSb,sNw] [s,n] [sEu,sEu])] 3):=by
 have hp:=hb.p;have hn:=hb.n;have hs:=hb.s;have hz:Nz true true true p n s:=⟨by simp;omega,by simp;omega,by simp;omega⟩;have k0:=a0O true true true p n s hb hz h0 rfl;have k1:=c0r true true true p n s rfl;have k2:=d0l true true true p n s rfl;have x1:=l0a (0) (2) p n s (.inl ⟨rfl,by omega,by omega,by omega⟩) (.inr (.inr (.inl ⟨rfl,by omega,by omega,by omega⟩)));have a1:IntKind.i64.wrap (0-(p))= -(p):=by rw [show p=p from rfl];exact (a0e (by omega) (by omega)).trans (by omega)
 have m1:min (IntKind.i64.wrap (0-(p))) (s)=s:=by rw [a1];omega
 have y10:IntKind.i64.wrap (p+min (IntKind.i64.wrap (0-(p))) (s))=(p+s):=by rw [m1];exact (a0e (by omega) (by omega)).trans (by omega)
 have y12:IntKind.i64.wrap (s-min (IntKind.i64.wrap (0-(p))) (s))=(s-s):=by rw [m1];exact (a0e (by omega) (by omega)).trans (by omega)
 have x2:=l0a (0) (1) (IntKind.i64.wrap (p+min (IntKind.i64.wrap (0-(p))) (s))) (n) (IntKind.i64.wrap (s-min (IntKind.i64.wrap (0-(p))) (s))) (.inl ⟨rfl,by omega,by omega,by omega⟩) (.inr (.inl ⟨rfl,by omega,by omega,by omega⟩));have a2:IntKind.i64.wrap (0-(IntKind.i64.wrap (p+min (IntKind.i64.wrap (0-(p))) (s))))= -((p+s)):=by rw [show IntKind.i64.wrap (p+min (IntKind.i64.wrap (0-(p))) (s))=(p+s) from y10];exact (a0e (by omega) (by omega)).trans (by omega)
 have m2:min (IntKind.i64.wrap (0-(IntKind.i64.wrap (p+min (IntKind.i64.wrap (0-(p))) (s))))) (n)=n:=by rw [a2];omega
 have y20:IntKind.i64.wrap (IntKind.i64.wrap (p+min (IntKind.i64.wrap (0-(p))) (s))+min (IntKind.i64.wrap (0-(IntKind.i64.wrap (p+min (IntKind.i64.wrap (0-(p))) (s))))) (n))=0:=by rw [m2,y10];exact (a0e (by omega) (by omega)).trans (by omega)
 have y21:IntKind.i64.wrap (n-min (IntKind.i64.wrap (0-(IntKind.i64.wrap (p+min (IntKind.i64.wrap (0-(p))) (s))))) (n))=0:=by rw [m2];exact (a0e (by omega) (by omega)).trans (by omega)
 have y22:=y12;have x3:=l0a (-1) (-1) (IntKind.i64.wrap (IntKind.i64.wrap (p+min (IntKind.i64.wrap (0-(p))) (s))+min (IntKind.i64.wrap (0-(IntKind.i64.wrap (p+min (IntKind.i64.wrap (0-(p))) (s))))) (n))) (IntKind.i64.wrap (n-min (IntKind.i64.wrap (0-(IntKind.i64.wrap (p+min (IntKind.i64.wrap (0-(p))) (s))))) (n))) (IntKind.i64.wrap (s-min (IntKind.i64.wrap (0-(p))) (s))) (.inr (.inr (.inr ⟨rfl,by omega,by omega,by omega⟩))) (.inr (.inr (.inr ⟨rfl,by omega,by omega,by omega⟩)));have key:FC Tryz.prog 2 55 [.sl 1 0 0 3] [(1,g0V true p n s)] (a0d (.tup [.sl 2 0 0 2,.int .i64 0]) [(2,trB false 2 [sHb,sHb] [sSb,sNw] [min (IntKind.i64.wrap (0-(p))) (s),min (IntKind.i64.wrap (0-(IntKind.i64.wrap (p+min (IntKind.i64.wrap (0-(p))) (s))))) (n)] [sEu,sEu])] 3):=by
  refine fEx Tryz.func55 ?_;repeat' ((conv=>whnf);first|refine a0c 8 ?_|refine cOx (l:= [0,1]) k0 ?_|refine cOx (l:= [0,1]) k1 ?_|refine cOx (l:= [0,2]) k2 ?_|refine cOx (l:= [0,2]) x1 ?_|refine cOx (l:= [0,2]) x2 ?_|refine cOx (l:= [0,2]) x3 ?_|refine a0a ?_|(apply bRx<;>intro h<;>try (exfalso;(try dsimp only at h);omega)))
  all_goals (conv=>whnf)
  all_goals first
   |exact rOz [0,1,3]
   |exact rOz [0,1,4]
   |exact rOz [0,1,5]
   |exact rOz [0,1,6]
   |exact rOz [0,1,7]
   |trace_state
 rw [m2,m1] at key;exact key
set_option maxHeartbeats 4000000 in
theorem c1N (p n s:Int) (hb:Rb true p n s) (h0:p+n+s=0) (hn0:0<n) (g0:0<p) (g1:s<0) (g2:n<=p):FC Tryz.prog 2 55 [.sl 1 0 0 3] [(1,g0V true p n s)] (a0d (.tup [.sl 2 0 0 2,.int .i64 0]) [(2,trB false 2 [sSb,sSb] [sHb,sNw] [p,n] [sEu,sEu])] 3):=by
 have hp:=hb.p;have hn:=hb.n;have hs:=hb.s;have hz:Nz true true true p n s:=⟨by simp;omega,by simp;omega,by simp;omega⟩;have k0:=a0O true true true p n s hb hz h0 rfl;have k1:=c0r true true true p n s rfl;have k2:=d0l true true true p n s rfl;have x1:=l0a (2) (0) p n s (.inr (.inr (.inl ⟨rfl,by omega,by omega,by omega⟩))) (.inl ⟨rfl,by omega,by omega,by omega⟩);have a1:IntKind.i64.wrap (0-(s))= -(s):=by rw [show s=s from rfl];exact (a0e (by omega) (by omega)).trans (by omega)
 have m1:min (IntKind.i64.wrap (0-(s))) (p)=p:=by rw [a1];omega
 have y12:IntKind.i64.wrap (s+min (IntKind.i64.wrap (0-(s))) (p))=(s+p):=by rw [m1];exact (a0e (by omega) (by omega)).trans (by omega)
 have y10:IntKind.i64.wrap (p-min (IntKind.i64.wrap (0-(s))) (p))=(p-p):=by rw [m1];exact (a0e (by omega) (by omega)).trans (by omega)
 have x2:=l0a (2) (1) (IntKind.i64.wrap (p-min (IntKind.i64.wrap (0-(s))) (p))) (n) (IntKind.i64.wrap (s+min (IntKind.i64.wrap (0-(s))) (p))) (.inr (.inr (.inl ⟨rfl,by omega,by omega,by omega⟩))) (.inr (.inl ⟨rfl,by omega,by omega,by omega⟩));have a2:IntKind.i64.wrap (0-(IntKind.i64.wrap (s+min (IntKind.i64.wrap (0-(s))) (p))))= -((s+p)):=by rw [show IntKind.i64.wrap (s+min (IntKind.i64.wrap (0-(s))) (p))=(s+p) from y12];exact (a0e (by omega) (by omega)).trans (by omega)
 have m2:min (IntKind.i64.wrap (0-(IntKind.i64.wrap (s+min (IntKind.i64.wrap (0-(s))) (p))))) (n)=n:=by rw [a2];omega
 have y22:IntKind.i64.wrap (IntKind.i64.wrap (s+min (IntKind.i64.wrap (0-(s))) (p))+min (IntKind.i64.wrap (0-(IntKind.i64.wrap (s+min (IntKind.i64.wrap (0-(s))) (p))))) (n))=0:=by rw [m2,y12];exact (a0e (by omega) (by omega)).trans (by omega)
 have y21:IntKind.i64.wrap (n-min (IntKind.i64.wrap (0-(IntKind.i64.wrap (s+min (IntKind.i64.wrap (0-(s))) (p))))) (n))=0:=by rw [m2];exact (a0e (by omega) (by omega)).trans (by omega)
 have y20:=y10;have x3:=l0a (-1) (-1) (IntKind.i64.wrap (p-min (IntKind.i64.wrap (0-(s))) (p))) (IntKind.i64.wrap (n-min (IntKind.i64.wrap (0-(IntKind.i64.wrap (s+min (IntKind.i64.wrap (0-(s))) (p))))) (n))) (IntKind.i64.wrap (IntKind.i64.wrap (s+min (IntKind.i64.wrap (0-(s))) (p))+min (IntKind.i64.wrap (0-(IntKind.i64.wrap (s+min (IntKind.i64.wrap (0-(s))) (p))))) (n))) (.inr (.inr (.inr ⟨rfl,by omega,by omega,by omega⟩))) (.inr (.inr (.inr ⟨rfl,by omega,by omega,by omega⟩)));have key:FC Tryz.prog 2 55 [.sl 1 0 0 3] [(1,g0V true p n s)] (a0d (.tup [.sl 2 0 0 2,.int .i64 0]) [(2,trB false 2 [sSb,sSb] [sHb,sNw] [min (IntKind.i64.wrap (0-(s))) (p),min (IntKind.i64.wrap (0-(IntKind.i64.wrap (s+min (IntKind.i64.wrap (0-(s))) (p))))) (n)] [sEu,sEu])] 3):=by
  refine fEx Tryz.func55 ?_;repeat' ((conv=>whnf);first|refine a0c 8 ?_|refine cOx (l:= [0,1]) k0 ?_|refine cOx (l:= [0,1]) k1 ?_|refine cOx (l:= [0,2]) k2 ?_|refine cOx (l:= [0,2]) x1 ?_|refine cOx (l:= [0,2]) x2 ?_|refine cOx (l:= [0,2]) x3 ?_|refine a0a ?_|(apply bRx<;>intro h<;>try (exfalso;(try dsimp only at h);omega)))
  all_goals (conv=>whnf)
  all_goals first
   |exact rOz [0,1,3]
   |exact rOz [0,1,4]
   |exact rOz [0,1,5]
   |exact rOz [0,1,6]
   |exact rOz [0,1,7]
   |trace_state
 rw [m2,m1] at key;exact key
set_option maxHeartbeats 4000000 in
theorem c1O (p n s:Int) (hb:Rb true p n s) (h0:p+n+s=0) (hn0:0<n) (g0:0<p) (g1:s<0) (g2:p<n):FC Tryz.prog 2 55 [.sl 1 0 0 3] [(1,g0V true p n s)] (a0d (.tup [.sl 2 0 0 2,.int .i64 0]) [(2,trB false 2 [sSb,sSb] [sNw,sHb] [n,p] [sEu,sEu])] 3):=by
 have hp:=hb.p;have hn:=hb.n;have hs:=hb.s;have hz:Nz true true true p n s:=⟨by simp;omega,by simp;omega,by simp;omega⟩;have k0:=a0O true true true p n s hb hz h0 rfl;have k1:=c0r true true true p n s rfl;have k2:=d0l true true true p n s rfl;have x1:=l0a (2) (1) p n s (.inr (.inr (.inl ⟨rfl,by omega,by omega,by omega⟩))) (.inr (.inl ⟨rfl,by omega,by omega,by omega⟩));have a1:IntKind.i64.wrap (0-(s))= -(s):=by rw [show s=s from rfl];exact (a0e (by omega) (by omega)).trans (by omega)
 have m1:min (IntKind.i64.wrap (0-(s))) (n)=n:=by rw [a1];omega
 have y12:IntKind.i64.wrap (s+min (IntKind.i64.wrap (0-(s))) (n))=(s+n):=by rw [m1];exact (a0e (by omega) (by omega)).trans (by omega)
 have y11:IntKind.i64.wrap (n-min (IntKind.i64.wrap (0-(s))) (n))=(n-n):=by rw [m1];exact (a0e (by omega) (by omega)).trans (by omega)
 have x2:=l0a (2) (0) (p) (IntKind.i64.wrap (n-min (IntKind.i64.wrap (0-(s))) (n))) (IntKind.i64.wrap (s+min (IntKind.i64.wrap (0-(s))) (n))) (.inr (.inr (.inl ⟨rfl,by omega,by omega,by omega⟩))) (.inl ⟨rfl,by omega,by omega,by omega⟩);have a2:IntKind.i64.wrap (0-(IntKind.i64.wrap (s+min (IntKind.i64.wrap (0-(s))) (n))))= -((s+n)):=by rw [show IntKind.i64.wrap (s+min (IntKind.i64.wrap (0-(s))) (n))=(s+n) from y12];exact (a0e (by omega) (by omega)).trans (by omega)
 have m2:min (IntKind.i64.wrap (0-(IntKind.i64.wrap (s+min (IntKind.i64.wrap (0-(s))) (n))))) (p)=p:=by rw [a2];omega
 have y22:IntKind.i64.wrap (IntKind.i64.wrap (s+min (IntKind.i64.wrap (0-(s))) (n))+min (IntKind.i64.wrap (0-(IntKind.i64.wrap (s+min (IntKind.i64.wrap (0-(s))) (n))))) (p))=0:=by rw [m2,y12];exact (a0e (by omega) (by omega)).trans (by omega)
 have y20:IntKind.i64.wrap (p-min (IntKind.i64.wrap (0-(IntKind.i64.wrap (s+min (IntKind.i64.wrap (0-(s))) (n))))) (p))=0:=by rw [m2];exact (a0e (by omega) (by omega)).trans (by omega)
 have y21:=y11;have x3:=l0a (-1) (-1) (IntKind.i64.wrap (p-min (IntKind.i64.wrap (0-(IntKind.i64.wrap (s+min (IntKind.i64.wrap (0-(s))) (n))))) (p))) (IntKind.i64.wrap (n-min (IntKind.i64.wrap (0-(s))) (n))) (IntKind.i64.wrap (IntKind.i64.wrap (s+min (IntKind.i64.wrap (0-(s))) (n))+min (IntKind.i64.wrap (0-(IntKind.i64.wrap (s+min (IntKind.i64.wrap (0-(s))) (n))))) (p))) (.inr (.inr (.inr ⟨rfl,by omega,by omega,by omega⟩))) (.inr (.inr (.inr ⟨rfl,by omega,by omega,by omega⟩)));have key:FC Tryz.prog 2 55 [.sl 1 0 0 3] [(1,g0V true p n s)] (a0d (.tup [.sl 2 0 0 2,.int .i64 0]) [(2,trB false 2 [sSb,sSb] [sNw,sHb] [min (IntKind.i64.wrap (0-(s))) (n),min (IntKind.i64.wrap (0-(IntKind.i64.wrap (s+min (IntKind.i64.wrap (0-(s))) (n))))) (p)] [sEu,sEu])] 3):=by
  refine fEx Tryz.func55 ?_;repeat' ((conv=>whnf);first|refine a0c 8 ?_|refine cOx (l:= [0,1]) k0 ?_|refine cOx (l:= [0,1]) k1 ?_|refine cOx (l:= [0,2]) k2 ?_|refine cOx (l:= [0,2]) x1 ?_|refine cOx (l:= [0,2]) x2 ?_|refine cOx (l:= [0,2]) x3 ?_|refine a0a ?_|(apply bRx<;>intro h<;>try (exfalso;(try dsimp only at h);omega)))
  all_goals (conv=>whnf)
  all_goals first
   |exact rOz [0,1,3]
   |exact rOz [0,1,4]
   |exact rOz [0,1,5]
   |exact rOz [0,1,6]
   |exact rOz [0,1,7]
   |trace_state
 rw [m2,m1] at key;exact key
set_option maxHeartbeats 4000000 in
theorem c1P (p n s:Int) (hb:Rb true p n s) (h0:p+n+s=0) (hn0:0<n) (g0:p<0) (g1:s<0) (g2:p<=s):FC Tryz.prog 2 55 [.sl 1 0 0 3] [(1,g0V true p n s)] (a0d (.tup [.sl 2 0 0 2,.int .i64 0]) [(2,trB false 2 [sHb,sSb] [sNw,sNw] [-p,-s] [sEu,sEu])] 3):=by
 have hp:=hb.p;have hn:=hb.n;have hs:=hb.s;have hz:Nz true true true p n s:=⟨by simp;omega,by simp;omega,by simp;omega⟩;have k0:=a0O true true true p n s hb hz h0 rfl;have k1:=c0r true true true p n s rfl;have k2:=d0l true true true p n s rfl;have x1:=l0a (0) (1) p n s (.inl ⟨rfl,by omega,by omega,by omega⟩) (.inr (.inl ⟨rfl,by omega,by omega,by omega⟩));have a1:IntKind.i64.wrap (0-(p))= -(p):=by rw [show p=p from rfl];exact (a0e (by omega) (by omega)).trans (by omega)
 have m1:min (IntKind.i64.wrap (0-(p))) (n)= -p:=by rw [a1];omega
 have y10:IntKind.i64.wrap (p+min (IntKind.i64.wrap (0-(p))) (n))=(p+ -p):=by rw [m1];exact (a0e (by omega) (by omega)).trans (by omega)
 have y11:IntKind.i64.wrap (n-min (IntKind.i64.wrap (0-(p))) (n))=(n- -p):=by rw [m1];exact (a0e (by omega) (by omega)).trans (by omega)
 have x2:=l0a (2) (1) (IntKind.i64.wrap (p+min (IntKind.i64.wrap (0-(p))) (n))) (IntKind.i64.wrap (n-min (IntKind.i64.wrap (0-(p))) (n))) (s) (.inr (.inr (.inl ⟨rfl,by omega,by omega,by omega⟩))) (.inr (.inl ⟨rfl,by omega,by omega,by omega⟩));have a2:IntKind.i64.wrap (0-(s))= -(s):=by rw [show s=s from rfl];exact (a0e (by omega) (by omega)).trans (by omega)
 have m2:min (IntKind.i64.wrap (0-(s))) (IntKind.i64.wrap (n-min (IntKind.i64.wrap (0-(p))) (n)))= -s:=by rw [a2,y11];omega
 have y22:IntKind.i64.wrap (s+min (IntKind.i64.wrap (0-(s))) (IntKind.i64.wrap (n-min (IntKind.i64.wrap (0-(p))) (n))))=0:=by rw [m2];exact (a0e (by omega) (by omega)).trans (by omega)
 have y21:IntKind.i64.wrap (IntKind.i64.wrap (n-min (IntKind.i64.wrap (0-(p))) (n))-min (IntKind.i64.wrap (0-(s))) (IntKind.i64.wrap (n-min (IntKind.i64.wrap (0-(p))) (n))))=0:=by rw [m2,y11];exact (a0e (by omega) (by omega)).trans (by omega)
 have y20:=y10;have x3:=l0a (-1) (-1) (IntKind.i64.wrap (p+min (IntKind.i64.wrap (0-(p))) (n))) (IntKind.i64.wrap (IntKind.i64.wrap (n-min (IntKind.i64.wrap (0-(p))) (n))-min (IntKind.i64.wrap (0-(s))) (IntKind.i64.wrap (n-min (IntKind.i64.wrap (0-(p))) (n))))) (IntKind.i64.wrap (s+min (IntKind.i64.wrap (0-(s))) (IntKind.i64.wrap (n-min (IntKind.i64.wrap (0-(p))) (n))))) (.inr (.inr (.inr ⟨rfl,by omega,by omega,by omega⟩))) (.inr (.inr (.inr ⟨rfl,by omega,by omega,by omega⟩)));have key:FC Tryz.prog 2 55 [.sl 1 0 0 3] [(1,g0V true p n s)] (a0d (.tup [.sl 2 0 0 2,.int .i64 0]) [(2,trB false 2 [sHb,sSb] [sNw,sNw] [min (IntKind.i64.wrap (0-(p))) (n),min (IntKind.i64.wrap (0-(s))) (IntKind.i64.wrap (n-min (IntKind.i64.wrap (0-(p))) (n)))] [sEu,sEu])] 3):=by
  refine fEx Tryz.func55 ?_;repeat' ((conv=>whnf);first|refine a0c 8 ?_|refine cOx (l:= [0,1]) k0 ?_|refine cOx (l:= [0,1]) k1 ?_|refine cOx (l:= [0,2]) k2 ?_|refine cOx (l:= [0,2]) x1 ?_|refine cOx (l:= [0,2]) x2 ?_|refine cOx (l:= [0,2]) x3 ?_|refine a0a ?_|(apply bRx<;>intro h<;>try (exfalso;(try dsimp only at h);omega)))
  all_goals (conv=>whnf)
  all_goals first
   |exact rOz [0,1,3]
   |exact rOz [0,1,4]
   |exact rOz [0,1,5]
   |exact rOz [0,1,6]
   |exact rOz [0,1,7]
   |trace_state
 rw [m2,m1] at key;exact key
set_option maxHeartbeats 4000000 in
theorem c1Q (p n s:Int) (hb:Rb true p n s) (h0:p+n+s=0) (hn0:0<n) (g0:p<0) (g1:s<0) (g2:s<p):FC Tryz.prog 2 55 [.sl 1 0 0 3] [(1,g0V true p n s)] (a0d (.tup [.sl 2 0 0 2,.int .i64 0]) [(2,trB false 2 [sSb,sHb] [sNw,sNw] [-s,-p] [sEu,sEu])] 3):=by
 have hp:=hb.p;have hn:=hb.n;have hs:=hb.s;have hz:Nz true true true p n s:=⟨by simp;omega,by simp;omega,by simp;omega⟩;have k0:=a0O true true true p n s hb hz h0 rfl;have k1:=c0r true true true p n s rfl;have k2:=d0l true true true p n s rfl;have x1:=l0a (2) (1) p n s (.inr (.inr (.inl ⟨rfl,by omega,by omega,by omega⟩))) (.inr (.inl ⟨rfl,by omega,by omega,by omega⟩));have a1:IntKind.i64.wrap (0-(s))= -(s):=by rw [show s=s from rfl];exact (a0e (by omega) (by omega)).trans (by omega)
 have m1:min (IntKind.i64.wrap (0-(s))) (n)= -s:=by rw [a1];omega
 have y12:IntKind.i64.wrap (s+min (IntKind.i64.wrap (0-(s))) (n))=(s+ -s):=by rw [m1];exact (a0e (by omega) (by omega)).trans (by omega)
 have y11:IntKind.i64.wrap (n-min (IntKind.i64.wrap (0-(s))) (n))=(n- -s):=by rw [m1];exact (a0e (by omega) (by omega)).trans (by omega)
 have x2:=l0a (0) (1) (p) (IntKind.i64.wrap (n-min (IntKind.i64.wrap (0-(s))) (n))) (IntKind.i64.wrap (s+min (IntKind.i64.wrap (0-(s))) (n))) (.inl ⟨rfl,by omega,by omega,by omega⟩) (.inr (.inl ⟨rfl,by omega,by omega,by omega⟩));have a2:IntKind.i64.wrap (0-(p))= -(p):=by rw [show p=p from rfl];exact (a0e (by omega) (by omega)).trans (by omega)
 have m2:min (IntKind.i64.wrap (0-(p))) (IntKind.i64.wrap (n-min (IntKind.i64.wrap (0-(s))) (n)))= -p:=by rw [a2,y11];omega
 have y20:IntKind.i64.wrap (p+min (IntKind.i64.wrap (0-(p))) (IntKind.i64.wrap (n-min (IntKind.i64.wrap (0-(s))) (n))))=0:=by rw [m2];exact (a0e (by omega) (by omega)).trans (by omega)
 have y21:IntKind.i64.wrap (IntKind.i64.wrap (n-min (IntKind.i64.wrap (0-(s))) (n))-min (IntKind.i64.wrap (0-(p))) (IntKind.i64.wrap (n-min (IntKind.i64.wrap (0-(s))) (n))))=0:=by rw [m2,y11];exact (a0e (by omega) (by omega)).trans (by omega)
 have y22:=y12;have x3:=l0a (-1) (-1) (IntKind.i64.wrap (p+min (IntKind.i64.wrap (0-(p))) (IntKind.i64.wrap (n-min (IntKind.i64.wrap (0-(s))) (n))))) (IntKind.i64.wrap (IntKind.i64.wrap (n-min (IntKind.i64.wrap (0-(s))) (n))-min (IntKind.i64.wrap (0-(p))) (IntKind.i64.wrap (n-min (IntKind.i64.wrap (0-(s))) (n))))) (IntKind.i64.wrap (s+min (IntKind.i64.wrap (0-(s))) (n))) (.inr (.inr (.inr ⟨rfl,by omega,by omega,by omega⟩))) (.inr (.inr (.inr ⟨rfl,by omega,by omega,by omega⟩)));have key:FC Tryz.prog 2 55 [.sl 1 0 0 3] [(1,g0V true p n s)] (a0d (.tup [.sl 2 0 0 2,.int .i64 0]) [(2,trB false 2 [sSb,sHb] [sNw,sNw] [min (IntKind.i64.wrap (0-(s))) (n),min (IntKind.i64.wrap (0-(p))) (IntKind.i64.wrap (n-min (IntKind.i64.wrap (0-(s))) (n)))] [sEu,sEu])] 3):=by
  refine fEx Tryz.func55 ?_;repeat' ((conv=>whnf);first|refine a0c 8 ?_|refine cOx (l:= [0,1]) k0 ?_|refine cOx (l:= [0,1]) k1 ?_|refine cOx (l:= [0,2]) k2 ?_|refine cOx (l:= [0,2]) x1 ?_|refine cOx (l:= [0,2]) x2 ?_|refine cOx (l:= [0,2]) x3 ?_|refine a0a ?_|(apply bRx<;>intro h<;>try (exfalso;(try dsimp only at h);omega)))
  all_goals (conv=>whnf)
  all_goals first
   |exact rOz [0,1,3]
   |exact rOz [0,1,4]
   |exact rOz [0,1,5]
   |exact rOz [0,1,6]
   |exact rOz [0,1,7]
   |trace_state
 rw [m2,m1] at key;exact key
end
section
attribute [local irreducible] a0u a0v a0j b0b
def e1g (d x y:Int):Prop:=(d=0/\x<0/\x<=y)\/(d=1/\y<0/\y<x)\/(d= -1/\0<=x/\0<=y)
def e1h (c x y:Int):Prop:=(c=0/\0<x/\y<=x)\/(c=1/\0<y/\x<y)\/(c= -1/\x<=0/\y<=0)
set_option maxHeartbeats 4000000 in
theorem v0T (a b:ByteArray) (d c x y:Int) (hd:e1g d x y) (hc:e1h c x y):FC Tryz.prog 2 114 [.sl 1 0 0 2] [(1,m0w true a b x y)] (a0d (.tup [.int .i64 d,.int .i64 c]) [] 2):=by
 rcases hd with ⟨rfl,d1,d2⟩|⟨rfl,d1,d2⟩|⟨rfl,d1,d2⟩<;>rcases hc with ⟨rfl,c1,c2⟩|⟨rfl,c1,c2⟩|⟨rfl,c1,c2⟩
 all_goals try (exfalso;omega)
 all_goals refine fEx Tryz.func114 ?_
 all_goals repeat' ((conv=>whnf);first|refine a0c 5 ?_|(apply bRx<;>intro h<;>first|exact aX|(have h:x<0:=h;exact aX)|(have h:¬x<0:=h;exact aX)|(have h:y<0:=h;exact aX)|(have h:¬y<0:=h;exact aX)|(have h:0<x:=h;exact aX)|(have h:¬0<x:=h;exact aX)|(have h:0<y:=h;exact aX)|(have h:¬0<y:=h;exact aX)|(have h:y<x:=h;exact aX)|(have h:¬y<x:=h;exact aX)|(have h:x<y:=h;exact aX)|(have h:¬x<y:=h;exact aX)|skip)|refine a0a ?_|(apply bRx<;>intro h<;>try (exfalso;(try dsimp only at h);omega)))
 all_goals (conv=>whnf)
 all_goals first
  |exact rOz [0,1]
  |trace_state
set_option maxHeartbeats 4000000 in
theorem c1R (p n s:Int) (hb:Rb true p n s) (h0:p+n+s=0) (hz0:s=0) (g0:p<0):FC Tryz.prog 2 55 [.sl 1 0 0 2] [(1,m0w true sHb sNw p n)] (a0d (.tup [.sl 2 0 0 1,.int .i64 0]) [(2,trB false 1 [sHb] [sNw] [n] [sEu])] 3):=by
 have hp:=hb.p;have hn:=hb.n;have hs:=hb.s;have hz:Nz true true false p n s:=⟨by simp;omega,by simp;omega,by simp;omega⟩;have k0:=a0O true true false p n s hb hz h0 rfl;have k1:=c0r true true false p n s rfl;have k2:=d0l true true false p n s rfl;have x1:=v0T sHb sNw (0) (1) p n (.inl ⟨rfl,by omega,by omega⟩) (.inr (.inl ⟨rfl,by omega,by omega⟩));have a1:IntKind.i64.wrap (0-p)= -p:=(a0e (by omega) (by omega)).trans (by omega);have m1:min (IntKind.i64.wrap (0-p)) n=n:=by rw [a1];omega
 have y0:IntKind.i64.wrap (p+min (IntKind.i64.wrap (0-p)) n)=0:=by rw [m1];exact (a0e (by omega) (by omega)).trans (by omega)
 have y1:IntKind.i64.wrap (n-min (IntKind.i64.wrap (0-p)) n)=0:=by rw [m1];exact (a0e (by omega) (by omega)).trans (by omega)
 have x2:=v0T sHb sNw (-1) (-1) (IntKind.i64.wrap (p+min (IntKind.i64.wrap (0-p)) n)) (IntKind.i64.wrap (n-min (IntKind.i64.wrap (0-p)) n)) (.inr (.inr ⟨rfl,by omega,by omega⟩)) (.inr (.inr ⟨rfl,by omega,by omega⟩));have key:FC Tryz.prog 2 55 [.sl 1 0 0 2] [(1,m0w true sHb sNw p n)] (a0d (.tup [.sl 2 0 0 1,.int .i64 0]) [(2,trB false 1 [sHb] [sNw] [min (IntKind.i64.wrap (0-p)) n] [sEu])] 3):=by
  refine fEx Tryz.func55 ?_;repeat' ((conv=>whnf);first|refine a0c 8 ?_|refine cOx (l:= [0,1]) k0 ?_|refine cOx (l:= [0,1]) k1 ?_|refine cOx (l:= [0,2]) k2 ?_|refine cOx (l:= [0,2]) x1 ?_|refine cOx (l:= [0,2]) x2 ?_|refine a0a ?_|(apply bRx<;>intro h<;>try (exfalso;(try dsimp only at h);omega)))
  all_goals (conv=>whnf)
  all_goals first
   |exact rOz [0,1,3]
   |exact rOz [0,1,4]
   |exact rOz [0,1,5]
   |trace_state
 rw [m1] at key;exact key
set_option maxHeartbeats 4000000 in
theorem c1S (p n s:Int) (hb:Rb true p n s) (h0:p+n+s=0) (hz0:n=0) (g0:p<0):FC Tryz.prog 2 55 [.sl 1 0 0 2] [(1,m0w true sHb sSb p s)] (a0d (.tup [.sl 2 0 0 1,.int .i64 0]) [(2,trB false 1 [sHb] [sSb] [s] [sEu])] 3):=by
 have hp:=hb.p;have hn:=hb.n;have hs:=hb.s;have hz:Nz true false true p n s:=⟨by simp;omega,by simp;omega,by simp;omega⟩;have k0:=a0O true false true p n s hb hz h0 rfl;have k1:=c0r true false true p n s rfl;have k2:=d0l true false true p n s rfl;have x1:=v0T sHb sSb (0) (1) p s (.inl ⟨rfl,by omega,by omega⟩) (.inr (.inl ⟨rfl,by omega,by omega⟩));have a1:IntKind.i64.wrap (0-p)= -p:=(a0e (by omega) (by omega)).trans (by omega);have m1:min (IntKind.i64.wrap (0-p)) s=s:=by rw [a1];omega
 have y0:IntKind.i64.wrap (p+min (IntKind.i64.wrap (0-p)) s)=0:=by rw [m1];exact (a0e (by omega) (by omega)).trans (by omega)
 have y1:IntKind.i64.wrap (s-min (IntKind.i64.wrap (0-p)) s)=0:=by rw [m1];exact (a0e (by omega) (by omega)).trans (by omega)
 have x2:=v0T sHb sSb (-1) (-1) (IntKind.i64.wrap (p+min (IntKind.i64.wrap (0-p)) s)) (IntKind.i64.wrap (s-min (IntKind.i64.wrap (0-p)) s)) (.inr (.inr ⟨rfl,by omega,by omega⟩)) (.inr (.inr ⟨rfl,by omega,by omega⟩));have key:FC Tryz.prog 2 55 [.sl 1 0 0 2] [(1,m0w true sHb sSb p s)] (a0d (.tup [.sl 2 0 0 1,.int .i64 0]) [(2,trB false 1 [sHb] [sSb] [min (IntKind.i64.wrap (0-p)) s] [sEu])] 3):=by
  refine fEx Tryz.func55 ?_;repeat' ((conv=>whnf);first|refine a0c 8 ?_|refine cOx (l:= [0,1]) k0 ?_|refine cOx (l:= [0,1]) k1 ?_|refine cOx (l:= [0,2]) k2 ?_|refine cOx (l:= [0,2]) x1 ?_|refine cOx (l:= [0,2]) x2 ?_|refine a0a ?_|(apply bRx<;>intro h<;>try (exfalso;(try dsimp only at h);omega)))
  all_goals (conv=>whnf)
  all_goals first
   |exact rOz [0,1,3]
   |exact rOz [0,1,4]
   |exact rOz [0,1,5]
   |trace_state
 rw [m1] at key;exact key
set_option maxHeartbeats 4000000 in
theorem c1T (p n s:Int) (hb:Rb true p n s) (h0:p+n+s=0) (hz0:n=0) (g0:0<p):FC Tryz.prog 2 55 [.sl 1 0 0 2] [(1,m0w true sHb sSb p s)] (a0d (.tup [.sl 2 0 0 1,.int .i64 0]) [(2,trB false 1 [sSb] [sHb] [p] [sEu])] 3):=by
 have hp:=hb.p;have hn:=hb.n;have hs:=hb.s;have hz:Nz true false true p n s:=⟨by simp;omega,by simp;omega,by simp;omega⟩;have k0:=a0O true false true p n s hb hz h0 rfl;have k1:=c0r true false true p n s rfl;have k2:=d0l true false true p n s rfl;have x1:=v0T sHb sSb (1) (0) p s (.inr (.inl ⟨rfl,by omega,by omega⟩)) (.inl ⟨rfl,by omega,by omega⟩);have a1:IntKind.i64.wrap (0-s)= -s:=(a0e (by omega) (by omega)).trans (by omega);have m1:min (IntKind.i64.wrap (0-s)) p=p:=by rw [a1];omega
 have y0:IntKind.i64.wrap (s+min (IntKind.i64.wrap (0-s)) p)=0:=by rw [m1];exact (a0e (by omega) (by omega)).trans (by omega)
 have y1:IntKind.i64.wrap (p-min (IntKind.i64.wrap (0-s)) p)=0:=by rw [m1];exact (a0e (by omega) (by omega)).trans (by omega)
 have x2:=v0T sHb sSb (-1) (-1) (IntKind.i64.wrap (p-min (IntKind.i64.wrap (0-s)) p)) (IntKind.i64.wrap (s+min (IntKind.i64.wrap (0-s)) p)) (.inr (.inr ⟨rfl,by omega,by omega⟩)) (.inr (.inr ⟨rfl,by omega,by omega⟩));have key:FC Tryz.prog 2 55 [.sl 1 0 0 2] [(1,m0w true sHb sSb p s)] (a0d (.tup [.sl 2 0 0 1,.int .i64 0]) [(2,trB false 1 [sSb] [sHb] [min (IntKind.i64.wrap (0-s)) p] [sEu])] 3):=by
  refine fEx Tryz.func55 ?_;repeat' ((conv=>whnf);first|refine a0c 8 ?_|refine cOx (l:= [0,1]) k0 ?_|refine cOx (l:= [0,1]) k1 ?_|refine cOx (l:= [0,2]) k2 ?_|refine cOx (l:= [0,2]) x1 ?_|refine cOx (l:= [0,2]) x2 ?_|refine a0a ?_|(apply bRx<;>intro h<;>try (exfalso;(try dsimp only at h);omega)))
  all_goals (conv=>whnf)
  all_goals first
   |exact rOz [0,1,3]
   |exact rOz [0,1,4]
   |exact rOz [0,1,5]
   |trace_state
 rw [m1] at key;exact key
set_option maxHeartbeats 4000000 in
theorem c1U (p n s:Int) (hb:Rb true p n s) (h0:p+n+s=0) (hz0:p=0) (g0:0<n):FC Tryz.prog 2 55 [.sl 1 0 0 2] [(1,m0w true sNw sSb n s)] (a0d (.tup [.sl 2 0 0 1,.int .i64 0]) [(2,trB false 1 [sSb] [sNw] [n] [sEu])] 3):=by
 have hp:=hb.p;have hn:=hb.n;have hs:=hb.s;have hz:Nz false true true p n s:=⟨by simp;omega,by simp;omega,by simp;omega⟩;have k0:=a0O false true true p n s hb hz h0 rfl;have k1:=c0r false true true p n s rfl;have k2:=d0l false true true p n s rfl;have x1:=v0T sNw sSb (1) (0) n s (.inr (.inl ⟨rfl,by omega,by omega⟩)) (.inl ⟨rfl,by omega,by omega⟩);have a1:IntKind.i64.wrap (0-s)= -s:=(a0e (by omega) (by omega)).trans (by omega);have m1:min (IntKind.i64.wrap (0-s)) n=n:=by rw [a1];omega
 have y0:IntKind.i64.wrap (s+min (IntKind.i64.wrap (0-s)) n)=0:=by rw [m1];exact (a0e (by omega) (by omega)).trans (by omega)
 have y1:IntKind.i64.wrap (n-min (IntKind.i64.wrap (0-s)) n)=0:=by rw [m1];exact (a0e (by omega) (by omega)).trans (by omega)
 have x2:=v0T sNw sSb (-1) (-1) (IntKind.i64.wrap (n-min (IntKind.i64.wrap (0-s)) n)) (IntKind.i64.wrap (s+min (IntKind.i64.wrap (0-s)) n)) (.inr (.inr ⟨rfl,by omega,by omega⟩)) (.inr (.inr ⟨rfl,by omega,by omega⟩));have key:FC Tryz.prog 2 55 [.sl 1 0 0 2] [(1,m0w true sNw sSb n s)] (a0d (.tup [.sl 2 0 0 1,.int .i64 0]) [(2,trB false 1 [sSb] [sNw] [min (IntKind.i64.wrap (0-s)) n] [sEu])] 3):=by
  refine fEx Tryz.func55 ?_;repeat' ((conv=>whnf);first|refine a0c 8 ?_|refine cOx (l:= [0,1]) k0 ?_|refine cOx (l:= [0,1]) k1 ?_|refine cOx (l:= [0,2]) k2 ?_|refine cOx (l:= [0,2]) x1 ?_|refine cOx (l:= [0,2]) x2 ?_|refine a0a ?_|(apply bRx<;>intro h<;>try (exfalso;(try dsimp only at h);omega)))
  all_goals (conv=>whnf)
  all_goals first
   |exact rOz [0,1,3]
   |exact rOz [0,1,4]
   |exact rOz [0,1,5]
   |trace_state
 rw [m1] at key;exact key
theorem s0A:a0y Tryz.prog 109 [.nsl] .nsl:=by
 refine fEx Tryz.func109 ?_;repeat' ((conv=>whnf);first|refine a0a ?_|(apply bRx<;>intro h<;>try (exfalso;(try dsimp only at h);omega)))
 all_goals (conv=>whnf)
 all_goals first
  |exact a0b rfl
  |trace_state
theorem y0x:a0y Tryz.prog 246 [.nsl,.int .i64 0,.int .i64 0,.fn 111 []] (.tup []):=by
 refine fEx Tryz.func246 ?_;repeat' ((conv=>whnf);first|refine a0c 5 ?_|refine a0a ?_|(apply bRx<;>intro h<;>try (exfalso;(try dsimp only at h);omega)))
 all_goals (conv=>whnf)
 all_goals exact a0b rfl
theorem y0y:a0y Tryz.prog 178 [.nsl,.int .i64 0,.int .i64 0,.int .i64 0,.fn 111 []] (.tup []):=by
 have c:=y0x;refine fEx Tryz.func178 ?_;repeat' ((conv=>whnf);first|refine a0c 5 ?_|refine cPx c ?_|refine a0a ?_|(apply bRx<;>intro h<;>try (exfalso;(try dsimp only at h);omega)))
 all_goals (conv=>whnf)
 all_goals exact a0b rfl
theorem u0T:a0y Tryz.prog 110 [.nsl,.fn 111 []] (.tup []):=by
 have c:=y0y;have d:=b1I;refine fEx Tryz.func110 ?_;repeat' ((conv=>whnf);first|refine cPx c ?_|refine cPx d ?_|refine a0a ?_|(apply bRx<;>intro h<;>try (exfalso;(try dsimp only at h);omega)))
 all_goals (conv=>whnf)
 all_goals exact a0b rfl
theorem o0P:a0y Tryz.prog 115 [.nsl] (.int .i64 0):=by
 refine fEx Tryz.func115 ?_;repeat' ((conv=>whnf);first|refine a0c 5 ?_|refine a0a ?_|(apply bRx<;>intro h<;>try (exfalso;(try dsimp only at h);omega)))
 all_goals (conv=>whnf)
 all_goals first
  |exact a0b rfl
  |exact rOz [0]
  |trace_state
theorem m0x:a0y Tryz.prog 56 [.nsl] (.int .i64 0):=by
 have c:=o0P;refine fEx Tryz.func56 ?_;repeat' ((conv=>whnf);first|refine a0c 5 ?_|refine cPx c ?_|(intro i hi hn;exfalso;have hi:i<0:=hi;omega)|(intro hA)|refine a0a ?_|(apply bRx<;>intro h<;>try (exfalso;(try dsimp only at h);omega))|refine And.intro ?_ ?_)
 all_goals (conv=>whnf)
 all_goals first
  |exact rOz [0]
  |trace_state
theorem p0Y:a0y Tryz.prog 55 [.nsl] (.tup [.nsl,.int .i64 0]):=by
 have c1:=m0x;have c2:=s0A;have c3:=u0T;refine fEx Tryz.func55 ?_;repeat' ((conv=>whnf);first|refine a0c 5 ?_|refine cPx c1 ?_|refine cPx c2 ?_|refine cPx c3 ?_|refine a0a ?_|(apply bRx<;>intro h<;>try (exfalso;(try dsimp only at h);omega)))
 all_goals (conv=>whnf)
 all_goals first
  |exact a0b rfl
  |trace_state
end
section
attribute [local irreducible] a0u a0v a0j b0b
set_option maxHeartbeats 1000000 in
theorem p0Z (b1 b2 b3:Bool) (p n s:Int) (a ck:Nat) (hz:Nz b1 b2 b3 p n s) (hb:Rb true p n s) (h:(b1||b2||b3)=true) {m:Nat} {F T':List ByteArray} {V:List Int} {C:List ByteArray} (c:FC Tryz.prog 2 55 [.sl 1 0 0 (kL b1 b2 b3)] [(1,poB true b1 b2 b3 p n s)] (a0d (.tup [.sl 2 0 0 m,.int .i64 0]) [(2,trB false m F T' V C)] 3)):
  FC Tryz.prog 10 18 [.ptr 1 0 0 0,.int .i64 0,.nsl,.str sEu,.str sEu] (hpZ true true true true true true p n s a ck) (a0d (.tup [.sl 10 0 0 m,.int .i64 0]) [(10,trB false m F T' V C)] 11):=by
 have c1:=k0V;have c2:=u0S b1 b2 b3 p n s a ck hz hb;rw [h] at c2;clear hz hb h;refine fEx Tryz.func18 ?_;repeat' ((conv=>whnf);first|refine cOx (l:= [0,1,2,3,4,5,6,7]) c1 ?_|refine cOx (l:= [0,7,8,9]) c2 ?_|refine cOx (l:= [0,10]) c ?_|refine a0a ?_|(apply bRx<;>intro h<;>try (exfalso;(try dsimp only at h);omega)))
 all_goals (conv=>whnf)
 all_goals first
  |exact rOz [0,1,2,3,4,5,6,7,8,9,11]
  |trace_state
theorem q0a (made:Bool) (p n s:Int) (a ck:Nat):FC Tryz.prog 10 18 [.ptr 1 0 0 0,.int .i64 0,.nsl,.str sEu,.str sEu] (hpZ true true true made true false p n s a ck) (a0d (.tup [.nsl,.int .i64 0]) [] 10):=by
 have c:=p0Y;cases made with
 |false=>
  have c1:=o0J;have c2:=o0O true 0 0 0 0 0;refine fEx Tryz.func18 ?_;repeat' ((conv=>whnf);first|refine cOx (l:= [0,1,2,3,4,5,6]) c1 ?_|refine cOx (l:= [0,10,11,12]) c2 ?_|refine cPx c ?_|refine a0a ?_|(apply bRx<;>intro h<;>try (exfalso;(try dsimp only at h);omega)))
  all_goals (conv=>whnf)
  all_goals first
   |exact rOz [0,1,2,3,4,5,6,7,8,9]
   |trace_state
 |true=>
  have c1:=k0V;have c2:=o0O true p n s a ck;refine fEx Tryz.func18 ?_;repeat' ((conv=>whnf);first|refine cOx (l:= [0,1,2,3,4,5,6,7]) c1 ?_|refine cOx (l:= [0,7,8,9]) c2 ?_|refine cPx c ?_|refine a0a ?_|(apply bRx<;>intro h<;>try (exfalso;(try dsimp only at h);omega)))
  all_goals (conv=>whnf)
  all_goals first
   |exact rOz [0,1,2,3,4,5,6,7,8,9]
   |trace_state
theorem b0L (x:Int) (h: -4503599627370496<=x/\x<=4503599627370496):a0y Tryz.prog 117 [.int .i64 x] (.bool true):=by
 refine fEx Tryz.func117 ?_;repeat' ((conv=>whnf);first|refine a0a ?_|(apply bRx<;>intro h<;>try (exfalso;(try dsimp only at h);omega)))
 all_goals (conv=>whnf)
 all_goals first
  |exact a0b rfl
  |(refine a0b (congrArg SV.bool ?_);simp;omega)
  |trace_state
theorem y0z:a0y Tryz.prog 255 [.nsl,.int .i64 0,.int .i64 0,.fn 112 []] (.tup []):=by
 refine fEx Tryz.func255 ?_;repeat' ((conv=>whnf);first|refine a0c 5 ?_|refine a0a ?_|(apply bRx<;>intro h<;>try (exfalso;(try dsimp only at h);omega)))
 all_goals (conv=>whnf)
 all_goals exact a0b rfl
theorem y0A:a0y Tryz.prog 181 [.nsl,.int .i64 0,.int .i64 0,.int .i64 0,.fn 112 []] (.tup []):=by
 have c:=y0z;refine fEx Tryz.func181 ?_;repeat' ((conv=>whnf);first|refine a0c 5 ?_|refine cPx c ?_|refine a0a ?_|(apply bRx<;>intro h<;>try (exfalso;(try dsimp only at h);omega)))
 all_goals (conv=>whnf)
 all_goals exact a0b rfl
theorem o0Q:a0y Tryz.prog 118 [.nsl,.fn 112 []] (.tup []):=by
 have c:=y0A;have d:=b1I;refine fEx Tryz.func118 ?_;repeat' ((conv=>whnf);first|refine cPx c ?_|refine cPx d ?_|refine a0a ?_|(apply bRx<;>intro h<;>try (exfalso;(try dsimp only at h);omega)))
 all_goals (conv=>whnf)
 all_goals exact a0b rfl
theorem e1i:a0y Tryz.prog 57 [.nsl,.nsl] (.tup [.nsl,.int .i64 0]):=by
 have c:=o0P;have d:=o0Q;refine fEx Tryz.func57 ?_;repeat' ((conv=>whnf);first|refine a0c 5 ?_|refine cPx c ?_|refine cPx d ?_|(intro i hi hn;exfalso;have hi:i<0:=hi;omega)|(intro hA)|refine a0a ?_|(apply bRx<;>intro h<;>try (exfalso;(try dsimp only at h);omega))|refine And.intro ?_ ?_)
 all_goals (conv=>whnf)
 all_goals first
  |exact rOz [0]
  |trace_state
theorem e1j:a0y Tryz.prog 19 [.nsl,.nsl] (.bool true):=by
 have c:=m0x;have d:=e1i;refine fEx Tryz.func19 ?_;repeat' ((conv=>whnf);first|refine a0c 5 ?_|refine cPx c ?_|refine cPx d ?_|refine a0a ?_|(apply bRx<;>intro h<;>try (exfalso;(try dsimp only at h);omega)))
 all_goals (conv=>whnf)
 all_goals exact a0b rfl
theorem e1k:a0y Tryz.prog 23 [.nsl,.str sEu] (.int .i64 0):=by
 refine fEx Tryz.func23 ?_;repeat' ((conv=>whnf);first|refine a0c 5 ?_|refine a0a ?_|(apply bRx<;>intro h<;>try (exfalso;(try dsimp only at h);omega)))
 all_goals (conv=>whnf)
 all_goals exact a0b rfl
end
section
attribute [local irreducible] a0u a0v a0j b0b
def sel:List Nat->Code->Code
 | [],c=>c
 |0::p,.seq a _=>sel p a
 |_::p,.seq _ b=>sel p b
 |_::p,.block _ c=>sel p c
 |_::p,.loop c=>sel p c
 |_,c=>c
def b1c (f:Func):Code:=match f.body with|some c=>c|none=> .skip
abbrev apK:Exit->VS->Prop:=n0J 4 (d1B (fun v k=>b0k Tryz.prog T 3 (sel [1,1,1,1,1,1,1] (b1c Tryz.f57)) v k) (t0d T 3 Tryz.f57.results.toList (a0d (.tup [.nsl,.int .i64 0]) [] 3)))
abbrev apV (k:Nat) (cs ps:List ByteArray) (zs:List Int) (sn:List Nat):VS:=⟨[(7,.map 3 0),(15,.nsl),(112,.ptr 4 0 0 0)],[(3,some (.one false (.obj (.map true false k [.strs cs,.strs ps] [.sc (.ints .i64 zs)] (List.range k) k)))),(4,some (.one false (.obj (.iter 3 0 (List.range k) k sn))))],5⟩
set_option maxHeartbeats 1000000 in
theorem d0m (k:Nat) (hk:k<=100) (cs ps:List ByteArray) (zs:List Int) (hz:∀i,zs.getD i 0=0) (l:List Nat) (u:List Up) (vs:VS) (hw:upK u vs (fun v=>Weak 3 l v (apV k cs ps zs []))):a0v 3 (b0k Tryz.prog T 3 (lpc Tryz.f57 2)) vs apK:=by
 have d:=o0Q;refine t0K (apV k cs ps zs) (fun sn=>sn.Nodup/\∀i∈sn,i<k) (fun sn=>k-sn.length) [] l u hw ⟨e1P,by simp⟩ ?_;rintro sn ⟨h1,h2⟩;repeat' ((conv=>whnf);first|refine a0c 5 ?_|refine cPx d ?_|(intro i hi hn)|(intro hA)|(apply bRx<;>intro h<;>first|exact absurd (hz _) h|exact aX|skip)|refine a0a ?_|(apply bRx<;>intro h<;>try (exfalso;(try dsimp only at h);omega))|refine And.intro ?_ ?_)
 all_goals (conv=>whnf)
 all_goals first
  |exact rOz [0,1,2]
  |exact ⟨i::sn,[0,1,2,3,4],[],⟨List.nodup_cons.2 ⟨hn,h1⟩,fun j hj=>by rcases d0z.1 hj with rfl|hj;exact hi;exact h2 j hj⟩,(by have:=k0v h1 h2 hi hn;show k-(i::sn).length<k-sn.length;simp only [m0j];omega),⟨rfl,⟨rfl,rfl,rfl,trivial⟩,⟨rfl,rfl,trivial⟩⟩⟩
  |trace_state
end
end Go.Proofs.YtclhnagdmajfkaaGreatDoor
