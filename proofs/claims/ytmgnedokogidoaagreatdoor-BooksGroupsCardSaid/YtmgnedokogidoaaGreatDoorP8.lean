/- Several texts in one: Bg4 BooksGroupsC. -/
import Derived.Test.YtmgnedokogidoaaGreatDoorP3
import Derived.Test.YtmgnedokogidoaaGreatDoorP7
set_option linter.unusedVariables false
set_option linter.unusedSimpArgs false
set_option maxRecDepth 100000
namespace Go.Proofs.YtmgnedokogidoaaGreatDoor
open Go.RowKit Go.Sy
section
attribute [local irreducible] a0B a0D a0u a0Y
structure Dk where
 kept:List ByteArray
 now:List ByteArray
 nn:Nat
 pn:List Int
 ps:List ByteArray
 np:Nat
 down:Bool
 steps:Int
 mask:Int
structure Dk.ok (d:Dk):Prop where
 kl:d.kept.length=d.nn
 nl:d.now.length=d.nn
 pl:d.pn.length=d.np
 sl:d.ps.length=d.np
 pb:∀x∈d.pn,0<=x/\x<(d.nn:Int)
 pm:d.np<=4096
 nm:d.nn<=4096
 sb:0<=d.steps/\d.steps<=1000000
def dkC (p:Nat) (d:Dk):List SV:= [.sl 2 0 0 d.nn,.sl 3 0 0 d.nn,.sl p 0 0 d.np,.bool d.down,.int .i64 d.steps,.int .u64 d.mask]
def dkH (p:Nat) (d:Dk):a0v:=
 [(1,some (.one false (.cells (dkC p d)))),(2,some (.one false (.cols d.nn [.sc (.strs d.kept)]))),(3,some (.one false (.cols d.nn [.sc (.strs d.now)]))),
  (p,some (.one false (.cols d.np [.sc (.ints .i64 d.pn),.sc (.strs d.ps)])))]
theorem e0o (p:Nat) (d:Dk):e0t (dkH p d):=a0d (a0d (a0d (a0d a0k)))
def f1l (d:Dk):Int:=if d.down=true then 13 else 0
theorem c0W (d:Dk):FC Tryz.prog 5 28 [.ptr 1 0 0 0] [(1,some (.one true (.cells (dkC 4 d))))] (a0s (.int .i64 (f1l d)) [] 5):=by
 refine a0p mixed a0x Tryz.func28 rfl (by kernel_rfl) (by kernel_rfl) (by kernel_rfl) ?_
 repeat' ((conv=>whnf);first|((first|apply a0f|apply a0c|apply a0g|apply a0b|apply a0h|apply a0a)<;>intro h<;>try (exfalso;(try dsimp only at h);omega))|refine a0i ?_)
 all_goals (conv=>whnf)
 all_goals exact a0n (l:= [0,1,2,3,4]) rfl (by simp [d0a,cv,SV.ren,f1l, *]) trivial a0k
def d0f (n:Int):Int:=if 0<n then n-1 else n
def c0E (d:Dk):Dk:= { d with steps:=d0f d.steps}
theorem u0J (d:Dk) (hs:0<=d.steps/\d.steps<=1000000):FC Tryz.prog 5 85 [.ptr 1 0 0 0] [(1,some (.one false (.cells (dkC 4 d))))]
  (a0s (.tup []) [(1,some (.one false (.cells (dkC 4 (c0E d)))))] 5):=by
 refine a0p mixed a0x Tryz.func85 rfl (by kernel_rfl) (by kernel_rfl) (by kernel_rfl) ?_
 repeat' ((conv=>whnf);first|((first|apply a0f|apply a0c|apply a0g|apply a0b|apply a0h|apply a0a)<;>intro h<;>try (exfalso;(try dsimp only at h);omega))|refine a0i ?_)
 all_goals (conv=>whnf)
 .refine a0n (l:= [0,1,2,3,4]) rfl rfl ⟨?_,trivial⟩ (a0d a0k)
  have e:d0f d.steps=IntKind.i64.wrap (d.steps-1):=by rw [a0G (by omega) (by omega)];unfold d0f;rw [if_pos (by assumption)]
  unfold c0E;rw [e];rfl
 .refine a0n (l:= [0,1,2,3,4]) rfl rfl ⟨?_,trivial⟩ (a0d a0k)
  have e:d0f d.steps=d.steps:=by unfold d0f;rw [if_neg (by assumption)]
  unfold c0E;rw [e];rfl
def b0x (bits:Nat->Bool) (pn:List Int) (ps:List ByteArray):Nat->List ByteArray->List ByteArray
 |0,l=>l
 |k+1,l=>bif bits k then (b0x bits pn ps k l).set (pn.getD k 0).toNat (ps.getD k ⟨#[]⟩) else b0x bits pn ps k l
theorem b0J (bits:Nat->Bool) (pn:List Int) (ps l:List ByteArray):∀k,(b0x bits pn ps k l).length=l.length
 |0=>rfl
 |k+1=>by
  simp only [b0x]
  cases bits k<;>simp [b0J bits pn ps l k]
def k0H (m:Int) (k:Nat):Bool:=(n0H (b1j m) 64 64).getD (k%64) false
def i0w (m:Int) (d:Dk):List ByteArray:=b0x (k0H m) d.pn d.ps d.np d.kept
def c0s (m:Int) (d:Dk):Dk:=⟨i0w m d,i0w m d,d.nn,[],[],0,true,0,0⟩
theorem t0h {α:Type} (l:List α) (i:Nat) (d:α) (h:i<l.length):l.getD i d∈l:=by
 rw [List.getD,List.getElem?_eq_getElem h];exact List.getElem_mem h
theorem u0K {α:Type} (n:Nat) (l s:List α) (h1:l.length=n) (h2:s.length=n):e0H 0 (min n n) l (seg 0 n s)=s:=by
 simp [e0H,seg,<-h2,h1]
theorem i0b (d:Dk) (h0:d.ok) (m:Int):FC Tryz.prog 5 33 [.ptr 1 0 0 0,.int .u64 m] (dkH 4 d) (a0s (.tup []) (dkH 5 (c0s m d)) 6):=by
 have hpm:=h0.pm
 have hpl:=h0.pl
 refine a0p mixed a0x Tryz.func33 rfl (by kernel_rfl) (by kernel_rfl) (by kernel_rfl) ?_
 repeat' ((conv=>whnf);first|(refine a0j (r0l _) rfl rfl rfl ?_)|((first|apply a0f|apply a0c|apply a0g|apply a0b|apply a0h|apply a0a)<;>intro h<;>try (exfalso;(try dsimp only at h);omega))|refine a0i ?_)
 (conv=>whnf)
 refine a0z (fun k:Nat=>⟨[(0,.ptr 1 0 0 0),(4,.ptr 5 0 0 0),(12,.sl 4 0 0 d.np),(13,.int .i64 d.np),(14,.int .i64 k)],
  [(1,some (.one false (.cells (dkC 4 d)))),(2,some (.one false (.cols d.nn [.sc (.strs (b0x (k0H m) d.pn d.ps k d.kept))]))),
   (3,some (.one false (.cols d.nn [.sc (.strs d.now)]))),
   (4,some (.one false (.cols d.np [.sc (.ints .i64 d.pn),.sc (.strs d.ps)]))),(5,some (.one false (.cols 64 [.sc (.bools (n0H (b1j m) 64 64))])))],6⟩) (fun k=>k<=d.np) (fun k=>d.np-k) 0 [0,1,2,3,4,5] [] ⟨rfl,⟨rfl,rfl,rfl,rfl,rfl,trivial⟩,⟨rfl,rfl,rfl,rfl,rfl,trivial⟩⟩ (by omega) ?_
 intro k hk
 by_cases hlt:k<d.np
 .have hm:(k:Int).tmod 64=((k%64:Nat):Int):=by rw [Int.tmod_eq_emod_of_nonneg (by omega)];omega
  have hb:=h0.pb _ (t0h d.pn k 0 (by omega))
  have hc:k0H m k=(n0H (b1j m) 64 64).getD ((k:Int).tmod 64).toNat false:=by unfold k0H;rw [hm];rfl
  repeat' ((conv=>whnf);first|(refine a0q hb ?_)|(refine a0q (by rw [hm];dsimp only;omega) ?_)|((first|apply a0f|apply a0c|apply a0g|apply a0b|apply a0h|apply a0a)<;>intro h<;>try (exfalso;(try dsimp only at h);omega))|refine a0i ?_)
  all_goals (conv=>whnf)
  all_goals rw [h] at hc
  all_goals refine ⟨k+1,[0,1,2,3,4,5],[],by omega,by omega,⟨rfl,⟨rfl,rfl,rfl,rfl,congrArg (fun z=>some (SV.int .i64 z)) (b0a (by omega)),trivial⟩,⟨rfl,?_,rfl,rfl,rfl,trivial⟩⟩⟩
  all_goals refine congrArg (fun z=>some (HB.one false (.cols d.nn [.sc (.strs z)]))) ?_
  all_goals (simp only [b0x,hc];rfl)
 .have e:k=d.np:=by omega
  subst e
  repeat' ((conv=>whnf);first|((first|apply a0f|apply a0c|apply a0g|apply a0b|apply a0h|apply a0a)<;>intro h<;>try (exfalso;(try dsimp only at h);omega))|refine a0i ?_)
  all_goals (conv=>whnf)
  refine e0g (l:= [0,1,2,3,4,6]) [.cell 1 2 [.sc (.ints .i64 []),.sc (.strs [])]] ⟨rfl,rfl,rfl,rfl,?_,rfl,trivial⟩ (e0o _ _)
  refine congrArg (fun z=>some (HB.one false (.cols d.nn [.sc (.strs z)]))) ?_
  exact u0K _ _ _ h0.nl (by rw [b0J];exact h0.kl)
def c0m (m:Int) (d:Dk):Dk:=if d.down=true then d else c0s m d
theorem e0p (d:Dk):(f1l d=13/\d.down=true)\/(f1l d=0/\d.down=false):=by
 unfold f1l
 cases d.down<;>simp
theorem u0L (d:Dk) (h0:d.ok) (m:Int):FC Tryz.prog 5 12 [.ptr 1 0 0 0,.int .u64 m] (dkH 4 d) (a0s (.int .i64 (f1l d)) (dkH 5 (c0m m d)) 6):=by
 have hrun:=c0W d
 rcases e0p d with ⟨hr,hd⟩|⟨hr,hd⟩
 .rw [show c0m m d=d from by simp [c0m,hd]]
  rw [hr] at hrun⊢
  refine a0p mixed a0x Tryz.func12 rfl (by kernel_rfl) (by kernel_rfl) (by kernel_rfl) ?_
  repeat' ((conv=>whnf);first|refine a0e (l:= [0,1,2,3,4]) (hrun) ?_|((first|apply a0f|apply a0c|apply a0g|apply a0b|apply a0h|apply a0a)<;>intro h<;>try (exfalso;(try dsimp only at h);omega))|refine a0i ?_)
  all_goals (conv=>whnf)
  exact a0n (l:= [0,1,2,3,4,4]) rfl rfl ⟨rfl,rfl,rfl,rfl,trivial⟩ (e0o _ _)
 .rw [show c0m m d=c0s m d from by simp [c0m,hd]]
  rw [hr] at hrun⊢
  refine a0p mixed a0x Tryz.func12 rfl (by kernel_rfl) (by kernel_rfl) (by kernel_rfl) ?_
  repeat' ((conv=>whnf);first|refine a0e (l:= [0,1,2,3,4]) (hrun) ?_|refine a0e (l:= [0,1,2,3,4]) (i0b d h0 m) ?_|((first|apply a0f|apply a0c|apply a0g|apply a0b|apply a0h|apply a0a)<;>intro h<;>try (exfalso;(try dsimp only at h);omega))|refine a0i ?_)
  all_goals (conv=>whnf)
  exact a0n (l:= [0,1,2,3,4,5]) rfl rfl ⟨rfl,rfl,rfl,rfl,trivial⟩ (e0o _ _)
def r0p (d:Dk) (n m:Int):Dk×Int:=if d.down=true then (d,13) else if n<0\/1000000<n then (d,4) else ({ d with steps:=n,mask:=m},0)
theorem b1m (d:Dk) (n m:Int):FC Tryz.prog 5 10 [.ptr 1 0 0 0,.int .i64 n,.int .u64 m] [(1,some (.one false (.cells (dkC 4 d))))] (a0s (.int .i64 (r0p d n m).2) [(1,some (.one false (.cells (dkC 4 (r0p d n m).1))))] 5):=by
 have hrun:=c0W d
 rcases e0p d with ⟨hr,hd⟩|⟨hr,hd⟩
 .rw [show r0p d n m=(d,13) from by simp [r0p,hd]]
  rw [hr] at hrun
  refine a0p mixed a0x Tryz.func10 rfl (by kernel_rfl) (by kernel_rfl) (by kernel_rfl) ?_
  repeat' ((conv=>whnf);first|refine a0e (l:= [0,1,2,3,4]) (hrun) ?_|((first|apply a0f|apply a0c|apply a0g|apply a0b|apply a0h|apply a0a)<;>intro h<;>try (exfalso;(try dsimp only at h);omega))|refine a0i ?_)
  all_goals (conv=>whnf)
  exact a0n (l:= [0,1,2,3,4]) rfl rfl ⟨rfl,trivial⟩ (a0d a0k)
 .rw [hr] at hrun
  by_cases hn:n<0\/1000000<n
  .rw [show r0p d n m=(d,4) from by simp [r0p,hd,hn]]
   refine a0p mixed a0x Tryz.func10 rfl (by kernel_rfl) (by kernel_rfl) (by kernel_rfl) ?_
   repeat' ((conv=>whnf);first|refine a0e (l:= [0,1,2,3,4]) (hrun) ?_|((first|apply a0f|apply a0c|apply a0g|apply a0b|apply a0h|apply a0a)<;>intro h<;>try (exfalso;(try dsimp only at h);omega))|refine a0i ?_)
   all_goals (conv=>whnf)
   all_goals exact a0n (l:= [0,1,2,3,4]) rfl rfl ⟨rfl,trivial⟩ (a0d a0k)
  .rw [show r0p d n m=({ d with steps:=n,mask:=m},0) from by simp [r0p,hd,hn]]
   refine a0p mixed a0x Tryz.func10 rfl (by kernel_rfl) (by kernel_rfl) (by kernel_rfl) ?_
   repeat' ((conv=>whnf);first|refine a0e (l:= [0,1,2,3,4]) (hrun) ?_|((first|apply a0f|apply a0c|apply a0g|apply a0b|apply a0h|apply a0a)<;>intro h<;>try (exfalso;(try dsimp only at h);omega))|refine a0i ?_)
   all_goals (conv=>whnf)
   all_goals exact a0n (l:= [0,1,2,3,4]) rfl rfl ⟨rfl,trivial⟩ (a0d a0k)
def b0m (d:Dk):Dk×Int:=if d.down=true then ({ d with down:=false},0) else (d,8)
theorem p0A (d:Dk):FC Tryz.prog 5 13 [.ptr 1 0 0 0] [(1,some (.one false (.cells (dkC 4 d))))] (a0s (.int .i64 (b0m d).2) [(1,some (.one false (.cells (dkC 4 (b0m d).1))))] 5):=by
 rcases e0p d with ⟨_,hd⟩|⟨_,hd⟩
 .rw [show b0m d=({ d with down:=false},0) from by simp [b0m,hd]]
  refine a0p mixed a0x Tryz.func13 rfl (by kernel_rfl) (by kernel_rfl) (by kernel_rfl) ?_
  repeat' ((conv=>whnf);first|((first|apply a0f|apply a0c|apply a0g|apply a0b|apply a0h|apply a0a)<;>intro h<;>try (exfalso;(try dsimp only at h);omega))|refine a0i ?_)
  all_goals first|(exfalso;simp_all;done)|((conv=>whnf);exact a0n (l:= [0,1,2,3,4]) rfl rfl ⟨rfl,trivial⟩ (a0d a0k))
 .rw [show b0m d=(d,8) from by simp [b0m,hd]]
  refine a0p mixed a0x Tryz.func13 rfl (by kernel_rfl) (by kernel_rfl) (by kernel_rfl) ?_
  repeat' ((conv=>whnf);first|((first|apply a0f|apply a0c|apply a0g|apply a0b|apply a0h|apply a0a)<;>intro h<;>try (exfalso;(try dsimp only at h);omega))|refine a0i ?_)
  all_goals first|(exfalso;simp_all;done)|((conv=>whnf);exact a0n (l:= [0,1,2,3,4]) rfl rfl ⟨rfl,trivial⟩ (a0d a0k))
def l0k (d:Dk) (n:Int):ByteArray×Int:=if d.down=true then (⟨#[]⟩,13) else if n<0\/d.nn<=n then (⟨#[]⟩,4) else (d.now.getD n.toNat ⟨#[]⟩,0)
theorem y0l (d:Dk) (n:Int):FC Tryz.prog 5 97 [.ptr 1 0 0 0,.int .i64 n] [(1,some (.one true (.cells (dkC 4 d)))),(3,some (.one true (.cols d.nn [.sc (.strs d.now)])))] (a0s (.tup [.str (l0k d n).1,.int .i64 (l0k d n).2]) [] 5):=by
 have hrun:=c0W d
 rcases e0p d with ⟨hr,hd⟩|⟨hr,hd⟩
 .rw [show l0k d n=(⟨#[]⟩,13) from by simp [l0k,hd]]
  rw [hr] at hrun
  refine a0p mixed a0x Tryz.func97 rfl (by kernel_rfl) (by kernel_rfl) (by kernel_rfl) ?_
  repeat' ((conv=>whnf);first|refine a0e (l:= [0,1,2,3,4]) (hrun) ?_|((first|apply a0f|apply a0c|apply a0g|apply a0b|apply a0h|apply a0a)<;>intro h<;>try (exfalso;(try dsimp only at h);omega))|refine a0i ?_)
  all_goals (conv=>whnf)
  exact a0n (l:= [0,1,2,3,4]) rfl rfl trivial a0k
 .rw [hr] at hrun
  by_cases hn:n<0\/d.nn<=n
  .rw [show l0k d n=(⟨#[]⟩,4) from by simp [l0k,hd,hn]]
   refine a0p mixed a0x Tryz.func97 rfl (by kernel_rfl) (by kernel_rfl) (by kernel_rfl) ?_
   repeat' ((conv=>whnf);first|refine a0e (l:= [0,1,2,3,4]) (hrun) ?_|((first|apply a0f|apply a0c|apply a0g|apply a0b|apply a0h|apply a0a)<;>intro h<;>try (exfalso;(try dsimp only at h);omega))|refine a0i ?_)
   all_goals (conv=>whnf)
   all_goals exact a0n (l:= [0,1,2,3,4]) rfl rfl trivial a0k
  .rw [show l0k d n=(d.now.getD n.toNat ⟨#[]⟩,0) from by simp [l0k,hd,hn]]
   refine a0p mixed a0x Tryz.func97 rfl (by kernel_rfl) (by kernel_rfl) (by kernel_rfl) ?_
   repeat' ((conv=>whnf);first|refine a0e (l:= [0,1,2,3,4]) (hrun) ?_|((first|apply a0f|apply a0c|apply a0g|apply a0b|apply a0h|apply a0a)<;>intro h<;>try (exfalso;(try dsimp only at h);omega))|refine a0i ?_)
   all_goals (conv=>whnf)
   all_goals exact a0n (l:= [0,1,2,3,4]) rfl rfl trivial a0k
theorem k0I (d:Dk):FC Tryz.prog 5 82 [.ptr 1 0 0 0] [(1,some (.one true (.cells (dkC 4 d))))] (a0s (.int .i64 d.nn) [] 5):=by
 refine a0p mixed a0x Tryz.func82 rfl (by kernel_rfl) (by kernel_rfl) (by kernel_rfl) ?_
 repeat' ((conv=>whnf);first|((first|apply a0f|apply a0c|apply a0g|apply a0b|apply a0h|apply a0a)<;>intro h<;>try (exfalso;(try dsimp only at h);omega))|refine a0i ?_)
 all_goals (conv=>whnf)
 exact a0n (l:= [0,1,2,3,4]) rfl rfl trivial a0k
theorem y0m (d:Dk):FC Tryz.prog 5 72 [.ptr 1 0 0 0] [(1,some (.one true (.cells (dkC 4 d))))] (a0s (.bool d.down) [] 5):=by
 refine a0p mixed a0x Tryz.func72 rfl (by kernel_rfl) (by kernel_rfl) (by kernel_rfl) ?_
 repeat' ((conv=>whnf);first|((first|apply a0f|apply a0c|apply a0g|apply a0b|apply a0h|apply a0a)<;>intro h<;>try (exfalso;(try dsimp only at h);omega))|refine a0i ?_)
 all_goals (conv=>whnf)
 exact a0n (l:= [0,1,2,3,4]) rfl rfl trivial a0k
end
section
attribute [local irreducible] a0B a0D a0u a0Y
def i0D (d:Dk) (n:Int) (s:ByteArray):Dk:= { d with now:=d.now.set n.toNat s,pn:=d.pn++ [n],ps:=d.ps++ [s],np:=d.np+1}
theorem r0q {d:Dk} (h:d.ok) {n:Int} {s:ByteArray} (hn:0<=n/\n<(d.nn:Int)) (hp:d.np<4096):(i0D d n s).ok:=by
 refine ⟨h.kl,by simp [i0D,h.nl],by simp [i0D,h.pl],by simp [i0D,h.sl],?_,by simp only [i0D];omega,h.nm,h.sb⟩
 intro x hx
 simp only [i0D,List.mem_append,List.mem_singleton] at hx
 rcases hx with hx|rfl
 .exact h.pb x hx
 .exact hn
def b0z (d:Dk) (n:Int) (s:ByteArray):Dk×Int:=
 if d.down=true then (d,13) else if n<0\/d.nn<=n then (d,4) else if 64<s.size then (d,3) else if 4096<=d.np then (d,12)
 else if d.steps=1 then (c0s d.mask (i0D d n s),13) else (c0E (i0D d n s),0)
theorem u0M (d:Dk) (h0:d.ok) (n:Int) (s:ByteArray):FC Tryz.prog 5 57 [.ptr 1 0 0 0,.int .i64 n,.str s] (dkH 4 d) (a0s (.int .i64 (b0z d n s).2) (dkH 5 (b0z d n s).1) 6):=by
 have hrun:=c0W d
 rcases e0p d with ⟨hr,hd⟩|⟨hr,hd⟩
 .rw [show b0z d n s=(d,13) from by simp [b0z,hd]]
  rw [hr] at hrun
  refine a0p mixed a0x Tryz.func57 rfl (by kernel_rfl) (by kernel_rfl) (by kernel_rfl) ?_
  repeat' ((conv=>whnf);first|refine a0e (l:= [0,1,2,3,4]) (hrun) ?_|((first|apply a0f|apply a0c|apply a0g|apply a0b|apply a0h|apply a0a)<;>intro h<;>try (exfalso;(try dsimp only at h);omega))|refine a0i ?_)
  all_goals (conv=>whnf)
  exact a0n (l:= [0,1,2,3,4,4]) rfl rfl ⟨rfl,rfl,rfl,rfl,trivial⟩ (e0o _ _)
 .rw [hr] at hrun
  by_cases hn:n<0\/d.nn<=n
  .rw [show b0z d n s=(d,4) from by simp [b0z,hd,hn]]
   refine a0p mixed a0x Tryz.func57 rfl (by kernel_rfl) (by kernel_rfl) (by kernel_rfl) ?_
   repeat' ((conv=>whnf);first|refine a0e (l:= [0,1,2,3,4]) (hrun) ?_|((first|apply a0f|apply a0c|apply a0g|apply a0b|apply a0h|apply a0a)<;>intro h<;>try (exfalso;(try dsimp only at h);omega))|refine a0i ?_)
   all_goals (conv=>whnf)
   all_goals exact a0n (l:= [0,1,2,3,4,4]) rfl rfl ⟨rfl,rfl,rfl,rfl,trivial⟩ (e0o _ _)
  by_cases hs:64<s.size
  .rw [show b0z d n s=(d,3) from by simp [b0z,hd,hn,hs]]
   refine a0p mixed a0x Tryz.func57 rfl (by kernel_rfl) (by kernel_rfl) (by kernel_rfl) ?_
   repeat' ((conv=>whnf);first|refine a0e (l:= [0,1,2,3,4]) (hrun) ?_|((first|apply a0f|apply a0c|apply a0g|apply a0b|apply a0h|apply a0a)<;>intro h<;>try (exfalso;(try dsimp only at h);omega))|refine a0i ?_)
   all_goals (conv=>whnf)
   all_goals exact a0n (l:= [0,1,2,3,4,4]) rfl rfl ⟨rfl,rfl,rfl,rfl,trivial⟩ (e0o _ _)
  by_cases hp:4096<=d.np
  .rw [show b0z d n s=(d,12) from by simp [b0z,hd,hn,hs,hp]]
   refine a0p mixed a0x Tryz.func57 rfl (by kernel_rfl) (by kernel_rfl) (by kernel_rfl) ?_
   repeat' ((conv=>whnf);first|refine a0e (l:= [0,1,2,3,4]) (hrun) ?_|((first|apply a0f|apply a0c|apply a0g|apply a0b|apply a0h|apply a0a)<;>intro h<;>try (exfalso;(try dsimp only at h);omega))|refine a0i ?_)
   all_goals (conv=>whnf)
   all_goals exact a0n (l:= [0,1,2,3,4,4]) rfl rfl ⟨rfl,rfl,rfl,rfl,trivial⟩ (e0o _ _)
  have hok:=r0q (s:=s) h0 (n:=n) (by omega) (by omega)
  by_cases ht:d.steps=1
  .rw [show b0z d n s=(c0s d.mask (i0D d n s),13) from by simp [b0z,hd,hn,hs,hp,ht]]
   have hcr:=i0b (i0D d n s) hok d.mask
   refine a0p mixed a0x Tryz.func57 rfl (by kernel_rfl) (by kernel_rfl) (by kernel_rfl) ?_
   repeat' ((conv=>whnf);first|refine a0e (l:= [0,1,2,3,4]) (hrun) ?_|refine a0e (l:= [0,1,2,3,6]) (hcr) ?_|((first|apply a0f|apply a0c|apply a0g|apply a0b|apply a0h|apply a0a)<;>intro h<;>try (exfalso;(try dsimp only at h);omega))|refine a0i ?_)
   all_goals (conv=>whnf)
   all_goals exact a0n (l:= [0,1,2,3,4,7]) rfl rfl ⟨rfl,rfl,rfl,rfl,trivial⟩ (e0o _ _)
  .rw [show b0z d n s=(c0E (i0D d n s),0) from by simp [b0z,hd,hn,hs,hp,ht]]
   have hct:=u0J (i0D d n s) h0.sb
   refine a0p mixed a0x Tryz.func57 rfl (by kernel_rfl) (by kernel_rfl) (by kernel_rfl) ?_
   repeat' ((conv=>whnf);first|refine a0e (l:= [0,1,2,3,4]) (hrun) ?_|refine a0e (l:= [0,1,2,3,6]) (hct) ?_|((first|apply a0f|apply a0c|apply a0g|apply a0b|apply a0h|apply a0a)<;>intro h<;>try (exfalso;(try dsimp only at h);omega))|refine a0i ?_)
   all_goals (conv=>whnf)
   all_goals exact a0n (l:= [0,1,2,3,4,6]) rfl rfl ⟨rfl,rfl,rfl,rfl,trivial⟩ (e0o _ _)
def dkN (d:Dk):List SV:= [.sl 2 0 0 d.nn,.sl 3 0 0 d.nn,.nsl,.bool d.down,.int .i64 d.steps,.int .u64 d.mask]
theorem r0r (d:Dk) (hs:0<=d.steps/\d.steps<=1000000):FC Tryz.prog 4 85 [.ptr 1 0 0 0] [(1,some (.one false (.cells (dkN d))))]
  (a0s (.tup []) [(1,some (.one false (.cells (dkN (c0E d)))))] 4):=by
 refine a0p mixed a0x Tryz.func85 rfl (by kernel_rfl) (by kernel_rfl) (by kernel_rfl) ?_
 repeat' ((conv=>whnf);first|((first|apply a0f|apply a0c|apply a0g|apply a0b|apply a0h|apply a0a)<;>intro h<;>try (exfalso;(try dsimp only at h);omega))|refine a0i ?_)
 all_goals (conv=>whnf)
 .refine a0n (l:= [0,1,2,3]) rfl rfl ⟨?_,trivial⟩ (a0d a0k)
  have e:d0f d.steps=IntKind.i64.wrap (d.steps-1):=by rw [a0G (by omega) (by omega)];unfold d0f;rw [if_pos (by assumption)]
  unfold c0E;rw [e];rfl
 .refine a0n (l:= [0,1,2,3]) rfl rfl ⟨?_,trivial⟩ (a0d a0k)
  have e:d0f d.steps=d.steps:=by unfold d0f;rw [if_neg (by assumption)]
  unfold c0E;rw [e];rfl
def y0N (_:Nat):Bool:=true
def f0N (d:Dk):Dk:= { d with kept:=b0x y0N d.pn d.ps d.np d.kept,pn:= [],ps:= [],np:=0}
def b0P (d:Dk):Dk×Int:=if d.down=true then (d,13) else if d.steps=1 then (c0s d.mask d,13) else (c0E (f0N d),0)
theorem u0N (d:Dk) (h0:d.ok):FC Tryz.prog 5 58 [.ptr 1 0 0 0] (dkH 4 d) (a0s (.int .i64 (b0P d).2) (dkH 5 (b0P d).1) 6):=by
 have hrun:=c0W d
 have hpm:=h0.pm
 have hpl:=h0.pl
 rcases e0p d with ⟨hr,hd⟩|⟨hr,hd⟩
 .rw [show b0P d=(d,13) from by simp [b0P,hd]]
  rw [hr] at hrun
  refine a0p mixed a0x Tryz.func58 rfl (by kernel_rfl) (by kernel_rfl) (by kernel_rfl) ?_
  repeat' ((conv=>whnf);first|refine a0e (l:= [0,1,2,3,4]) (hrun) ?_|((first|apply a0f|apply a0c|apply a0g|apply a0b|apply a0h|apply a0a)<;>intro h<;>try (exfalso;(try dsimp only at h);omega))|refine a0i ?_)
  all_goals (conv=>whnf)
  exact a0n (l:= [0,1,2,3,4,4]) rfl rfl ⟨rfl,rfl,rfl,rfl,trivial⟩ (e0o _ _)
 .rw [hr] at hrun
  by_cases ht:d.steps=1
  .rw [show b0P d=(c0s d.mask d,13) from by simp [b0P,hd,ht]]
   have hcr:=i0b d h0 d.mask
   refine a0p mixed a0x Tryz.func58 rfl (by kernel_rfl) (by kernel_rfl) (by kernel_rfl) ?_
   repeat' ((conv=>whnf);first|refine a0e (l:= [0,1,2,3,4]) (hrun) ?_|refine a0e (l:= [0,1,2,3,4]) (hcr) ?_|((first|apply a0f|apply a0c|apply a0g|apply a0b|apply a0h|apply a0a)<;>intro h<;>try (exfalso;(try dsimp only at h);omega))|refine a0i ?_)
   all_goals (conv=>whnf)
   all_goals exact a0n (l:= [0,1,2,3,4,5]) rfl rfl ⟨rfl,rfl,rfl,rfl,trivial⟩ (e0o _ _)
  .rw [show b0P d=(c0E (f0N d),0) from by simp [b0P,hd,ht]]
   have hct:=r0r (f0N d) h0.sb
   refine a0p mixed a0x Tryz.func58 rfl (by kernel_rfl) (by kernel_rfl) (by kernel_rfl) ?_
   repeat' ((conv=>whnf);first|refine a0e (l:= [0,1,2,3,4]) (hrun) ?_|((first|apply a0f|apply a0c|apply a0g|apply a0b|apply a0h|apply a0a)<;>intro h<;>try (exfalso;(try dsimp only at h);omega))|refine a0i ?_)
   (conv=>whnf)
   refine a0z (fun k:Nat=>⟨[(0,.ptr 1 0 0 0),(25,.sl 4 0 0 d.np),(26,.int .i64 d.np),(27,.int .i64 k)],
    [(1,some (.one false (.cells (dkC 4 d)))),(2,some (.one false (.cols d.nn [.sc (.strs (b0x y0N d.pn d.ps k d.kept))]))),
     (3,some (.one false (.cols d.nn [.sc (.strs d.now)]))),
     (4,some (.one false (.cols d.np [.sc (.ints .i64 d.pn),.sc (.strs d.ps)])))],5⟩) (fun k=>k<=d.np) (fun k=>d.np-k) 0 [0,1,2,3,4] [] ⟨rfl,⟨rfl,rfl,rfl,rfl,trivial⟩,⟨rfl,rfl,rfl,rfl,trivial⟩⟩ (by omega) ?_
   intro k hk
   by_cases hlt:k<d.np
   .have hb:=h0.pb _ (t0h d.pn k 0 (by omega))
    repeat' ((conv=>whnf);first|(refine a0q hb ?_)|((first|apply a0f|apply a0c|apply a0g|apply a0b|apply a0h|apply a0a)<;>intro h<;>try (exfalso;(try dsimp only at h);omega))|refine a0i ?_)
    all_goals (conv=>whnf)
    all_goals refine ⟨k+1,[0,1,2,3,4],[],by omega,by omega,⟨rfl,⟨rfl,rfl,rfl,congrArg (fun z=>some (SV.int .i64 z)) (b0a (by omega)),trivial⟩,⟨rfl,rfl,rfl,rfl,trivial⟩⟩⟩
   .have e:k=d.np:=by omega
    subst e
    repeat' ((conv=>whnf);first|refine a0e (l:= [0,1,2,3]) (hct) ?_|((first|apply a0f|apply a0c|apply a0g|apply a0b|apply a0h|apply a0a)<;>intro h<;>try (exfalso;(try dsimp only at h);omega))|refine a0i ?_)
    all_goals (conv=>whnf)
    exact e0g (l:= [0,1,2,3,4,5]) [.cell 1 2 [.sc (.ints .i64 []),.sc (.strs [])]] ⟨rfl,rfl,rfl,rfl,rfl,rfl,trivial⟩ (e0o _ _)
def v0a (n:Nat):Dk:=⟨List.replicate n ⟨#[]⟩,List.replicate n ⟨#[]⟩,n,[],[],0,false,0,0⟩
theorem y0n (n:Nat) (h:n<=4096):(v0a n).ok:=⟨by simp [v0a],by simp [v0a],rfl,rfl,by simp [v0a],by simp [v0a],h,by simp [v0a]⟩
theorem b1n (n:Nat) (h:1<=n/\n<=4096):FC Tryz.prog 1 5 [.int .i64 n] [] (a0s (.tup [.ptr 1 0 0 0,.int .i64 0]) (dkH 4 (v0a n)) 5):=by
 refine a0p mixed a0x Tryz.func5 rfl (by kernel_rfl) (by kernel_rfl) (by kernel_rfl) ?_
 repeat' ((conv=>whnf);first|((first|apply a0f|apply a0c|apply a0g|apply a0b|apply a0h|apply a0a)<;>intro h<;>try (exfalso;(try dsimp only at h);omega))|refine a0i ?_)
 all_goals (conv=>whnf)
 exact e0g (l:= [0,3,1,2,4]) [.cell 3 2 [.sc (.ints .i64 []),.sc (.strs [])]] ⟨rfl,rfl,rfl,rfl,rfl,rfl,trivial⟩ (e0o _ _)
end
section
attribute [local irreducible] a0B a0D a0u a0Y
attribute [local irreducible] seq ByteArray.extract
structure Jr where
 recs:List ByteArray
 nr:Nat
 groups:Nat
 used:Nat
 head:Int
 grp:List ByteArray
 ng:Nat
 stopped:Bool
structure Jr.ok (j:Jr) (d:Dk):Prop where
 rl:j.recs.length=j.nr
 gl:j.grp.length=j.ng
 us:j.used<=d.nn
 gs:j.groups<=j.used
 rm:j.nr<=256*j.groups
 gm:j.ng<=256
 go:okR j.grp
 hb:0<=j.head/\j.head<18446744073709551616
def dkJ (p:Nat) (d:Dk):List SV:= [.sl 3 0 0 d.nn,.sl 4 0 0 d.nn,.sl p 0 0 d.np,.bool d.down,.int .i64 d.steps,.int .u64 d.mask]
def jrC (r g:Nat) (j:Jr):List SV:= [.ptr 2 0 0 0,.sl r 0 0 j.nr,.int .i64 j.groups,.int .i64 j.used,.int .u64 j.head,.sl g 0 0 j.ng,.bool j.stopped]
def b0y (ro:Bool) (l:List SV):Option HB:=some (.one ro (.cells l))
def h1d (p:Nat) (d:Dk):a0v:= [(2,b0y false (dkJ p d)),(3,grW d.nn d.kept),(4,grW d.nn d.now),(p,some (.one false (.cols d.np [.sc (.ints .i64 d.pn),.sc (.strs d.ps)])))]
def jrH (r g p:Nat) (j:Jr) (d:Dk):a0v:=(1,b0y false (jrC r g j))::(r,grW j.nr j.recs)::(g,grW j.ng j.grp)::h1d p d
theorem p0B (r g p:Nat) (j:Jr) (d:Dk):e0t (jrH r g p j d):=a0d (a0d (a0d (a0d (a0d (a0d (a0d a0k))))))
def f1m (j:Jr) (m:Nat) (g:List ByteArray) (u:Nat) (h:Int):Jr:= { j with recs:=j.recs++g,nr:=j.nr+m,groups:=j.groups+1,used:=u,head:=h}
theorem y0o (j:Jr) (m:Nat) (g:List ByteArray) (u:Nat) (h:Int) (hg:g.length=m) (h1:j.groups<=1000000) (h2:j.nr<=1000000000) (h3:m<=1000000):
  FC Tryz.prog 9 59 [.ptr 1 0 0 0,.sl 8 0 0 m,.int .i64 u,.int .u64 h] [(1,b0y false (jrC 5 6 j)),(5,grW j.nr j.recs),(8,grB m g)]
   (a0s (.tup []) [(1,b0y false (jrC 9 6 (f1m j m g u h))),(9,grW (j.nr+m) (j.recs++g))] 10):=by
 have e:IntKind.i64.wrap ((j.groups:Int)+1)=((j.groups+1:Nat):Int):=b0a (by omega)
 have es:seg 0 m g=g:=by unfold seg;rw [List.drop_zero,List.take_of_length_le (by omega)]
 refine a0p mixed a0x Tryz.func59 rfl (by kernel_rfl) (by kernel_rfl) (by kernel_rfl) ?_
 repeat' ((conv=>whnf);first|((first|apply a0f|apply a0c|apply a0g|apply a0b|apply a0h|apply a0a)<;>intro h<;>try (exfalso;(try dsimp only at h);omega))|refine a0i ?_)
 all_goals (conv=>whnf)
 rw [e,es]
 exact a0n (l:= [0,1,2,3,4,5,6,7,8,9]) rfl rfl ⟨rfl,rfl,trivial⟩ (a0d (a0d a0k))
def rdK (now:List ByteArray):Nat->Nat->Int->ByteArray->Option (List ByteArray×Nat×Int)
 |0,_,_,_=>none
 |f+1,n,h,t=>if t0b h (now.getD n ⟨#[]⟩) then (if k0C (now.getD n ⟨#[]⟩)=true then (match ucG (t++unP (now.getD n ⟨#[]⟩)) with|some g=>some (g,n+1,chI h (unR (now.getD n ⟨#[]⟩)))|none=>none) else rdK now f (n+1) (chI h (unR (now.getD n ⟨#[]⟩))) (t++unP (now.getD n ⟨#[]⟩))) else none
section
variable {now:List ByteArray} {f n:Nat} {h:Int} {t:ByteArray}
theorem u0O (ho:¬t0b h (now.getD n ⟨#[]⟩)):rdK now (f+1) n h t=none:=by simp only [rdK];rw [if_neg ho]
theorem g0w (ho:t0b h (now.getD n ⟨#[]⟩)) (hl:k0C (now.getD n ⟨#[]⟩)=false):rdK now (f+1) n h t=rdK now f (n+1) (chI h (unR (now.getD n ⟨#[]⟩))) (t++unP (now.getD n ⟨#[]⟩)):=by
 simp only [rdK];rw [if_pos ho,hl,if_neg (by decide)]
theorem i0c (ho:t0b h (now.getD n ⟨#[]⟩)) (hl:k0C (now.getD n ⟨#[]⟩)=true):rdK now (f+1) n h t=(match ucG (t++unP (now.getD n ⟨#[]⟩)) with|some g=>some (g,n+1,chI h (unR (now.getD n ⟨#[]⟩)))|none=>none):=by
 simp only [rdK];rw [if_pos ho,if_pos hl]
end
theorem y0p:∀{s:ByteArray} {g:List ByteArray},ucG s=some g->g.length<=256:=by
 have key:∀(f:Nat) (s:ByteArray) (acc g:List ByteArray),acc.length<=256->ucR f s acc=some g->g.length<=256:=by
  intro f
  induction f with
  |zero=>intro s acc g _ h;cases h
  |succ f ih=>
   intro s acc g hl h
   by_cases h0:s.size=0
   .by_cases h1:acc.length=0
    .simp only [ucR] at h;rw [if_pos h0,if_pos h1] at h;cases h
    .rw [y0a h0 (by omega)] at h;cases h;exact hl
   .by_cases ha:ucA s
    .by_cases hb:ucB s acc.length
     .rw [r0k h0 ha hb] at h
      exact ih _ _ _ (by rw [List.length_append];have:=hb.2;show acc.length+1<=256;omega) h
     .rw [c1r h0 hb] at h;cases h
    .rw [c1q h0 ha] at h;cases h
 intro s g h
 exact key _ s [] g (Nat.zero_le _) h
def nxJ (j:Jr):Option (List ByteArray×Nat×Int)->Jr
 |none=>j
 |some (g,n,h)=>f1m j g.length g n h
def nxR (j:Jr) (d:Dk):Option (List ByteArray×Nat×Int):=rdK d.now (d.nn-j.used) j.used j.head ⟨#[]⟩
def nxB:Option (List ByteArray×Nat×Int)->Bool
 |none=>false
 |some _=>true
structure Dk.sz (d:Dk):Prop where
 now:∀b∈d.now,b.size<=64
 kept:∀b∈d.kept,b.size<=64
 ps:∀b∈d.ps,b.size<=64
theorem p0C {l:List ByteArray} (h:∀b∈l,b.size<=64) (i:Nat):(l.getD i ⟨#[]⟩).size<=64:=by
 rcases Nat.lt_or_ge i l.length with hi|hi
 .rw [List.getD,List.getElem?_eq_getElem hi];exact h _ (List.getElem_mem hi)
 .rw [List.getD,List.getElem?_eq_none hi];decide
def nxS (j:Jr) (d:Dk) (x:Nat×Nat×Int×ByteArray×Bool):VS:=match x with
 |(_,n,h,_,false)=>⟨[(0,.ptr 1 0 0 0),(3,.ptr 8 0 0 0),(4,.int .u64 h),(5,.int .i64 n)],[(1,b0y false (jrC 5 6 j)),(2,b0y true (dkJ 7 d)),(4,grB d.nn d.now),(5,grW j.nr j.recs),(8,x0t)],9⟩
 |(_,n,h,t,true)=>⟨[(0,.ptr 1 0 0 0),(3,.ptr 8 0 0 0),(4,.int .u64 h),(5,.int .i64 n)],[(1,b0y false (jrC 5 6 j)),(2,b0y true (dkJ 7 d)),(4,grB d.nn d.now),(5,grW j.nr j.recs),(8,i0y 9 t.size),(9,e0K t)],10⟩
theorem e1z (j:Jr) (d:Dk) (hd:d.down=false) (hnn:d.nn<=4096) (hsz:∀b∈d.now,b.size<=64) (hu:j.used<=d.nn) (hgs:j.groups<=j.used) (hrm:j.nr<=256*j.groups):
  FC Tryz.prog 8 73 [.ptr 1 0 0 0] [(1,b0y false (jrC 5 6 j)),(2,b0y true (dkJ 7 d)),(4,grB d.nn d.now),(5,grW j.nr j.recs)]
   (a0s (.bool (nxB (nxR j d))) [(1,b0y false (jrC 8 6 (nxJ j (nxR j d)))),(8,grW (nxJ j (nxR j d)).nr (nxJ j (nxR j d)).recs)] 9):=by
 have c1:=k0I d
 obtain ⟨R,hR⟩:∃R,nxR j d=R:=⟨_,rfl⟩
 rw [hR]
 refine a0p mixed a0x Tryz.func73 rfl (by kernel_rfl) (by kernel_rfl) (by kernel_rfl) ?_
 repeat' ((conv=>whnf);first|((first|apply a0f|apply a0c|apply a0g|apply a0b|apply a0h|apply a0a)<;>intro h<;>try (exfalso;(try dsimp only at h);omega))|refine a0i ?_)
 all_goals (conv=>whnf)
 refine a0z (nxS j d) (fun x=>x.2.1+x.1=d.nn/\j.used<=x.2.1/\rdK d.now x.1 x.2.1 x.2.2.1 x.2.2.2.1=R/\(x.2.2.2.2=false->x.2.2.2.1=⟨#[]⟩)/\(x.2.2.2.2=true->0<x.2.2.2.1.size/\x.2.2.2.1.size<=64*x.2.1)) (fun x=>x.1) (d.nn-j.used,j.used,j.head,⟨#[]⟩,false) [0,1,2,3,4,5,6,7,8] [] ⟨rfl,⟨rfl,rfl,rfl,rfl,trivial⟩,⟨rfl,rfl,rfl,rfl,rfl,trivial⟩⟩ ⟨by dsimp only;omega,Nat.le_refl _,hR,fun _=>rfl,fun e=>by cases e⟩ ?_
 rintro ⟨f,n,hh,t,st⟩ ⟨hf,hun,hr,hs0,hs1⟩
 dsimp only at hf hun hr hs0 hs1⊢
 have c2:=y0l d (n:Int)
 cases f with
 |zero=>
  have hn:n=d.nn:=by omega
  have hr:R=none:=hr.symm
  subst hr
  cases st with
  |false=>
   repeat' ((conv=>whnf);first|refine a0e (l:= [0,2,3,4,7]) (c1) ?_|refine a0l (l:= [0,2,3,4,7]) (c1) ?_|((first|apply a0f|apply a0c|apply a0g|apply a0b|apply a0h|apply a0a)<;>intro h<;>try (exfalso;(try dsimp only at h);omega))|refine a0i ?_)
   all_goals (conv=>whnf)
   all_goals first
    |(exfalso;omega)
    |exact a0n (l:= [0,1,2,3,4,5,6,7,5]) rfl rfl ⟨rfl,rfl,trivial⟩ (a0d (a0d a0k))
  |true=>
   repeat' ((conv=>whnf);first|refine a0e (l:= [0,2,3,4,7]) (c1) ?_|refine a0l (l:= [0,2,3,4,7]) (c1) ?_|((first|apply a0f|apply a0c|apply a0g|apply a0b|apply a0h|apply a0a)<;>intro h<;>try (exfalso;(try dsimp only at h);omega))|refine a0i ?_)
   all_goals (conv=>whnf)
   all_goals first
    |(exfalso;omega)
    |exact a0n (l:= [0,1,2,3,4,5,6,7,5]) rfl rfl ⟨rfl,rfl,trivial⟩ (a0d (a0d a0k))
 |succ f=>
  have hn:n<d.nn:=by omega
  obtain ⟨B,hB⟩:∃B,d.now.getD n ⟨#[]⟩=B:=⟨_,rfl⟩
  have zB:B.size<=64:=by rw [<-hB];exact p0C hsz n
  have er:l0k d (n:Int)=(d.now.getD n ⟨#[]⟩,0):=by unfold l0k;rw [if_neg (by rw [hd];decide),if_neg (by omega),Int.toNat_natCast]
  rw [er,hB] at c2
  dsimp only at c2
  by_cases ho:t0b hh B
  .have c3:=u0G hh B (by omega) ho
   have z1:=ho.1
   have zp:=n0F ho.1
   have ho':t0b hh (d.now.getD n ⟨#[]⟩):=by rw [hB];exact ho
   cases st with
   |false=>
    have ht:=hs0 rfl
    subst ht
    have c4:=h0Y (unP B) (by omega) (by omega)
    cases hl:k0C B with
    |false=>
     unfold unV at c3
     rw [hl] at c3
     rw [g0w ho' (by rw [hB];exact hl),hB,m0k] at hr
     repeat' ((conv=>whnf);first|refine a0e (l:= [0,2,3,4,7]) (c1) ?_|refine a0l (l:= [0,2,3,4,7]) (c1) ?_|refine a0e (l:= [0,2,3,4,7]) (c2) ?_|refine a0l (l:= [0,2,3,4,7]) (c2) ?_|(refine a0j (c3) rfl rfl rfl ?_)|(refine a0m (c3) rfl rfl rfl ?_)|refine a0e (l:= [0,8]) (c4) ?_|((first|apply a0f|apply a0c|apply a0g|apply a0b|apply a0h|apply a0a)<;>intro h<;>try (exfalso;(try dsimp only at h);omega))|refine a0i ?_)
     all_goals (conv=>whnf)
     all_goals first
      |(exfalso;omega)
      |(exfalso;exact h rfl)
      |skip
     refine ⟨(f,n+1,chI hh (unR B),unP B,true),[0,1,2,3,4,5,6,7,8,9],[],⟨by dsimp only;omega,by dsimp only;omega,hr,(fun e=>by cases e),fun _=>⟨by dsimp only;omega,by dsimp only;omega⟩⟩,by dsimp only;omega,⟨rfl,⟨rfl,rfl,rfl,congrArg (fun z=>some (SV.int .i64 z)) (b0a (by omega)),trivial⟩,⟨rfl,rfl,rfl,rfl,rfl,rfl,trivial⟩⟩⟩
    |true=>
     unfold unV at c3
     rw [hl] at c3
     have c5:=e0n (unP B) (by omega)
     have c6:=t0e (unP B) (by omega) (by omega)
     rw [i0c ho' (by rw [hB];exact hl),hB,m0k] at hr
     cases hu:ucG (unP B) with
     |none=>
      rw [hu] at c6 hr
      subst hr
      simp only [y0b] at c6
      repeat' ((conv=>whnf);first|refine a0e (l:= [0,2,3,4,7]) (c1) ?_|refine a0l (l:= [0,2,3,4,7]) (c1) ?_|refine a0e (l:= [0,2,3,4,7]) (c2) ?_|refine a0l (l:= [0,2,3,4,7]) (c2) ?_|(refine a0j (c3) rfl rfl rfl ?_)|(refine a0m (c3) rfl rfl rfl ?_)|refine a0e (l:= [0,8]) (c4) ?_|refine a0e (l:= [0,8,9]) (c5) ?_|refine a0e (l:= [0]) (c6) ?_|((first|apply a0f|apply a0c|apply a0g|apply a0b|apply a0h|apply a0a)<;>intro h<;>try (exfalso;(try dsimp only at h);omega))|refine a0i ?_)
      all_goals (conv=>whnf)
      all_goals first
       |(exfalso;omega)
       |exact a0n (l:= [0,1,2,3,4,5,6,7,5]) rfl rfl ⟨rfl,rfl,trivial⟩ (a0d (a0d a0k))
     |some g=>
      rw [hu] at c6 hr
      subst hr
      simp only [y0b] at c6
      have c7:=y0o j g.length g (n+1) (chI hh (unR B)) rfl (by omega) (by omega) (Nat.le_trans (y0p hu) (by omega))
      have e1:IntKind.i64.wrap ((n:Int)+1)=((n+1:Nat):Int):=b0a (by omega)
      rw [<-e1] at c7
      repeat' ((conv=>whnf);first|refine a0e (l:= [0,2,3,4,7]) (c1) ?_|refine a0l (l:= [0,2,3,4,7]) (c1) ?_|refine a0e (l:= [0,2,3,4,7]) (c2) ?_|refine a0l (l:= [0,2,3,4,7]) (c2) ?_|(refine a0j (c3) rfl rfl rfl ?_)|(refine a0m (c3) rfl rfl rfl ?_)|refine a0e (l:= [0,8]) (c4) ?_|refine a0e (l:= [0,8,9]) (c5) ?_|refine a0e (l:= [0]) (c6) ?_|refine a0e (l:= [0,1,2,3,4,5,6,7,10]) (c7) ?_|((first|apply a0f|apply a0c|apply a0g|apply a0b|apply a0h|apply a0a)<;>intro h<;>try (exfalso;(try dsimp only at h);omega))|refine a0i ?_)
      all_goals (conv=>whnf)
      all_goals first
       |(exfalso;omega)
       |exact a0n (l:= [0,1,2,3,4,5,6,7,11]) rfl rfl ⟨rfl,rfl,trivial⟩ (a0d (a0d a0k))
   |true=>
    obtain ⟨ht0,ht1⟩:=hs1 rfl
    have c4:=m0e t (unP B) (by omega) (by omega)
    cases hl:k0C B with
    |false=>
     unfold unV at c3
     rw [hl] at c3
     rw [g0w ho' (by rw [hB];exact hl),hB] at hr
     repeat' ((conv=>whnf);first|refine a0e (l:= [0,2,3,4,7]) (c1) ?_|refine a0l (l:= [0,2,3,4,7]) (c1) ?_|refine a0e (l:= [0,2,3,4,7]) (c2) ?_|refine a0l (l:= [0,2,3,4,7]) (c2) ?_|(refine a0j (c3) rfl rfl rfl ?_)|(refine a0m (c3) rfl rfl rfl ?_)|refine a0e (l:= [0,8,9]) (c4) ?_|((first|apply a0f|apply a0c|apply a0g|apply a0b|apply a0h|apply a0a)<;>intro h<;>try (exfalso;(try dsimp only at h);omega))|refine a0i ?_)
     all_goals (conv=>whnf)
     all_goals first
      |(exfalso;omega)
      |(exfalso;exact h rfl)
      |skip
     refine ⟨(f,n+1,chI hh (unR B),t++unP B,true),[0,1,2,3,4,5,6,7,8,10],[],⟨by dsimp only;omega,by dsimp only;omega,hr,(fun e=>by cases e),fun _=>⟨by dsimp only;rw [b0h];omega,by dsimp only;rw [b0h];omega⟩⟩,by dsimp only;omega,⟨rfl,⟨rfl,rfl,rfl,congrArg (fun z=>some (SV.int .i64 z)) (b0a (by omega)),trivial⟩,⟨rfl,rfl,rfl,rfl,rfl,rfl,trivial⟩⟩⟩
    |true=>
     unfold unV at c3
     rw [hl] at c3
     have c5:=e0n (t++unP B) (by rw [b0h];omega)
     have c6:=t0e (t++unP B) (by rw [b0h];omega) (by rw [b0h];omega)
     rw [i0c ho' (by rw [hB];exact hl),hB] at hr
     cases hu:ucG (t++unP B) with
     |none=>
      rw [hu] at c6 hr
      subst hr
      simp only [y0b] at c6
      repeat' ((conv=>whnf);first|refine a0e (l:= [0,2,3,4,7]) (c1) ?_|refine a0l (l:= [0,2,3,4,7]) (c1) ?_|refine a0e (l:= [0,2,3,4,7]) (c2) ?_|refine a0l (l:= [0,2,3,4,7]) (c2) ?_|(refine a0j (c3) rfl rfl rfl ?_)|(refine a0m (c3) rfl rfl rfl ?_)|refine a0e (l:= [0,8,9]) (c4) ?_|refine a0e (l:= [0,8,10]) (c5) ?_|refine a0e (l:= [0]) (c6) ?_|((first|apply a0f|apply a0c|apply a0g|apply a0b|apply a0h|apply a0a)<;>intro h<;>try (exfalso;(try dsimp only at h);omega))|refine a0i ?_)
      all_goals (conv=>whnf)
      all_goals first
       |(exfalso;omega)
       |exact a0n (l:= [0,1,2,3,4,5,6,7,5]) rfl rfl ⟨rfl,rfl,trivial⟩ (a0d (a0d a0k))
     |some g=>
      rw [hu] at c6 hr
      subst hr
      simp only [y0b] at c6
      have c7:=y0o j g.length g (n+1) (chI hh (unR B)) rfl (by omega) (by omega) (Nat.le_trans (y0p hu) (by omega))
      have e1:IntKind.i64.wrap ((n:Int)+1)=((n+1:Nat):Int):=b0a (by omega)
      rw [<-e1] at c7
      repeat' ((conv=>whnf);first|refine a0e (l:= [0,2,3,4,7]) (c1) ?_|refine a0l (l:= [0,2,3,4,7]) (c1) ?_|refine a0e (l:= [0,2,3,4,7]) (c2) ?_|refine a0l (l:= [0,2,3,4,7]) (c2) ?_|(refine a0j (c3) rfl rfl rfl ?_)|(refine a0m (c3) rfl rfl rfl ?_)|refine a0e (l:= [0,8,9]) (c4) ?_|refine a0e (l:= [0,8,10]) (c5) ?_|refine a0e (l:= [0]) (c6) ?_|refine a0e (l:= [0,1,2,3,4,5,6,7,11]) (c7) ?_|((first|apply a0f|apply a0c|apply a0g|apply a0b|apply a0h|apply a0a)<;>intro h<;>try (exfalso;(try dsimp only at h);omega))|refine a0i ?_)
      all_goals (conv=>whnf)
      all_goals first
       |(exfalso;omega)
       |exact a0n (l:= [0,1,2,3,4,5,6,7,12]) rfl rfl ⟨rfl,rfl,trivial⟩ (a0d (a0d a0k))
  .have c3:=n0G hh B (by omega) ho
   unfold unN at c3
   rw [<-hB] at ho
   rw [u0O ho] at hr
   subst hr
   cases st with
   |false=>
    repeat' ((conv=>whnf);first|refine a0e (l:= [0,2,3,4,7]) (c1) ?_|refine a0l (l:= [0,2,3,4,7]) (c1) ?_|refine a0e (l:= [0,2,3,4,7]) (c2) ?_|refine a0l (l:= [0,2,3,4,7]) (c2) ?_|(refine a0j (c3) rfl rfl rfl ?_)|(refine a0m (c3) rfl rfl rfl ?_)|((first|apply a0f|apply a0c|apply a0g|apply a0b|apply a0h|apply a0a)<;>intro h<;>try (exfalso;(try dsimp only at h);omega))|refine a0i ?_)
    all_goals (conv=>whnf)
    all_goals first
     |(exfalso;omega)
     |exact a0n (l:= [0,1,2,3,4,5,6,7,5]) rfl rfl ⟨rfl,rfl,trivial⟩ (a0d (a0d a0k))
   |true=>
    repeat' ((conv=>whnf);first|refine a0e (l:= [0,2,3,4,7]) (c1) ?_|refine a0l (l:= [0,2,3,4,7]) (c1) ?_|refine a0e (l:= [0,2,3,4,7]) (c2) ?_|refine a0l (l:= [0,2,3,4,7]) (c2) ?_|(refine a0j (c3) rfl rfl rfl ?_)|(refine a0m (c3) rfl rfl rfl ?_)|((first|apply a0f|apply a0c|apply a0g|apply a0b|apply a0h|apply a0a)<;>intro h<;>try (exfalso;(try dsimp only at h);omega))|refine a0i ?_)
    all_goals (conv=>whnf)
    all_goals first
     |(exfalso;omega)
     |exact a0n (l:= [0,1,2,3,4,5,6,7,5]) rfl rfl ⟨rfl,rfl,trivial⟩ (a0d (a0d a0k))
end
section
attribute [local irreducible] a0B a0D a0u a0Y
attribute [local irreducible] seq ByteArray.extract
theorem e1A {now:List ByteArray}:∀{f n:Nat} {h:Int} {t:ByteArray} {g:List ByteArray} {n':Nat} {h':Int},rdK now f n h t=some (g,n',h')->n<n'/\n'<=n+f/\g.length<=256/\0<=h'/\h'<18446744073709551616:=by
 intro f
 induction f with
 |zero=>intro n h t g n' h' e;cases e
 |succ f ih=>
  intro n h t g n' h' e
  by_cases ho:t0b h (now.getD n ⟨#[]⟩)
  .cases hl:k0C (now.getD n ⟨#[]⟩) with
   |true=>
    rw [i0c ho hl] at e
    cases hu:ucG (t++unP (now.getD n ⟨#[]⟩)) with
    |none=>rw [hu] at e;cases e
    |some g0=>
     rw [hu] at e
     cases e
     exact ⟨by omega,by omega,y0p hu,(s0y _ _).1,(s0y _ _).2⟩
   |false=>
    rw [g0w ho hl] at e
    obtain ⟨a,b,c⟩:=ih e
    exact ⟨by omega,by omega,c⟩
  .rw [u0O ho] at e;cases e
def opK (d:Dk):Nat->Jr->Jr
 |0,j=>j
 |f+1,j=>match nxR j d with
  |none=>j
  |some r=>opK d f (nxJ j (some r))
def jr0:Jr:=⟨[],0,0,0,0,[],0,false⟩
def opJ (d:Dk):Jr:=opK d (d.nn+1) jr0
structure JO (d:Dk) (j:Jr):Prop where
 us:j.used<=d.nn
 gs:j.groups<=j.used
 rl:j.recs.length=j.nr
 rm:j.nr<=256*j.groups
 ge:j.grp= []
 gz:j.ng=0
 st:j.stopped=false
 hb:0<=j.head/\j.head<18446744073709551616
theorem n0I (d:Dk):JO d jr0:=⟨Nat.zero_le _,Nat.zero_le _,rfl,Nat.zero_le _,rfl,rfl,rfl,by decide⟩
theorem y0q {d:Dk} {j:Jr} (h:JO d j) {r:List ByteArray×Nat×Int} (hr:nxR j d=some r):JO d (nxJ j (some r))/\j.used<(nxJ j (some r)).used:=by
 obtain ⟨g,n,k⟩:=r
 have us:=h.us
 have gs:=h.gs
 have rl:=h.rl
 have rm:=h.rm
 obtain ⟨a,b,c,e⟩:=e1A hr
 refine ⟨⟨by show n<=d.nn;omega,by show j.groups+1<=n;omega,by show (j.recs++g).length=j.nr+g.length;rw [List.length_append];omega,by show j.nr+g.length<=256*(j.groups+1);omega,h.ge,h.gz,h.st,e⟩,a⟩
def jrO (r g:Nat) (j:Jr):List SV:= [.ptr 1 0 0 0,.sl r 0 0 j.nr,.int .i64 j.groups,.int .i64 j.used,.int .u64 j.head,.sl g 0 0 j.ng,.bool j.stopped]
def opS (d:Dk) (x:Nat×Jr):VS:=⟨[(4,.ptr 5 0 0 0)],[(1,b0y true (dkC 4 d)),(3,grB d.nn d.now),(5,b0y false (jrO 6 7 x.2)),(6,grW x.2.nr x.2.recs),(7,grW x.2.ng x.2.grp)],8⟩
theorem e1B (d:Dk) (hd:d.down=false) (hnn:d.nn<=4096) (hsz:∀b∈d.now,b.size<=64):
  FC Tryz.prog 5 45 [.ptr 1 0 0 0] [(1,b0y true (dkC 4 d)),(3,grB d.nn d.now)]
   (a0s (.tup [.ptr 5 0 0 0,.int .i64 0]) [(5,b0y false (jrO 6 7 (opJ d))),(6,grW (opJ d).nr (opJ d).recs),(7,grW (opJ d).ng (opJ d).grp)] 8):=by
 have c1:=y0m d
 rw [hd] at c1
 obtain ⟨J,hJ⟩:∃J,opJ d=J:=⟨_,rfl⟩
 rw [hJ]
 refine a0p mixed a0x Tryz.func45 rfl (by kernel_rfl) (by kernel_rfl) (by kernel_rfl) ?_
 repeat' ((conv=>whnf);first|refine a0e (l:= [0,1,2,3,4]) (c1) ?_|refine a0l (l:= [0,1,2,3,4]) (c1) ?_|((first|apply a0f|apply a0c|apply a0g|apply a0b|apply a0h|apply a0a)<;>intro h<;>try (exfalso;(try dsimp only at h);omega))|refine a0i ?_)
 all_goals (conv=>whnf)
 refine a0z (opS d) (fun x=>opK d x.1 x.2=J/\JO d x.2/\d.nn<x.2.used+x.1) (fun x=>x.1) (d.nn+1,jr0) [0,1,2,3,4,5,6,7] [.cell 5 1 [.sc (.strs [])],.cell 5 5 [.sc (.strs [])]] ⟨rfl,⟨rfl,trivial⟩,⟨rfl,rfl,rfl,rfl,rfl,trivial⟩⟩ ⟨hJ,n0I d,by show d.nn<0+(d.nn+1);omega⟩ ?_
 rintro ⟨f,j⟩ ⟨hf,ho,hu⟩
 dsimp only at hf ho hu⊢
 have us:=ho.us
 obtain ⟨f,rfl⟩:∃k,f=k+1:=⟨f-1,by omega⟩
 have c2:=e1z j d hd hnn hsz ho.us ho.gs ho.rm
 cases hr:nxR j d with
 |none=>
  rw [hr] at c2
  simp only [nxB,nxJ] at c2
  simp only [opK,hr] at hf
  subst hf
  repeat' ((conv=>whnf);first|refine a0e (l:= [0,5,1,2,3,6,7,4]) (c2) ?_|((first|apply a0f|apply a0c|apply a0g|apply a0b|apply a0h|apply a0a)<;>intro h<;>try (exfalso;(try dsimp only at h);omega))|refine a0i ?_)
  all_goals (conv=>whnf)
  all_goals exact a0n (l:= [0,1,2,3,4,5,8,7]) rfl rfl ⟨rfl,rfl,rfl,trivial⟩ (a0d (a0d (a0d a0k)))
 |some r=>
  obtain ⟨h1,h2⟩:=y0q ho hr
  obtain ⟨g,n,k⟩:=r
  rw [hr] at c2
  simp only [nxB] at c2
  simp only [opK,hr] at hf
  repeat' ((conv=>whnf);first|refine a0e (l:= [0,5,1,2,3,6,7,4]) (c2) ?_|((first|apply a0f|apply a0c|apply a0g|apply a0b|apply a0h|apply a0a)<;>intro h<;>try (exfalso;(try dsimp only at h);omega))|refine a0i ?_)
  all_goals (conv=>whnf)
  exact ⟨(f,nxJ j (some (g,n,k))),[0,1,2,3,4,5,8,7],[],⟨hf,h1,by dsimp only;omega⟩,Nat.lt_succ_self _,⟨rfl,⟨rfl,trivial⟩,⟨rfl,rfl,rfl,rfl,rfl,trivial⟩⟩⟩
theorem e1C (j:Jr) (d:Dk) (hnn:d.nn<=4096) (hu:j.used<=d.nn):FC Tryz.prog 8 54 [.ptr 1 0 0 0] [(1,b0y true (jrC 5 6 j)),(2,b0y true (dkJ 7 d))] (a0s (.int .i64 ((d.nn:Int)-(j.used:Int))) [] 8):=by
 have c1:=k0I d
 refine a0p mixed a0x Tryz.func54 rfl (by kernel_rfl) (by kernel_rfl) (by kernel_rfl) ?_
 repeat' ((conv=>whnf);first|refine a0e (l:= [0,2,3,4,7]) (c1) ?_|refine a0l (l:= [0,2,3,4,7]) (c1) ?_|((first|apply a0f|apply a0c|apply a0g|apply a0b|apply a0h|apply a0a)<;>intro h<;>try (exfalso;(try dsimp only at h);omega))|refine a0i ?_)
 all_goals (conv=>whnf)
 rw [a0G (by omega) (by omega)]
 exact a0n (l:= [0,1,2,3,4,5,6,7]) rfl rfl trivial a0k
theorem e1D (j:Jr):FC Tryz.prog 8 31 [.ptr 1 0 0 0] [(1,b0y false (jrC 5 6 j)),(6,grW j.ng j.grp)] (a0s (.tup []) [(1,b0y false (jrC 5 8 (if j.stopped=true then j else { j with grp:= [],ng:=0}))),(8,grW (if j.stopped=true then j else { j with grp:= [],ng:=0}).ng (if j.stopped=true then j else { j with grp:= [],ng:=0}).grp)] 9):=by
 by_cases hs:j.stopped=true
 .rw [if_pos hs]
  refine a0p mixed a0x Tryz.func31 rfl (by kernel_rfl) (by kernel_rfl) (by kernel_rfl) ?_
  repeat' ((conv=>whnf);first|((first|apply a0f|apply a0c|apply a0g|apply a0b|apply a0h|apply a0a)<;>intro h<;>try (exfalso;(try dsimp only at h);omega))|refine a0i ?_)
  all_goals (conv=>whnf)
  all_goals first
   |exact a0n (l:= [0,1,2,3,4,5,6,7,6]) rfl rfl ⟨rfl,rfl,trivial⟩ (a0d (a0d a0k))
   |(exfalso;simp_all;done)
 .rw [if_neg hs]
  refine a0p mixed a0x Tryz.func31 rfl (by kernel_rfl) (by kernel_rfl) (by kernel_rfl) ?_
  repeat' ((conv=>whnf);first|((first|apply a0f|apply a0c|apply a0g|apply a0b|apply a0h|apply a0a)<;>intro h<;>try (exfalso;(try dsimp only at h);omega))|refine a0i ?_)
  all_goals (conv=>whnf)
  all_goals first
   |exact e0g (l:= [0,1,2,3,4,5,6,7,8]) [.cell 1 5 [.sc (.strs [])]] ⟨rfl,rfl,rfl,rfl,trivial⟩ (a0d (a0d a0k))
   |(exfalso;simp_all;done)
end
section
attribute [local irreducible] a0B a0D a0u a0Y e1v
attribute [local irreducible] seq ByteArray.extract
def jaZ (j:Jr) (r:ByteArray):Nat:=4+r.size+d0G j.grp j.ng
def jaE (j:Jr) (d:Dk) (r:ByteArray):Int:=if j.stopped=true then 13 else if 4000<r.size then 3 else if 256<=j.ng then 12 else if d.nn-j.used<(jaZ j r+44)/45 then 12 else 0
def jaJ (j:Jr) (d:Dk) (r:ByteArray):Jr:=if jaE j d r=0 then { j with grp:=j.grp++ [r],ng:=j.ng+1} else j
theorem y0r {j:Jr} {d:Dk} {r:ByteArray} (h:jaE j d r=0):jaJ j d r= { j with grp:=j.grp++ [r],ng:=j.ng+1}:=by unfold jaJ;rw [if_pos h]
theorem m0q {j:Jr} {d:Dk} {r:ByteArray} (h:jaE j d r≠0):jaJ j d r=j:=by unfold jaJ;rw [if_neg h]
theorem p0D (j:Jr) (d:Dk) (r:ByteArray) (hj:j.ok d) (hnn:d.nn<=4096):FC Tryz.prog 8 30 [.ptr 1 0 0 0,.str r] [(1,b0y false (jrC 5 6 j)),(2,b0y true (dkJ 7 d)),(6,grW j.ng j.grp)]
  (a0s (.int .i64 (jaE j d r)) [(1,b0y false (jrC 5 8 (jaJ j d r))),(8,grW (jaJ j d r).ng (jaJ j d r).grp)] 9):=by
 have gl:=hj.gl
 have gm:=hj.gm
 have us:=hj.us
 have go:=hj.go
 by_cases h1:j.stopped=true
 .have e:jaE j d r=13:=by unfold jaE;rw [if_pos h1]
  rw [m0q (by omega),e]
  refine a0p mixed a0x Tryz.func30 rfl (by kernel_rfl) (by kernel_rfl) (by kernel_rfl) ?_
  repeat' ((conv=>whnf);first|((first|apply a0f|apply a0c|apply a0g|apply a0b|apply a0h|apply a0a)<;>intro h<;>try (exfalso;(try dsimp only at h);omega))|refine a0i ?_)
  all_goals (conv=>whnf)
  all_goals first
   |exact a0n (l:= [0,1,2,3,4,5,6,7,6]) rfl rfl ⟨rfl,rfl,trivial⟩ (a0d (a0d a0k))
   |(exfalso;simp_all;done)
 .have h1':j.stopped=false:=by cases h:j.stopped with|false=>rfl|true=>exact absurd h h1
  by_cases h2:4000<r.size
  .have e:jaE j d r=3:=by unfold jaE;rw [if_neg h1,if_pos h2]
   rw [m0q (by omega),e]
   refine a0p mixed a0x Tryz.func30 rfl (by kernel_rfl) (by kernel_rfl) (by kernel_rfl) ?_
   repeat' ((conv=>whnf);first|((first|apply a0f|apply a0c|apply a0g|apply a0b|apply a0h|apply a0a)<;>intro h<;>try (exfalso;(try dsimp only at h);omega))|refine a0i ?_)
   all_goals (conv=>whnf)
   all_goals first
    |exact a0n (l:= [0,1,2,3,4,5,6,7,6]) rfl rfl ⟨rfl,rfl,trivial⟩ (a0d (a0d a0k))
    |(exfalso;simp_all;done)
  .by_cases h3:256<=j.ng
   .have e:jaE j d r=12:=by unfold jaE;rw [if_neg h1,if_neg h2,if_pos h3]
    rw [m0q (by omega),e]
    refine a0p mixed a0x Tryz.func30 rfl (by kernel_rfl) (by kernel_rfl) (by kernel_rfl) ?_
    repeat' ((conv=>whnf);first|((first|apply a0f|apply a0c|apply a0g|apply a0b|apply a0h|apply a0a)<;>intro h<;>try (exfalso;(try dsimp only at h);omega))|refine a0i ?_)
    all_goals (conv=>whnf)
    all_goals first
     |exact a0n (l:= [0,1,2,3,4,5,6,7,6]) rfl rfl ⟨rfl,rfl,trivial⟩ (a0d (a0d a0k))
     |(exfalso;simp_all;done)
   .have c1:=e1C j d hnn us
    have hz:=s0W go j.ng
    have e0:∀h:¬d.nn-j.used<(jaZ j r+44)/45,jaE j d r=0:=fun h=>by unfold jaE;rw [if_neg h1,if_neg h2,if_neg h3,if_neg h]
    have e12:∀h:d.nn-j.used<(jaZ j r+44)/45,jaE j d r=12:=fun h=>by unfold jaE;rw [if_neg h1,if_neg h2,if_neg h3,if_pos h]
    refine a0p mixed a0x Tryz.func30 rfl (by kernel_rfl) (by kernel_rfl) (by kernel_rfl) ?_
    repeat' ((conv=>whnf);first|((first|apply a0f|apply a0c|apply a0g|apply a0b|apply a0h|apply a0a)<;>intro h<;>try (exfalso;(try dsimp only at h);omega))|refine a0i ?_)
    all_goals (conv=>whnf)
    all_goals first
     |(exfalso;simp_all;done)
     |skip
    refine a0z (fun k:Nat=>⟨[(0,.ptr 1 0 0 0),(1,.str r),(5,.int .i64 (4+r.size+d0G j.grp k:Nat)),(29,.sl 6 0 0 j.ng),(30,.int .i64 j.ng),(31,.int .i64 k)],[(1,b0y false (jrC 5 6 j)),(2,b0y true (dkJ 7 d)),(6,grW j.ng j.grp)],8⟩) (fun k=>k<=j.ng) (fun k=>j.ng-k) 0 [0,1,2,3,4,5,6,7] [] ⟨rfl,⟨rfl,rfl,?_,rfl,rfl,rfl,trivial⟩,⟨rfl,rfl,rfl,trivial⟩⟩ (Nat.zero_le _) ?_
    .refine congrArg (fun z=>some (SV.int .i64 z)) ?_
     rw [a0G (by omega) (by omega)]
     show (4:Int)+r.size=((4+r.size+0:Nat):Int)
     omega
    intro k hk
    have hzk:=s0W go k
    have hrk:=p0y go k
    by_cases hlt:k<j.ng
    .repeat' ((conv=>whnf);first|((first|apply a0f|apply a0c|apply a0g|apply a0b|apply a0h|apply a0a)<;>intro h<;>try (exfalso;(try dsimp only at h);omega))|refine a0i ?_)
     all_goals (conv=>whnf)
     all_goals first
      |(exfalso;omega)
      |skip
     refine ⟨k+1,[0,1,2,3,4,5,6,7],[],by omega,by omega,⟨rfl,⟨rfl,rfl,?_,rfl,rfl,congrArg (fun z=>some (SV.int .i64 z)) (b0a (by omega)),trivial⟩,⟨rfl,rfl,rfl,trivial⟩⟩⟩
     refine congrArg (fun z=>some (SV.int .i64 z)) ?_
     rw [show IntKind.i64.wrap (4+((j.grp.getD ((k:Int).toNat+0) ⟨#[]⟩).size:Int))=4+((j.grp.getD k ⟨#[]⟩).size:Int) from a0G (n:=4+((j.grp.getD k ⟨#[]⟩).size:Int)) (by omega) (by omega),a0G (by omega) (by omega)]
     simp only [d0G]
     omega
    .have ek:k=j.ng:=by omega
     subst ek
     have hzd:jaZ j r=4+r.size+d0G j.grp j.ng:=rfl
     have ez:IntKind.i64.wrap ((IntKind.i64.wrap (IntKind.i64.wrap (((4+r.size+d0G j.grp j.ng:Nat):Int)+45)-1)).tdiv 45)=(((jaZ j r+44)/45:Nat):Int):=by
      rw [a0G (n:=((4+r.size+d0G j.grp j.ng:Nat):Int)+45) (by omega) (by omega),a0G (n:=((4+r.size+d0G j.grp j.ng:Nat):Int)+45-1) (by omega) (by omega),Int.tdiv_eq_ediv_of_nonneg (by omega),a0G (by omega) (by omega)]
      omega
     repeat' ((conv=>whnf);first|refine a0e (l:= [0,1,2,3,4,5,6,7]) (c1) ?_|refine a0l (l:= [0,1,2,3,4,5,6,7]) (c1) ?_|((first|apply a0f|apply a0c|apply a0g|apply a0b|apply a0h|apply a0a)<;>intro h<;>try (exfalso;(try dsimp only at h);omega))|refine a0i ?_)
     all_goals (conv=>whnf)
     all_goals rw [ez] at h
     all_goals first
      |(have h':(d.nn:Int)-(j.used:Int)<(((jaZ j r+44)/45:Nat):Int):=h
        have e:=e12 (by omega)
        rw [m0q (by omega),e]
        exact a0n (l:= [0,1,2,3,4,5,6,7,6]) rfl rfl ⟨rfl,rfl,trivial⟩ (a0d (a0d a0k)))
      |(have h':¬((d.nn:Int)-(j.used:Int)<(((jaZ j r+44)/45:Nat):Int)):=h
        have e:=e0 (by omega)
        rw [y0r e,e]
        exact a0n (l:= [0,1,2,3,4,5,6,7,9]) rfl rfl ⟨rfl,rfl,trivial⟩ (a0d (a0d a0k)))
end
section
attribute [local irreducible] a0B a0D a0u a0Y
theorem p0E {d:Dk} (h:d.ok) (m:Int):(c0s m d).ok:=
 ⟨by simp only [c0s,i0w,b0J];exact h.kl,by simp only [c0s,i0w,b0J];exact h.kl,rfl,rfl,by simp [c0s],by simp [c0s],h.nm,by simp [c0s]⟩
theorem y0s {n:Int} (h:0<=n/\n<=1000000):0<=d0f n/\d0f n<=1000000:=by unfold d0f;split<;>omega
theorem k0J {d:Dk} (h:d.ok):(c0E d).ok:=⟨h.kl,h.nl,h.pl,h.sl,h.pb,h.pm,h.nm,y0s h.sb⟩
theorem t0i {d:Dk} (h:d.ok):(f0N d).ok:=⟨by simp only [f0N,b0J];exact h.kl,h.nl,rfl,rfl,by simp [f0N],by simp [f0N],h.nm,h.sb⟩
theorem k0K {d:Dk} (h:d.ok) (n:Int) (s:ByteArray):(b0z d n s).1.ok:=by
 unfold b0z
 split
 .exact h
 .split
  .exact h
  .split
   .exact h
   .split
    .exact h
    .have hp:=r0q (s:=s) h (n:=n) (by omega) (by omega)
     split
     .exact p0E hp _
     .exact k0J hp
end
section
attribute [local irreducible] a0B a0D a0u a0Y e1v
attribute [local irreducible] seq ByteArray.extract
theorem y0t (b:Bool) (j:Jr):FCD Tryz.prog 7 56 [.ptr 1 0 0 0,.ptr 2 0 0 0] [(1,b0y true [.ptr 3 0 0 0]),(2,b0y true [.bool b]),(3,b0y false [.ptr 4 0 0 0,.sl 5 0 0 j.nr,.int .i64 j.groups,.int .i64 j.used,.int .u64 j.head,.sl 6 0 0 j.ng,.bool j.stopped])]
  (a0s (.tup []) [(3,b0y false [.ptr 4 0 0 0,.sl 5 0 0 j.nr,.int .i64 j.groups,.int .i64 j.used,.int .u64 j.head,.nsl,.bool (!b)])] 7):=by
 refine i1G mixed a0x Tryz.func56 rfl (by kernel_rfl) (by kernel_rfl) (by kernel_rfl) ?_
 repeat' ((conv=>whnf);first|((first|apply a0f|apply a0c|apply a0g|apply a0b|apply a0h|apply a0a)<;>intro h<;>try (exfalso;(try dsimp only at h);omega))|refine a0i ?_)
 all_goals (conv=>whnf)
 exact a0n (l:= [0,1,2,3,4,5,6]) rfl rfl ⟨rfl,trivial⟩ (a0d a0k)
def c0N (u:Nat) (bl:List ByteArray):Nat->Nat->Dk->Dk×Bool
 |0,_,d=>(d,true)
 |r+1,k,d=>if (b0z d ((u+k:Nat):Int) (bl.getD k ⟨#[]⟩)).2=0 then c0N u bl r (k+1) (b0z d ((u+k:Nat):Int) (bl.getD k ⟨#[]⟩)).1 else ((b0z d ((u+k:Nat):Int) (bl.getD k ⟨#[]⟩)).1,false)
def i0E (j:Jr):Jr:= { j with grp:= [],ng:=0,stopped:=true}
def b1o (j:Jr):Jr:= { f1m j j.ng j.grp (j.used+b0i (a0C j.grp)) (hK j.head (a0C j.grp) (b0i (a0C j.grp))) with grp:= [],ng:=0,stopped:=false}
def cmW (j:Jr) (d:Dk):Dk×Bool:=c0N j.used (bkL j.head (a0C j.grp) (b0i (a0C j.grp))) (b0i (a0C j.grp)) 0 d
def cmR (j:Jr) (d:Dk):Jr×Dk×Int:=
 if j.stopped=true then (j,d,13) else if l0i j.grp≠0 then (j,d,l0i j.grp)
 else if (cmW j d).2=false then (i0E j,(cmW j d).1,13)
 else if (b0P (cmW j d).1).2≠0 then (i0E j,(b0P (cmW j d).1).1,13)
 else (b1o j,(b0P (cmW j d).1).1,0)
theorem k0L (d:Dk) (n:Int) (s:ByteArray):(b0z d n s).1.nn=d.nn:=by unfold b0z;(repeat' split)<;>rfl
theorem h1e {d:Dk} (h:d.ok) {n:Int} {s:ByteArray}:(b0z d n s).1.ok/\(b0z d n s).1.nn=d.nn:=⟨k0K h n s,k0L d n s⟩
theorem p0F (j:Jr) (d:Dk) (hj:j.ok d) (hd:d.ok):FC Tryz.prog 8 32 [.ptr 1 0 0 0] ((0,some (GB glT))::jrH 5 6 7 j d)
  (a0s (.int .i64 (cmR j d).2.2) (jrH 8 9 10 (cmR j d).1 (cmR j d).2.1) 11):=by
 have gl:=hj.gl
 have gm:=hj.gm
 have us:=hj.us
 have go:=hj.go
 have hnn:=hd.nm
 by_cases h1:j.stopped=true
 .rw [show cmR j d=(j,d,13) by unfold cmR;rw [if_pos h1]]
  refine g0v mixed a0x Tryz.func32 rfl (by kernel_rfl) (by kernel_rfl) (by kernel_rfl) ?_
  repeat' ((conv=>whnf);first|((first|apply a0f|apply a0c|apply a0g|apply a0b|apply a0h|apply a0a)<;>intro h<;>try (exfalso;(try dsimp only at h);omega))|refine a0i ?_)
  all_goals (conv=>whnf)
  all_goals first
   |exact a0n (l:= [0,1,2,3,4,5,6,7,5,6,7]) rfl rfl ⟨rfl,rfl,rfl,rfl,rfl,rfl,rfl,trivial⟩ (p0B _ _ _ _ _)
   |(exfalso;simp_all;done)
 .have h1':j.stopped=false:=by cases h:j.stopped with|false=>rfl|true=>exact absurd h h1
  by_cases h2:l0i j.grp≠0
  .rw [show cmR j d=(j,d,l0i j.grp) by unfold cmR;rw [if_neg h1,if_pos h2]]
   have c1:=x0Z j.head j.grp j.ng gl h2 (by unfold maxLen;omega)
   refine g0v mixed a0x Tryz.func32 rfl (by kernel_rfl) (by kernel_rfl) (by kernel_rfl) ?_
   repeat' ((conv=>whnf);first|refine a0e (l:= [0,6]) (c1) ?_|refine a0l (l:= [0,6]) (c1) ?_|((first|apply a0f|apply a0c|apply a0g|apply a0b|apply a0h|apply a0a)<;>intro h<;>try (exfalso;(try dsimp only at h);omega))|refine a0i ?_)
   all_goals (conv=>whnf)
   all_goals first
    |exact a0n (l:= [0,1,2,3,4,5,6,7,5,6,7]) rfl rfl ⟨rfl,rfl,rfl,rfl,rfl,rfl,rfl,trivial⟩ (p0B _ _ _ _ _)
    |(exfalso;exact h2 h)
    |(exfalso;simp_all;done)
  .have h2':l0i j.grp=0:=by omega
   have c1:=g1W j.head j.grp j.ng gl h2'
   obtain ⟨W,hW⟩:∃W,cmW j d=W:=⟨_,rfl⟩
   have er:cmR j d=if W.2=false then (i0E j,W.1,13) else if (b0P W.1).2≠0 then (i0E j,(b0P W.1).1,13) else (b1o j,(b0P W.1).1,0):=by
    unfold cmR;rw [if_neg h1,if_neg h2,hW]
   rw [er]
   have hnb:b0i (a0C j.grp)<=30000:=by
    have:=s0W go j.grp.length
    rw [<-d0S go,d0R] at this
    unfold b0i;omega
   unfold cmW at hW
   unfold b1o
   obtain ⟨NB,hNB⟩:∃NB,b0i (a0C j.grp)=NB:=⟨_,rfl⟩
   obtain ⟨BL,hBL⟩:∃BL,bkL j.head (a0C j.grp) NB=BL:=⟨_,rfl⟩
   obtain ⟨HK,hHK⟩:∃HK,hK j.head (a0C j.grp) NB=HK:=⟨_,rfl⟩
   rw [hNB] at c1 hW hnb⊢
   rw [hBL] at c1 hW
   rw [hHK] at c1⊢
   refine g0v mixed a0x Tryz.func32 rfl (by kernel_rfl) (by kernel_rfl) (by kernel_rfl) ?_
   repeat' ((conv=>whnf);first|refine a0e (l:= [0,6]) (c1) ?_|refine a0l (l:= [0,6]) (c1) ?_|((first|apply a0f|apply a0c|apply a0g|apply a0b|apply a0h|apply a0a)<;>intro h<;>try (exfalso;(try dsimp only at h);omega))|refine a0i ?_)
   all_goals (conv=>whnf)
   all_goals first
    |(exfalso;simp_all;done)
    |skip
   refine a0z (fun x:Nat×Dk=>⟨[(1,.ptr 8 0 0 0),(3,.sl 9 0 0 NB),(4,.int .u64 HK),(6,.ptr 10 0 0 0),(32,.sl 9 0 0 NB),(33,.int .i64 NB),(34,.int .i64 x.1)],[(0,some (GB glT)),(1,b0y false (jrC 5 6 j)),(2,b0y false (dkJ 11 x.2)),(3,grW x.2.nn x.2.kept),(4,grW x.2.nn x.2.now),(11,some (.one false (.cols x.2.np [.sc (.ints .i64 x.2.pn),.sc (.strs x.2.ps)]))),(5,grW j.nr j.recs),(6,grW j.ng j.grp),(8,b0y false [.ptr 1 0 0 0]),(9,grW NB BL),(10,b0y false [.bool false])],12⟩) (fun x=>x.1<=NB/\c0N j.used BL (NB-x.1) x.1 x.2=W/\x.2.ok/\x.2.nn=d.nn) (fun x=>NB-x.1) (0,d) [0,1,2,3,4,5,6,7,8,9,10,7] [] ⟨rfl,⟨rfl,rfl,rfl,rfl,rfl,rfl,rfl,trivial⟩,⟨gwk rfl,rfl,rfl,rfl,rfl,rfl,rfl,rfl,rfl,rfl,rfl,trivial⟩⟩ ⟨Nat.zero_le _,hW,hd,rfl⟩ ?_
   rintro ⟨k,dk⟩ ⟨hk,hw,hok,hdn⟩
   dsimp only at hk hw hok hdn⊢
   by_cases hlt:k<NB
   .obtain ⟨m,hm⟩:∃m,NB-k=m+1:=⟨NB-k-1,by omega⟩
    have hm':NB-(k+1)=m:=by omega
    rw [hm] at hw
    have c2:=u0M dk hok ((j.used+k:Nat):Int) (BL.getD k ⟨#[]⟩)
    have pk:=h1e hok (n:=((j.used+k:Nat):Int)) (s:=BL.getD k ⟨#[]⟩)
    simp only [c0N] at hw
    obtain ⟨WD,hWD⟩:∃WD,b0z dk ((j.used+k:Nat):Int) (BL.getD k ⟨#[]⟩)=WD:=⟨_,rfl⟩
    rw [hWD] at c2 hw pk
    have e1:IntKind.i64.wrap ((j.used:Int)+(k:Int))=((j.used+k:Nat):Int):=by rw [a0G (by omega) (by omega)];omega
    rw [<-e1] at c2
    by_cases h0:WD.2=0
    .rw [if_pos h0] at hw
     rw [h0] at c2
     repeat' ((conv=>whnf);first|refine a0e (l:= [0,2,3,4,11]) (c2) ?_|refine a0l (l:= [0,2,3,4,11]) (c2) ?_|((first|apply a0f|apply a0c|apply a0g|apply a0b|apply a0h|apply a0a)<;>intro h<;>try (exfalso;(try dsimp only at h);omega))|refine a0i ?_)
     all_goals (conv=>whnf)
     all_goals first
      |(exfalso;omega)
      |(exfalso;exact h rfl)
      |skip
     exact ⟨(k+1,WD.1),[0,1,2,3,4,5,6,7,8,9,10,12],[],⟨by dsimp only;omega,by dsimp only;rw [hm'];exact hw,pk.1,pk.2.trans hdn⟩,by dsimp only;omega,⟨rfl,⟨rfl,rfl,rfl,rfl,rfl,rfl,congrArg (fun z=>some (SV.int .i64 z)) (b0a (by omega)),trivial⟩,⟨gwk rfl,rfl,rfl,rfl,rfl,rfl,rfl,rfl,rfl,rfl,rfl,trivial⟩⟩⟩
    .rw [if_neg h0] at hw
     rw [<-hw,if_pos rfl]
     have c5:=y0t false j
     repeat' ((conv=>whnf);first|refine a0e (l:= [0,2,3,4,11]) (c2) ?_|refine a0l (l:= [0,2,3,4,11]) (c2) ?_|(refine y0f (l:= [0,8,10,1,2,5,6]) c5 ?_)|((first|apply a0f|apply a0c|apply a0g|apply a0b|apply a0h|apply a0a)<;>intro h<;>try (exfalso;(try dsimp only at h);omega))|refine a0i ?_)
     all_goals (conv=>whnf)
     all_goals first
      |(exfalso;omega)
      |(exfalso;exact h0 h)
      |skip
     exact e0g (l:= [0,1,2,3,4,5,6,7,5,13,12]) [.cell 1 5 [.sc (.strs [])]] ⟨rfl,rfl,rfl,rfl,rfl,rfl,rfl,rfl,rfl,trivial⟩ (p0B _ _ _ _ _)
   .have ek:NB-k=0:=by omega
    rw [ek] at hw
    have ek2:k=NB:=by omega
    have hw:W=(dk,true):=hw.symm
    rw [hw,if_neg (by simp)]
    have c3:=u0N dk hok
    obtain ⟨FD,hFD⟩:∃FD,b0P dk=FD:=⟨_,rfl⟩
    dsimp only
    rw [hFD] at c3⊢
    by_cases h0:FD.2=0
    .rw [if_neg (by simp [h0])]
     rw [h0] at c3
     have c4:=y0o j j.ng j.grp (j.used+NB) HK gl (by have:=hj.gs;omega) (by have:=hj.gs;have:=hj.rm;omega) (by omega)
     have e1:IntKind.i64.wrap ((j.used:Int)+(NB:Int))=((j.used+NB:Nat):Int):=by rw [a0G (by omega) (by omega)];omega
     rw [<-e1] at c4
     have c5:=y0t true (f1m j j.ng j.grp (j.used+NB) HK)
     repeat' ((conv=>whnf);first|refine a0e (l:= [0,2,3,4,11]) (c3) ?_|refine a0l (l:= [0,2,3,4,11]) (c3) ?_|refine a0e (l:= [0,1,2,3,4,5,6,7,6]) (c4) ?_|refine a0l (l:= [0,1,2,3,4,5,6,7,6]) (c4) ?_|(refine y0f (l:= [0,8,10,1,2,13,6]) c5 ?_)|((first|apply a0f|apply a0c|apply a0g|apply a0b|apply a0h|apply a0a)<;>intro h<;>try (exfalso;(try dsimp only at h);omega))|refine a0i ?_)
     all_goals (conv=>whnf)
     all_goals first
      |(exfalso;omega)
      |(exfalso;exact h rfl)
      |skip
     exact e0g (l:= [0,1,2,3,4,5,6,7,13,14,12]) [.cell 1 5 [.sc (.strs [])]] ⟨rfl,rfl,rfl,rfl,rfl,rfl,rfl,rfl,rfl,trivial⟩ (p0B _ _ _ _ _)
    .rw [if_pos h0]
     have c5:=y0t false j
     repeat' ((conv=>whnf);first|refine a0e (l:= [0,2,3,4,11]) (c3) ?_|refine a0l (l:= [0,2,3,4,11]) (c3) ?_|(refine y0f (l:= [0,8,10,1,2,5,6]) c5 ?_)|((first|apply a0f|apply a0c|apply a0g|apply a0b|apply a0h|apply a0a)<;>intro h<;>try (exfalso;(try dsimp only at h);omega))|refine a0i ?_)
     all_goals (conv=>whnf)
     all_goals first
      |(exfalso;omega)
      |(exfalso;exact h0 h)
      |skip
     exact e0g (l:= [0,1,2,3,4,5,6,7,5,13,12]) [.cell 1 5 [.sc (.strs [])]] ⟨rfl,rfl,rfl,rfl,rfl,rfl,rfl,rfl,rfl,trivial⟩ (p0B _ _ _ _ _)
end
section
attribute [local irreducible] a0B a0D a0u a0Y e1v
attribute [local irreducible] seq ByteArray.extract
def wrN (u:Nat) (bl:List ByteArray):Nat->Nat->List ByteArray->List ByteArray
 |0,_,l=>l
 |r+1,k,l=>wrN u bl r (k+1) (l.set (u+k) (bl.getD k ⟨#[]⟩))
structure Dk.free (d:Dk):Prop where
 dn:d.down=false
 st:d.steps=0
theorem i1I {d:Dk} (h:d.free) {n:Nat} {s:ByteArray} (hn:n<d.nn) (hs:s.size<=64) (hp:d.np<4096):b0z d (n:Int) s=(i0D d (n:Int) s,0):=by
 unfold b0z
 rw [if_neg (by rw [h.dn];decide),if_neg (by omega),if_neg (by omega),if_neg (by omega),if_neg (by rw [h.st];decide)]
 have:c0E (i0D d (n:Int) s)=i0D d (n:Int) s:=by
  unfold c0E
  have:d0f (i0D d (n:Int) s).steps=d.steps:=by show d0f d.steps=d.steps;rw [h.st];rfl
  rw [this];rfl
 rw [this]
theorem e1E {u:Nat} {bl:List ByteArray} (hb:∀b∈bl,b.size<=64):∀(r k:Nat) (d:Dk),d.free->u+k+r<=d.nn->d.np+r<=4096->
  (c0N u bl r k d).2=true/\(c0N u bl r k d).1.free/\(c0N u bl r k d).1.now=wrN u bl r k d.now/\(c0N u bl r k d).1.np=d.np+r:=by
 intro r
 induction r with
 |zero=>intro k d h _ _;exact ⟨rfl,h,rfl,rfl⟩
 |succ r ih=>
  intro k d h hn hp
  have e:=i1I h (n:=u+k) (s:=bl.getD k ⟨#[]⟩) (by omega) (p0C hb k) (by omega)
  simp only [c0N]
  rw [e,if_pos rfl]
  obtain ⟨a,b,c,f⟩:=ih (k+1) (i0D d ((u+k:Nat):Int) (bl.getD k ⟨#[]⟩)) ⟨h.dn,h.st⟩ (by show u+(k+1)+r<=d.nn;omega) (by show d.np+1+r<=4096;omega)
  exact ⟨a,b,c,by rw [f];show d.np+1+r=d.np+(r+1);omega⟩
theorem e1F {d:Dk} (h:d.free):b0P d=(f0N d,0):=by
 unfold b0P
 rw [if_neg (by rw [h.dn];decide),if_neg (by rw [h.st];decide)]
 have:c0E (f0N d)=f0N d:=by
  unfold c0E
  have:d0f (f0N d).steps=d.steps:=by show d0f d.steps=d.steps;rw [h.st];rfl
  rw [this];rfl
 rw [this]
theorem y0u (p:Int) (s:ByteArray) (k:Nat):∀b∈bkL p s k,b.size<=64:=by
 intro b hb
 simp only [bkL,List.mem_map] at hb
 obtain ⟨i,_,rfl⟩:=hb
 rw [e1t];omega
end
section
attribute [local irreducible] seq ByteArray.extract
theorem k0M {α:Type} {l m:List α} {i:Nat} {d:α} (h:i<l.length):(l++m).getD i d=l.getD i d:=by rw [List.getD,List.getD,List.getElem?_append_left h]
theorem k0N {α:Type} {l m:List α} {i:Nat} {d:α} (h:l.length<=i):(l++m).getD i d=m.getD (i-l.length) d:=by rw [List.getD,List.getD,List.getElem?_append_right h]
theorem h1f {A B:ByteArray} {w N:Nat} (h1:1<=w) (h15:w<=15) (hN:N<10^w) (hA:A=a0F (e0x w N)):nuE (A++B) w=0/\nuV (A++B) w=(N:Int):=by
 have hz:A.size=w:=by rw [hA,c0r,a0O]
 have hs:(A++B).size=w+B.size:=by rw [ByteArray.size_append,hz]
 have hx:(A++B).extract 0 w=A:=d0Q hz
 obtain ⟨d1,d2⟩:=x0R hA w (Nat.le_refl _)
 have e1:=f0F (s:=A++B) (w:=w) (by omega) w (Nat.le_refl _)
 rw [hx] at e1
 have hd:g0oz (A++B) w=true:=by rw [<-e1.1];exact d1
 have hn:d0D (A++B) w=(N:Int):=by
  rw [<-e1.2,d2,Nat.sub_self,Nat.pow_zero,Nat.div_one,Nat.mod_eq_of_lt hN]
 rcases i0S (A++B) w with ⟨a1,a2,a3,_⟩|⟨_,_,_,h⟩
 .rw [Int.toNat_natCast] at a2
  exact ⟨a1,a2.trans hn⟩
 .rw [Int.toNat_natCast,hd] at h
  rcases h with ⟨_,h⟩|⟨_,_,_,h⟩|⟨_,_,_,_,h⟩
  .omega
  .omega
  .cases h
theorem c1t {n w:Nat} (h:g0t n w) (R:ByteArray):nuE (d0p n w++R) w=0/\nuV (d0p n w++R) w=(n:Int):=by
 have h1:=h.1
 have h2:=h.2.1
 have h4:=h.2.2.2
 rw [Int.toNat_natCast,Int.toNat_natCast] at h4
 refine h1f (by omega) (by omega) (Nat.lt_of_lt_of_le (g0m n) (Nat.pow_le_pow_right (by omega) h4)) ?_
 rw [r0f h,Int.toNat_natCast,Int.toNat_natCast]
def n0J (r:ByteArray):ByteArray:=if r.size<=45 then c1n else r0i
theorem u0P (r:ByteArray):(n0J r).size=1:=by unfold n0J;split<;>rfl
theorem n0K (r:ByteArray):c0D r=n0J r++(d0p (min r.size 45:Nat) 2++r.extract 0 (min r.size 45)):=by
 unfold c0D n0J
 rw [ByteArray.append_assoc]
theorem r0s:r0i≠c1n:=by decide
theorem y0v {p:Int} {r:ByteArray} (h:0<r.size):
  t0b p (hxS (chI p (c0D r))++c0D r)/\unR (hxS (chI p (c0D r))++c0D r)=c0D r/\unP (hxS (chI p (c0D r))++c0D r)=r.extract 0 (min r.size 45)/\k0C (hxS (chI p (c0D r))++c0D r)=decide (r.size<=45):=by
 have hz:=i0T (chI p (c0D r))
 generalize hB:hxS (chI p (c0D r))++c0D r=B
 have bz:=f0J (r:=r)
 have Bz:B.size=16+(3+min r.size 45):=by rw [<-hB,b0h,hz,bz]
 have mz:=u0P r
 have n2:(d0p (min r.size 45:Nat) 2).size=2:=f0H (by omega)
 have xz:(r.extract 0 (min r.size 45)).size=min r.size 45:=h0s (by omega)
 have eR:unR B=c0D r:=by
  unfold unR
  rw [<-hB]
  exact c0C hz (by rw [b0h,hz])
 have e0:B.extract 0 16=hxS (chI p (c0D r)):=by rw [<-hB];exact d0Q hz
 have eM:unM B=n0J r:=by
  unfold unM
  rw [eR,n0K]
  exact d0Q mz
 have eD:unD B=d0p (min r.size 45:Nat) 2++r.extract 0 (min r.size 45):=by
  unfold unD
  rw [eR,n0K]
  exact c0C mz (by rw [b0h,mz])
 have eP:unP B=r.extract 0 (min r.size 45):=by
  unfold unP
  have:B=(hxS (chI p (c0D r))++(n0J r++d0p (min r.size 45:Nat) 2))++r.extract 0 (min r.size 45):=by
   rw [<-hB,n0K,ByteArray.append_assoc,ByteArray.append_assoc]
  have hz2:(hxS (chI p (c0D r))++(n0J r++d0p (min r.size 45:Nat) 2)).size=19:=by rw [b0h,b0h,hz,mz,n2]
  rw [this]
  exact c0C hz2 (by rw [b0h,hz2])
 have nn:=c1t (n:=min r.size 45) (w:=2) (c1p (by omega)) (r.extract 0 (min r.size 45))
 refine ⟨⟨by omega,by rw [e0,eR],by rw [eD];exact nn.1,by rw [eD,eP,xz];exact nn.2,by rw [eP,xz];omega,?_⟩,eR,eP,?_⟩
 .rw [eM,eP,xz]
  unfold n0J
  by_cases h45:r.size<=45
  .rw [if_pos h45];exact .inl rfl
  .rw [if_neg h45];exact .inr ⟨rfl,by omega⟩
 .unfold k0C
  rw [eM]
  unfold n0J
  by_cases h45:r.size<=45
  .rw [if_pos h45,b1f];simp [h45]
  .rw [if_neg h45,g1X r0s];simp [h45]
theorem t0j {p:Int} {b:ByteArray} (h:b=⟨#[]⟩):¬t0b p b:=by
 intro ho
 have:=ho.1
 rw [h] at this
 exact absurd this (by decide)
theorem e1G:∀(g acc:List ByteArray) (f:Nat),okR g->acc.length+g.length<=256->(a0C g).size<f->0<acc.length+g.length->ucR f (a0C g) acc=some (acc++g):=by
 intro g
 induction g with
 |nil=>
  intro acc f _ _ hf h0
  obtain ⟨f,rfl⟩:∃k,f=k+1:=⟨f-1,by omega⟩
  rw [y0a rfl (by simpa using h0),List.append_nil]
 |cons r g ih=>
  intro acc f hg hl hf h0
  have hr:=hg r (by simp)
  have n4:=c0M (n:=r.size) (by omega)
  have es:a0C (r::g)=d0p r.size 4++(r++a0C g):=by simp only [a0C];rw [ByteArray.append_assoc]
  have sz:(a0C (r::g)).size=4+(r.size+(a0C g).size):=by rw [es,b0h,b0h,n4]
  obtain ⟨f,rfl⟩:∃k,f=k+1:=⟨f-1,by omega⟩
  have nn:nuE (d0p r.size 4++(r++a0C g)) 4=0/\nuV (d0p r.size 4++(r++a0C g)) 4=(r.size:Int):=c1t (n:=r.size) (w:=4) (c1o (by omega)) (r++a0C g)
  rw [<-es] at nn
  have eN:ucN (a0C (r::g))=r++a0C g:=by
   unfold ucN;rw [es];exact c0C n4 (by rw [b0h,n4])
  have nv:nuV (a0C (r::g)) 4=(r.size:Int):=nn.2
  have ha:ucA (a0C (r::g)):=⟨nn.1,by rw [nv];omega⟩
  have hb:ucB (a0C (r::g)) acc.length:=⟨by rw [nv,eN,b0h];omega,by simp only [List.length_cons] at hl;omega⟩
  have eR:u0H (a0C (r::g))=r:=by unfold u0H;rw [eN,nv,Int.toNat_natCast];exact d0Q rfl
  have eT:ucT (a0C (r::g))=a0C g:=by unfold ucT;rw [eN,nv,Int.toNat_natCast];exact c0C rfl (by rw [b0h])
  rw [r0k (by omega) ha hb,eR,eT,ih (acc++ [r]) f (fun x hx=>hg x (by simp [hx])) (by simp only [List.length_append,List.length_cons,List.length_nil] at hl⊢;omega) (by omega) (by rw [List.length_append,List.length_singleton];omega)]
  rw [List.append_assoc];rfl
theorem e1H {g:List ByteArray} (hg:okR g) (h1:0<g.length) (h2:g.length<=256):ucG (a0C g)=some g:=by
 unfold ucG
 rw [e1G g [] _ hg (by simpa using h2) (Nat.lt_succ_self _) (by simpa using h1)];rfl
theorem e1I {r:ByteArray} {n:Nat} (h:n<=r.size):r.extract 0 n++r.extract n r.size=r:=by
 apply h0r
 simp only [ByteArray.data_append,Array.toList_append,ByteArray.data_extract,Array.toList_extract,List.extract_eq_take_drop,List.drop_zero,Nat.sub_zero]
 have hl:r.data.toList.length=r.size:=by simp
 rw [List.take_of_length_le (l:=List.drop n r.data.toList) (by rw [List.length_drop];omega),List.take_append_drop]
section
variable {now:List ByteArray} {p:Int} {s:ByteArray} {u:Nat}
theorem b1p (p:Int) (s:ByteArray) (k:Nat):bK p s k=hxS (chI (hK p s k) (c0D (rsT s k)))++c0D (rsT s k):=rfl
theorem u0Q:∀(m k f:Nat) (t:ByteArray),k+m+1=b0i s->(∀i,k<=i->i<b0i s->now.getD (u+i) ⟨#[]⟩=bK p s i)->
  rdK now (m+1+f) (u+k) (hK p s k) t=(match ucG (t++rsT s k) with|some g=>some (g,u+b0i s,hK p s (b0i s))|none=>none):=by
 intro m
 induction m with
 |zero=>
  intro k f t hk hb
  have hz:=f0I s k
  have hpos:0<(rsT s k).size:=by unfold b0i at hk;omega
  have h45:(rsT s k).size<=45:=by unfold b0i at hk;omega
  obtain ⟨o1,o2,o3,o4⟩:=y0v (p:=hK p s k) hpos
  have eb:=hb k (Nat.le_refl _) (by omega)
  rw [b1p] at eb
  rw [show 0+1+f=f+1 from by omega,i0c (by rw [eb];exact o1) (by rw [eb,o4];simp [h45]),eb,o2,o3,show min (rsT s k).size 45=(rsT s k).size from by omega,e1r]
  rw [show b0i s=k+1 from by omega]
  rfl
 |succ m ih=>
  intro k f t hk hb
  have hz:=f0I s k
  have h45:45<(rsT s k).size:=by unfold b0i at hk;omega
  obtain ⟨o1,o2,o3,o4⟩:=y0v (p:=hK p s k) (r:=rsT s k) (by omega)
  have eb:=hb k (Nat.le_refl _) (by omega)
  rw [b1p] at eb
  rw [show m+1+1+f=(m+1+f)+1 from by omega,g0w (by rw [eb];exact o1) (by rw [eb,o4];simp only [decide_eq_false_iff_not];omega),eb,o2,o3]
  have:=ih (k+1) f (t++(rsT s k).extract 0 (min (rsT s k).size 45)) (by omega) (fun i h1 h2=>hb i (by omega) h2)
  rw [show u+k+1=u+(k+1) from by omega]
  refine this.trans ?_
  have ec:t++(rsT s k).extract 0 (min (rsT s k).size 45)++rsT s (k+1)=t++rsT s k:=by
   rw [ByteArray.append_assoc,<-n0E,e1I (by omega)]
  rw [ec]
theorem e1J:∀(m k f:Nat) (t:ByteArray),k+m+1=b0i s->(∀i,k<=i->i<b0i s->now.getD (u+i) ⟨#[]⟩=bK p s i\/now.getD (u+i) ⟨#[]⟩=⟨#[]⟩)->(∃i,k<=i/\i<b0i s/\now.getD (u+i) ⟨#[]⟩=⟨#[]⟩)->
  rdK now f (u+k) (hK p s k) t=none:=by
 intro m
 induction m with
 |zero=>
  intro k f t hk hb ⟨i,h1,h2,h3⟩
  obtain rfl:i=k:=by omega
  cases f with
  |zero=>rfl
  |succ f=>exact u0O (t0j h3)
 |succ m ih=>
  intro k f t hk hb ⟨i,h1,h2,h3⟩
  cases f with
  |zero=>rfl
  |succ f=>
   rcases hb k (Nat.le_refl _) (by omega) with eb|eb
   .have hz:=f0I s k
    have h45:45<(rsT s k).size:=by unfold b0i at hk;omega
    obtain ⟨o1,o2,o3,o4⟩:=y0v (p:=hK p s k) (r:=rsT s k) (by omega)
    have hne:i≠k:=by
     intro e
     subst e
     rw [eb] at h3
     exact t0j h3 (by rw [b1p];exact o1)
    rw [b1p] at eb
    rw [g0w (by rw [eb];exact o1) (by rw [eb,o4];simp only [decide_eq_false_iff_not];omega),eb,o2]
    rw [show u+k+1=u+(k+1) from by omega]
    exact ih (k+1) f _ (by omega) (fun i h1 h2=>hb i (by omega) h2) ⟨i,by omega,h2,h3⟩
   .exact u0O (t0j eb)
end
theorem e1K {now now':List ByteArray}:∀{f n:Nat} {h:Int} {t:ByteArray} {g:List ByteArray} {n':Nat} {h':Int},rdK now f n h t=some (g,n',h')->(∀i,n<=i->i<n'->now'.getD i ⟨#[]⟩=now.getD i ⟨#[]⟩)->rdK now' f n h t=some (g,n',h'):=by
 intro f
 induction f with
 |zero=>intro n h t g n' h' e;cases e
 |succ f ih=>
  intro n h t g n' h' e hc
  have hb:=e1A e
  have e0:=hc n (Nat.le_refl _) hb.1
  by_cases ho:t0b h (now.getD n ⟨#[]⟩)
  .cases hl:k0C (now.getD n ⟨#[]⟩) with
   |true=>
    rw [i0c ho hl] at e
    rw [i0c (by rw [e0];exact ho) (by rw [e0];exact hl),e0]
    exact e
   |false=>
    rw [g0w ho hl] at e
    rw [g0w (by rw [e0];exact ho) (by rw [e0];exact hl),e0]
    exact ih e (fun i h1 h2=>hc i (by omega) h2)
  .rw [u0O ho] at e;cases e
inductive Ch (now:List ByteArray) (nn:Nat):Nat->Jr->Prop where
 |zero:Ch now nn 0 jr0
 |step {k:Nat} {j:Jr} {r:List ByteArray×Nat×Int}:Ch now nn k j->rdK now (nn-j.used) j.used j.head ⟨#[]⟩=some r->Ch now nn (k+1) (nxJ j (some r))
theorem i1J {d:Dk} {k:Nat} {j:Jr} (h:Ch d.now d.nn k j):JO d j/\k<=j.used:=by
 induction h with
 |zero=>exact ⟨n0I d,Nat.le_refl _⟩
 | @step k j r h hr ih=>
   obtain ⟨a,b⟩:=y0q ih.1 (r:=r) hr
   exact ⟨a,by omega⟩
theorem i1K {d:Dk} {k:Nat} {j:Jr} (h:Ch d.now d.nn k j):∀f,opK d (f+k) jr0=opK d f j:=by
 induction h with
 |zero=>intro f;rfl
 | @step k j r h hr ih=>
   intro f
   rw [show f+(k+1)=(f+1)+k from by omega,ih]
   simp only [opK,nxR,hr]
theorem y0w {d:Dk} {k:Nat} {j:Jr} (h:Ch d.now d.nn k j) (hn:nxR j d=none):opJ d=j:=by
 obtain ⟨a,b⟩:=i1J h
 have:=a.us
 unfold opJ
 rw [show d.nn+1=((d.nn-k)+1)+k from by omega,i1K h]
 simp only [opK,hn]
theorem y0x {now now':List ByteArray} {nn k:Nat} {j:Jr} (h:Ch now nn k j):(∀i,i<j.used->now'.getD i ⟨#[]⟩=now.getD i ⟨#[]⟩)->Ch now' nn k j:=by
 induction h with
 |zero=>intro _;exact .zero
 | @step k j r h hr ih=>
   intro hc
   obtain ⟨g,n,hh⟩:=r
   have hb:=e1A hr
   refine .step (ih (fun i hi=>hc i (by show i<n;omega))) (e1K hr (fun i h1 h2=>hc i h2))
structure Js (now:List ByteArray) (nn:Nat) (j:Jr):Prop where
 ch:∃k,Ch now nn k j
 emp:∀i,j.used<=i->now.getD i ⟨#[]⟩=⟨#[]⟩
theorem e1L {d:Dk} {j:Jr} (h:Js d.now d.nn j):nxR j d=none:=by
 unfold nxR
 cases hf:d.nn-j.used with
 |zero=>rfl
 |succ f=>exact u0O (t0j (h.emp _ (Nat.le_refl _)))
theorem n0L {d:Dk} {j:Jr} (h:Js d.now d.nn j):opJ d=j:=by
 obtain ⟨k,hk⟩:=h.ch
 exact y0w hk (e1L h)
theorem e1M (n i:Nat):(List.replicate n (⟨#[]⟩:ByteArray)).getD i ⟨#[]⟩=⟨#[]⟩:=by
 rw [List.getD,List.getElem?_replicate];split<;>rfl
theorem c1u (n:Nat):Js (List.replicate n ⟨#[]⟩) n jr0:=⟨⟨0,.zero⟩,fun i _=>e1M n i⟩
theorem r0t {now now':List ByteArray} {nn:Nat} {j:Jr} (h:Js now nn j) {g:List ByteArray} (hg:okR g) (h1:0<g.length) (h2:g.length<=256) (hr:j.used+b0i (a0C g)<=nn)
  (hb:∀i,i<b0i (a0C g)->now'.getD (j.used+i) ⟨#[]⟩=bK j.head (a0C g) i) (hk:∀i,i<j.used\/j.used+b0i (a0C g)<=i->now'.getD i ⟨#[]⟩=now.getD i ⟨#[]⟩):
  Js now' nn (f1m j g.length g (j.used+b0i (a0C g)) (hK j.head (a0C g) (b0i (a0C g)))):=by
 obtain ⟨k,hc⟩:=h.ch
 have hs:0<(a0C g).size:=by rw [<-d0R,d0S hg];have:=m0l (g:=g) g.length;omega
 obtain ⟨m,hm⟩:∃m,b0i (a0C g)=m+1:=⟨b0i (a0C g)-1,by unfold b0i;omega⟩
 have hrd:=u0Q (now:=now') (p:=j.head) (s:=a0C g) (u:=j.used) m 0 (nn-j.used-b0i (a0C g)) ⟨#[]⟩ (by omega) (fun i _ hi=>hb i hi)
 rw [s0Y,m0k,e1H hg h1 h2,show m+1+(nn-j.used-b0i (a0C g))=nn-j.used from by omega] at hrd
 refine ⟨⟨k+1,.step (y0x hc (fun i hi=>hk i (.inl hi))) hrd⟩,fun i hi=> ?_⟩
 have hi:j.used+b0i (a0C g)<=i:=hi
 rw [hk i (.inr hi)]
 exact h.emp i (by omega)
theorem e1N {now now':List ByteArray} {nn:Nat} {j:Jr} (h:Js now nn j) {g:List ByteArray} (hg:okR g) (h1:0<g.length)
  (hb:∀i,i<b0i (a0C g)->now'.getD (j.used+i) ⟨#[]⟩=bK j.head (a0C g) i\/now'.getD (j.used+i) ⟨#[]⟩=⟨#[]⟩) (hx:∃i,i<b0i (a0C g)/\now'.getD (j.used+i) ⟨#[]⟩=⟨#[]⟩) (hk:∀i,i<j.used->now'.getD i ⟨#[]⟩=now.getD i ⟨#[]⟩):
  ∀d:Dk,d.now=now'->d.nn=nn->opJ d=j:=by
 rintro d rfl rfl
 obtain ⟨k,hc⟩:=h.ch
 have hs:0<(a0C g).size:=by rw [<-d0R,d0S hg];have:=m0l (g:=g) g.length;omega
 obtain ⟨m,hm⟩:∃m,b0i (a0C g)=m+1:=⟨b0i (a0C g)-1,by unfold b0i;omega⟩
 refine y0w (y0x hc hk) ?_
 obtain ⟨i,h3,h4⟩:=hx
 exact e1J (p:=j.head) (s:=a0C g) (u:=j.used) m 0 _ ⟨#[]⟩ (by omega) (fun i _ hi=>hb i hi) ⟨i,Nat.zero_le _,h3,h4⟩
theorem h1g (u:Nat) (bl:List ByteArray):∀(r k:Nat) (l:List ByteArray) (i:Nat),u+k+r<=l.length->(wrN u bl r k l).getD i ⟨#[]⟩=if u+k<=i/\i<u+k+r then bl.getD (i-u) ⟨#[]⟩ else l.getD i ⟨#[]⟩:=by
 intro r
 induction r with
 |zero=>intro k l i _;rw [if_neg (by omega)];rfl
 |succ r ih=>
  intro k l i hl
  simp only [wrN]
  rw [ih (k+1) _ i (by rw [List.length_set];omega)]
  by_cases h1:u+(k+1)<=i/\i<u+(k+1)+r
  .rw [if_pos h1,if_pos (by omega)]
  .rw [if_neg h1]
   by_cases h2:i=u+k
   .subst h2
    rw [if_pos (by omega),List.getD,List.getElem?_set_self (by omega),Option.getD_some,show u+k-u=k from by omega]
   .rw [if_neg (by omega),List.getD,List.getElem?_set_ne (by omega)];rfl
end
section
attribute [local irreducible] seq ByteArray.extract
def fiJ (j:Jr) (d:Dk) (g:List ByteArray):Nat->Jr
 |0=>j
 |k+1=>jaJ (fiJ j d g k) d (g.getD k ⟨#[]⟩)
def fiO (j:Jr) (d:Dk) (g:List ByteArray):Nat->List ByteArray
 |0=> []
 |k+1=>if jaE (fiJ j d g k) d (g.getD k ⟨#[]⟩)=0 then fiO j d g k++ [g.getD k ⟨#[]⟩] else fiO j d g k
def Jr.with (j:Jr) (g:List ByteArray):Jr:= { j with grp:=g,ng:=g.length}
structure Jz (j:Jr):Prop where
 ge:j.grp= []
 gz:j.ng=0
 st:j.stopped=false
theorem r0u {j:Jr} (h:Jz j):j.with []=j:=by
 obtain ⟨a,b,c,e,f,g,n,s⟩:=j
 have h1:=h.ge
 have h2:=h.gz
 simp only at h1 h2
 subst h1 h2
 rfl
theorem n0M {j:Jr} (h:Jz j) (d:Dk) (g:List ByteArray):∀k,fiJ j d g k=j.with (fiO j d g k)
 |0=>(r0u h).symm
 |k+1=>by
  simp only [fiJ,fiO]
  by_cases h0:jaE (fiJ j d g k) d (g.getD k ⟨#[]⟩)=0
  .rw [y0r h0,if_pos h0,n0M h d g k]
   simp only [Jr.with,List.length_append,List.length_singleton]
  .rw [m0q h0,if_neg h0,n0M h d g k]
structure Gf (j:Jr) (d:Dk) (g:List ByteArray):Prop where
 ok:okR g
 le:g.length<=256
 rm:b0i (a0C g)<=d.nn-j.used
theorem t0k {g:List ByteArray} {r:ByteArray}:∀k,k<=g.length->d0G (g++ [r]) k=d0G g k
 |0,_=>rfl
 |k+1,h=>by
  simp only [d0G]
  rw [t0k k (by omega),k0M (by omega)]
theorem e1O {g:List ByteArray} {r:ByteArray}:d0G (g++ [r]) (g.length+1)=d0G g g.length+(4+r.size):=by
 simp only [d0G]
 rw [t0k _ (Nat.le_refl _),k0N (Nat.le_refl _),Nat.sub_self]
 rfl
theorem h1h (j:Jr) (d:Dk):Gf j d []:=by
 refine ⟨?_,?_,?_⟩
 .intro r hr;cases hr
 .exact Nat.zero_le _
 .show b0i ⟨#[]⟩<=_;exact Nat.zero_le _
theorem e1P {g:List ByteArray} (h:okR g):b0i (a0C g)=(d0G g g.length+44)/45:=by
 unfold b0i
 rw [<-d0R,d0S h]
theorem h1i {j:Jr} (h:Jz j) (d:Dk) (g:List ByteArray):∀k,Gf j d (fiO j d g k)
 |0=>h1h j d
 |k+1=>by
  have ih:=h1i h d g k
  simp only [fiO]
  by_cases h0:jaE (fiJ j d g k) d (g.getD k ⟨#[]⟩)=0
  .rw [if_pos h0]
   rw [n0M h] at h0
   generalize fiO j d g k=o at h0 ih⊢
   generalize g.getD k ⟨#[]⟩=r at h0⊢
   unfold jaE at h0
   by_cases h1:(j.with o).stopped=true
   .rw [if_pos h1] at h0;omega
   .rw [if_neg h1] at h0
    by_cases h2:4000<r.size
    .rw [if_pos h2] at h0;omega
    .rw [if_neg h2] at h0
     by_cases h3:256<=(j.with o).ng
     .rw [if_pos h3] at h0;omega
     .rw [if_neg h3] at h0
      by_cases h4:d.nn-(j.with o).used<(jaZ (j.with o) r+44)/45
      .rw [if_pos h4] at h0;omega
      .have ok:okR (o++ [r]):=by
        intro x hx
        simp only [List.mem_append,List.mem_singleton] at hx
        rcases hx with hx|rfl
        .exact ih.ok x hx
        .omega
       refine ⟨ok,?_,?_⟩
       .have:(j.with o).ng=o.length:=rfl
        rw [List.length_append,List.length_singleton];omega
       .rw [e1P ok,List.length_append,List.length_singleton,e1O]
        have e1:(j.with o).used=j.used:=rfl
        have e2:jaZ (j.with o) r=4+r.size+d0G o o.length:=rfl
        rw [e1,e2] at h4
        omega
  .rw [if_neg h0];exact ih
theorem c1v {j:Jr} {d:Dk} {g:List ByteArray} (h:Gf j d g) (h0:g≠[]):l0i g=0:=by
 unfold l0i
 have:g.length≠0:=fun e=>h0 (List.eq_nil_of_length_eq_zero e)
 have:=h.le
 rw [if_neg (by omega),if_neg (by omega),s0Z h.ok,if_neg (by decide)]
theorem i1L {j:Jr} {d:Dk} {g:List ByteArray} (hj:JO d j) (h:Gf j d g):(j.with g).ok d:=⟨hj.rl,rfl,hj.us,hj.gs,hj.rm,h.le,h.ok,hj.hb⟩
theorem c1w {u:Nat} {bl:List ByteArray} (hb:∀b∈bl,b.size<=64):∀(r k:Nat) (l:List ByteArray),(∀b∈l,b.size<=64)->∀b∈wrN u bl r k l,b.size<=64
 |0,_,l,h=>h
 |r+1,k,l,h=>by
  simp only [wrN]
  refine c1w hb r (k+1) _ (fun b hx=> ?_)
  rcases List.mem_or_eq_of_mem_set hx with hx|rfl
  .exact h b hx
  .exact p0C hb k
theorem t0l {u:Nat} {bl:List ByteArray}:∀(r k:Nat) {d:Dk},d.ok->(c0N u bl r k d).1.ok
 |0,_,d,h=>h
 |r+1,k,d,h=>by
  simp only [c0N]
  split
  .exact t0l r (k+1) (k0K h _ _)
  .exact k0K h _ _
structure Jw (d:Dk) (j:Jr):Prop where
 ok:d.ok
 fr:d.free
 np:d.np=0
 nn:d.nn<=2000
 sz:∀b∈d.now,b.size<=64
 jo:JO d j
 js:Js d.now d.nn j
theorem Jw.z {d:Dk} {j:Jr} (h:Jw d j):Jz j:=⟨h.jo.ge,h.jo.gz,h.jo.st⟩
theorem Jw.op {d:Dk} {j:Jr} (h:Jw d j):opJ d=j:=n0L h.js
def d0E (j:Jr) (g:List ByteArray):Jr:=f1m j g.length g (j.used+b0i (a0C g)) (hK j.head (a0C g) (b0i (a0C g)))
theorem e1Q {j:Jr} {d:Dk} {g:List ByteArray} (h:Jw d j) (hg:Gf j d g) (h0:g≠[]):
  (cmR (j.with g) d).2.2=0/\(cmR (j.with g) d).1=d0E j g/\Jw (cmR (j.with g) d).2.1 (d0E j g)/\(cmR (j.with g) d).2.1.nn=d.nn:=by
 have hz:=h.z
 have hrm:=hg.rm
 have hnn:=h.nn
 have hus:=h.jo.us
 have hl:0<g.length:=by cases g with|nil=>exact absurd rfl h0|cons a b=>simp
 have hbs:=y0u j.head (a0C g) (b0i (a0C g))
 obtain ⟨w1,w2,w3,w4⟩:=e1E (u:=j.used) hbs (b0i (a0C g)) 0 d h.fr (by omega) (by rw [h.np];omega)
 have wok:=t0l (u:=j.used) (bl:=bkL j.head (a0C g) (b0i (a0C g))) (b0i (a0C g)) 0 h.ok
 have eW:cmW (j.with g) d=c0N j.used (bkL j.head (a0C g) (b0i (a0C g))) (b0i (a0C g)) 0 d:=rfl
 have hfl:=e1F w2
 have er:cmR (j.with g) d=(d0E j g,f0N (c0N j.used (bkL j.head (a0C g) (b0i (a0C g))) (b0i (a0C g)) 0 d).1,0):=by
  unfold cmR
  rw [if_neg (show¬(j.with g).stopped=true by show¬j.stopped=true;rw [hz.st];decide),if_neg (show¬l0i (j.with g).grp≠0 from fun e=>e (c1v hg h0)),eW,if_neg (by rw [w1];decide),hfl,if_neg (by simp)]
  refine Prod.ext ?_ rfl
  obtain ⟨a,b,c,e,f,gg,n,s⟩:=j
  have h1:=hz.ge
  have h2:=hz.gz
  have h3:=hz.st
  simp only at h1 h2 h3
  subst h1 h2 h3
  rfl
 have enn:(c0N j.used (bkL j.head (a0C g) (b0i (a0C g))) (b0i (a0C g)) 0 d).1.nn=d.nn:=by
  have:∀(r k:Nat) (d:Dk),(c0N j.used (bkL j.head (a0C g) (b0i (a0C g))) r k d).1.nn=d.nn:=by
   intro r
   induction r with
   |zero=>intro k d;rfl
   |succ r ih=>
    intro k d
    simp only [c0N]
    split
    .rw [ih,k0L]
    .rw [k0L]
  exact this _ _ _
 rw [er]
 refine ⟨rfl,rfl,?_,enn⟩
 have enow:(f0N (c0N j.used (bkL j.head (a0C g) (b0i (a0C g))) (b0i (a0C g)) 0 d).1).now=wrN j.used (bkL j.head (a0C g) (b0i (a0C g))) (b0i (a0C g)) 0 d.now:=w3
 have hlen:d.now.length=d.nn:=h.ok.nl
 have hat:=h1g j.used (bkL j.head (a0C g) (b0i (a0C g))) (b0i (a0C g)) 0 d.now
 refine ⟨t0i wok,⟨w2.dn,w2.st⟩,rfl,?_,?_,?_,?_⟩
 .show (c0N _ _ _ _ _).1.nn<=2000;rw [enn];exact hnn
 .rw [enow];exact c1w hbs _ _ _ h.sz
 .have jo:=h.jo
  have gs:=jo.gs
  have rl:=jo.rl
  have rm:=jo.rm
  have hnb:0<b0i (a0C g):=by
   have:0<(a0C g).size:=by rw [<-d0R,d0S hg.ok];have:=m0l (g:=g) g.length;omega
   unfold b0i;omega
  have hle:=hg.le
  have enn':(f0N (c0N j.used (bkL j.head (a0C g) (b0i (a0C g))) (b0i (a0C g)) 0 d).1).nn=d.nn:=enn
  refine ⟨by rw [enn'];show j.used+b0i (a0C g)<=d.nn;omega,by show j.groups+1<=j.used+b0i (a0C g);omega,by show (j.recs++g).length=j.nr+g.length;rw [List.length_append];omega,by show j.nr+g.length<=256*(j.groups+1);omega,jo.ge,jo.gz,jo.st,?_⟩
  exact g1V jo.hb _ _
 .rw [enow,show (f0N (c0N j.used (bkL j.head (a0C g) (b0i (a0C g))) (b0i (a0C g)) 0 d).1).nn=d.nn from enn]
  refine r0t h.js hg.ok hl hg.le (by omega) (fun i hi=> ?_) (fun i hi=> ?_)
  .rw [hat _ (by omega),if_pos (by omega),show j.used+i-j.used=i from by omega,r0j _ _ hi]
  .rw [hat _ (by omega),if_neg (by omega)]
theorem c1x (n:Nat) (h:1<=n/\n<=2000):Jw (v0a n) jr0:=
 ⟨y0n n (by omega),⟨rfl,rfl⟩,rfl,h.2,(fun b hb=>by simp only [v0a,List.mem_replicate] at hb;rw [hb.2];decide),n0I _,c1u n⟩
end
section
attribute [local irreducible] seq ByteArray.extract
theorem h1j (l:List ByteArray) (i x:Nat) (b:ByteArray) (h:i<l.length):(l.set i b).getD x ⟨#[]⟩=if x=i then b else l.getD x ⟨#[]⟩:=by
 by_cases e:x=i
 .subst e;rw [if_pos rfl,List.getD,List.getElem?_set_self h];rfl
 .rw [if_neg e,List.getD,List.getElem?_set_ne (fun h=>e h.symm)];rfl
theorem n0N {bits:Nat->Bool} {pn:List Int} {ps l bl:List ByteArray} {u:Nat}:∀n,(∀i,i<n->pn.getD i 0=((u+i:Nat):Int))->(∀i,i<n->ps.getD i ⟨#[]⟩=bl.getD i ⟨#[]⟩)->u+n<=l.length->
  ∀x,(b0x bits pn ps n l).getD x ⟨#[]⟩=if u<=x/\x<u+n/\bits (x-u)=true then bl.getD (x-u) ⟨#[]⟩ else l.getD x ⟨#[]⟩
 |0,_,_,_,x=>by rw [if_neg (by omega)];rfl
 |n+1,hp,hs,hl,x=>by
  have ih:=n0N (bits:=bits) (pn:=pn) (ps:=ps) (l:=l) (bl:=bl) n (fun i h=>hp i (by omega)) (fun i h=>hs i (by omega)) (by omega) x
  simp only [b0x]
  cases hb:bits n with
  |true=>
   rw [cond_true,hp n (by omega),hs n (by omega),Int.toNat_natCast,h1j _ _ _ _ (by rw [b0J];omega)]
   by_cases e:x=u+n
   .subst e
    rw [if_pos rfl,if_pos ⟨by omega,by omega,by rw [Nat.add_sub_cancel_left];exact hb⟩,Nat.add_sub_cancel_left]
   .rw [if_neg e,ih]
    by_cases h:u<=x/\x<u+n/\bits (x-u)=true
    .rw [if_pos h,if_pos ⟨h.1,by omega,h.2.2⟩]
    .rw [if_neg h,if_neg (fun k=>h ⟨k.1,by omega,k.2.2⟩)]
  |false=>
   rw [cond_false,ih]
   by_cases h:u<=x/\x<u+n/\bits (x-u)=true
   .rw [if_pos h,if_pos ⟨h.1,by omega,h.2.2⟩]
   .rw [if_neg h,if_neg (fun k=>h ⟨k.1,?_,k.2.2⟩)]
    rcases Nat.lt_or_ge x (u+n) with h1|h1
    .exact h1
    .obtain rfl:x=u+n:=by omega
     rw [Nat.add_sub_cancel_left,hb] at k;exact absurd k.2.2 (by decide)
structure Mid (d0:Dk) (u:Nat) (bl:List ByteArray) (k:Nat) (d:Dk):Prop where
 ok:d.ok
 dn:d.down=false
 np:d.np=k
 pn:∀i,i<k->d.pn.getD i 0=((u+i:Nat):Int)
 ps:∀i,i<k->d.ps.getD i ⟨#[]⟩=bl.getD i ⟨#[]⟩
 kp:d.kept=d0.now
 wh:b0x y0N d.pn d.ps d.np d.kept=d.now
 nn:d.nn=d0.nn
structure Dead (d0:Dk) (u:Nat) (bl:List ByteArray) (n:Nat) (d:Dk):Prop where
 ok:d.ok
 dn:d.down=true
 nn:d.nn=d0.nn
 pt:∀x,d.now.getD x ⟨#[]⟩=d0.now.getD x ⟨#[]⟩\/(u<=x/\x<u+n/\d.now.getD x ⟨#[]⟩=bl.getD (x-u) ⟨#[]⟩)
theorem y0y {d0 d:Dk} {u:Nat} {bl:List ByteArray} {n m:Nat} (h:Dead d0 u bl n d) (hm:n<=m):Dead d0 u bl m d:=
 ⟨h.ok,h.dn,h.nn,fun x=>(h.pt x).imp id (fun ⟨a,b,c⟩=>⟨a,by omega,c⟩)⟩
theorem m0r {d0 d:Dk} {u:Nat} {bl:List ByteArray} {k:Nat} (h:Mid d0 u bl k d) (hl:u+k<=d.nn) (m:Int):Dead d0 u bl k (c0s m d):=by
 refine ⟨p0E h.ok m,rfl,h.nn,fun x=> ?_⟩
 show (b0x (k0H m) d.pn d.ps d.np d.kept).getD x ⟨#[]⟩=_\/(_/\_/\(b0x (k0H m) d.pn d.ps d.np d.kept).getD x ⟨#[]⟩=_)
 rw [h.np,n0N k h.pn h.ps (by rw [h.ok.kl];exact hl),h.kp]
 by_cases c:u<=x/\x<u+k/\k0H m (x-u)=true
 .rw [if_pos c];exact .inr ⟨c.1,c.2.1,rfl⟩
 .rw [if_neg c];exact .inl rfl
theorem y0z {d:Dk} (h:d.ok) (w:b0x y0N d.pn d.ps d.np d.kept=d.now) (n:Int) (s:ByteArray):b0x y0N (i0D d n s).pn (i0D d n s).ps (i0D d n s).np (i0D d n s).kept=(i0D d n s).now:=by
 have pref:∀k,k<=d.np->b0x y0N (d.pn++ [n]) (d.ps++ [s]) k d.kept=b0x y0N d.pn d.ps k d.kept:=by
  intro k
  induction k with
  |zero=>intro _;rfl
  |succ k ih=>
   intro hk
   have e1:=h.pl
   have e2:=h.sl
   simp only [b0x,y0N,cond_true]
   rw [ih (by omega),k0M (by omega),k0M (by omega)]
 show b0x y0N (d.pn++ [n]) (d.ps++ [s]) (d.np+1) d.kept=d.now.set n.toNat s
 simp only [b0x,y0N,cond_true]
 rw [pref _ (Nat.le_refl _),w]
 have e1:=h.pl
 have e2:=h.sl
 rw [k0N (by omega),k0N (by omega),show d.np-d.pn.length=0 from by omega,show d.np-d.ps.length=0 from by omega]
 rfl
theorem e1R {d0 d:Dk} {u:Nat} {bl:List ByteArray} {k:Nat} (h:Mid d0 u bl k d) (hl:u+k<d.nn) (hp:k<4096):Mid d0 u bl (k+1) (i0D d ((u+k:Nat):Int) (bl.getD k ⟨#[]⟩)):=by
 have e1:=h.ok.pl
 have e2:=h.ok.sl
 have np:=h.np
 refine ⟨r0q h.ok (by omega) (by omega),h.dn,by show d.np+1=k+1;omega,fun i hi=> ?_,fun i hi=> ?_,h.kp,y0z h.ok h.wh _ _,h.nn⟩
 .show (d.pn++ [((u+k:Nat):Int)]).getD i 0=_
  by_cases e:i<k
  .rw [k0M (by omega)];exact h.pn i e
  .obtain rfl:i=k:=by omega
   rw [k0N (by omega),show i-d.pn.length=0 from by omega];rfl
 .show (d.ps++ [bl.getD k ⟨#[]⟩]).getD i ⟨#[]⟩=_
  by_cases e:i<k
  .rw [k0M (by omega)];exact h.ps i e
  .obtain rfl:i=k:=by omega
   rw [k0N (by omega),show i-d.ps.length=0 from by omega];rfl
theorem y0A {d0 d:Dk} {u:Nat} {bl:List ByteArray} {k:Nat} (h:Mid d0 u bl k d):Mid d0 u bl k (c0E d):=⟨k0J h.ok,h.dn,h.np,h.pn,h.ps,h.kp,h.wh,h.nn⟩
theorem h1k {d0:Dk} {u:Nat} {bl:List ByteArray} (hb:∀b∈bl,b.size<=64):∀(r k:Nat) (d:Dk),Mid d0 u bl k d->u+k+r<=d0.nn->k+r<=4096->
  ((c0N u bl r k d).2=true/\Mid d0 u bl (k+r) (c0N u bl r k d).1)\/((c0N u bl r k d).2=false/\Dead d0 u bl (k+r) (c0N u bl r k d).1):=by
 intro r
 induction r with
 |zero=>intro k d h _ _;exact .inl ⟨rfl,h⟩
 |succ r ih=>
  intro k d h hn hp
  have nn:=h.nn
  have np:=h.np
  have hs:=p0C hb k
  have pm:=e1R h (by omega) (by omega)
  have ew:b0z d ((u+k:Nat):Int) (bl.getD k ⟨#[]⟩)=if d.steps=1 then (c0s d.mask (i0D d ((u+k:Nat):Int) (bl.getD k ⟨#[]⟩)),13) else (c0E (i0D d ((u+k:Nat):Int) (bl.getD k ⟨#[]⟩)),0):=by
   unfold b0z
   rw [if_neg (by rw [h.dn];decide),if_neg (by omega),if_neg (by omega),if_neg (by omega)]
  simp only [c0N]
  rw [ew]
  by_cases hst:d.steps=1
  .rw [if_pos hst,if_neg (by simp)]
   refine .inr ⟨rfl,y0y (m0r pm (by show u+(k+1)<=d.nn;omega) _) (by omega)⟩
  .rw [if_neg hst,if_pos rfl]
   have:=ih (k+1) _ (y0A pm) (by omega) (by omega)
   rw [show k+1+r=k+(r+1) from by omega] at this
   exact this
structure Aw (d:Dk) (j:Jr):Prop where
 ok:d.ok
 dn:d.down=false
 np:d.np=0
 kp:d.kept=d.now
 nn:d.nn<=2000
 sz:∀b∈d.now,b.size<=64
 jo:JO d j
 js:Js d.now d.nn j
theorem Aw.z {d:Dk} {j:Jr} (h:Aw d j):Jz j:=⟨h.jo.ge,h.jo.gz,h.jo.st⟩
theorem Aw.op {d:Dk} {j:Jr} (h:Aw d j):opJ d=j:=n0L h.js
theorem h1l {d:Dk} {j:Jr} (h:Aw d j) (u:Nat) (bl:List ByteArray):Mid d u bl 0 d:=⟨h.ok,h.dn,h.np,fun i hi=>by omega,fun i hi=>by omega,h.kp,by rw [h.np];exact h.kp,rfl⟩
theorem h1m {l:List ByteArray} (h:∀x,(l.getD x ⟨#[]⟩).size<=64):∀b∈l,b.size<=64:=by
 intro b hb
 obtain ⟨i,hi,rfl⟩:=List.getElem_of_mem hb
 have:=h i
 rw [List.getD,List.getElem?_eq_getElem hi] at this
 exact this
theorem b1q {d:Dk} {j:Jr} (jo:JO d j) {g:List ByteArray} (hg:Gf j d g) (h0:g≠[]) {d':Dk} (hn:d'.nn=d.nn):JO d' (d0E j g):=by
 have gs:=jo.gs
 have rl:=jo.rl
 have rm:=jo.rm
 have us:=jo.us
 have hrm:=hg.rm
 have hl:0<g.length:=by cases g with|nil=>exact absurd rfl h0|cons a b=>simp
 have hnb:0<b0i (a0C g):=by
  have:0<(a0C g).size:=by rw [<-d0R,d0S hg.ok];have:=m0l (g:=g) g.length;omega
  unfold b0i;omega
 have hle:=hg.le
 refine ⟨by rw [hn];show j.used+b0i (a0C g)<=d.nn;omega,by show j.groups+1<=j.used+b0i (a0C g);omega,by show (j.recs++g).length=j.nr+g.length;rw [List.length_append];omega,by show j.nr+g.length<=256*(j.groups+1);omega,jo.ge,jo.gz,jo.st,g1V jo.hb _ _⟩
theorem u0R {d0 d:Dk} {j:Jr} {g:List ByteArray} (h:Aw d0 j) (hg:Gf j d0 g) (h0:g≠[]) (hd:Dead d0 j.used (bkL j.head (a0C g) (b0i (a0C g))) (b0i (a0C g)) d):
  (∀b∈d.now,b.size<=64)/\(opJ (b0m d).1=j\/opJ (b0m d).1=d0E j g):=by
 have hl:0<g.length:=by cases g with|nil=>exact absurd rfl h0|cons a b=>simp
 have er:(b0m d).1= { d with down:=false}:=by unfold b0m;rw [if_pos hd.dn]
 have hrm:=hg.rm
 have hus:=h.jo.us
 have hat:∀i,i<b0i (a0C g)->d.now.getD (j.used+i) ⟨#[]⟩=bK j.head (a0C g) i\/d.now.getD (j.used+i) ⟨#[]⟩=⟨#[]⟩:=by
  intro i hi
  rcases hd.pt (j.used+i) with e|⟨_,_,e⟩
  .exact .inr (e.trans (h.js.emp _ (by omega)))
  .rw [Nat.add_sub_cancel_left,r0j _ _ hi] at e;exact .inl e
 have hke:∀i,i<j.used\/j.used+b0i (a0C g)<=i->d.now.getD i ⟨#[]⟩=d0.now.getD i ⟨#[]⟩:=by
  intro i hi
  rcases hd.pt i with e|⟨a,b,_⟩
  .exact e
  .omega
 refine ⟨h1m (fun x=> ?_),?_⟩
 .rcases hd.pt x with e|⟨a,b,e⟩
  .rw [e];exact p0C h.sz x
  .rw [e];exact p0C (y0u _ _ _) _
 .by_cases hall:∀i,i<b0i (a0C g)->d.now.getD (j.used+i) ⟨#[]⟩=bK j.head (a0C g) i
  .right
   have:=r0t h.js hg.ok hl hg.le (by omega) hall hke
   rw [er]
   exact n0L (d:= { d with down:=false}) (by show Js d.now d.nn _;rw [hd.nn];exact this)
  .left
   obtain ⟨i,hi⟩:=Classical.not_forall.1 hall
   obtain ⟨hi,hne⟩:=Classical.not_imp.1 hi
   refine e1N h.js hg.ok hl hat ⟨i,hi,?_⟩ (fun i hi=>hke i (.inl hi)) _ (by rw [er]) (by rw [er];exact hd.nn)
   rcases hat i hi with e|e
   .exact absurd e hne
   .exact e
theorem c1y {j:Jr} {d:Dk} {g:List ByteArray} (h:Aw d j) (hg:Gf j d g) (h0:g≠[]):
  (cmR (j.with g) d).2.1.nn=d.nn/\(((cmR (j.with g) d).2.2=0/\(cmR (j.with g) d).1=d0E j g/\Aw (cmR (j.with g) d).2.1 (d0E j g))\/
  ((cmR (j.with g) d).2.2=13/\(cmR (j.with g) d).1=i0E (j.with g)/\Dead d j.used (bkL j.head (a0C g) (b0i (a0C g))) (b0i (a0C g)) (cmR (j.with g) d).2.1)):=by
 have hz:=h.z
 have hrm:=hg.rm
 have hnn:=h.nn
 have hus:=h.jo.us
 have hbs:=y0u j.head (a0C g) (b0i (a0C g))
 have hw:=h1k hbs (b0i (a0C g)) 0 d (h1l h j.used _) (by omega) (by omega)
 rw [Nat.zero_add] at hw
 have eW:cmW (j.with g) d=c0N j.used (bkL j.head (a0C g) (b0i (a0C g))) (b0i (a0C g)) 0 d:=rfl
 have er:cmR (j.with g) d=if (cmW (j.with g) d).2=false then (i0E (j.with g),(cmW (j.with g) d).1,13)
   else if (b0P (cmW (j.with g) d).1).2≠0 then (i0E (j.with g),(b0P (cmW (j.with g) d).1).1,13)
   else (b1o (j.with g),(b0P (cmW (j.with g) d).1).1,0):=by
  unfold cmR
  rw [if_neg (show¬(j.with g).stopped=true by show¬j.stopped=true;rw [hz.st];decide),if_neg (show¬l0i (j.with g).grp≠0 from fun e=>e (c1v hg h0))]
 rw [er,eW]
 generalize c0N j.used (bkL j.head (a0C g) (b0i (a0C g))) (b0i (a0C g)) 0 d=W at hw⊢
 rcases hw with ⟨w1,wm⟩|⟨w1,wd⟩
 .rw [if_neg (by rw [w1];decide)]
  have hnn1:=wm.nn
  by_cases hst:W.1.steps=1
  .have ef:b0P W.1=(c0s W.1.mask W.1,13):=by unfold b0P;rw [if_neg (by rw [wm.dn];decide),if_pos hst]
   rw [ef,if_pos (by simp)]
   have:=m0r wm (by omega) W.1.mask
   exact ⟨this.nn,.inr ⟨rfl,rfl,this⟩⟩
  .have ef:b0P W.1=(c0E (f0N W.1),0):=by unfold b0P;rw [if_neg (by rw [wm.dn];decide),if_neg hst]
   rw [ef,if_neg (by simp)]
   have enow:∀x,W.1.now.getD x ⟨#[]⟩=if j.used<=x/\x<j.used+b0i (a0C g) then (bkL j.head (a0C g) (b0i (a0C g))).getD (x-j.used) ⟨#[]⟩ else d.now.getD x ⟨#[]⟩:=by
    intro x
    rw [<-wm.wh,wm.np,n0N (b0i (a0C g)) wm.pn wm.ps (by rw [wm.ok.kl];omega),wm.kp]
    by_cases c:j.used<=x/\x<j.used+b0i (a0C g)
    .rw [if_pos c,if_pos ⟨c.1,c.2,rfl⟩]
    .rw [if_neg c,if_neg (fun k=>c ⟨k.1,k.2.1⟩)]
   refine ⟨hnn1,.inl ⟨rfl,?_,?_⟩⟩
   .obtain ⟨a,b,c,e,f,gg,n,s⟩:=j
    have h1:=hz.ge
    have h2:=hz.gz
    have h3:=hz.st
    simp only at h1 h2 h3
    subst h1 h2 h3
    rfl
   .have hl:0<g.length:=by cases g with|nil=>exact absurd rfl h0|cons a b=>simp
    refine ⟨k0J (t0i wm.ok),wm.dn,rfl,wm.wh,by show W.1.nn<=2000;omega,h1m (fun x=> ?_),b1q h.jo hg h0 hnn1,?_⟩
    .show (W.1.now.getD x ⟨#[]⟩).size<=64
     rw [enow]
     split
     .exact p0C hbs _
     .exact p0C h.sz x
    .show Js W.1.now W.1.nn (d0E j g)
     rw [hnn1]
     refine r0t h.js hg.ok hl hg.le (by omega) (fun i hi=> ?_) (fun i hi=> ?_)
     .rw [enow,if_pos (by omega),Nat.add_sub_cancel_left,r0j _ _ hi]
     .rw [enow,if_neg (by omega)]
 .rw [if_pos w1]
  exact ⟨wd.nn,.inr ⟨rfl,rfl,wd⟩⟩
end
section
attribute [local irreducible] seq ByteArray.extract
def Oq.ops (Q:Oq):List Bop:=(List.range Q.n).map Q.at
theorem g0x (Q:Oq):Q.ops.length=Q.n:=by unfold Oq.ops;rw [List.length_map,List.length_range]
theorem y0B (Q:Oq) {k:Nat} (h:k<Q.n):Q.ops[k]?=some (Q.at k):=by
 unfold Oq.ops
 rw [List.getElem?_map,List.getElem?_range h];rfl
theorem n0O (Q:Oq) {k:Nat} (h:k<Q.n):Q.ops.take (k+1)=Q.ops.take k++ [Q.at k]:=by
 have hk:k<Q.ops.length:=by rw [g0x];exact h
 have e:=y0B Q h
 rw [List.getElem?_eq_getElem hk] at e
 rw [List.take_succ_eq_append_getElem hk,Option.some.inj e]
theorem k0O (Q:Oq):Q.ops.take Q.n=Q.ops:=by rw [<-g0x Q,List.take_length]
theorem b1r {s0:Bks} {A:List Bop} {Q:Oq} {k:Nat} (hk:k<Q.n) (h:Ran s0 (A++Q.ops.take k)) (he:doE (b0g s0 (A++Q.ops.take k)) (Q.at k)=0):Ran s0 (A++Q.ops.take (k+1)):=by
 rw [n0O Q hk,<-List.append_assoc]
 exact a1L h he
theorem u0S (s0:Bks) (A:List Bop) {Q:Oq} {k:Nat} (hk:k<Q.n):doS (b0g s0 (A++Q.ops.take k)) (Q.at k)=b0g s0 (A++Q.ops.take (k+1)):=by
 rw [n0O Q hk,<-List.append_assoc,p0s]
theorem y0C {s0:Bks} {A:List Bop} (hA:Ran s0 A) (Q:Oq):(Ran s0 (A++Q.ops)/\∀k,k<Q.n->Ran s0 (A++Q.ops.take k)/\doE (b0g s0 (A++Q.ops.take k)) (Q.at k)=0)\/
  ∃i,i<Q.n/\(∀k,k<i->Ran s0 (A++Q.ops.take k)/\doE (b0g s0 (A++Q.ops.take k)) (Q.at k)=0)/\Ran s0 (A++Q.ops.take i)/\doE (b0g s0 (A++Q.ops.take i)) (Q.at i)≠0:=by
 have key:∀n,n<=Q.n->(Ran s0 (A++Q.ops.take n)/\∀k,k<n->Ran s0 (A++Q.ops.take k)/\doE (b0g s0 (A++Q.ops.take k)) (Q.at k)=0)\/
   ∃i,i<Q.n/\(∀k,k<i->Ran s0 (A++Q.ops.take k)/\doE (b0g s0 (A++Q.ops.take k)) (Q.at k)=0)/\Ran s0 (A++Q.ops.take i)/\doE (b0g s0 (A++Q.ops.take i)) (Q.at i)≠0:=by
  intro n
  induction n with
  |zero=>intro _;exact .inl ⟨by rw [List.take_zero,List.append_nil];exact hA,fun k hk=>absurd hk (Nat.not_lt_zero _)⟩
  |succ n ih=>
   intro hn
   rcases ih (by omega) with ⟨h1,h2⟩|h
   .by_cases he:doE (b0g s0 (A++Q.ops.take n)) (Q.at n)=0
    .refine .inl ⟨b1r (by omega) h1 he,fun k hk=> ?_⟩
     by_cases e:k=n
     .subst e;exact ⟨h1,he⟩
     .exact h2 k (by omega)
    .exact .inr ⟨n,by omega,h2,h1,he⟩
   .exact .inr h
 rcases key Q.n (Nat.le_refl _) with ⟨h1,h2⟩|h
 .exact .inl ⟨by rw [<-k0O Q];exact h1,h2⟩
 .exact .inr h
def Oq.txt (Q:Oq) (k:Nat):List ByteArray:=(Q.ops.take k).map c0c
theorem i0d (Q:Oq) {k:Nat} (h:k<=Q.n):(Q.txt k).length=k:=by
 unfold Oq.txt;rw [List.length_map,List.length_take,g0x];omega
theorem t0m (Q:Oq) {k:Nat} (h:k<Q.n):Q.txt (k+1)=Q.txt k++ [c0c (Q.at k)]:=by
 unfold Oq.txt;rw [n0O Q h,List.map_append];rfl
theorem b1s (Q:Oq):Q.txt 0= []:=rfl
theorem r0v (Q:Oq):Q.txt Q.n=Q.ops.map c0c:=by unfold Oq.txt;rw [k0O]
theorem e1S (Q:Oq) {k:Nat} (h:k<Q.n):(Q.ops.map c0c).getD k ⟨#[]⟩=c0c (Q.at k):=by
 rw [List.getD,List.getElem?_map,y0B Q h];rfl
theorem y0D (j:Jr) (d:Dk) (g:List ByteArray) (r:ByteArray) (h:jaE (j.with g) d r=0):jaJ (j.with g) d r=j.with (g++ [r]):=by
 rw [y0r h]
 simp only [Jr.with,List.length_append,List.length_singleton]
theorem c1z {j:Jr} {d:Dk} (hj:Jz j) (Q:Oq) (n:Nat) (hn:n<=Q.n) (h:∀k,k<n->jaE (j.with (Q.txt k)) d (c0c (Q.at k))=0):Gf j d (Q.txt n):=by
 have key:∀k,k<=n->fiO j d (Q.ops.map c0c) k=Q.txt k:=by
  intro k
  induction k with
  |zero=>intro _;rfl
  |succ k ih=>
   intro hk
   have ih:=ih (by omega)
   have h0:=h k (by omega)
   simp only [fiO]
   rw [n0M hj,ih,e1S Q (by omega),if_pos h0,t0m Q (by omega)]
 rw [<-key n (Nat.le_refl _)]
 exact h1i hj d _ n
theorem y0E (j:Jr) (d:Dk) (Q:Oq):(∀k,k<Q.n->jaE (j.with (Q.txt k)) d (c0c (Q.at k))=0)\/
  ∃i,i<Q.n/\(∀k,k<i->jaE (j.with (Q.txt k)) d (c0c (Q.at k))=0)/\jaE (j.with (Q.txt i)) d (c0c (Q.at i))≠0:=by
 have key:∀n,n<=Q.n->(∀k,k<n->jaE (j.with (Q.txt k)) d (c0c (Q.at k))=0)\/
   ∃i,i<Q.n/\(∀k,k<i->jaE (j.with (Q.txt k)) d (c0c (Q.at k))=0)/\jaE (j.with (Q.txt i)) d (c0c (Q.at i))≠0:=by
  intro n
  induction n with
  |zero=>intro _;exact .inl fun k hk=>absurd hk (Nat.not_lt_zero _)
  |succ n ih=>
   intro hn
   rcases ih (by omega) with h2|h
   .by_cases he:jaE (j.with (Q.txt n)) d (c0c (Q.at n))=0
    .refine .inl fun k hk=> ?_
     by_cases e:k=n
     .subst e;exact he
     .exact h2 k (by omega)
    .exact .inr ⟨n,by omega,h2,he⟩
   .exact .inr h
 exact key Q.n (Nat.le_refl _)
end
section
attribute [local irreducible] a0B a0D a0u a0Y
attribute [local irreducible] seq ByteArray.extract
end
section
attribute [local irreducible] a0B a0D a0u a0Y
attribute [local irreducible] seq ByteArray.extract
theorem e1T {α:Type} {l:List α} {n:Nat} (h:l.length=n):seg 0 n l=l:=by
 unfold seg;rw [List.drop_zero,List.take_of_length_le (by omega)]
theorem k0P (n:Nat) (l:List ByteArray) (hl:l.length=n) (hn:n<=1000000):FC Tryz.prog 2 63 [.sl 1 0 0 n] [(1,some (.one true (.cols n [.sc (.strs l)])))] (a0s (.sl 2 0 0 n) [(2,some (.one false (.cols n [.sc (.strs l)])))] 3):=by
 cases n with
 |zero=>
  obtain rfl:=List.eq_nil_of_length_eq_zero hl
  refine w0a rfl ?_
  refine a0p mixed a0x Tryz.func63 rfl (by kernel_rfl) (by kernel_rfl) (by kernel_rfl) ?_
  repeat' ((conv=>whnf);first|((first|apply a0f|apply a0c|apply a0g|apply a0b|apply a0h|apply a0a)<;>intro h<;>try (exfalso;(try dsimp only at h);omega))|refine a0i ?_|(refine And.intro ?_ ?_))
  all_goals (conv=>whnf)
  all_goals first
   |exact e0h (fun _ _ _ h=> .inl h) (a0n (l:= [0,1]) rfl rfl trivial a0k)
   |exact e0h (fun _ _ _ h=> .inr h) (a0n (l:= [0,1,3]) rfl rfl ⟨rfl,trivial⟩ (a0d a0k))
   |decide
 |succ n=>
  refine a0p mixed a0x Tryz.func63 rfl (by kernel_rfl) (by kernel_rfl) (by kernel_rfl) ?_
  repeat' ((conv=>whnf);first|((first|apply a0f|apply a0c|apply a0g|apply a0b|apply a0h|apply a0a)<;>intro h<;>try (exfalso;(try dsimp only at h);omega))|refine a0i ?_)
  all_goals (conv=>whnf)
  all_goals (rw [Nat.zero_add (n+1),e1T hl];exact a0n (l:= [0,1,3]) rfl rfl ⟨rfl,trivial⟩ (a0d a0k))
theorem m0s (j:Jr) (hl:j.recs.length=j.nr) (hn:j.nr<=1000000):FC Tryz.prog 8 46 [.ptr 1 0 0 0] [(1,b0y true (jrC 5 6 j)),(5,grB j.nr j.recs)] (a0s (.sl 8 0 0 j.nr) [(8,grW j.nr j.recs)] 9):=by
 have c:=k0P j.nr j.recs hl hn
 refine a0p mixed a0x Tryz.func46 rfl (by kernel_rfl) (by kernel_rfl) (by kernel_rfl) ?_
 repeat' ((conv=>whnf);first|refine a0e (l:= [0,5]) (c) ?_|refine a0l (l:= [0,5]) (c) ?_|((first|apply a0f|apply a0c|apply a0g|apply a0b|apply a0h|apply a0a)<;>intro h<;>try (exfalso;(try dsimp only at h);omega))|refine a0i ?_)
 all_goals (conv=>whnf)
 all_goals exact a0n (l:= [0,1,2,3,4,5,6,7,8]) rfl rfl ⟨rfl,trivial⟩ (a0d a0k)
def a1:ByteArray:=⟨#[97]⟩
end
section
attribute [local irreducible] a0B a0D a0u a0Y sortI
attribute [local irreducible] seq ByteArray.extract b0g c0c w0
abbrev smP (p:Nat):SV:= .agg [.sl p 0 0 3,.str sEu,.nsl,.int .i64 64800,.int .i64 7]
abbrev paW (ro:Bool):Option HB:=some (.one ro (.cols 3 [.sc (.strs q3)]))
def rnS (A:List Bop) (X:List ByteArray) (k:Nat):VS:=⟨[(6,.ptr 5 0 0 0),(21,.sl 2 0 0 A.length),(22,.int .i64 A.length),(23,.int .i64 k)],(0,some (GB glT))::(2,some (.one true (.cols A.length [.sc (.strs X)])))::a1W (fun i=>i+4) (b0g w0 (A.take k)),24⟩
theorem m0t (A:List Bop) (hA:Ran w0 A) (hl:A.length<=1000000):
  FC Tryz.prog 3 47 [smP 1,.sl 2 0 0 A.length] [(0,some (GB glT)),(1,paW true),(2,some (.one true (.cols A.length [.sc (.strs (A.map c0c))])))]
   (a0s (.tup [.ptr 3 0 0 0,.int .i64 0]) (a1W (fun i=>i+2) (b0g w0 A)) 22):=by
 have c1:=r0b
 have h0:w0=b0g w0 (A.take 0):=by rw [List.take_zero];unfold b0g;rfl
 have htx:∀k,k<A.length->(A.map c0c).getD k ⟨#[]⟩=c0c (A.getD k a1K):=fun k hk=>g1N A hk
 generalize A.map c0c=X at*
 rw [h0] at c1
 refine a0p mixed a0x Tryz.func47 rfl (by kernel_rfl) (by kernel_rfl) (by kernel_rfl) ?_
 repeat' ((conv=>whnf);first|refine a0e (l:= [0,1]) (c1) ?_|refine a0l (l:= [0,1]) (c1) ?_|((first|apply a0f|apply a0c|apply a0g|apply a0b|apply a0h|apply a0a)<;>intro h<;>try (exfalso;(try dsimp only at h);omega))|refine a0i ?_)
 all_goals (conv=>whnf)
 all_goals first
  |(exfalso;omega)
  |(exfalso;exact h rfl)
  |skip
 refine a0z (rnS A X) (fun k=>k<=A.length) (fun k=>A.length-k) 0 [0,1,2,3,4,5,6,7,8,9,10,11,12,13,14,15,16,17,18,19,20,21,22,23] [] ⟨rfl,⟨rfl,rfl,rfl,rfl,trivial⟩,⟨gwk rfl,rfl,rfl,rfl,rfl,rfl,rfl,rfl,rfl,rfl,rfl,rfl,rfl,rfl,rfl,rfl,rfl,rfl,rfl,rfl,rfl,trivial⟩⟩ (Nat.zero_le _) ?_
 intro k hk
 by_cases hk2:k<A.length
 .have ht:(BCol.sc (Col.strs X)).at ((k:Int).toNat+0)= .str (c0c (A.getD k a1K)):=by
   show SV.str (X.getD ((k:Int).toNat+0) ⟨#[]⟩)=_
   rw [f0d,htx k hk2]
  have hd:=hA.ok k hk2
  have g1:=p0r (A.getD k a1K) (x0M hd)
  have d:=u0B (b0g w0 (A.take k)) (A.getD k a1K) (g0s n0A _)
  rw [hd,x0L w0 A hk2] at d
  generalize A.getD k a1K=o at*
  unfold rnS
  generalize hs2:b0g w0 (A.take (k+1))=s2 at*
  repeat' ((conv=>whnf);first|(rw [ht])|(refine a0t (g1) rfl rfl rfl rfl ?_)|(refine a0w (g1) rfl rfl rfl rfl ?_)|refine a0e (l:= [0,5,6,7,8,9,10,11,12,13,14,15,16,17,18,19,20,21,22,23]) (d) ?_|refine a0l (l:= [0,5,6,7,8,9,10,11,12,13,14,15,16,17,18,19,20,21,22,23]) (d) ?_|((first|apply a0f|apply a0c|apply a0g|apply a0b|apply a0h|apply a0a)<;>intro h<;>try (exfalso;(try dsimp only at h);omega))|refine a0i ?_)
  all_goals (conv=>whnf)
  all_goals first
   |(exfalso;omega)
   |(exfalso;exact h rfl)
   |(subst hs2;exact ⟨k+1,[0,1,2,3,4,5,25,7,8,9,26,11,12,13,27,15,16,17,18,19,20,28,29,30],[],hk2,(show A.length-(k+1)<A.length-k by omega),⟨rfl,⟨rfl,rfl,rfl,congrArg (fun z=>some (SV.int .i64 z)) (a0M (by omega)),trivial⟩,⟨gwk rfl,rfl,rfl,rfl,rfl,rfl,rfl,rfl,rfl,rfl,rfl,rfl,rfl,rfl,rfl,rfl,rfl,rfl,rfl,rfl,rfl,trivial⟩⟩⟩)
   |trace_state
 have ek:k=A.length:=by omega
 subst ek
 unfold rnS
 rw [List.take_length]
 repeat' ((conv=>whnf);first|((first|apply a0f|apply a0c|apply a0g|apply a0b|apply a0h|apply a0a)<;>intro h<;>try (exfalso;(try dsimp only at h);omega))|refine a0i ?_)
 all_goals (conv=>whnf)
 all_goals first
  |(exfalso;omega)
  |exact a0n (l:= [0,1,2,5,6,7,8,9,10,11,12,13,14,15,16,17,18,19,20,21,22,23]) rfl rfl ⟨rfl,rfl,rfl,rfl,rfl,rfl,rfl,rfl,rfl,rfl,rfl,rfl,rfl,rfl,rfl,rfl,rfl,rfl,rfl,trivial⟩ h0Z
  |trace_state
abbrev kpC (cnt:Nat) (st:Bool):List SV:= [.sl 2 0 0 3,.str sEu,.nsl,.int .i64 64800,.int .i64 7,.ptr 3 0 0 0,.ptr 22 0 0 0,.int .i64 cnt,.bool st]
abbrev jrK (r g:Nat) (j:Jr):List SV:= [.ptr 25 0 0 0,.sl r 0 0 j.nr,.int .i64 j.groups,.int .i64 j.used,.int .u64 j.head,.sl g 0 0 j.ng,.bool j.stopped]
abbrev dkK (p:Nat) (d:Dk):List SV:= [.sl 26 0 0 d.nn,.sl 27 0 0 d.nn,.sl p 0 0 d.np,.bool d.down,.int .i64 d.steps,.int .u64 d.mask]
abbrev j1x (ro:Bool) (r:Nat->Nat) (s:Bks):Option HB:=some (.one ro (.cells [.str s.cur,.int .i64 s.days,.sl (r 2) 0 0 s.na,.map (r 3) 0,.ptr (r 4) 0 0 0,.int .i64 s.lg.ne,.ptr (r 11) 0 0 0,.int .i64 s.last]))
abbrev rK:Nat->Nat:=fun i=>match i with|1=>3|i=>i+27
theorem i0e (s:Bks) (A:List Bop) (hA:Ran w0 A) (hl:A.length<=1000000) (j:Jr) (hj:j.recs=A.map c0c) (hn:j.nr=A.length) (cnt:Nat) (st:Bool):
  FC Tryz.prog 29 29 [.ptr 1 0 0 0] [(0,some (GB glT)),(1,some (.one true (.cells (kpC cnt st)))),(2,paW true),(3,j1x false (fun i=>i+2) s),(22,b0y true (jrK 23 24 j)),(23,grB j.nr j.recs)]
   (a0s (.tup []) (a1W rK (b0g w0 A)) 47):=by
 have cR:=m0s j (by rw [hj,hn,List.length_map]) (by omega)
 have cP:=m0t A hA hl
 obtain ⟨recs,nr,gr,us,hd,grp,ng,sp⟩:=j
 dsimp only at hj hn
 subst hj hn
 generalize A.map c0c=X at*
 generalize b0g w0 A=s2 at*
 refine a0p mixed a0x Tryz.func29 rfl (by kernel_rfl) (by kernel_rfl) (by kernel_rfl) ?_
 repeat' ((conv=>whnf);first|refine a0e (l:= [0,22,25,26,27,23,24,28]) (cR) ?_|refine a0l (l:= [0,22,25,26,27,23,24,28]) (cR) ?_|refine a0e (l:= [0,2,29]) (cP) ?_|refine a0l (l:= [0,2,29]) (cP) ?_|((first|apply a0f|apply a0c|apply a0g|apply a0b|apply a0h|apply a0a)<;>intro h<;>try (exfalso;(try dsimp only at h);omega))|refine a0i ?_)
 all_goals (conv=>whnf)
 all_goals first
  |(exfalso;omega)
  |(exfalso;exact h rfl)
  |exact a0n (l:= [0,1,2,3,4,5,6,7,8,9,10,11,12,13,14,15,16,17,18,19,20,21,22,23,24,25,26,27,28,31,32,33,34,35,36,37,38,39,40,41,42,43,44,45,46,47,48]) rfl rfl ⟨rfl,rfl,rfl,rfl,rfl,rfl,rfl,rfl,rfl,rfl,rfl,rfl,rfl,rfl,rfl,rfl,rfl,rfl,rfl,trivial⟩ h0Z
  |trace_state
theorem r0w:c0a Tryz.prog 75 [.nsl] .nsl:=by
 refine a0p mixed a0x Tryz.func75 rfl (by kernel_rfl) (by kernel_rfl) (by kernel_rfl) ?_
 repeat' ((conv=>whnf);first|((first|apply a0f|apply a0c|apply a0g|apply a0b|apply a0h|apply a0a)<;>intro h<;>try (exfalso;(try dsimp only at h);omega))|refine a0i ?_)
 all_goals (conv=>whnf)
 all_goals first
  |exact a0o rfl
  |trace_state
theorem e1U:FC Tryz.prog 2 48 [smP 1] [(1,paW true)] (a0s (smP 2) [(2,paW false)] 3):=by
 have c1:=k0P 3 q3 rfl (by decide)
 have c2:=r0w
 refine a0p mixed a0x Tryz.func48 rfl (by kernel_rfl) (by kernel_rfl) (by kernel_rfl) ?_
 repeat' ((conv=>whnf);first|refine a0e (l:= [0,1]) (c1) ?_|refine a0l (l:= [0,1]) (c1) ?_|(refine a0j (c2) rfl rfl rfl ?_)|(refine a0m (c2) rfl rfl rfl ?_)|((first|apply a0f|apply a0c|apply a0g|apply a0b|apply a0h|apply a0a)<;>intro h<;>try (exfalso;(try dsimp only at h);omega))|refine a0i ?_)
 all_goals (conv=>whnf)
 all_goals first
  |exact a0n (l:= [0,1,4]) rfl rfl ⟨rfl,trivial⟩ (a0d a0k)
  |trace_state
theorem e0F (cnt:Nat) (st:Bool):FC Tryz.prog 29 8 [.ptr 1 0 0 0] [(1,some (.one true (.cells (kpC cnt st))))] (a0s (.ptr 3 0 0 0) [] 29):=by
 refine a0p mixed a0x Tryz.func8 rfl (by kernel_rfl) (by kernel_rfl) (by kernel_rfl) ?_
 repeat' ((conv=>whnf);first|((first|apply a0f|apply a0c|apply a0g|apply a0b|apply a0h|apply a0a)<;>intro h<;>try (exfalso;(try dsimp only at h);omega))|refine a0i ?_)
 all_goals (conv=>whnf)
 all_goals exact a0n (l:= [0,1,2,3,4,5,6,7,8,9,10,11,12,13,14,15,16,17,18,19,20,21,22,23,24,25,26,27,28]) rfl rfl trivial a0k
theorem b1t (cnt:Nat) (st:Bool):FC Tryz.prog 29 14 [.ptr 1 0 0 0] [(1,some (.one true (.cells (kpC cnt st))))] (a0s (.int .i64 cnt) [] 29):=by
 refine a0p mixed a0x Tryz.func14 rfl (by kernel_rfl) (by kernel_rfl) (by kernel_rfl) ?_
 repeat' ((conv=>whnf);first|((first|apply a0f|apply a0c|apply a0g|apply a0b|apply a0h|apply a0a)<;>intro h<;>try (exfalso;(try dsimp only at h);omega))|refine a0i ?_)
 all_goals (conv=>whnf)
 all_goals exact a0n (l:= [0,1,2,3,4,5,6,7,8,9,10,11,12,13,14,15,16,17,18,19,20,21,22,23,24,25,26,27,28]) rfl rfl trivial a0k
end
section
attribute [local irreducible] a0B a0D a0u a0Y sortI
attribute [local irreducible] seq ByteArray.extract b0g c0c w0
abbrev kpO (A:List Bop) (j:Jr) (s:Bks):a0v:=(6,some (.one false (.cells [.sl 7 0 0 3,.str sEu,.nsl,.int .i64 64800,.int .i64 7,.ptr 8 0 0 0,.ptr 27 0 0 0,.int .i64 A.length,.bool false])))::(7,paW false)::
 (27,b0y false [.ptr 2 0 0 0,.sl 28 0 0 j.nr,.int .i64 j.groups,.int .i64 j.used,.int .u64 j.head,.sl 29 0 0 j.ng,.bool j.stopped])::(28,grW j.nr j.recs)::(29,grW j.ng j.grp)::a1W (fun i=>i+7) s
theorem y0F (d:Dk) (A:List Bop) (hA:Ran w0 A) (hl:A.length<=1000000) (j:Jr) (ho:opJ d=j) (hj:j.recs=A.map c0c) (hn:j.nr=A.length) (hd:d.down=false) (hnn:d.nn<=4096) (hsz:∀b∈d.now,b.size<=64):
  FC Tryz.prog 6 6 [smP 1,.ptr 2 0 0 0] [(0,some (GB glT)),(1,paW true),(2,b0y true [.sl 3 0 0 d.nn,.sl 4 0 0 d.nn,.sl 5 0 0 d.np,.bool d.down,.int .i64 d.steps,.int .u64 d.mask]),(4,grB d.nn d.now)]
   (a0s (.tup [.ptr 6 0 0 0,.int .i64 0]) (kpO A j (b0g w0 A)) 30):=by
 have c1:=r0b
 have c2:=e1B d hd hnn hsz
 rw [ho] at c2
 have c3:=m0s j (by rw [hj,hn,List.length_map]) (by omega)
 have c4:=m0t A hA hl
 have c5:=e1U
 clear ho
 obtain ⟨recs,nr,gr,us,hd,grp,ng,sp⟩:=j
 dsimp only at hj hn
 subst hj hn
 generalize A.map c0c=X at*
 generalize b0g w0 A=s2 at*
 generalize w0=s1 at*
 have cK:FC Tryz.prog 6 21 [smP 1,.ptr 2 0 0 0] [(0,some (GB glT)),(1,paW true),(2,b0y true [.sl 3 0 0 d.nn,.sl 4 0 0 d.nn,.sl 5 0 0 d.np,.bool d.down,.int .i64 d.steps,.int .u64 d.mask]),(4,grB d.nn d.now)]
   (a0s (.tup [.ptr 6 0 0 0,.int .i64 0]) (kpO A ⟨X,A.length,gr,us,hd,grp,ng,sp⟩ s2) 30):=by
  refine a0p mixed a0x Tryz.func21 rfl (by kernel_rfl) (by kernel_rfl) (by kernel_rfl) ?_
  repeat' ((conv=>whnf);first|refine a0e (l:= [0,1]) (c1) ?_|refine a0l (l:= [0,1]) (c1) ?_|refine a0e (l:= [0,2,3,4,5]) (c2) ?_|refine a0l (l:= [0,2,3,4,5]) (c2) ?_|refine a0e (l:= [0,27,2,3,4,28,29,5]) (c3) ?_|refine a0l (l:= [0,27,2,3,4,28,29,5]) (c3) ?_|refine a0e (l:= [0,1,30]) (c4) ?_|refine a0l (l:= [0,1,30]) (c4) ?_|refine a0e (l:= [0,1]) (c5) ?_|refine a0l (l:= [0,1]) (c5) ?_|((first|apply a0f|apply a0c|apply a0g|apply a0b|apply a0h|apply a0a)<;>intro h<;>try (exfalso;(try dsimp only at h);omega))|refine a0i ?_)
  all_goals (conv=>whnf)
  all_goals first
   |(exfalso;omega)
   |(exfalso;exact h rfl)
   |exact a0n (l:= [0,1,2,3,4,5,51,50,31,32,33,34,35,36,37,38,39,40,41,42,43,44,45,46,47,48,49,27,28,29]) rfl rfl ⟨rfl,rfl,rfl,rfl,rfl,rfl,rfl,rfl,rfl,rfl,rfl,rfl,rfl,rfl,rfl,rfl,rfl,rfl,rfl,rfl,rfl,rfl,rfl,rfl,trivial⟩ (a0d (a0d (a0d (a0d (a0d h0Z)))))
   |trace_state
 refine a0p mixed a0x Tryz.func6 rfl (by kernel_rfl) (by kernel_rfl) (by kernel_rfl) ?_
 repeat' ((conv=>whnf);first|refine a0e (l:= [0,1,2,3,4,5]) (cK) ?_|refine a0l (l:= [0,1,2,3,4,5]) (cK) ?_|((first|apply a0f|apply a0c|apply a0g|apply a0b|apply a0h|apply a0a)<;>intro h<;>try (exfalso;(try dsimp only at h);omega))|refine a0i ?_)
 all_goals (conv=>whnf)
 all_goals first
  |exact a0n (l:= [0,1,2,3,4,5,7,8,9,10,11,12,13,14,15,16,17,18,19,20,21,22,23,24,25,26,27,28,29,30]) rfl rfl ⟨rfl,rfl,rfl,rfl,rfl,rfl,rfl,rfl,rfl,rfl,rfl,rfl,rfl,rfl,rfl,rfl,rfl,rfl,rfl,rfl,rfl,rfl,rfl,rfl,trivial⟩ (a0d (a0d (a0d (a0d (a0d h0Z)))))
  |trace_state
end
section
attribute [local irreducible] seq ByteArray.extract
structure Kw (d:Dk) (j:Jr):Prop where
 w:Jw d j
 a:Aw d j
theorem h1o (n:Nat) (h:1<=n/\n<=2000):Kw (v0a n) jr0:=
 ⟨c1x n h,⟨y0n n (by omega),rfl,rfl,rfl,h.2,(c1x n h).sz,n0I _,c1u n⟩⟩
theorem h1p {j:Jr} {d:Dk} {g:List ByteArray} (h:Kw d j) (hg:Gf j d g) (h0:g≠[]):
  (cmR (j.with g) d).2.2=0/\(cmR (j.with g) d).1=d0E j g/\Kw (cmR (j.with g) d).2.1 (d0E j g)/\(cmR (j.with g) d).2.1.nn=d.nn:=by
 obtain ⟨a,b,c,e⟩:=e1Q h.w hg h0
 refine ⟨a,b,⟨c,?_⟩,e⟩
 rcases (c1y h.a hg h0).2 with ⟨_,_,q⟩|⟨q,_⟩
 .exact q
 .rw [a] at q;cases q
theorem h1q {d:Dk} {j:Jr} (h:Aw d j) (n m:Int):Aw (r0p d n m).1 j/\(r0p d n m).1.nn=d.nn:=by
 unfold r0p
 rw [if_neg (by rw [h.dn];decide)]
 by_cases c:n<0\/1000000<n
 .rw [if_pos c];exact ⟨h,rfl⟩
 .rw [if_neg c]
  have o:=h.ok
  exact ⟨⟨⟨o.kl,o.nl,o.pl,o.sl,o.pb,o.pm,o.nm,by show 0<=n/\n<=1000000;omega⟩,h.dn,h.np,h.kp,h.nn,h.sz,⟨h.jo.us,h.jo.gs,h.jo.rl,h.jo.rm,h.jo.ge,h.jo.gz,h.jo.st,h.jo.hb⟩,h.js⟩,rfl⟩
theorem h1r (d:Dk) (n m:Int):∃s z,(r0p d n m).1= { d with steps:=s,mask:=z}:=by
 unfold r0p
 by_cases h:d.down=true
 .rw [if_pos h];exact ⟨d.steps,d.mask,rfl⟩
 .rw [if_neg h]
  by_cases c:n<0\/1000000<n
  .rw [if_pos c];exact ⟨d.steps,d.mask,rfl⟩
  .rw [if_neg c];exact ⟨n,m,rfl⟩
structure Fo (d:Dk) (j:Jr) (D:Dk×Int):Prop where
 e:D.2=0
 dn:D.1.down=false
 nn:D.1.nn=d.nn
 sz:∀b∈D.1.now,b.size<=64
 op:opJ D.1=j
theorem t0n {d:Dk} {j:Jr} (h:Aw d j) (m:Int):Fo d j (b0m (c0m m d)):=by
 have e1:c0m m d=c0s m d:=if_neg (by rw [h.dn];decide)
 have e2:b0m (c0s m d)=({ c0s m d with down:=false},0):=if_pos rfl
 have e3:i0w m d=d.now:=by unfold i0w;rw [h.np,<-h.kp];rfl
 rw [e1,e2]
 refine ⟨rfl,rfl,rfl,?_,?_⟩
 .show∀b∈i0w m d,b.size<=64
  rw [e3];exact h.sz
 .exact n0L (d:= { c0s m d with down:=false}) (by show Js (i0w m d) d.nn j;rw [e3];exact h.js)
theorem u0T {d0 d:Dk} {j:Jr} {g:List ByteArray} (h:Aw d0 j) (hg:Gf j d0 g) (h0:g≠[]) (hd:Dead d0 j.used (bkL j.head (a0C g) (b0i (a0C g))) (b0i (a0C g)) d) (m:Int):
  Fo d j (b0m (c0m m d))\/Fo d (d0E j g) (b0m (c0m m d)):=by
 have e1:c0m m d=d:=if_pos hd.dn
 have e2:b0m d=({ d with down:=false},0):=if_pos hd.dn
 obtain ⟨s1,s2⟩:=u0R h hg h0 hd
 rw [e2] at s2
 rw [e1,e2]
 rcases s2 with s2|s2
 .exact .inl ⟨rfl,rfl,rfl,s1,s2⟩
 .exact .inr ⟨rfl,rfl,rfl,s1,s2⟩
end
section
attribute [local irreducible] a0B a0D a0u a0Y
attribute [local irreducible] seq ByteArray.extract
theorem y0G {j:Jr} (h:Jz j) (o:List ByteArray):(if (j.with o).stopped=true then j.with o else { j.with o with grp:= [],ng:=0})=j:=by
 rw [if_neg (show¬(j.with o).stopped=true by show¬j.stopped=true;rw [h.st];decide)]
 exact r0u h
theorem b1u {j:Jr} (h:Jz j) (o:List ByteArray):FC Tryz.prog 8 31 [.ptr 1 0 0 0] [(1,b0y false (jrC 5 6 (j.with o))),(6,grW (j.with o).ng (j.with o).grp)] (a0s (.tup []) [(1,b0y false (jrC 5 8 j)),(8,grW j.ng j.grp)] 9):=by
 have c:=e1D (j.with o)
 rw [y0G h] at c
 exact c
end
section
attribute [local irreducible] a0B a0D a0u a0Y sortI
attribute [local irreducible] seq ByteArray.extract b0g c0c w0 Oq.ops Oq.txt
abbrev h1P (r:Nat->Nat) (rr rg p:Nat) (cnt:Nat) (st:Bool) (s:Bks) (j:Jr) (d:Dk):a0v:=
 (1,some (.one false (.cells (kpC cnt st))))::(2,paW false)::(22,b0y false (jrK rr rg j))::(rr,grW j.nr j.recs)::(rg,grW j.ng j.grp)::
 (25,b0y false (dkK p d))::(26,grW d.nn d.kept)::(27,grW d.nn d.now)::(p,some (.one false (.cols d.np [.sc (.ints .i64 d.pn),.sc (.strs d.ps)])))::a1W r s
abbrev rE:Nat->Nat:=fun i=>match i with|1=>3|i=>i+28
abbrev i1M (cnt:Nat) (s:Bks) (j:Jr) (d:Dk):a0v:=h1P (fun i=>i+2) 23 24 28 cnt false s j d
abbrev p0G (cnt:Nat) (st:Bool) (s:Bks) (j:Jr) (d:Dk):a0v:=h1P rE 48 49 50 cnt st s j d
abbrev kpH (cnt:Nat) (s:Bks) (j:Jr) (d:Dk) (Q:Oq):a0v:=(0,some (GB glT))::(29,some (.one true Q.b))::i1M cnt s j d
abbrev j1f (rg cnt:Nat) (s:Bks) (j:Jr) (d:Dk) (Q:Oq):a0v:=(0,some (GB glT))::(29,some (.one true Q.b))::h1P rE 23 rg 28 cnt false s j d
theorem g0y {r:Nat->Nat} {rr rg p:Nat} {cnt:Nat} {st:Bool} {s:Bks} {j:Jr} {d:Dk}:e0t (h1P r rr rg p cnt st s j d):=
 a0d (a0d (a0d (a0d (a0d (a0d (a0d (a0d (a0d h0Z))))))))
theorem h1s (cnt:Nat) (s:Bks) (j:Jr) (d:Dk) (Q:Oq) (h:Q.n<1\/16<Q.n):FC Tryz.prog 30 11 [.ptr 1 0 0 0,.sl 29 0 0 Q.n] (kpH cnt s j d Q) (a0s (.int .i64 4) (p0G cnt false s j d) 51):=by
 refine a0p mixed a0x Tryz.func11 rfl (by kernel_rfl) (by kernel_rfl) (by kernel_rfl) ?_
 repeat' ((conv=>whnf);first|((first|apply a0f|apply a0c|apply a0g|apply a0b|apply a0h|apply a0a)<;>intro h<;>try (exfalso;(try dsimp only at h);omega))|refine a0i ?_)
 all_goals (conv=>whnf)
 all_goals first
  |(exfalso;omega)
  |exact a0n (l:= [0,1,2,3,4,5,6,7,8,9,10,11,12,13,14,15,16,17,18,19,20,21,22,23,24,25,26,27,28,29,4,5,6,7,8,9,10,11,12,13,14,15,16,17,18,19,20,21,23,24,28]) rfl rfl ⟨rfl,rfl,rfl,rfl,rfl,rfl,rfl,rfl,rfl,rfl,rfl,rfl,rfl,rfl,rfl,rfl,rfl,rfl,rfl,rfl,rfl,rfl,rfl,rfl,rfl,rfl,rfl,rfl,trivial⟩ g0y
  |trace_state
def k1S (A:List Bop) (j:Jr) (d:Dk) (Q:Oq) (k:Nat):VS:=⟨[(0,.ptr 1 0 0 0),(1,.sl 29 0 0 Q.n),(27,.sl 29 0 0 Q.n),(28,.int .i64 Q.n),(29,.int .i64 k)],j1f 24 A.length (b0g w0 (A++Q.ops.take k)) j d Q,48⟩
theorem i0W (A:List Bop) (j:Jr) (d:Dk) (Q:Oq) (k:Nat) (h16:Q.n<=16) (hk:k<Q.n) (hR:Ran w0 (A++Q.ops.take k)) (he:doE (b0g w0 (A++Q.ops.take k)) (Q.at k)=0) (K:Exit->VS->Prop)
  (hK:∀v,(∃(l:List Nat) (u:List Up),upK u v (fun v=>Weak 30 l v (k1S A j d Q (k+1))))->K .normal v):
  c0t Tryz.prog T 30 (lpc Tryz.f11 0) (k1S A j d Q k) K:=by
 have c:=u0B (b0g w0 (A++Q.ops.take k)) (Q.at k) (g0s n0A _)
 rw [he,u0S w0 A hk] at c
 unfold k1S
 generalize b0g w0 (A++Q.ops.take k)=s at*
 generalize hs2:b0g w0 (A++Q.ops.take (k+1))=s2 at*
 repeat' ((conv=>whnf);first|refine a0e (l:= [0,3,30,31,32,33,34,35,36,37,38,39,40,41,42,43,44,45,46,47]) (c) ?_|refine a0l (l:= [0,3,30,31,32,33,34,35,36,37,38,39,40,41,42,43,44,45,46,47]) (c) ?_|((first|apply a0f|apply a0c|apply a0g|apply a0b|apply a0h|apply a0a)<;>intro h<;>try (exfalso;(try dsimp only at h);omega))|refine a0i ?_)
 all_goals (conv=>whnf)
 all_goals first
  |(exfalso;omega)
  |(exfalso;exact h rfl)
  |(subst hs2;exact hK _ ⟨[0,1,2,3,4,5,6,7,8,9,10,11,12,13,14,15,16,17,18,19,20,21,22,23,24,25,26,27,28,29,49,31,32,33,50,35,36,37,51,39,40,41,42,43,44,52,53,54],[],⟨rfl,⟨rfl,rfl,rfl,rfl,congrArg (fun z=>some (SV.int .i64 z)) (a0M (by omega)),trivial⟩,⟨gwk rfl,rfl,rfl,rfl,rfl,rfl,rfl,rfl,rfl,rfl,rfl,rfl,rfl,rfl,rfl,rfl,rfl,rfl,rfl,rfl,rfl,rfl,rfl,rfl,rfl,rfl,rfl,rfl,rfl,rfl,trivial⟩⟩⟩)
  |trace_state
def k2S (A:List Bop) (j:Jr) (d:Dk) (Q:Oq) (k:Nat):VS:=⟨[(0,.ptr 1 0 0 0),(1,.sl 29 0 0 Q.n),(48,.sl 29 0 0 Q.n),(49,.int .i64 Q.n),(50,.int .i64 k)],j1f 48 A.length (b0g w0 (A++Q.ops)) (j.with (Q.txt k)) d Q,49⟩
theorem n0P (A:List Bop) (j:Jr) (d:Dk) (Q:Oq) (k:Nat) (h16:Q.n<=16) (hk:k<Q.n) (hc:ckE (Q.at k)=0) (hj:(j.with (Q.txt k)).ok d) (hnn:d.nn<=4096) (he:jaE (j.with (Q.txt k)) d (c0c (Q.at k))=0) (K:Exit->VS->Prop)
  (hK:∀v,(∃(l:List Nat) (u:List Up),upK u v (fun v=>Weak 30 l v (k2S A j d Q (k+1))))->K .normal v):
  c0t Tryz.prog T 30 (lpc Tryz.f11 1) (k2S A j d Q k) K:=by
 have c1:=f0k (Q.at k) hc
 have c2:=p0D (j.with (Q.txt k)) d (c0c (Q.at k)) hj hnn
 rw [y0D _ _ _ _ he,he,<-t0m Q hk] at c2
 unfold k2S
 generalize hs:b0g w0 (A++Q.ops)=s at*
 generalize hj1:j.with (Q.txt k)=j1 at*
 generalize hj2:j.with (Q.txt (k+1))=j2 at*
 repeat' ((conv=>whnf);first|(refine a0t (c1) rfl rfl rfl rfl ?_)|(refine a0w (c1) rfl rfl rfl rfl ?_)|refine a0e (l:= [0,22,25,26,27,23,48,28]) (c2) ?_|refine a0l (l:= [0,22,25,26,27,23,48,28]) (c2) ?_|((first|apply a0f|apply a0c|apply a0g|apply a0b|apply a0h|apply a0a)<;>intro h<;>try (exfalso;(try dsimp only at h);omega))|refine a0i ?_)
 all_goals (conv=>whnf)
 all_goals first
  |(exfalso;omega)
  |(exfalso;exact h rfl)
  |(subst hs;subst hj1;subst hj2;exact hK _ ⟨[0,1,2,3,4,5,6,7,8,9,10,11,12,13,14,15,16,17,18,19,20,21,22,23,24,25,26,27,28,29,30,31,32,33,34,35,36,37,38,39,40,41,42,43,44,45,46,47,50],[],⟨rfl,⟨rfl,rfl,rfl,rfl,congrArg (fun z=>some (SV.int .i64 z)) (a0M (by omega)),trivial⟩,⟨gwk rfl,rfl,rfl,rfl,rfl,rfl,rfl,rfl,rfl,rfl,rfl,rfl,rfl,rfl,rfl,rfl,rfl,rfl,rfl,rfl,rfl,rfl,rfl,rfl,rfl,rfl,rfl,rfl,rfl,rfl,trivial⟩⟩⟩)
  |trace_state
theorem e1V (A:List Bop) (hA:Ran w0 A) (hl:A.length<=100000) (j:Jr) (hj:j.recs=A.map c0c) (hn:j.nr=A.length) (d:Dk) (Q:Oq) (h1:1<=Q.n) (h16:Q.n<=16) (i:Nat) (hi:i<Q.n) (hall:∀k,k<i->Ran w0 (A++Q.ops.take k)/\doE (b0g w0 (A++Q.ops.take k)) (Q.at k)=0) (he:doE (b0g w0 (A++Q.ops.take i)) (Q.at i)≠0):
  FC Tryz.prog 30 11 [.ptr 1 0 0 0,.sl 29 0 0 Q.n] (kpH A.length (b0g w0 (A++Q.ops.take 0)) j d Q)
   (a0s (.int .i64 (doE (b0g w0 (A++Q.ops.take i)) (Q.at i))) (p0G A.length false (if i=0 then b0g w0 (A++Q.ops.take 0) else b0g w0 A) j d) 51):=by
 refine a0p mixed a0x Tryz.func11 rfl (by kernel_rfl) (by kernel_rfl) (by kernel_rfl) ?_
 repeat' ((conv=>whnf);first|((first|apply a0f|apply a0c|apply a0g|apply a0b|apply a0h|apply a0a)<;>intro h<;>try (exfalso;(try dsimp only at h);omega))|refine a0i ?_)
 all_goals (conv=>whnf)
 all_goals first
  |(exfalso;omega)
  |skip
 refine a0z (k1S A j d Q) (fun k=>k<=i) (fun k=>i-k) 0 [0,1,2,3,4,5,6,7,8,9,10,11,12,13,14,15,16,17,18,19,20,21,22,23,24,25,26,27,28,29,4,5,6,7,8,9,10,11,12,13,14,15,16,17,18,19,20,21] [] ⟨rfl,⟨rfl,rfl,rfl,rfl,rfl,trivial⟩,⟨gwk rfl,rfl,rfl,rfl,rfl,rfl,rfl,rfl,rfl,rfl,rfl,rfl,rfl,rfl,rfl,rfl,rfl,rfl,rfl,rfl,rfl,rfl,rfl,rfl,rfl,rfl,rfl,rfl,rfl,rfl,trivial⟩⟩ (Nat.zero_le _) ?_
 intro k hk
 by_cases hk2:k<i
 .exact i0W A j d Q k h16 (by omega) (hall k hk2).1 (hall k hk2).2 _ (fun v ⟨l,u,hw⟩=>⟨k+1,l,u,hk2,by omega,hw⟩)
 have ek:k=i:=by omega
 subst ek
 have c:=u0B (b0g w0 (A++Q.ops.take k)) (Q.at k) (g0s n0A _)
 rw [i1y he] at c
 have c2:=i0e (b0g w0 (A++Q.ops.take k)) A hA (by omega) j hj hn A.length false
 unfold k1S
 cases k with
 |zero=>
  rw [if_pos rfl]
  generalize doE (b0g w0 (A++Q.ops.take 0)) (Q.at 0)=E at*
  generalize b0g w0 (A++Q.ops.take 0)=s at*
  repeat' ((conv=>whnf);first|refine a0e (l:= [0,3,30,31,32,33,34,35,36,37,38,39,40,41,42,43,44,45,46,47]) (c) ?_|refine a0l (l:= [0,3,30,31,32,33,34,35,36,37,38,39,40,41,42,43,44,45,46,47]) (c) ?_|((first|apply a0f|apply a0c|apply a0g|apply a0b|apply a0h|apply a0a)<;>intro h<;>try (exfalso;(try dsimp only at h);omega))|refine a0i ?_)
  all_goals (conv=>whnf)
  all_goals first
   |(exfalso;omega)
   |(exfalso;exact he h)
   |exact a0n (l:= [0,1,2,3,4,5,6,7,8,9,10,11,12,13,14,15,16,17,18,19,20,21,22,23,24,25,26,27,28,29,49,31,32,33,50,35,36,37,51,39,40,41,42,43,44,52,53,54,23,24,28]) rfl rfl ⟨rfl,rfl,rfl,rfl,rfl,rfl,rfl,rfl,rfl,rfl,rfl,rfl,rfl,rfl,rfl,rfl,rfl,rfl,rfl,rfl,rfl,rfl,rfl,rfl,rfl,rfl,rfl,rfl,trivial⟩ g0y
   |trace_state
 |succ k=>
  rw [if_neg (Nat.succ_ne_zero k)]
  generalize doE (b0g w0 (A++Q.ops.take (k+1))) (Q.at (k+1))=E at*
  generalize b0g w0 (A++Q.ops.take (k+1))=s at*
  generalize b0g w0 A=s2 at*
  repeat' ((conv=>whnf);first|refine a0e (l:= [0,3,30,31,32,33,34,35,36,37,38,39,40,41,42,43,44,45,46,47]) (c) ?_|refine a0l (l:= [0,3,30,31,32,33,34,35,36,37,38,39,40,41,42,43,44,45,46,47]) (c) ?_|refine a0e (l:= [0,1,2,3,49,31,32,33,50,35,36,37,51,39,40,41,42,43,44,52,53,54,22,23,24,25,26,27,28]) (c2) ?_|((first|apply a0f|apply a0c|apply a0g|apply a0b|apply a0h|apply a0a)<;>intro h<;>try (exfalso;(try dsimp only at h);omega))|refine a0i ?_)
  all_goals (conv=>whnf)
  all_goals first
   |(exfalso;omega)
   |(exfalso;exact he h)
   |exact a0n (l:= [0,1,2,3,4,5,6,7,8,9,10,11,12,13,14,15,16,17,18,19,20,21,22,23,24,25,26,27,28,29,55,56,57,58,59,60,61,62,63,64,65,66,67,68,69,70,71,72,23,24,28]) rfl rfl ⟨rfl,rfl,rfl,rfl,rfl,rfl,rfl,rfl,rfl,rfl,rfl,rfl,rfl,rfl,rfl,rfl,rfl,rfl,rfl,rfl,rfl,rfl,rfl,rfl,rfl,rfl,rfl,rfl,trivial⟩ g0y
   |trace_state
theorem h1t (A:List Bop) (hA:Ran w0 A) (hl:A.length<=100000) (j:Jr) (hj:j.recs=A.map c0c) (hn:j.nr=A.length) (d:Dk) (Q:Oq) (h1:1<=Q.n) (h16:Q.n<=16) (i:Nat) (hi:i<Q.n) (hall:∀k,k<i->Ran w0 (A++Q.ops.take k)/\doE (b0g w0 (A++Q.ops.take k)) (Q.at k)=0) (he:doE (b0g w0 (A++Q.ops.take i)) (Q.at i)≠0):
  FC Tryz.prog 30 11 [.ptr 1 0 0 0,.sl 29 0 0 Q.n] (kpH A.length (b0g w0 A) j d Q) (a0s (.int .i64 (doE (b0g w0 (A++Q.ops.take i)) (Q.at i))) (p0G A.length false (b0g w0 A) j d) 51):=by
 have h:=e1V A hA hl j hj hn d Q h1 h16 i hi hall he
 rw [show A++Q.ops.take 0=A by rw [List.take_zero,List.append_nil],ite_self] at h
 exact h
end
section
attribute [local irreducible] a0B a0D a0u a0Y sortI
attribute [local irreducible] seq ByteArray.extract b0g c0c w0 Oq.ops Oq.txt
theorem y0H {j:Jr} {d:Dk} (hz:Jz j) (jo:JO d j) (Q:Oq) (n:Nat) (hn:n<=Q.n) (h:∀k,k<n->jaE (j.with (Q.txt k)) d (c0c (Q.at k))=0):∀k,k<=n->(j.with (Q.txt k)).ok d:=
 fun k hk=>i1L jo (c1z hz Q k (by omega) fun i hi=>h i (by omega))
theorem e1W (A:List Bop) (hA:Ran w0 A) (hl:A.length<=100000) (j:Jr) (hj:j.recs=A.map c0c) (hn:j.nr=A.length) (hz:Jz j) (d:Dk) (jo:JO d j) (hd:d.ok) (Q:Oq) (h1:1<=Q.n) (h16:Q.n<=16) (hall:∀k,k<Q.n->Ran w0 (A++Q.ops.take k)/\doE (b0g w0 (A++Q.ops.take k)) (Q.at k)=0) (i:Nat) (hi:i<Q.n) (happ:∀k,k<i->jaE (j.with (Q.txt k)) d (c0c (Q.at k))=0) (he:jaE (j.with (Q.txt i)) d (c0c (Q.at i))≠0):
  FC Tryz.prog 30 11 [.ptr 1 0 0 0,.sl 29 0 0 Q.n] (kpH A.length (b0g w0 (A++Q.ops.take 0)) (j.with (Q.txt 0)) d Q) (a0s (.int .i64 (jaE (j.with (Q.txt i)) d (c0c (Q.at i)))) (p0G A.length false (b0g w0 A) j d) 51):=by
 have hnn:=hd.nm
 have hok:=y0H hz jo Q i (by omega) happ
 refine a0p mixed a0x Tryz.func11 rfl (by kernel_rfl) (by kernel_rfl) (by kernel_rfl) ?_
 repeat' ((conv=>whnf);first|((first|apply a0f|apply a0c|apply a0g|apply a0b|apply a0h|apply a0a)<;>intro h<;>try (exfalso;(try dsimp only at h);omega))|refine a0i ?_)
 all_goals (conv=>whnf)
 all_goals first
  |(exfalso;omega)
  |skip
 refine a0z (k1S A (j.with (Q.txt 0)) d Q) (fun k=>k<=Q.n) (fun k=>Q.n-k) 0 [0,1,2,3,4,5,6,7,8,9,10,11,12,13,14,15,16,17,18,19,20,21,22,23,24,25,26,27,28,29,4,5,6,7,8,9,10,11,12,13,14,15,16,17,18,19,20,21] [] ⟨rfl,⟨rfl,rfl,rfl,rfl,rfl,trivial⟩,⟨gwk rfl,rfl,rfl,rfl,rfl,rfl,rfl,rfl,rfl,rfl,rfl,rfl,rfl,rfl,rfl,rfl,rfl,rfl,rfl,rfl,rfl,rfl,rfl,rfl,rfl,rfl,rfl,rfl,rfl,rfl,trivial⟩⟩ (Nat.zero_le _) ?_
 intro k hk
 by_cases hk2:k<Q.n
 .exact i0W A (j.with (Q.txt 0)) d Q k h16 hk2 (hall k hk2).1 (hall k hk2).2 _ (fun v ⟨l,u,hw⟩=>⟨k+1,l,u,hk2,by omega,hw⟩)
 have ek:k=Q.n:=by omega
 subst ek
 unfold k1S
 rw [k0O]
 repeat' ((conv=>whnf);first|((first|apply a0f|apply a0c|apply a0g|apply a0b|apply a0h|apply a0a)<;>intro h<;>try (exfalso;(try dsimp only at h);omega))|refine a0i ?_)
 all_goals (conv=>whnf)
 all_goals first
  |(exfalso;omega)
  |skip
 refine a0z (k2S A j d Q) (fun k=>k<=i) (fun k=>i-k) 0 [0,1,2,3,4,5,6,7,8,9,10,11,12,13,14,15,16,17,18,19,20,21,22,23,24,25,26,27,28,29,30,31,32,33,34,35,36,37,38,39,40,41,42,43,44,45,46,47,24] [] ⟨rfl,⟨rfl,rfl,rfl,rfl,rfl,trivial⟩,⟨gwk rfl,rfl,rfl,rfl,rfl,rfl,rfl,rfl,rfl,rfl,rfl,rfl,rfl,rfl,rfl,rfl,rfl,rfl,rfl,rfl,rfl,rfl,rfl,rfl,rfl,rfl,rfl,rfl,rfl,rfl,trivial⟩⟩ (Nat.zero_le _) ?_
 intro k hk
 by_cases hk2:k<i
 .exact n0P A j d Q k h16 (by omega) (x0M (hall k (by omega)).2) (hok k (by omega)) hnn (happ k hk2) _ (fun v ⟨l,u,hw⟩=>⟨k+1,l,u,hk2,by omega,hw⟩)
 have ek:k=i:=by omega
 subst ek
 have c1:=f0k (Q.at k) (x0M (hall k hi).2)
 have c2:=p0D (j.with (Q.txt k)) d (c0c (Q.at k)) (hok k (Nat.le_refl _)) hnn
 rw [m0q he] at c2
 have c3:=b1u hz (Q.txt k)
 have c4:=i0e (b0g w0 (A++Q.ops)) A hA (by omega) j hj hn A.length false
 unfold k2S
 generalize jaE (j.with (Q.txt k)) d (c0c (Q.at k))=E at*
 generalize b0g w0 (A++Q.ops)=s at*
 generalize b0g w0 A=s2 at*
 repeat' ((conv=>whnf);first|(refine a0t (c1) rfl rfl rfl rfl ?_)|(refine a0w (c1) rfl rfl rfl rfl ?_)|refine a0e (l:= [0,22,25,26,27,23,48,28]) (c2) ?_|refine a0l (l:= [0,22,25,26,27,23,48,28]) (c2) ?_|refine a0e (l:= [0,22,25,26,27,23,50,28]) (c3) ?_|refine a0e (l:= [0,1,2,3,30,31,32,33,34,35,36,37,38,39,40,41,42,43,44,45,46,47,22,23,51,25,26,27,28]) (c4) ?_|((first|apply a0f|apply a0c|apply a0g|apply a0b|apply a0h|apply a0a)<;>intro h<;>try (exfalso;(try dsimp only at h);omega))|refine a0i ?_)
 all_goals (conv=>whnf)
 all_goals first
  |(exfalso;omega)
  |(exfalso;exact h rfl)
  |(exfalso;exact he h)
  |exact a0n (l:= [0,1,2,3,4,5,6,7,8,9,10,11,12,13,14,15,16,17,18,19,20,21,22,23,24,25,26,27,28,29,52,53,54,55,56,57,58,59,60,61,62,63,64,65,66,67,68,69,23,51,28]) rfl rfl ⟨rfl,rfl,rfl,rfl,rfl,rfl,rfl,rfl,rfl,rfl,rfl,rfl,rfl,rfl,rfl,rfl,rfl,rfl,rfl,rfl,rfl,rfl,rfl,rfl,rfl,rfl,rfl,rfl,trivial⟩ g0y
  |trace_state
theorem h1u (A:List Bop) (hA:Ran w0 A) (hl:A.length<=100000) (j:Jr) (hj:j.recs=A.map c0c) (hn:j.nr=A.length) (hz:Jz j) (d:Dk) (jo:JO d j) (hd:d.ok) (Q:Oq) (h1:1<=Q.n) (h16:Q.n<=16) (hall:∀k,k<Q.n->Ran w0 (A++Q.ops.take k)/\doE (b0g w0 (A++Q.ops.take k)) (Q.at k)=0) (happ:∀k,k<Q.n->jaE (j.with (Q.txt k)) d (c0c (Q.at k))=0) (J:Jr) (D:Dk) (E:Int) (hR:cmR (j.with (Q.txt Q.n)) d=(J,D,E)) (he:E≠0) (hj2:J.recs=A.map c0c) (hn2:J.nr=A.length):
  FC Tryz.prog 30 11 [.ptr 1 0 0 0,.sl 29 0 0 Q.n] (kpH A.length (b0g w0 (A++Q.ops.take 0)) (j.with (Q.txt 0)) d Q) (a0s (.int .i64 E) (p0G A.length true (b0g w0 A) J D) 51):=by
 have hnn:=hd.nm
 have hok:=y0H hz jo Q Q.n (Nat.le_refl _) happ
 refine a0p mixed a0x Tryz.func11 rfl (by kernel_rfl) (by kernel_rfl) (by kernel_rfl) ?_
 repeat' ((conv=>whnf);first|((first|apply a0f|apply a0c|apply a0g|apply a0b|apply a0h|apply a0a)<;>intro h<;>try (exfalso;(try dsimp only at h);omega))|refine a0i ?_)
 all_goals (conv=>whnf)
 all_goals first
  |(exfalso;omega)
  |skip
 refine a0z (k1S A (j.with (Q.txt 0)) d Q) (fun k=>k<=Q.n) (fun k=>Q.n-k) 0 [0,1,2,3,4,5,6,7,8,9,10,11,12,13,14,15,16,17,18,19,20,21,22,23,24,25,26,27,28,29,4,5,6,7,8,9,10,11,12,13,14,15,16,17,18,19,20,21] [] ⟨rfl,⟨rfl,rfl,rfl,rfl,rfl,trivial⟩,⟨gwk rfl,rfl,rfl,rfl,rfl,rfl,rfl,rfl,rfl,rfl,rfl,rfl,rfl,rfl,rfl,rfl,rfl,rfl,rfl,rfl,rfl,rfl,rfl,rfl,rfl,rfl,rfl,rfl,rfl,rfl,trivial⟩⟩ (Nat.zero_le _) ?_
 intro k hk
 by_cases hk2:k<Q.n
 .exact i0W A (j.with (Q.txt 0)) d Q k h16 hk2 (hall k hk2).1 (hall k hk2).2 _ (fun v ⟨l,u,hw⟩=>⟨k+1,l,u,hk2,by omega,hw⟩)
 have ek:k=Q.n:=by omega
 subst ek
 unfold k1S
 rw [k0O]
 repeat' ((conv=>whnf);first|((first|apply a0f|apply a0c|apply a0g|apply a0b|apply a0h|apply a0a)<;>intro h<;>try (exfalso;(try dsimp only at h);omega))|refine a0i ?_)
 all_goals (conv=>whnf)
 all_goals first
  |(exfalso;omega)
  |skip
 refine a0z (k2S A j d Q) (fun k=>k<=Q.n) (fun k=>Q.n-k) 0 [0,1,2,3,4,5,6,7,8,9,10,11,12,13,14,15,16,17,18,19,20,21,22,23,24,25,26,27,28,29,30,31,32,33,34,35,36,37,38,39,40,41,42,43,44,45,46,47,24] [] ⟨rfl,⟨rfl,rfl,rfl,rfl,rfl,trivial⟩,⟨gwk rfl,rfl,rfl,rfl,rfl,rfl,rfl,rfl,rfl,rfl,rfl,rfl,rfl,rfl,rfl,rfl,rfl,rfl,rfl,rfl,rfl,rfl,rfl,rfl,rfl,rfl,rfl,rfl,rfl,rfl,trivial⟩⟩ (Nat.zero_le _) ?_
 intro k hk
 by_cases hk2:k<Q.n
 .exact n0P A j d Q k h16 (by omega) (x0M (hall k (by omega)).2) (hok k (by omega)) hnn (happ k hk2) _ (fun v ⟨l,u,hw⟩=>⟨k+1,l,u,hk2,by omega,hw⟩)
 have ek:k=Q.n:=by omega
 subst ek
 have c1:=p0F (j.with (Q.txt Q.n)) d (hok _ (Nat.le_refl _)) hd
 rw [hR] at c1
 dsimp only at c1
 have c4:=i0e (b0g w0 (A++Q.ops)) A hA (by omega) J hj2 hn2 A.length true
 unfold k2S
 clear hR hj2 hn2
 generalize j.with (Q.txt Q.n)=j1 at*
 generalize b0g w0 (A++Q.ops)=s at*
 generalize b0g w0 A=s2 at*
 repeat' ((conv=>whnf);first|refine a0e (l:= [0,22,25,26,27,23,48,28]) (c1) ?_|refine a0l (l:= [0,22,25,26,27,23,48,28]) (c1) ?_|refine a0e (l:= [0,1,2,3,30,31,32,33,34,35,36,37,38,39,40,41,42,43,44,45,46,47,22,49,50,25,26,27,51]) (c4) ?_|((first|apply a0f|apply a0c|apply a0g|apply a0b|apply a0h|apply a0a)<;>intro h<;>try (exfalso;(try dsimp only at h);omega))|refine a0i ?_)
 all_goals (conv=>whnf)
 all_goals first
  |(exfalso;omega)
  |(exfalso;exact he h)
  |exact a0n (l:= [0,1,2,3,4,5,6,7,8,9,10,11,12,13,14,15,16,17,18,19,20,21,22,23,24,25,26,27,28,29,52,53,54,55,56,57,58,59,60,61,62,63,64,65,66,67,68,69,49,50,51]) rfl rfl ⟨rfl,rfl,rfl,rfl,rfl,rfl,rfl,rfl,rfl,rfl,rfl,rfl,rfl,rfl,rfl,rfl,rfl,rfl,rfl,rfl,rfl,rfl,rfl,rfl,rfl,rfl,rfl,rfl,trivial⟩ g0y
  |trace_state
theorem h1v (A:List Bop) (hA:Ran w0 A) (hl:A.length<=100000) (j:Jr) (hj:j.recs=A.map c0c) (hn:j.nr=A.length) (hz:Jz j) (d:Dk) (jo:JO d j) (hd:d.ok) (Q:Oq) (h1:1<=Q.n) (h16:Q.n<=16) (hall:∀k,k<Q.n->Ran w0 (A++Q.ops.take k)/\doE (b0g w0 (A++Q.ops.take k)) (Q.at k)=0) (happ:∀k,k<Q.n->jaE (j.with (Q.txt k)) d (c0c (Q.at k))=0) (J:Jr) (D:Dk) (hR:cmR (j.with (Q.txt Q.n)) d=(J,D,0)):
  FC Tryz.prog 30 11 [.ptr 1 0 0 0,.sl 29 0 0 Q.n] (kpH A.length (b0g w0 (A++Q.ops.take 0)) (j.with (Q.txt 0)) d Q) (a0s (.int .i64 0) (p0G (A.length+Q.n) false (b0g w0 (A++Q.ops)) J D) 51):=by
 have hnn:=hd.nm
 have hok:=y0H hz jo Q Q.n (Nat.le_refl _) happ
 refine a0p mixed a0x Tryz.func11 rfl (by kernel_rfl) (by kernel_rfl) (by kernel_rfl) ?_
 repeat' ((conv=>whnf);first|((first|apply a0f|apply a0c|apply a0g|apply a0b|apply a0h|apply a0a)<;>intro h<;>try (exfalso;(try dsimp only at h);omega))|refine a0i ?_)
 all_goals (conv=>whnf)
 all_goals first
  |(exfalso;omega)
  |skip
 refine a0z (k1S A (j.with (Q.txt 0)) d Q) (fun k=>k<=Q.n) (fun k=>Q.n-k) 0 [0,1,2,3,4,5,6,7,8,9,10,11,12,13,14,15,16,17,18,19,20,21,22,23,24,25,26,27,28,29,4,5,6,7,8,9,10,11,12,13,14,15,16,17,18,19,20,21] [] ⟨rfl,⟨rfl,rfl,rfl,rfl,rfl,trivial⟩,⟨gwk rfl,rfl,rfl,rfl,rfl,rfl,rfl,rfl,rfl,rfl,rfl,rfl,rfl,rfl,rfl,rfl,rfl,rfl,rfl,rfl,rfl,rfl,rfl,rfl,rfl,rfl,rfl,rfl,rfl,rfl,trivial⟩⟩ (Nat.zero_le _) ?_
 intro k hk
 by_cases hk2:k<Q.n
 .exact i0W A (j.with (Q.txt 0)) d Q k h16 hk2 (hall k hk2).1 (hall k hk2).2 _ (fun v ⟨l,u,hw⟩=>⟨k+1,l,u,hk2,by omega,hw⟩)
 have ek:k=Q.n:=by omega
 subst ek
 unfold k1S
 rw [k0O]
 repeat' ((conv=>whnf);first|((first|apply a0f|apply a0c|apply a0g|apply a0b|apply a0h|apply a0a)<;>intro h<;>try (exfalso;(try dsimp only at h);omega))|refine a0i ?_)
 all_goals (conv=>whnf)
 all_goals first
  |(exfalso;omega)
  |skip
 refine a0z (k2S A j d Q) (fun k=>k<=Q.n) (fun k=>Q.n-k) 0 [0,1,2,3,4,5,6,7,8,9,10,11,12,13,14,15,16,17,18,19,20,21,22,23,24,25,26,27,28,29,30,31,32,33,34,35,36,37,38,39,40,41,42,43,44,45,46,47,24] [] ⟨rfl,⟨rfl,rfl,rfl,rfl,rfl,trivial⟩,⟨gwk rfl,rfl,rfl,rfl,rfl,rfl,rfl,rfl,rfl,rfl,rfl,rfl,rfl,rfl,rfl,rfl,rfl,rfl,rfl,rfl,rfl,rfl,rfl,rfl,rfl,rfl,rfl,rfl,rfl,rfl,trivial⟩⟩ (Nat.zero_le _) ?_
 intro k hk
 by_cases hk2:k<Q.n
 .exact n0P A j d Q k h16 (by omega) (x0M (hall k (by omega)).2) (hok k (by omega)) hnn (happ k hk2) _ (fun v ⟨l,u,hw⟩=>⟨k+1,l,u,hk2,by omega,hw⟩)
 have ek:k=Q.n:=by omega
 subst ek
 have c1:=p0F (j.with (Q.txt Q.n)) d (hok _ (Nat.le_refl _)) hd
 rw [hR] at c1
 dsimp only at c1
 have hw:IntKind.i64.wrap ((A.length:Int)+(Q.n:Int))=((A.length+Q.n:Nat):Int):=by rw [a0G (by omega) (by omega)];omega
 unfold k2S
 clear hR
 generalize j.with (Q.txt Q.n)=j1 at*
 generalize b0g w0 (A++Q.ops)=s at*
 repeat' ((conv=>whnf);first|refine a0e (l:= [0,22,25,26,27,23,48,28]) (c1) ?_|refine a0l (l:= [0,22,25,26,27,23,48,28]) (c1) ?_|((first|apply a0f|apply a0c|apply a0g|apply a0b|apply a0h|apply a0a)<;>intro h<;>try (exfalso;(try dsimp only at h);omega))|refine a0i ?_)
 all_goals (conv=>whnf)
 all_goals first
  |(exfalso;omega)
  |(exfalso;exact h rfl)
  |(rw [hw];exact a0n (l:= [0,1,2,3,4,5,6,7,8,9,10,11,12,13,14,15,16,17,18,19,20,21,22,23,24,25,26,27,28,29,30,31,32,33,34,35,36,37,38,39,40,41,42,43,44,45,46,47,49,50,51]) rfl rfl ⟨rfl,rfl,rfl,rfl,rfl,rfl,rfl,rfl,rfl,rfl,rfl,rfl,rfl,rfl,rfl,rfl,rfl,rfl,rfl,rfl,rfl,rfl,rfl,rfl,rfl,rfl,rfl,rfl,trivial⟩ g0y)
  |trace_state
end
section
attribute [local irreducible] a0B a0D a0u a0Y sortI
attribute [local irreducible] seq ByteArray.extract b0g c0c w0 Oq.ops Oq.txt
inductive KdR (A:List Bop) (j:Jr) (d:Dk) (Q:Oq):Int->Bool->List Bop->Jr->Dk->Prop
 |same (E:Int) (h:E≠0):KdR A j d Q E false A j d
 |crash (E:Int) (D:Dk) (h:E≠0) (hr:Ran w0 (A++Q.ops)) (h1:1<=Q.n) (hg:Gf j d (Q.txt Q.n)) (hd:Dead d j.used (bkL j.head (a0C (Q.txt Q.n)) (b0i (a0C (Q.txt Q.n)))) (b0i (a0C (Q.txt Q.n))) D) (hk:¬Kw d j) (hnn:D.nn=d.nn):KdR A j d Q E true A (i0E (j.with (Q.txt Q.n))) D
 |ok (D:Dk) (hr:Ran w0 (A++Q.ops)) (ha:Aw D (d0E j (Q.txt Q.n))) (hk:Kw d j->Kw D (d0E j (Q.txt Q.n))) (hnn:D.nn=d.nn):KdR A j d Q 0 false (A++Q.ops) (d0E j (Q.txt Q.n)) D
theorem i1N (A:List Bop) (hA:Ran w0 A) (hl:A.length<=100000) (j:Jr) (hj:j.recs=A.map c0c) (hn:j.nr=A.length) (d:Dk) (ha:Aw d j) (Q:Oq):
  ∃E st A' J D,KdR A j d Q E st A' J D/\FC Tryz.prog 30 11 [.ptr 1 0 0 0,.sl 29 0 0 Q.n] (kpH A.length (b0g w0 A) j d Q) (a0s (.int .i64 E) (p0G A'.length st (b0g w0 A') J D) 51):=by
 have e0:A++Q.ops.take 0=A:=by rw [List.take_zero,List.append_nil]
 have e1:j.with (Q.txt 0)=j:=by rw [b1s];exact r0u ha.z
 by_cases hn1:Q.n<1\/16<Q.n
 .exact ⟨4,false,A,j,d,.same 4 (by decide),h1s A.length (b0g w0 A) j d Q hn1⟩
 rcases y0C hA Q with ⟨hr,hall⟩|⟨i,hi,hall,hR,he⟩
 .rcases y0E j d Q with happ|⟨i,hi,happ,he⟩
  .have hg:=c1z ha.z Q Q.n (Nat.le_refl _) happ
   have hne:Q.txt Q.n≠[]:=fun h=>by
    have:=i0d Q (Nat.le_refl Q.n)
    rw [h] at this
    simp at this;omega
   obtain ⟨hnn,hc⟩:=c1y ha hg hne
   rcases hc with ⟨c1,c2,c3⟩|⟨c1,c2,c3⟩
   .have hR:cmR (j.with (Q.txt Q.n)) d=(d0E j (Q.txt Q.n),(cmR (j.with (Q.txt Q.n)) d).2.1,0):=by rw [<-c1,<-c2]
    have h:=h1v A hA hl j hj hn ha.z d ha.jo ha.ok Q (by omega) (by omega) hall happ _ _ hR
    rw [e0,e1] at h
    refine ⟨0,false,A++Q.ops,d0E j (Q.txt Q.n),(cmR (j.with (Q.txt Q.n)) d).2.1,.ok _ hr c3 (fun hk=>(h1p hk hg hne).2.2.1) hnn,?_⟩
    rw [List.length_append,g0x]
    exact h
   .have hR:cmR (j.with (Q.txt Q.n)) d=(i0E (j.with (Q.txt Q.n)),(cmR (j.with (Q.txt Q.n)) d).2.1,13):=by rw [<-c1,<-c2]
    have h:=h1u A hA hl j hj hn ha.z d ha.jo ha.ok Q (by omega) (by omega) hall happ _ _ 13 hR (by decide) hj hn
    rw [e0,e1] at h
    refine ⟨13,true,A,i0E (j.with (Q.txt Q.n)),(cmR (j.with (Q.txt Q.n)) d).2.1,.crash 13 _ (by decide) hr (by omega) hg c3 (fun hk=> ?_) hnn,h⟩
    have:=(h1p hk hg hne).1
    rw [c1] at this;cases this
  .have h:=e1W A hA hl j hj hn ha.z d ha.jo ha.ok Q (by omega) (by omega) hall i hi happ he
   rw [e0,e1] at h
   exact ⟨_,false,A,j,d,.same _ he,h⟩
 .exact ⟨_,false,A,j,d,.same _ he,h1t A hA hl j hj hn d Q (by omega) (by omega) i hi hall he⟩
structure Gq where
 n:Nat
 ns:List Nat
 k:Nat->List Int
 t:Nat->List Int
 id:Nat->List ByteArray
 au:Nat->List ByteArray
 is:Nat->List ByteArray
 ac:Nat->List ByteArray
 am:Nat->List Int
 fe:Nat->List Int
 fi:Nat->List Bool
abbrev Gq.q (G:Gq) (i:Nat):Oq:=⟨G.ns.getD i 0,G.k i,G.t i,G.id i,G.au i,G.is i,G.ac i,G.am i,G.fe i,G.fi i⟩
abbrev Gq.fam (G:Gq):Option HB:=some (.fam true (fun x=>x<G.n) (fun x=> .cols (G.ns.getD x 0) [.sc (.ints .i64 (G.k x)),.sc (.ints .i64 (G.t x)),.sc (.strs (G.id x)),.sc (.strs (G.au x)),.sc (.strs (G.is x)),.sc (.strs (G.ac x)),.sc (.ints .i64 (G.am x)),.sc (.ints .i64 (G.fe x)),.sc (.bools (G.fi x))]))
theorem c1A (A:List Bop) (hA:Ran w0 A) (hl:A.length<=100000) (j:Jr) (hj:j.recs=A.map c0c) (hn:j.nr=A.length) (d:Dk) (ha:Aw d j) (G:Gq) (i:Nat) (hi:i<G.n):
  ∃E st A' J D,KdR A j d (G.q i) E st A' J D/\FC Tryz.prog 30 11 [.ptr 1 0 0 0,.sl 29 i 0 (G.ns.getD i 0)] ((0,some (GB glT))::(29,G.fam)::i1M A.length (b0g w0 A) j d) (a0s (.int .i64 E) (p0G A'.length st (b0g w0 A') J D) 51):=by
 obtain ⟨E,st,A',J,D,hR,h⟩:=i1N A hA hl j hj hn d ha (G.q i)
 refine ⟨E,st,A',J,D,hR,?_⟩
 generalize b0g w0 A=s at*
 generalize b0g w0 A'=s2 at*
 have c0:=s0e [(29,⟨i,fun x=>x<G.n,fun x=>(G.q x).b⟩)] (by exact ⟨⟨by decide,by decide,_,_,rfl,hi,rfl,.inl rfl⟩,trivial⟩)
  (by exact ⟨h1b _ _,rfl,rfl,rfl,rfl,rfl,rfl,rfl,rfl,rfl,rfl,rfl,rfl,rfl,rfl,rfl,rfl,rfl,rfl,rfl,fun _ _=>rfl,rfl,rfl,rfl,rfl,rfl,rfl,fun _ _=>rfl,fun _ _=>rfl,fun _ _=>rfl,trivial⟩)
  (by exact ⟨rfl,rfl,rfl,rfl,rfl,rfl,rfl,rfl,rfl,rfl,rfl,rfl,rfl,rfl,rfl,rfl,rfl,rfl,fun _ _=>rfl,rfl,rfl,rfl,rfl,rfl,rfl,fun _ _=>rfl,fun _ _=>rfl,fun _ _=>rfl,trivial⟩) g0y h
 have e:SV.mems (fmu [(29,⟨i,fun x=>x<G.n,fun x=>(G.q x).b⟩)]) [.ptr 1 0 0 0,.sl 29 0 0 (G.q i).n]= [.ptr 1 0 0 0,.sl 29 i 0 (G.ns.getD i 0)]:=by
  show [SV.ptr 1 0 0 0,SV.sl 29 (0+i) 0 (G.ns.getD i 0)]=_
  rw [Nat.zero_add]
 have eH:d1o [(29,⟨i,fun x=>x<G.n,fun x=>(G.q x).b⟩)] (kpH A.length s j d (G.q i))=(0,some (GB glT))::(29,G.fam)::i1M A.length s j d:=by
  show (0,some (o0U _ 0 (GB glT)))::_=_
  rw [h1c];rfl
 rw [e,eH] at c0
 exact c0
end
section
attribute [local irreducible] a0B a0D a0u a0Y sortI
attribute [local irreducible] seq ByteArray.extract b0g c0c w0 Oq.ops Oq.txt dgI
abbrev gpK (cnt:Nat) (s:Bks) (j:Jr) (d:Dk) (st:Bool):a0v:=
 (8,some (.one false (.cells [.sl 9 0 0 3,.str sEu,.nsl,.int .i64 64800,.int .i64 7,.ptr 10 0 0 0,.ptr 29 0 0 0,.int .i64 cnt,.bool st])))::(9,paW false)::
 (29,b0y false [.ptr 3 0 0 0,.sl 30 0 0 j.nr,.int .i64 j.groups,.int .i64 j.used,.int .u64 j.head,.sl 31 0 0 j.ng,.bool j.stopped])::(30,grW j.nr j.recs)::(31,grW j.ng j.grp)::
 (3,b0y false [.sl 4 0 0 d.nn,.sl 5 0 0 d.nn,.sl 6 0 0 d.np,.bool d.down,.int .i64 d.steps,.int .u64 d.mask])::(4,grW d.nn d.kept)::(5,grW d.nn d.now)::(6,some (.one false (.cols d.np [.sc (.ints .i64 d.pn),.sc (.strs d.ps)])))::a1W (fun i=>i+9) s
abbrev gpV (G:Gq) (la:Bool):SV:=match la with|false=> .nsl|true=> .sl 2 (G.n-1) 0 (G.ns.getD (G.n-1) 0)
abbrev Gpx:=Nat×List Bop×Jr×Dk×Bool×Bool
def gpS (G:Gq) (steps mask:Int) (x:Gpx):VS:=
 ⟨[(0,.sl 1 0 0 G.n),(1,.int .i64 steps),(2,.int .u64 mask),(7,.ptr 3 0 0 0),(9,.ptr 8 0 0 0),(11,.int .i64 x.2.1.length),(12,gpV G x.2.2.2.2.2),(13,.int .i64 x.1)],
  (0,some (GB glT))::(1,some (.one true (.cols G.n [.own 2 G.ns])))::(2,G.fam)::gpK x.2.1.length (b0g w0 x.2.1) x.2.2.1 x.2.2.2.1 x.2.2.2.2.1,32⟩
inductive GpI (G:Gq):Gpx->Prop
 |run (i:Nat) (A:List Bop) (j:Jr) (d:Dk) (hi:i<=G.n) (hk:Kw d j):GpI G (i,A,j,d,false,false)
 |fin (A:List Bop) (j:Jr) (d:Dk) (la:Bool) (ha:Aw d j):GpI G (G.n,A,j,d,false,la)
 |dead (A:List Bop) (j:Jr) (d0 d:Dk) (h1:1<=(G.q (G.n-1)).n) (hr:Ran w0 (A++(G.q (G.n-1)).ops)) (ha:Aw d0 j) (hg:Gf j d0 ((G.q (G.n-1)).txt (G.q (G.n-1)).n)) (hd:Dead d0 j.used (bkL j.head (a0C ((G.q (G.n-1)).txt (G.q (G.n-1)).n)) (b0i (a0C ((G.q (G.n-1)).txt (G.q (G.n-1)).n)))) (b0i (a0C ((G.q (G.n-1)).txt (G.q (G.n-1)).n))) d) (hnn:d.nn<=2000):
   GpI G (G.n,A,i0E (j.with ((G.q (G.n-1)).txt (G.q (G.n-1)).n)),d,true,true)
structure GpJ (G:Gq) (x:Gpx):Prop where
 i:GpI G x
 ran:Ran w0 x.2.1
 recs:x.2.2.1.recs=x.2.1.map c0c
 nr:x.2.2.1.nr=x.2.1.length
 le:x.2.1.length<=16*x.1
 n:x.1<=G.n
set_option maxHeartbeats 2000000 in
theorem h1w (G:Gq) (h8:G.n<=8) (steps mask:Int) (i:Nat) (hi:i<G.n) (h16:¬8<G.ns.getD i 0) (A:List Bop) (j:Jr) (d:Dk) (hk:Kw d j) (hA:Ran w0 A) (hj:j.recs=A.map c0c) (hn:j.nr=A.length) (hl:A.length<=16*i) (hL:¬(i=G.n-1/\0<steps)) (K:Exit->VS->Prop)
  (hK:∀v,(∃(y:Gpx) (l:List Nat) (u:List Up),GpJ G y/\G.n-y.1<G.n-i/\upK u v (fun v=>Weak 3 l v (gpS G steps mask y)))->K .normal v):
  c0t Tryz.prog T 3 (lpc Tryz.f3 0) (gpS G steps mask (i,A,j,d,false,false)) K:=by
 have hok:=g0s n0A A
 have hw:IntKind.i64.wrap ((G.n:Int)-1)=(G.n:Int)-1:=a0G (by omega) (by omega)
 have h16':¬8<G.ns.getD ((i:Int).toNat+0) 0:=h16
 have cB:=e0F A.length false
 have cD:=h0q (b0g w0 A) hok
 obtain ⟨E,st,A',J,D,hR,cK⟩:=c1A A hA (by omega) j hj hn d hk.a G i hi
 have hgo:∀x,x=b0g w0 A->True:=fun _ _=>trivial
 cases hR with
 |same _ hE=>
  have cB2:=e0F A.length false
  clear hgo
  unfold gpS
  dsimp only
  generalize hs:b0g w0 A=s at*
  generalize dgI s=X at*
  repeat' ((conv=>whnf);first|(rw [hw])|refine a0e (l:= [0,8,9,10,11,12,13,14,15,16,17,18,19,20,21,22,23,24,25,26,27,28,29,30,31,3,4,5,6]) (cB) ?_|refine a0l (l:= [0,8,9,10,11,12,13,14,15,16,17,18,19,20,21,22,23,24,25,26,27,28,29,30,31,3,4,5,6]) (cB) ?_|refine a0e (l:= [0,10,11,12,13,14,15,16,17,18,19,20,21,22,23,24,25,26,27,28]) (cD) ?_|refine a0l (l:= [0,10,11,12,13,14,15,16,17,18,19,20,21,22,23,24,25,26,27,28]) (cD) ?_|refine a0e (l:= [0,8,9,10,11,12,13,14,15,16,17,18,19,20,21,22,23,24,25,26,27,28,29,30,31,3,4,5,6,2]) (cK) ?_|refine a0l (l:= [0,8,9,10,11,12,13,14,15,16,17,18,19,20,21,22,23,24,25,26,27,28,29,30,31,3,4,5,6,2]) (cK) ?_|refine a0e (l:= [0,8,9,10,32,33,34,35,36,37,38,39,40,41,42,43,44,45,46,47,48,49,29,50,51,3,4,5,52]) (cB2) ?_|refine a0l (l:= [0,8,9,10,32,33,34,35,36,37,38,39,40,41,42,43,44,45,46,47,48,49,29,50,51,3,4,5,52]) (cB2) ?_|refine a0e (l:= [0,10,32,33,34,35,36,37,38,39,40,41,42,43,44,45,46,47,48,49]) (cD) ?_|refine a0l (l:= [0,10,32,33,34,35,36,37,38,39,40,41,42,43,44,45,46,47,48,49]) (cD) ?_|((first|apply a0f|apply a0c|apply a0g|apply a0b|apply a0h|apply a0a)<;>intro h<;>try (exfalso;(try dsimp only at h);omega))|refine a0i ?_)
  all_goals (conv=>whnf)
  all_goals first
   |(exfalso;omega)
   |(exfalso;exact hE h)
   |(exfalso;exact h rfl)
   |(subst hs;exact hK _ ⟨(i+1,A,j,d,false,false),[0,1,2,3,4,5,52,7,8,9,10,32,33,34,35,36,37,38,39,40,41,42,43,44,45,46,47,48,49,29,50,51],[],⟨.run (i+1) A j d (by omega) hk,hA,hj,hn,(by dsimp only;omega),(by dsimp only;omega)⟩,by dsimp only;omega,⟨rfl,⟨rfl,rfl,rfl,rfl,rfl,rfl,rfl,congrArg (fun z=>some (SV.int .i64 z)) (a0M (by omega)),trivial⟩,⟨gwk rfl,rfl,rfl,rfl,rfl,rfl,rfl,rfl,rfl,rfl,rfl,rfl,rfl,rfl,rfl,rfl,rfl,rfl,rfl,rfl,rfl,rfl,rfl,rfl,rfl,rfl,rfl,rfl,rfl,rfl,rfl,trivial⟩⟩⟩)
   |trace_state
 |crash _ _ hE hr h1 hg hd hkk hnn2=>exact absurd hk hkk
 |ok _ hr ha2 hkk hnn2=>
  have hlq:(A++(G.q i).ops).length=A.length+G.ns.getD i 0:=by rw [List.length_append,g0x]
  have hcnt:IntKind.i64.wrap ((A.length:Int)+(G.ns.getD i 0:Nat))=(((A++(G.q i).ops).length:Nat):Int):=by rw [hlq,a0G (by omega) (by omega)];omega
  have hrec:(d0E j ((G.q i).txt (G.q i).n)).recs=(A++(G.q i).ops).map c0c:=by
   show j.recs++(G.q i).txt (G.q i).n=_
   rw [hj,r0v,List.map_append]
  have hnr:(d0E j ((G.q i).txt (G.q i).n)).nr=(A++(G.q i).ops).length:=by
   show j.nr+((G.q i).txt (G.q i).n).length=_
   rw [i0d _ (Nat.le_refl _),hlq,hn]
  have hlen:(A++(G.q i).ops).length<=16*(i+1):=by rw [hlq];omega
  clear hgo
  unfold gpS
  dsimp only
  generalize hJ:d0E j ((G.q i).txt (G.q i).n)=J at*
  generalize hA2:A++(G.q i).ops=A2 at*
  generalize b0g w0 A=s at*
  generalize hs2:b0g w0 A2=s2 at*
  generalize dgI s=X at*
  repeat' ((conv=>whnf);first|(rw [hw])|refine a0e (l:= [0,8,9,10,11,12,13,14,15,16,17,18,19,20,21,22,23,24,25,26,27,28,29,30,31,3,4,5,6]) (cB) ?_|refine a0l (l:= [0,8,9,10,11,12,13,14,15,16,17,18,19,20,21,22,23,24,25,26,27,28,29,30,31,3,4,5,6]) (cB) ?_|refine a0e (l:= [0,10,11,12,13,14,15,16,17,18,19,20,21,22,23,24,25,26,27,28]) (cD) ?_|refine a0l (l:= [0,10,11,12,13,14,15,16,17,18,19,20,21,22,23,24,25,26,27,28]) (cD) ?_|refine a0e (l:= [0,8,9,10,11,12,13,14,15,16,17,18,19,20,21,22,23,24,25,26,27,28,29,30,31,3,4,5,6,2]) (cK) ?_|refine a0l (l:= [0,8,9,10,11,12,13,14,15,16,17,18,19,20,21,22,23,24,25,26,27,28,29,30,31,3,4,5,6,2]) (cK) ?_|((first|apply a0f|apply a0c|apply a0g|apply a0b|apply a0h|apply a0a)<;>intro h<;>try (exfalso;(try dsimp only at h);omega))|refine a0i ?_)
  all_goals (conv=>whnf)
  all_goals first
   |(exfalso;omega)
   |(exfalso;exact h rfl)
   |(subst hs2;exact hK _ ⟨(i+1,A2,J,D,false,false),[0,1,2,3,4,5,52,7,8,9,10,32,33,34,35,36,37,38,39,40,41,42,43,44,45,46,47,48,49,29,50,51],[],⟨.run (i+1) _ _ D (by omega) (hkk hk),hr,hrec,hnr,hlen,(by dsimp only;omega)⟩,by dsimp only;omega,⟨rfl,⟨rfl,rfl,rfl,rfl,rfl,congrArg (fun z=>some (SV.int .i64 z)) hcnt,rfl,congrArg (fun z=>some (SV.int .i64 z)) (a0M (by omega)),trivial⟩,⟨gwk rfl,rfl,rfl,rfl,rfl,rfl,rfl,rfl,rfl,rfl,rfl,rfl,rfl,rfl,rfl,rfl,rfl,rfl,rfl,rfl,rfl,rfl,rfl,rfl,rfl,rfl,rfl,rfl,rfl,rfl,rfl,trivial⟩⟩⟩)
   |trace_state
set_option maxHeartbeats 2000000 in
theorem h1x (G:Gq) (h8:G.n<=8) (steps mask:Int) (i:Nat) (hi:i<G.n) (h16:¬8<G.ns.getD i 0) (A:List Bop) (j:Jr) (d:Dk) (hk:Kw d j) (hA:Ran w0 A) (hj:j.recs=A.map c0c) (hn:j.nr=A.length) (hl:A.length<=16*i) (hL:i=G.n-1/\0<steps) (K:Exit->VS->Prop)
  (hK:∀v,(∃(y:Gpx) (l:List Nat) (u:List Up),GpJ G y/\G.n-y.1<G.n-i/\upK u v (fun v=>Weak 3 l v (gpS G steps mask y)))->K .normal v):
  c0t Tryz.prog T 3 (lpc Tryz.f3 0) (gpS G steps mask (i,A,j,d,false,false)) K:=by
 have hok:=g0s n0A A
 have hw:IntKind.i64.wrap ((G.n:Int)-1)=(G.n:Int)-1:=a0G (by omega) (by omega)
 have h16':¬8<G.ns.getD ((i:Int).toNat+0) 0:=h16
 have cB:=e0F A.length false
 have cD:=h0q (b0g w0 A) hok
 have cM:=b1m d steps mask
 obtain ⟨ha,hnn⟩:=h1q hk.a steps mask
 obtain ⟨hi1,hs1⟩:=hL
 obtain ⟨E,st,A',J,D,hR,cK⟩:=c1A A hA (by omega) j hj hn (r0p d steps mask).1 ha G i hi
 obtain ⟨sd,zd,hd1⟩:=h1r d steps mask
 rw [hd1] at cM ha hnn hR cK
 clear hd1
 generalize (r0p d steps mask).2=eM at*
 have hgo:∀x,x=b0g w0 A->True:=fun _ _=>trivial
 cases hR with
 |same _ hE=>
  have cB2:=e0F A.length false
  clear hgo
  unfold gpS
  dsimp only
  generalize hs:b0g w0 A=s at*
  generalize dgI s=X at*
  repeat' ((conv=>whnf);first|(rw [hw])|refine a0e (l:= [0,8,9,10,11,12,13,14,15,16,17,18,19,20,21,22,23,24,25,26,27,28,29,30,31,3,4,5,6]) (cB) ?_|refine a0l (l:= [0,8,9,10,11,12,13,14,15,16,17,18,19,20,21,22,23,24,25,26,27,28,29,30,31,3,4,5,6]) (cB) ?_|refine a0e (l:= [0,10,11,12,13,14,15,16,17,18,19,20,21,22,23,24,25,26,27,28]) (cD) ?_|refine a0l (l:= [0,10,11,12,13,14,15,16,17,18,19,20,21,22,23,24,25,26,27,28]) (cD) ?_|refine a0e (l:= [0,3,4,5,6]) (cM) ?_|refine a0l (l:= [0,3,4,5,6]) (cM) ?_|refine a0e (l:= [0,8,9,10,11,12,13,14,15,16,17,18,19,20,21,22,23,24,25,26,27,28,29,30,31,3,4,5,6,2]) (cK) ?_|refine a0l (l:= [0,8,9,10,11,12,13,14,15,16,17,18,19,20,21,22,23,24,25,26,27,28,29,30,31,3,4,5,6,2]) (cK) ?_|refine a0e (l:= [0,8,9,10,32,33,34,35,36,37,38,39,40,41,42,43,44,45,46,47,48,49,29,50,51,3,4,5,52]) (cB2) ?_|refine a0l (l:= [0,8,9,10,32,33,34,35,36,37,38,39,40,41,42,43,44,45,46,47,48,49,29,50,51,3,4,5,52]) (cB2) ?_|refine a0e (l:= [0,10,32,33,34,35,36,37,38,39,40,41,42,43,44,45,46,47,48,49]) (cD) ?_|refine a0l (l:= [0,10,32,33,34,35,36,37,38,39,40,41,42,43,44,45,46,47,48,49]) (cD) ?_|((first|apply a0f|apply a0c|apply a0g|apply a0b|apply a0h|apply a0a)<;>intro h<;>try (exfalso;(try dsimp only at h);omega))|refine a0i ?_)
  all_goals (conv=>whnf)
  all_goals first
   |(exfalso;omega)
   |(exfalso;exact hE h)
   |(exfalso;exact h rfl)
   |(subst hs;exact hK _ ⟨(i+1,A,j,{ d with steps:=sd,mask:=zd},false,true),[0,1,2,3,4,5,52,7,8,9,10,32,33,34,35,36,37,38,39,40,41,42,43,44,45,46,47,48,49,29,50,51],[],⟨(by subst hi1;rw [show G.n-1+1=G.n by omega];exact .fin A j _ true ha),hA,hj,hn,(by dsimp only;omega),(by dsimp only;omega)⟩,by dsimp only;omega,⟨rfl,⟨rfl,rfl,rfl,rfl,rfl,rfl,(by subst hi1;rfl),congrArg (fun z=>some (SV.int .i64 z)) (a0M (by omega)),trivial⟩,⟨gwk rfl,rfl,rfl,rfl,rfl,rfl,rfl,rfl,rfl,rfl,rfl,rfl,rfl,rfl,rfl,rfl,rfl,rfl,rfl,rfl,rfl,rfl,rfl,rfl,rfl,rfl,rfl,rfl,rfl,rfl,rfl,trivial⟩⟩⟩)
   |trace_state
 |crash _ _ hE hr h1 hg hd hkk hnn2=>
  have cB2:=e0F A.length true
  clear hgo
  unfold gpS
  dsimp only
  generalize hs:b0g w0 A=s at*
  generalize dgI s=X at*
  repeat' ((conv=>whnf);first|(rw [hw])|refine a0e (l:= [0,8,9,10,11,12,13,14,15,16,17,18,19,20,21,22,23,24,25,26,27,28,29,30,31,3,4,5,6]) (cB) ?_|refine a0l (l:= [0,8,9,10,11,12,13,14,15,16,17,18,19,20,21,22,23,24,25,26,27,28,29,30,31,3,4,5,6]) (cB) ?_|refine a0e (l:= [0,10,11,12,13,14,15,16,17,18,19,20,21,22,23,24,25,26,27,28]) (cD) ?_|refine a0l (l:= [0,10,11,12,13,14,15,16,17,18,19,20,21,22,23,24,25,26,27,28]) (cD) ?_|refine a0e (l:= [0,3,4,5,6]) (cM) ?_|refine a0l (l:= [0,3,4,5,6]) (cM) ?_|refine a0e (l:= [0,8,9,10,11,12,13,14,15,16,17,18,19,20,21,22,23,24,25,26,27,28,29,30,31,3,4,5,6,2]) (cK) ?_|refine a0l (l:= [0,8,9,10,11,12,13,14,15,16,17,18,19,20,21,22,23,24,25,26,27,28,29,30,31,3,4,5,6,2]) (cK) ?_|refine a0e (l:= [0,8,9,10,32,33,34,35,36,37,38,39,40,41,42,43,44,45,46,47,48,49,29,50,51,3,4,5,52]) (cB2) ?_|refine a0l (l:= [0,8,9,10,32,33,34,35,36,37,38,39,40,41,42,43,44,45,46,47,48,49,29,50,51,3,4,5,52]) (cB2) ?_|refine a0e (l:= [0,10,32,33,34,35,36,37,38,39,40,41,42,43,44,45,46,47,48,49]) (cD) ?_|refine a0l (l:= [0,10,32,33,34,35,36,37,38,39,40,41,42,43,44,45,46,47,48,49]) (cD) ?_|((first|apply a0f|apply a0c|apply a0g|apply a0b|apply a0h|apply a0a)<;>intro h<;>try (exfalso;(try dsimp only at h);omega))|refine a0i ?_)
  all_goals (conv=>whnf)
  all_goals first
   |(exfalso;omega)
   |(exfalso;exact hE h)
   |(exfalso;exact h rfl)
   |(subst hs;subst hi1;exact hK _ ⟨(G.n-1+1,A,i0E (j.with ((G.q (G.n-1)).txt (G.q (G.n-1)).n)),D,true,true),[0,1,2,3,4,5,52,7,8,9,10,32,33,34,35,36,37,38,39,40,41,42,43,44,45,46,47,48,49,29,50,51],[],⟨(by rw [show G.n-1+1=G.n by omega];exact .dead A j _ D h1 hr ha hg hd (by have:=ha.nn;omega)),hA,hj,hn,(by dsimp only;omega),(by dsimp only;omega)⟩,by dsimp only;omega,⟨rfl,⟨rfl,rfl,rfl,rfl,rfl,rfl,rfl,congrArg (fun z=>some (SV.int .i64 z)) (a0M (by omega)),trivial⟩,⟨gwk rfl,rfl,rfl,rfl,rfl,rfl,rfl,rfl,rfl,rfl,rfl,rfl,rfl,rfl,rfl,rfl,rfl,rfl,rfl,rfl,rfl,rfl,rfl,rfl,rfl,rfl,rfl,rfl,rfl,rfl,rfl,trivial⟩⟩⟩)
   |trace_state
 |ok _ hr ha2 hkk hnn2=>
  have hlq:(A++(G.q i).ops).length=A.length+G.ns.getD i 0:=by rw [List.length_append,g0x]
  have hcnt:IntKind.i64.wrap ((A.length:Int)+(G.ns.getD i 0:Nat))=(((A++(G.q i).ops).length:Nat):Int):=by rw [hlq,a0G (by omega) (by omega)];omega
  have hrec:(d0E j ((G.q i).txt (G.q i).n)).recs=(A++(G.q i).ops).map c0c:=by
   show j.recs++(G.q i).txt (G.q i).n=_
   rw [hj,r0v,List.map_append]
  have hnr:(d0E j ((G.q i).txt (G.q i).n)).nr=(A++(G.q i).ops).length:=by
   show j.nr+((G.q i).txt (G.q i).n).length=_
   rw [i0d _ (Nat.le_refl _),hlq,hn]
  have hlen:(A++(G.q i).ops).length<=16*(i+1):=by rw [hlq];omega
  clear hgo
  unfold gpS
  dsimp only
  generalize hJ:d0E j ((G.q i).txt (G.q i).n)=J at*
  generalize hA2:A++(G.q i).ops=A2 at*
  generalize b0g w0 A=s at*
  generalize hs2:b0g w0 A2=s2 at*
  generalize dgI s=X at*
  repeat' ((conv=>whnf);first|(rw [hw])|refine a0e (l:= [0,8,9,10,11,12,13,14,15,16,17,18,19,20,21,22,23,24,25,26,27,28,29,30,31,3,4,5,6]) (cB) ?_|refine a0l (l:= [0,8,9,10,11,12,13,14,15,16,17,18,19,20,21,22,23,24,25,26,27,28,29,30,31,3,4,5,6]) (cB) ?_|refine a0e (l:= [0,10,11,12,13,14,15,16,17,18,19,20,21,22,23,24,25,26,27,28]) (cD) ?_|refine a0l (l:= [0,10,11,12,13,14,15,16,17,18,19,20,21,22,23,24,25,26,27,28]) (cD) ?_|refine a0e (l:= [0,3,4,5,6]) (cM) ?_|refine a0l (l:= [0,3,4,5,6]) (cM) ?_|refine a0e (l:= [0,8,9,10,11,12,13,14,15,16,17,18,19,20,21,22,23,24,25,26,27,28,29,30,31,3,4,5,6,2]) (cK) ?_|refine a0l (l:= [0,8,9,10,11,12,13,14,15,16,17,18,19,20,21,22,23,24,25,26,27,28,29,30,31,3,4,5,6,2]) (cK) ?_|((first|apply a0f|apply a0c|apply a0g|apply a0b|apply a0h|apply a0a)<;>intro h<;>try (exfalso;(try dsimp only at h);omega))|refine a0i ?_)
  all_goals (conv=>whnf)
  all_goals first
   |(exfalso;omega)
   |(exfalso;exact h rfl)
   |(subst hs2;exact hK _ ⟨(i+1,A2,J,D,false,false),[0,1,2,3,4,5,52,7,8,9,10,32,33,34,35,36,37,38,39,40,41,42,43,44,45,46,47,48,49,29,50,51],[],⟨(by subst hi1;rw [show G.n-1+1=G.n by omega];exact .fin _ _ D false ha2),hr,hrec,hnr,hlen,(by dsimp only;omega)⟩,by dsimp only;omega,⟨rfl,⟨rfl,rfl,rfl,rfl,rfl,congrArg (fun z=>some (SV.int .i64 z)) hcnt,rfl,congrArg (fun z=>some (SV.int .i64 z)) (a0M (by omega)),trivial⟩,⟨gwk rfl,rfl,rfl,rfl,rfl,rfl,rfl,rfl,rfl,rfl,rfl,rfl,rfl,rfl,rfl,rfl,rfl,rfl,rfl,rfl,rfl,rfl,rfl,rfl,rfl,rfl,rfl,rfl,rfl,rfl,rfl,trivial⟩⟩⟩)
   |trace_state
end
section
attribute [local irreducible] a0B a0D a0u a0Y sortI
attribute [local irreducible] seq ByteArray.extract b0g c0c w0 Oq.ops Oq.txt dgI
theorem e1X (c:Dk):∃b,(b0m c).1= { c with down:=b}:=by
 unfold b0m
 split
 .exact ⟨false,rfl⟩
 .exact ⟨c.down,rfl⟩
theorem i1O {G:Gq} {x:Gpx} (h:GpI G x):x.2.2.2.1.ok:=by
 cases h with
 |run i A j d hi hk=>exact hk.a.ok
 |fin A j d la ha=>exact ha.ok
 |dead A j d0 d h1 hr ha hg hd hnn=>exact hd.ok
theorem b1v {G:Gq} {x:Gpx} (h:GpJ G x) (h8:G.n<=8) (mask:Int):∃A' J,Ran w0 A'/\A'.length<=100000/\Fo x.2.2.2.1 J (b0m (c0m mask x.2.2.2.1))/\J.recs=A'.map c0c/\J.nr=A'.length/\
  (A'=x.2.1\/(x.2.2.2.2.2=true/\1<=G.ns.getD (G.n-1) 0/\A'.length=x.2.1.length+G.ns.getD (G.n-1) 0)):=by
 obtain ⟨hi,hA,hj,hn,hl,hle⟩:=h
 cases hi with
 |run i A j d hi hk=>exact ⟨A,j,hA,by dsimp only at hl hle;omega,t0n hk.a mask,hj,hn,.inl rfl⟩
 |fin A j d la ha=>exact ⟨A,j,hA,by dsimp only at hl;omega,t0n ha mask,hj,hn,.inl rfl⟩
 |dead A j d0 d h1 hr ha hg hd hnn=>
  have hne:(G.q (G.n-1)).txt (G.q (G.n-1)).n≠[]:=fun h=>by
   have:=i0d (G.q (G.n-1)) (Nat.le_refl _)
   rw [h] at this
   have h2:1<=([]:List ByteArray).length:=by rw [this];exact h1
   exact absurd h2 (by decide)
  have hl2:(A++(G.q (G.n-1)).ops).length=A.length+G.ns.getD (G.n-1) 0:=by rw [List.length_append,g0x]
  have h256:G.ns.getD (G.n-1) 0<=256:=by
   have:=hg.le
   rw [i0d _ (Nat.le_refl _)] at this
   exact this
  rcases u0T ha hg hne hd mask with f|f
  .exact ⟨A,j,hA,by dsimp only at hl;omega,f,hj,hn,.inl rfl⟩
  .refine ⟨A++(G.q (G.n-1)).ops,d0E j _,hr,by dsimp only at hl;omega,f,?_,?_,.inr ⟨rfl,h1,hl2⟩⟩
   .show j.recs++(G.q (G.n-1)).txt (G.q (G.n-1)).n=_
    rw [show j.recs=A.map c0c from hj,r0v,List.map_append]
   .show j.nr+((G.q (G.n-1)).txt (G.q (G.n-1)).n).length=_
    rw [i0d _ (Nat.le_refl _),hl2,show j.nr=A.length from hn]
theorem u0U (G:Gq) (steps mask:Int):FC Tryz.prog 3 3 [.sl 1 0 0 G.n,.int .i64 steps,.int .u64 mask] [(0,some (GB glT)),(1,some (.one true (.cols G.n [.own 2 G.ns]))),(2,G.fam)] (a0s (.bool true) [] 3):=by
 have cA:=x0Q
 have cN:=b1n 400 (by omega)
 have cS:=p0u
 have K0:=h1o 400 (by omega)
 have cO:=y0F (v0a 400) [] (x0K w0) (by decide) jr0 K0.a.op rfl rfl rfl (by decide) K0.a.sz
 generalize hs0:b0g w0 []=s0 at*
 generalize v0a 400=d0 at*
 by_cases h8:8<G.n
 .refine a0p mixed a0x Tryz.func3 rfl (by kernel_rfl) (by kernel_rfl) (by kernel_rfl) ?_
  repeat' ((conv=>whnf);first|(refine a0t (cA) rfl rfl rfl rfl ?_)|(refine a0w (cA) rfl rfl rfl rfl ?_)|((first|apply a0f|apply a0c|apply a0g|apply a0b|apply a0h|apply a0a)<;>intro h<;>try (exfalso;(try dsimp only at h);omega))|refine a0i ?_)
  all_goals (conv=>whnf)
  all_goals first
   |(exfalso;omega)
   |exact a0n (l:= [0,1,2]) rfl rfl trivial a0k
   |trace_state
 have h8:G.n<=8:=by omega
 refine a0p mixed a0x Tryz.func3 rfl (by kernel_rfl) (by kernel_rfl) (by kernel_rfl) ?_
 repeat' ((conv=>whnf);first|refine a0e (l:= [0]) (cN) ?_|refine a0l (l:= [0]) (cN) ?_|refine a0e (l:= [0]) (cS) ?_|refine a0l (l:= [0]) (cS) ?_|refine a0e (l:= [0,7,3,4,5,6]) (cO) ?_|refine a0l (l:= [0,7,3,4,5,6]) (cO) ?_|((first|apply a0f|apply a0c|apply a0g|apply a0b|apply a0h|apply a0a)<;>intro h<;>try (exfalso;(try dsimp only at h);omega))|refine a0i ?_)
 all_goals (conv=>whnf)
 all_goals first
  |(exfalso;omega)
  |(exfalso;exact h rfl)
  |skip
 subst hs0
 refine a0z (gpS G steps mask) (GpJ G) (fun x=>G.n-x.1) (0,[],jr0,d0,false,false) [0,1,2,3,4,5,6,7,8,9,10,11,12,13,14,15,16,17,18,19,20,21,22,23,24,25,26,27,28,29,30,31] [] ⟨rfl,⟨rfl,rfl,rfl,rfl,rfl,rfl,rfl,rfl,trivial⟩,⟨gwk rfl,rfl,rfl,rfl,rfl,rfl,rfl,rfl,rfl,rfl,rfl,rfl,rfl,rfl,rfl,rfl,rfl,rfl,rfl,rfl,rfl,rfl,rfl,rfl,rfl,rfl,rfl,rfl,rfl,rfl,rfl,trivial⟩⟩ ⟨.run 0 [] jr0 d0 (Nat.zero_le _) K0,x0K w0,rfl,rfl,Nat.zero_le _,Nat.zero_le _⟩ ?_
 rintro ⟨i,A,j,d,st,la⟩ hJ
 have hA:=hJ.ran
 have hl:=hJ.le
 have hle:=hJ.n
 dsimp only at hA hl hle
 by_cases hlt:i<G.n
 .by_cases h16:8<G.ns.getD i 0
  .have h16':8<G.ns.getD ((i:Int).toNat+0) 0:=h16
   unfold gpS
   dsimp only
   repeat' ((conv=>whnf);first|(refine a0t (cA) rfl rfl rfl rfl ?_)|(refine a0w (cA) rfl rfl rfl rfl ?_)|((first|apply a0f|apply a0c|apply a0g|apply a0b|apply a0h|apply a0a)<;>intro h<;>try (exfalso;(try dsimp only at h);omega))|refine a0i ?_)
   all_goals (conv=>whnf)
   all_goals first
    |(exfalso;omega)
    |exact a0n (l:= [0,1,2]) rfl rfl trivial a0k
    |trace_state
  .have hI:=hJ.i
   have hj:=hJ.recs
   have hn:=hJ.nr
   cases hI with
   |run _ _ _ _ hi hk=>
    by_cases hL:i=G.n-1/\0<steps
    .exact h1x G h8 steps mask i hlt h16 A j d hk hA hj hn hl hL _ (fun v hv=>hv)
    .exact h1w G h8 steps mask i hlt h16 A j d hk hA hj hn hl hL _ (fun v hv=>hv)
   |fin=>omega
   |dead=>omega
 have hdok:=i1O hJ.i
 obtain ⟨A',J,a1,a2,a3,a4,a5,a6⟩:=b1v hJ h8 mask
 dsimp only at hdok a3 a6
 have cB:=e0F A.length st
 have cD:=h0q (b0g w0 A) (g0s n0A A)
 have cC:=u0L d hdok mask
 have cV:=p0A (c0m mask d)
 have cO2:=y0F (b0m (c0m mask d)).1 A' a1 (by omega) J a3.op a4 a5 a3.dn (by rw [a3.nn];exact hdok.nm) a3.sz
 have cB2:=e0F A'.length false
 have cE2:=b1t A'.length false
 have cD2:=h0q (b0g w0 A') (g0s n0A A')
 rw [a3.e] at cV
 obtain ⟨b,hb⟩:=e1X (c0m mask d)
 rw [hb] at cV cO2
 clear a3 hb cO
 generalize c0m mask d=c at*
 unfold gpS
 dsimp only
 rcases a6 with rfl|⟨rfl,a7,a8⟩
 .clear cD2
  generalize b0g w0 A'=s at*
  generalize dgI s=X at*
  repeat' ((conv=>whnf);first|refine a0e (l:= [0,8,9,10,11,12,13,14,15,16,17,18,19,20,21,22,23,24,25,26,27,28,29,30,31,3,4,5,6]) (cB) ?_|refine a0l (l:= [0,8,9,10,11,12,13,14,15,16,17,18,19,20,21,22,23,24,25,26,27,28,29,30,31,3,4,5,6]) (cB) ?_|refine a0e (l:= [0,10,11,12,13,14,15,16,17,18,19,20,21,22,23,24,25,26,27,28]) (cD) ?_|refine a0l (l:= [0,10,11,12,13,14,15,16,17,18,19,20,21,22,23,24,25,26,27,28]) (cD) ?_|refine a0e (l:= [0,3,4,5,6]) (cC) ?_|refine a0l (l:= [0,3,4,5,6]) (cC) ?_|refine a0e (l:= [0,3,4,5,32]) (cV) ?_|refine a0l (l:= [0,3,4,5,32]) (cV) ?_|refine a0e (l:= [0]) (cS) ?_|refine a0l (l:= [0]) (cS) ?_|refine a0e (l:= [0,33,3,4,5,32]) (cO2) ?_|refine a0l (l:= [0,33,3,4,5,32]) (cO2) ?_|refine a0e (l:= [0,34,35,36,37,38,39,40,41,42,43,44,45,46,47,48,49,50,51,52,53,54,55,56,57,3,4,5,32]) (cE2) ?_|refine a0l (l:= [0,34,35,36,37,38,39,40,41,42,43,44,45,46,47,48,49,50,51,52,53,54,55,56,57,3,4,5,32]) (cE2) ?_|refine a0e (l:= [0,34,35,36,37,38,39,40,41,42,43,44,45,46,47,48,49,50,51,52,53,54,55,56,57,3,4,5,32]) (cB2) ?_|refine a0l (l:= [0,34,35,36,37,38,39,40,41,42,43,44,45,46,47,48,49,50,51,52,53,54,55,56,57,3,4,5,32]) (cB2) ?_|refine a0e (l:= [0,36,37,38,39,40,41,42,43,44,45,46,47,48,49,50,51,52,53,54]) (cD) ?_|refine a0l (l:= [0,36,37,38,39,40,41,42,43,44,45,46,47,48,49,50,51,52,53,54]) (cD) ?_|(refine a0t (cA) rfl rfl rfl rfl ?_)|(refine a0w (cA) rfl rfl rfl rfl ?_)|((first|apply a0f|apply a0c|apply a0g|apply a0b|apply a0h|apply a0a)<;>intro h<;>try (exfalso;(try dsimp only at h);omega))|refine a0i ?_)
  all_goals (conv=>whnf)
  all_goals first
   |(exfalso;omega)
   |(exfalso;exact h rfl)
   |exact a0n (l:= [0,1,2]) rfl rfl trivial a0k
   |trace_state
 .have a9:A'.length<=100000:=a2
  generalize b0g w0 A'=s2 at*
  generalize b0g w0 A=s at*
  generalize dgI s=X at*
  generalize dgI s2=X2 at*
  dsimp only [gpV]
  obtain ⟨n',en⟩:∃n',G.ns.getD (G.n-1) 0=n'+1:=⟨G.ns.getD (G.n-1) 0-1,by omega⟩
  rw [en] at a8⊢
  clear en
  have hw2:IntKind.i64.wrap ((A.length:Int)+((n'+1:Nat):Int))=(A'.length:Int):=by rw [a0G (by omega) (by omega)];omega
  repeat' ((conv=>whnf);first|(rw [hw2])|refine a0e (l:= [0,8,9,10,11,12,13,14,15,16,17,18,19,20,21,22,23,24,25,26,27,28,29,30,31,3,4,5,6]) (cB) ?_|refine a0l (l:= [0,8,9,10,11,12,13,14,15,16,17,18,19,20,21,22,23,24,25,26,27,28,29,30,31,3,4,5,6]) (cB) ?_|refine a0e (l:= [0,10,11,12,13,14,15,16,17,18,19,20,21,22,23,24,25,26,27,28]) (cD) ?_|refine a0l (l:= [0,10,11,12,13,14,15,16,17,18,19,20,21,22,23,24,25,26,27,28]) (cD) ?_|refine a0e (l:= [0,3,4,5,6]) (cC) ?_|refine a0l (l:= [0,3,4,5,6]) (cC) ?_|refine a0e (l:= [0,3,4,5,32]) (cV) ?_|refine a0l (l:= [0,3,4,5,32]) (cV) ?_|refine a0e (l:= [0]) (cS) ?_|refine a0l (l:= [0]) (cS) ?_|refine a0e (l:= [0,33,3,4,5,32]) (cO2) ?_|refine a0l (l:= [0,33,3,4,5,32]) (cO2) ?_|refine a0e (l:= [0,34,35,36,37,38,39,40,41,42,43,44,45,46,47,48,49,50,51,52,53,54,55,56,57,3,4,5,32]) (cE2) ?_|refine a0l (l:= [0,34,35,36,37,38,39,40,41,42,43,44,45,46,47,48,49,50,51,52,53,54,55,56,57,3,4,5,32]) (cE2) ?_|refine a0e (l:= [0,34,35,36,37,38,39,40,41,42,43,44,45,46,47,48,49,50,51,52,53,54,55,56,57,3,4,5,32]) (cB2) ?_|refine a0l (l:= [0,34,35,36,37,38,39,40,41,42,43,44,45,46,47,48,49,50,51,52,53,54,55,56,57,3,4,5,32]) (cB2) ?_|refine a0e (l:= [0,36,37,38,39,40,41,42,43,44,45,46,47,48,49,50,51,52,53,54]) (cD2) ?_|refine a0l (l:= [0,36,37,38,39,40,41,42,43,44,45,46,47,48,49,50,51,52,53,54]) (cD2) ?_|(refine a0t (cA) rfl rfl rfl rfl ?_)|(refine a0w (cA) rfl rfl rfl rfl ?_)|((first|apply a0f|apply a0c|apply a0g|apply a0b|apply a0h|apply a0a)<;>intro h<;>try (exfalso;(try dsimp only at h);omega))|refine a0i ?_)
  all_goals (conv=>whnf)
  all_goals first
   |(exfalso;omega)
   |(exfalso;exact h rfl)
   |exact a0n (l:= [0,1,2]) rfl rfl trivial a0k
   |trace_state
end
end Go.Proofs.YtmgnedokogidoaaGreatDoor
namespace Go.Proofs.YtmgnedokogidoaaGreatDoor
open Go.RowKit Go.Sy
theorem booksGroups_fc (l0:Nat) (hl0:l0<=maxLen) (ns0:List Nat) (ens0:ns0.length=l0) (hns0:∀i,i<l0->ns0.getD i 0<=maxLen) (z0_0:Nat->List Int) (ez0_0:∀i,i<l0->(z0_0 i).length=ns0.getD i 0) (wz0_0:∀i,i<l0->∀x∈z0_0 i,(Lit.int .i64 x).wf=true) (z0_1:Nat->List Int) (ez0_1:∀i,i<l0->(z0_1 i).length=ns0.getD i 0) (wz0_1:∀i,i<l0->∀x∈z0_1 i,(Lit.int .i64 x).wf=true) (z0_2:Nat->List ByteArray) (ez0_2:∀i,i<l0->(z0_2 i).length=ns0.getD i 0) (wz0_2:∀i,i<l0->∀x∈z0_2 i,x.size<=maxLen) (z0_3:Nat->List ByteArray) (ez0_3:∀i,i<l0->(z0_3 i).length=ns0.getD i 0) (wz0_3:∀i,i<l0->∀x∈z0_3 i,x.size<=maxLen) (z0_4:Nat->List ByteArray) (ez0_4:∀i,i<l0->(z0_4 i).length=ns0.getD i 0) (wz0_4:∀i,i<l0->∀x∈z0_4 i,x.size<=maxLen) (z0_5:Nat->List ByteArray) (ez0_5:∀i,i<l0->(z0_5 i).length=ns0.getD i 0) (wz0_5:∀i,i<l0->∀x∈z0_5 i,x.size<=maxLen) (z0_6:Nat->List Int) (ez0_6:∀i,i<l0->(z0_6 i).length=ns0.getD i 0) (wz0_6:∀i,i<l0->∀x∈z0_6 i,(Lit.int .i64 x).wf=true) (z0_7:Nat->List Int) (ez0_7:∀i,i<l0->(z0_7 i).length=ns0.getD i 0) (wz0_7:∀i,i<l0->∀x∈z0_7 i,(Lit.int .i64 x).wf=true) (z0_8:Nat->List Bool) (ez0_8:∀i,i<l0->(z0_8 i).length=ns0.getD i 0) (n1:Int) (hw1:(Lit.int .i64 n1).wf=true) (n2:Int) (hw2:(Lit.int .u64 n2).wf=true):
  FC Tryz.prog 3 3 [.sl 1 0 0 l0,.int .i64 n1,.int .u64 n2] [(0,some (GB glT)),(1,some (.one true (.cols l0 [.own 2 ns0]))),(2,some (.fam true (fun x=>x<l0) (fun x=> .cols (ns0.getD x 0) [.sc (.ints .i64 (z0_0 x)),.sc (.ints .i64 (z0_1 x)),.sc (.strs (z0_2 x)),.sc (.strs (z0_3 x)),.sc (.strs (z0_4 x)),.sc (.strs (z0_5 x)),.sc (.ints .i64 (z0_6 x)),.sc (.ints .i64 (z0_7 x)),.sc (.bools (z0_8 x))])))] (a0s (.bool true) [] 3):=u0U ⟨l0,ns0,z0_0,z0_1,z0_2,z0_3,z0_4,z0_5,z0_6,z0_7,z0_8⟩ n1 n2
end Go.Proofs.YtmgnedokogidoaaGreatDoor
