/- Several texts in one: Bg2. -/
import Derived.Test.YtmgnedokogidoaaGreatDoorP3
import Derived.Test.YtmgnedokogidoaaGreatDoorP4
import Derived.Test.YtmgnedokogidoaaGreatDoorP5
import Derived.WalkKit
import Derived.Lib.Builder
import Derived.Lib.AppendStr
import Derived.Lib.UnsafeStr
import Derived.Lib.Strings
import Derived.Lib.Slices
import Derived.Lib.Walk
import Derived.Shelf.RegionOpenPlain
set_option linter.unusedVariables false
set_option linter.unusedSimpArgs false
set_option maxRecDepth 100000
namespace Go.Proofs.YtmgnedokogidoaaGreatDoor
open Go.RowKit Go.Sy
section
attribute [local irreducible] a0B a0D a0u a0Y
theorem b1S (p:Int->Bool):∀(k:Nat) (d:Int),nxK p k d<0\/(d<=nxK p k d/\nxK p k d<d+(k:Int)/\p (nxK p k d)=true)
 |0,d=> .inl (by simp [nxK])
 |k+1,d=>by
  simp only [nxK]
  split
  .rename_i h
   exact .inr ⟨by omega,by omega,h⟩
  .rcases b1S p k (d+1) with h|⟨h1,h2,h3⟩
   .exact .inl h
   .exact .inr ⟨by omega,by omega,h3⟩
theorem b1T {hs:List Int} {d:Int} (h:¬nxI hs d<0):d<=nxI hs d/\nxI hs d<=99999/\u0b hs (nxI hs d)=true:=by
 rcases b1S (u0b hs) (100000-d).toNat d with q|⟨h1,h2,h3⟩
 .exact absurd q h
 .have h4:=h3
  unfold u0b at h4
  simp only [Bool.and_eq_true] at h4
  exact ⟨h1,(k0j.1 h4.1).2,h3⟩
def ofI (hs:List Int) (cut t:Int):Int:=if k0Q t<0 then-1 else if u0b hs (k0Q t)=true/\d1w t<cut then k0Q t else nxI hs (k0Q t+1)
def ofV (x:Int):SV:=if x<0 then .tup [.int .i64 0,.int .i64 14] else .tup [.int .i64 x,.int .i64 0]
abbrev cyR (np hn:Nat) (cut:Int) (hs:List Int):a0v:= [(1,cyC true 2 4 5 6 np cut),(2,w0s true 3),(3,tmM true hn hs)]
theorem s0t (np hn:Nat) (cut:Int) (hs:List Int) (hh:hs.length=hn) (d:Int) (hd:0<=d) (hd2:d<=99999):FC Tryz.prog 10 242 [.ptr 1 0 0 0,.int .i64 d] (cyR np hn cut hs) (a0s (ofV (nxI hs (d+1))) [] 10):=by
 have e:IntKind.i64.wrap (d+1)=d+1:=a0G (by omega) (by omega)
 have c:=z0W hn hs hh (d+1)
 have hv:(if isD (d+1)=true then nxV (nxI hs (d+1)) else nxV (-1))=nxV (nxI hs (d+1)):=by
  cases h:isD (d+1) with
  |true=>rw [if_pos rfl]
  |false=>rw [if_neg (by simp),w0t (by have:=f1V.1 h;omega)]
 rw [hv] at c
 unfold nxV at c
 unfold ofV
 by_cases h:nxI hs (d+1)<0
 .rw [if_pos h] at c⊢
  refine a0p mixed a0x Tryz.func242 rfl (by kernel_rfl) (by kernel_rfl) (by kernel_rfl) ?_
  repeat' ((conv=>whnf);first|(simp only [e])|refine a0e (l:= [0,2,3]) (c) ?_|((first|apply a0f|apply a0c|apply a0g|apply a0b|apply a0h|apply a0a)<;>intro h<;>try (exfalso;(try dsimp only at h);omega))|refine a0i ?_)
  all_goals (conv=>whnf)
  all_goals first
   |exact a0n (l:= [0,1,2,3,4,5,6,7,8,9]) rfl rfl trivial a0k
   |(exfalso;omega)
   |trace_state
 .rw [if_neg h] at c⊢
  refine a0p mixed a0x Tryz.func242 rfl (by kernel_rfl) (by kernel_rfl) (by kernel_rfl) ?_
  repeat' ((conv=>whnf);first|(simp only [e])|refine a0e (l:= [0,2,3]) (c) ?_|((first|apply a0f|apply a0c|apply a0g|apply a0b|apply a0h|apply a0a)<;>intro h<;>try (exfalso;(try dsimp only at h);omega))|refine a0i ?_)
  all_goals (conv=>whnf)
  all_goals first
   |exact a0n (l:= [0,1,2,3,4,5,6,7,8,9]) rfl rfl trivial a0k
   |(exfalso;omega)
   |trace_state
theorem q0E {t:Int} (h:¬k0Q t<0):okT t=true/\0<=k0Q t/\k0Q t<=99999/\0<=d1w t:=by
 unfold k0Q d1w at*
 by_cases q:okT t=true
 .rw [if_pos q] at h⊢
  rw [if_pos q]
  have:=k0j.1 (k0k.1 q).2.2
  exact ⟨q,this.1,this.2,by omega⟩
 .rw [if_neg q] at h;omega
theorem i1k (np hn:Nat) (cut:Int) (hs:List Int) (hh:hs.length=hn) (t:Int):FC Tryz.prog 10 241 [.ptr 1 0 0 0,.int .i64 t] (cyR np hn cut hs) (a0s (ofV (ofI hs cut t)) [] 10):=by
 have c1:=w0r t
 unfold ofI
 by_cases h:k0Q t<0
 .rw [if_pos h]
  generalize k0Q t=d at*
  refine a0p mixed a0x Tryz.func241 rfl (by kernel_rfl) (by kernel_rfl) (by kernel_rfl) ?_
  repeat' ((conv=>whnf);first|(refine a0j (c1) rfl rfl rfl ?_)|(refine a0m (c1) rfl rfl rfl ?_)|((first|apply a0f|apply a0c|apply a0g|apply a0b|apply a0h|apply a0a)<;>intro h<;>try (exfalso;(try dsimp only at h);omega))|refine a0i ?_)
  all_goals (conv=>whnf)
  all_goals first
   |exact a0n (l:= [0,1,2,3,4,5,6,7,8,9]) rfl rfl trivial a0k
   |(exfalso;omega)
   |trace_state
 .have hd:=q0E h
  rw [if_neg h]
  have c2:=f0e hn hs hh (k0Q t)
  have c3:=s0t np hn cut hs hh (k0Q t) hd.2.1 hd.2.2.1
  generalize k0Q t=d at*
  generalize d1w t=s at*
  cases hb:u0b hs d with
  |true=>
   rw [hb] at c2
   by_cases hq:s<cut
   .rw [if_pos ⟨rfl,hq⟩]
    unfold ofV
    rw [if_neg h]
    refine a0p mixed a0x Tryz.func241 rfl (by kernel_rfl) (by kernel_rfl) (by kernel_rfl) ?_
    repeat' ((conv=>whnf);first|(refine a0j (c1) rfl rfl rfl ?_)|(refine a0m (c1) rfl rfl rfl ?_)|refine a0e (l:= [0,2,3]) (c2) ?_|refine a0l (l:= [0,2,3]) (c2) ?_|((first|apply a0f|apply a0c|apply a0g|apply a0b|apply a0h|apply a0a)<;>intro h<;>try (exfalso;(try dsimp only at h);omega))|refine a0i ?_)
    all_goals (conv=>whnf)
    all_goals first
     |exact a0n (l:= [0,1,2,3,4,5,6,7,8,9]) rfl rfl trivial a0k
     |(exfalso;omega)
     |trace_state
   .rw [if_neg (fun w=>hq w.2)]
    unfold ofV at c3⊢
    by_cases hx:nxI hs (d+1)<0
    .rw [if_pos hx] at c3⊢
     refine a0p mixed a0x Tryz.func241 rfl (by kernel_rfl) (by kernel_rfl) (by kernel_rfl) ?_
     repeat' ((conv=>whnf);first|(refine a0j (c1) rfl rfl rfl ?_)|(refine a0m (c1) rfl rfl rfl ?_)|refine a0e (l:= [0,2,3]) (c2) ?_|refine a0l (l:= [0,2,3]) (c2) ?_|refine a0e (l:= [0,1,2,3,4,5,6,7,8,9]) (c3) ?_|refine a0l (l:= [0,1,2,3,4,5,6,7,8,9]) (c3) ?_|((first|apply a0f|apply a0c|apply a0g|apply a0b|apply a0h|apply a0a)<;>intro h<;>try (exfalso;(try dsimp only at h);omega))|refine a0i ?_)
     all_goals (conv=>whnf)
     all_goals first
      |exact a0n (l:= [0,1,2,3,4,5,6,7,8,9]) rfl rfl trivial a0k
      |(exfalso;omega)
      |trace_state
    .rw [if_neg hx] at c3⊢
     refine a0p mixed a0x Tryz.func241 rfl (by kernel_rfl) (by kernel_rfl) (by kernel_rfl) ?_
     repeat' ((conv=>whnf);first|(refine a0j (c1) rfl rfl rfl ?_)|(refine a0m (c1) rfl rfl rfl ?_)|refine a0e (l:= [0,2,3]) (c2) ?_|refine a0l (l:= [0,2,3]) (c2) ?_|refine a0e (l:= [0,1,2,3,4,5,6,7,8,9]) (c3) ?_|refine a0l (l:= [0,1,2,3,4,5,6,7,8,9]) (c3) ?_|((first|apply a0f|apply a0c|apply a0g|apply a0b|apply a0h|apply a0a)<;>intro h<;>try (exfalso;(try dsimp only at h);omega))|refine a0i ?_)
     all_goals (conv=>whnf)
     all_goals first
      |exact a0n (l:= [0,1,2,3,4,5,6,7,8,9]) rfl rfl trivial a0k
      |(exfalso;omega)
      |trace_state
  |false=>
   rw [hb] at c2
   rw [if_neg (fun w=>by simp at w)]
   unfold ofV at c3⊢
   by_cases hx:nxI hs (d+1)<0
   .rw [if_pos hx] at c3⊢
    refine a0p mixed a0x Tryz.func241 rfl (by kernel_rfl) (by kernel_rfl) (by kernel_rfl) ?_
    repeat' ((conv=>whnf);first|(refine a0j (c1) rfl rfl rfl ?_)|(refine a0m (c1) rfl rfl rfl ?_)|refine a0e (l:= [0,2,3]) (c2) ?_|refine a0l (l:= [0,2,3]) (c2) ?_|refine a0e (l:= [0,1,2,3,4,5,6,7,8,9]) (c3) ?_|refine a0l (l:= [0,1,2,3,4,5,6,7,8,9]) (c3) ?_|((first|apply a0f|apply a0c|apply a0g|apply a0b|apply a0h|apply a0a)<;>intro h<;>try (exfalso;(try dsimp only at h);omega))|refine a0i ?_)
    all_goals (conv=>whnf)
    all_goals first
     |exact a0n (l:= [0,1,2,3,4,5,6,7,8,9]) rfl rfl trivial a0k
     |(exfalso;omega)
     |trace_state
   .rw [if_neg hx] at c3⊢
    refine a0p mixed a0x Tryz.func241 rfl (by kernel_rfl) (by kernel_rfl) (by kernel_rfl) ?_
    repeat' ((conv=>whnf);first|(refine a0j (c1) rfl rfl rfl ?_)|(refine a0m (c1) rfl rfl rfl ?_)|refine a0e (l:= [0,2,3]) (c2) ?_|refine a0l (l:= [0,2,3]) (c2) ?_|refine a0e (l:= [0,1,2,3,4,5,6,7,8,9]) (c3) ?_|refine a0l (l:= [0,1,2,3,4,5,6,7,8,9]) (c3) ?_|((first|apply a0f|apply a0c|apply a0g|apply a0b|apply a0h|apply a0a)<;>intro h<;>try (exfalso;(try dsimp only at h);omega))|refine a0i ?_)
    all_goals (conv=>whnf)
    all_goals first
     |exact a0n (l:= [0,1,2,3,4,5,6,7,8,9]) rfl rfl trivial a0k
     |(exfalso;omega)
     |trace_state
end
section
attribute [local irreducible] a0B a0D a0u a0Y sortI
theorem a1e (n:Nat) (l:List Int) (hn:n<4611686018427387904):FC Tryz.prog 2 215 [.sl 1 0 0 n] [(1,some (.one false (.cols n [.sc (.ints .i64 l)])))] (a0s (.tup []) [(1,some (.one false (.cols n [.sc (.ints .i64 (sortI l))])))] 2):=
 z0E ⟨fun blk off cap ss W hH hblk hsz=>AnyM.slices_Sort_int Tryz.sortI blk off cap ss W hH hblk hsz,fun p cap W=>AnyM.slices_Sort_int_none Tryz.sortI p cap W⟩ (f0a Tryz.func215 (by kernel_rfl) (by kernel_rfl)) n l hn
def opL (ds cd:List Int) (sn:List Nat):List Int:=(sn.reverse.map (fun i=>ds.getD i 0)).filter (fun t=> !decide (t∈cd))
def k0q (ds cd:List Int):List Int:=sortI (ds.filter (fun t=> !decide (t∈cd)))
theorem d1E {ds cd:List Int} {i:Nat} {sn:List Nat} (h:decide (ds.getD i 0∈cd)=false):opL ds cd (i::sn)=opL ds cd sn++ [ds.getD i 0]:=by
 unfold opL
 rw [List.reverse_cons,List.map_append,List.filter_append]
 simp only [List.map_cons,List.map_nil,List.filter_cons,List.filter_nil,h,Bool.not_false,if_true]
theorem g1j {ds cd:List Int} {i:Nat} {sn:List Nat} (h:decide (ds.getD i 0∈cd)=true):opL ds cd (i::sn)=opL ds cd sn:=by
 unfold opL
 rw [List.reverse_cons,List.map_append,List.filter_append]
 simp only [List.map_cons,List.map_nil,List.filter_cons,List.filter_nil,h,Bool.not_true,Bool.false_eq_true,if_false,List.append_nil]
theorem d1F (ds cd:List Int) (sn:List Nat):(opL ds cd sn).length<=sn.length:=by
 unfold opL
 refine Nat.le_trans (List.length_filter_le _ _) ?_
 simp
theorem g1k {m:Nat} {ds cd:List Int} {sn:List Nat} (hk:ds.length=m) (hd:sn.Nodup) (hl:∀i∈sn,i<m) (ha:∀i,i<m->i∈sn):sortI (opL ds cd sn)=k0q ds cd:=by
 unfold k0q opL
 refine q0j (List.Perm.filter _ ?_)
 have:=((List.reverse_perm sn).trans (l0S hd hl ha)).map (fun i=>ds.getD i 0)
 rwa [<-hk,f0S] at this
abbrev opR (np m nc:Nat) (cut:Int) (ds cd:List Int):a0v:= [(1,cyC true 2 4 5 6 np cut),(5,cyB true 7 m ds),(6,tmM true nc cd)]
theorem d1G (np m nc:Nat) (cut:Int) (ds cd:List Int) (hds:ds.length=m) (hcd:cd.length=nc) (hm:m<=100000):FC Tryz.prog 10 213 [.ptr 1 0 0 0] (opR np m nc cut ds cd) (a0s (.sl 10 0 0 (k0q ds cd).length) [(10,some (.one false (.cols (k0q ds cd).length [.sc (.ints .i64 (k0q ds cd))])))] 11):=by
 refine a0p mixed a0x Tryz.func213 rfl (by kernel_rfl) (by kernel_rfl) (by kernel_rfl) ?_
 repeat' ((conv=>whnf);first|((first|apply a0f|apply a0c|apply a0g|apply a0b|apply a0h|apply a0a)<;>intro h<;>try (exfalso;(try dsimp only at h);omega))|refine a0i ?_)
 all_goals (conv=>whnf)
 refine a0z (fun sn:List Nat=>⟨[(0,.ptr 1 0 0 0),(11,.ptr 10 0 0 0),(3,.sl 11 0 0 (opL ds cd sn).length)],(10,some (.one false (.obj (.iter 5 0 (List.range m) m sn))))::(11,some (.one false (.cols (opL ds cd sn).length [.sc (.ints .i64 (opL ds cd sn))])))::opR np m nc cut ds cd,12⟩) (fun sn=>sn.Nodup/\∀i∈sn,i<m) (fun sn=>m-sn.length) [] [0,1,2,3,4,5,6,7,8,9,10,11] [.slot 3 [.sc (.ints .i64 [])]] ⟨rfl,⟨rfl,rfl,rfl,trivial⟩,⟨rfl,rfl,rfl,rfl,rfl,trivial⟩⟩ ⟨List.nodup_nil,by simp⟩ ?_
 rintro sn ⟨hnd,hb⟩
 have hsl:=f0b _ sn hnd hb
 have htl:=d1F ds cd sn
 have cs:=a1e (opL ds cd sn).length (opL ds cd sn) (by omega)
 have hg:∀d,(List.replicate nc true).getD (b0v cd d) false=decide (d∈cd):=s0o hcd
 repeat' ((conv=>whnf);first|(refine ⟨⟨rfl,rfl⟩,fun i hi hni=> ?_,fun hall=> ?_⟩)|refine a0e (l:= [0,11]) (cs) ?_|((first|apply a0f|apply a0c|apply a0g|apply a0b|apply a0h|apply a0a)<;>intro h<;>try (exfalso;(try dsimp only at h);omega))|refine a0i ?_)
 all_goals (conv=>whnf)
 all_goals (try simp only [hg] at h)
 .have hlt:=c0z hnd hb hi hni
  refine ⟨i::sn,[0,1,2,3,4,5,6,7,8,9,10,13],[],⟨List.nodup_cons.2 ⟨hni,hnd⟩,fun x hx=> ?_⟩,by simp only [List.length_cons];omega,?_⟩
  .rcases List.mem_cons.1 hx with rfl|hx
   .exact hi
   .exact hb x hx
  .rw [d1E (by simpa using h),List.length_append]
   exact ⟨rfl,⟨rfl,rfl,rfl,trivial⟩,⟨rfl,rfl,rfl,rfl,rfl,trivial⟩⟩
 .have hlt:=c0z hnd hb hi hni
  refine ⟨i::sn,[0,1,2,3,4,5,6,7,8,9,10,11],[],⟨List.nodup_cons.2 ⟨hni,hnd⟩,fun x hx=> ?_⟩,by simp only [List.length_cons];omega,?_⟩
  .rcases List.mem_cons.1 hx with rfl|hx
   .exact hi
   .exact hb x hx
  .rw [g1j (by simpa using h)]
   exact ⟨rfl,⟨rfl,rfl,rfl,trivial⟩,⟨rfl,rfl,rfl,rfl,rfl,trivial⟩⟩
 .have ed:=g1k (cd:=cd) hds hnd hb hall
  have el:(opL ds cd sn).length=(k0q ds cd).length:=by rw [<-ed,i0q]
  rw [ed,el]
  exact a0n (l:= [0,1,2,3,4,5,6,7,8,9,11]) rfl rfl ⟨rfl,trivial⟩ (a0d a0k)
theorem w0P {B:List Bk} {m i np:Nat} {sp:List ByteArray} (hi:i<m) (h:BkI (B.getD i bk0) 4503599627370496) (hn:(B.getD i bk0).n=np) (hp:(B.getD i bk0).ps=sp) (hm:(B.getD i bk0).m<=100000):FC Tryz.prog 4 71 [.ptr 1 i 0 0] [(1,fmB true m (f7 2 3 np)),(2,fmB true m (f8 np sp)),(3,fmB true m (f9 B))] (a0s (.sl 4 0 0 (B.getD i bk0).list.length) [(4,some (.one false (pxB (B.getD i bk0).list.length (p0d (B.getD i bk0).list))))] 5):=by
 have c:=s0e [(1,⟨i,fun x=>x<m,f7 2 3 np⟩),(2,⟨i,fun x=>x<m,f8 np sp⟩),(3,⟨i,fun x=>x<m,f9 B⟩)] (by
  refine ⟨⟨by decide,by decide,_,_,rfl,hi,?_,.inl rfl⟩,⟨by decide,by decide,_,_,rfl,hi,rfl,.inl rfl⟩,⟨by decide,by decide,_,_,rfl,hi,rfl,.inl rfl⟩,trivial⟩
  show Blk.cells [.sl 2 i 0 np,.map 3 i]= .cells [.sl 2 (0+i) 0 np,.map 3 (0+i)]
  rw [Nat.zero_add]) (by exact ⟨rfl,rfl,rfl,trivial⟩) (by exact ⟨rfl,trivial⟩) (a0d a0k) (w0G h hn hp hm)
 have e:SV.mems (fmu [(1,⟨i,fun x=>x<m,f7 2 3 np⟩),(2,⟨i,fun x=>x<m,f8 np sp⟩),(3,⟨i,fun x=>x<m,f9 B⟩)]) [.ptr 1 0 0 0]= [.ptr 1 i 0 0]:=by
  show [SV.ptr 1 (0+i) 0 0]=_
  rw [Nat.zero_add]
 rw [e] at c
 exact c
theorem w0Q:c0a Tryz.prog 71 [.nptr] .nsl:=by
 refine a0p mixed a0x Tryz.func71 rfl (by kernel_rfl) (by kernel_rfl) (by kernel_rfl) ?_
 repeat' ((conv=>whnf);first|((first|apply a0f|apply a0c|apply a0g|apply a0b|apply a0h|apply a0a)<;>intro h<;>try (exfalso;(try dsimp only at h);omega))|refine a0i ?_)
 all_goals (conv=>whnf)
 all_goals exact a0o rfl
def u0Y (ds:List Int) (B:List Bk) (d:Int):List Px:=if d∈ds then (B.getD (b0v ds d) bk0).list else []
structure BksI (ds:List Int) (B:List Bk) (m np:Nat) (sp:List ByteArray):Prop where
 dl:ds.length=m
 bl:B.length=m
 nd:ds.Nodup
 I:∀i,i<m->BkI (B.getD i bk0) 4503599627370496/\(B.getD i bk0).n=np/\(B.getD i bk0).ps=sp/\(B.getD i bk0).m<=100000
abbrev psR (np m:Nat) (cut:Int) (ds:List Int) (B:List Bk) (sp:List ByteArray):a0v:= [(1,cyC true 2 4 5 6 np cut),(5,cyB true 7 m ds),(7,fmB true m (f7 8 9 np)),(8,fmB true m (f8 np sp)),(9,fmB true m (f9 B))]
theorem i0s {np m:Nat} {ds:List Int} {B:List Bk} {sp:List ByteArray} (hb:BksI ds B m np sp) (cut:Int) (d:Int):FC Tryz.prog 10 44 [.ptr 1 0 0 0,.int .i64 d] (psR np m cut ds B sp) (a0s (.sl 10 0 0 (u0Y ds B d).length) [(10,some (.one false (pxB (u0Y ds B d).length (p0d (u0Y ds B d)))))] 11):=by
 unfold u0Y
 by_cases h:d∈ds
 .have hi:b0v ds d<m:=by rw [<-hb.dl];exact c0l.2 h
  obtain ⟨b1,b2,b3,b4⟩:=hb.I _ hi
  rw [if_pos h]
  have c:=w0P (B:=B) hi b1 b2 b3 b4
  have hfd:e0b false m [.ptrs 7 m] (b0v ds d)= .ptr 7 (b0v ds d) 0 0:=by
   show (bif decide (b0v ds d<m) then SV.ptr 7 (b0v ds d) 0 0 else .nptr)=_
   rw [decide_eq_true hi];rfl
  refine a0p mixed a0x Tryz.func44 rfl (by kernel_rfl) (by kernel_rfl) (by kernel_rfl) ?_
  repeat' ((conv=>whnf);first|(rw [hfd])|refine a0e (l:= [0,7,8,9]) (c) ?_|((first|apply a0f|apply a0c|apply a0g|apply a0b|apply a0h|apply a0a)<;>intro h<;>try (exfalso;(try dsimp only at h);omega))|refine a0i ?_)
  all_goals (conv=>whnf)
  all_goals first
   |exact a0n (l:= [0,1,2,3,4,5,6,7,8,9,10]) rfl rfl ⟨rfl,trivial⟩ (a0d a0k)
   |(exfalso;omega)
   |trace_state
 .have hi:¬b0v ds d<m:=by rw [<-hb.dl];exact fun q=>h (c0l.1 q)
  rw [if_neg h]
  refine w0a rfl ?_
  have hfd:e0b false m [.ptrs 7 m] (b0v ds d)= .nptr:=by
   show (bif decide (b0v ds d<m) then SV.ptr 7 (b0v ds d) 0 0 else .nptr)=_
   rw [decide_eq_false hi];rfl
  have c:=w0Q
  refine a0p mixed a0x Tryz.func44 rfl (by kernel_rfl) (by kernel_rfl) (by kernel_rfl) ?_
  repeat' ((conv=>whnf);first|(rw [hfd])|(refine a0j (c) rfl rfl rfl ?_)|(refine a0m (c) rfl rfl rfl ?_)|((first|apply a0f|apply a0c|apply a0g|apply a0b|apply a0h|apply a0a)<;>intro h<;>try (exfalso;(try dsimp only at h);omega))|refine a0i ?_)
  all_goals (conv=>whnf)
  all_goals first
   |exact e0h (fun _ _ _ h=> .inl h) (a0n (l:= [0,1,2,3,4,5,6,7,8,9]) rfl rfl trivial a0k)
   |(exfalso;omega)
   |trace_state
end
section
attribute [local irreducible] a0B a0D a0u a0Y sortI
def clE (hs ds cd:List Int) (d:Int):Int:=if u0b hs d=false then 14 else if d∈cd then 23 else if 0<(k0q ds cd).length/\(k0q ds cd).getD 0 0<d then 8 else 0
abbrev clH (np m hn nc:Nat) (cut:Int) (hs ds cd:List Int) (B:List Bk) (sp:List ByteArray):a0v:= [(1,cyC true 2 4 5 6 np cut),(2,w0s true 3),(3,tmM true hn hs),(5,cyB true 7 m ds),(6,tmM false nc cd),(7,fmB true m (f7 8 9 np)),(8,fmB true m (f8 np sp)),(9,fmB true m (f9 B))]
def clO (hs ds cd:List Int) (B:List Bk) (d:Int):SV->a0v->Nat->Prop:=if clE hs ds cd d=0 then a0s (.tup [.sl 10 0 0 (u0Y ds B d).length,.int .i64 0]) [(6,tmM false (cd++ [d]).length (cd++ [d])),(10,some (.one false (pxB (u0Y ds B d).length (p0d (u0Y ds B d)))))] 11 else a0s (.tup [.nsl,.int .i64 (clE hs ds cd d)]) [(6,tmM false cd.length cd)] 10
theorem a1f {np m hn nc:Nat} {hs ds cd:List Int} {B:List Bk} {sp:List ByteArray} (hb:BksI ds B m np sp) (hh:hs.length=hn) (hc:cd.length=nc) (hm:m<=100000) (cut d:Int):FC Tryz.prog 10 212 [.ptr 1 0 0 0,.int .i64 d] (clH np m hn nc cut hs ds cd B sp) (clO hs ds cd B d):=by
 subst hc
 have c1:=f0e hn hs hh d
 have c2:=d1G np m cd.length cut ds cd hb.dl rfl hm
 have c3:=i0s hb cut d
 have hg:=s0o (n:=cd.length) (ks:=cd) rfl d
 have hput:=f1X (s:=cd) rfl d
 unfold clO clE
 cases hq:u0b hs d with
 |false=>
  rw [hq] at c1
  rw [if_pos rfl,if_neg (by decide)]
  refine a0p mixed a0x Tryz.func212 rfl (by kernel_rfl) (by kernel_rfl) (by kernel_rfl) ?_
  repeat' ((conv=>whnf);first|refine a0e (l:= [0,2,3]) (c1) ?_|((first|apply a0f|apply a0c|apply a0g|apply a0b|apply a0h|apply a0a)<;>intro h<;>try (exfalso;(try dsimp only at h);omega))|refine a0i ?_)
  all_goals (conv=>whnf)
  all_goals first
   |exact a0n (l:= [0,1,2,3,4,5,6,7,8,9]) rfl rfl ⟨rfl,trivial⟩ (a0d a0k)
   |(exfalso;omega)
   |trace_state
 |true=>
  rw [hq] at c1
  rw [if_neg (show¬true=false by simp)]
  by_cases hd:d∈cd
  .rw [decide_eq_true hd] at hg
   rw [if_pos hd,if_neg (by decide)]
   refine a0p mixed a0x Tryz.func212 rfl (by kernel_rfl) (by kernel_rfl) (by kernel_rfl) ?_
   repeat' ((conv=>whnf);first|refine a0e (l:= [0,2,3]) (c1) ?_|((first|apply a0f|apply a0c|apply a0g|apply a0b|apply a0h|apply a0a)<;>intro h<;>try (exfalso;(try dsimp only at h);omega))|refine a0i ?_)
   all_goals (conv=>whnf)
   all_goals first
    |exact a0n (l:= [0,1,2,3,4,5,6,7,8,9]) rfl rfl ⟨rfl,trivial⟩ (a0d a0k)
    |(exfalso;rw [hg] at h;cases h;done)
    |trace_state
  .rw [decide_eq_false hd] at hg
   rw [if_neg hd] at hput⊢
   have hol:(k0q ds cd).length<=100000:=by
    unfold k0q
    rw [i0q]
    exact Nat.le_trans (List.length_filter_le _ _) (by rw [hb.dl];exact hm)
   generalize k0q ds cd=S at*
   by_cases hS:0<S.length/\S.getD 0 0<d
   .rw [if_pos hS,if_neg (by decide)]
    refine a0p mixed a0x Tryz.func212 rfl (by kernel_rfl) (by kernel_rfl) (by kernel_rfl) ?_
    repeat' ((conv=>whnf);first|refine a0e (l:= [0,2,3]) (c1) ?_|refine a0e (l:= [0,1,2,3,4,5,6,7,8,9]) (c2) ?_|((first|apply a0f|apply a0c|apply a0g|apply a0b|apply a0h|apply a0a)<;>intro h<;>try (exfalso;(try dsimp only at h);omega))|refine a0i ?_)
    all_goals (conv=>whnf)
    all_goals first
     |exact a0n (l:= [0,1,2,3,4,5,6,7,8,9]) rfl rfl ⟨rfl,trivial⟩ (a0d a0k)
     |(exfalso;rw [hg] at h;cases h;done)
     |exact absurd hS.2 h
     |exact absurd ⟨by omega,h⟩ hS
     |(exfalso;omega)
     |trace_state
   .rw [if_neg hS,if_pos rfl]
    refine a0p mixed a0x Tryz.func212 rfl (by kernel_rfl) (by kernel_rfl) (by kernel_rfl) ?_
    repeat' ((conv=>whnf);first|refine a0e (l:= [0,2,3]) (c1) ?_|refine a0e (l:= [0,1,2,3,4,5,6,7,8,9]) (c2) ?_|refine a0e (l:= [0,1,2,3,4,5,6,7,8,9]) (c3) ?_|((first|apply a0f|apply a0c|apply a0g|apply a0b|apply a0h|apply a0a)<;>intro h<;>try (exfalso;(try dsimp only at h);omega))|refine a0i ?_)
    all_goals (conv=>whnf)
    all_goals first
     |exact a0n (l:= [0,1,2,3,4,5,6,7,8,9,10]) rfl rfl ⟨hput,rfl,trivial⟩ (a0d (a0d a0k))
     |exact a0n (l:= [0,1,2,3,4,5,6,7,8,9,11]) rfl rfl ⟨hput,rfl,trivial⟩ (a0d (a0d a0k))
     |(exfalso;rw [hg] at h;cases h;done)
     |exact absurd hS.2 h
     |exact absurd ⟨by omega,h⟩ hS
     |(exfalso;omega)
     |trace_state
end
section
attribute [local irreducible] a0B a0D a0u a0Y sortI
theorem g1l {B:List Bk} {i:Nat} (hi:i<B.length) (b:Bk) (x:Nat):(if x=i then h1I b else f9 B x)=f9 (B.set i b) x:=by
 unfold f9
 by_cases e:x=i
 .subst e
  rw [if_pos rfl,List.getD,List.getElem?_set_self hi];rfl
 .rw [if_neg e,List.getD,List.getD,List.getElem?_set_ne (fun q=>e q.symm)]
theorem w0R {B:List Bk} {m i np:Nat} {sp:List ByteArray} (hi:i<m) (hB:B.length=m) (h:BkI (B.getD i bk0) 4503599627370496) (hn:(B.getD i bk0).n=np) (hp:(B.getD i bk0).ps=sp) (f t c:ByteArray) (a:Int):FC Tryz.prog 4 244 [.ptr 1 i 0 0,.str f,.str t,.agg [.int .i64 a,.str c]] [(1,fmB true m (f7 2 3 np)),(2,fmB true m (f8 np sp)),(3,fmB false m (f9 B))] (a0s (.int .i64 (mvE (B.getD i bk0) f t c a)) [(3,fmB false m (f9 (B.set i ((B.getD i bk0).mv f t c a))))] 4):=by
 have c0:=s0e [(1,⟨i,fun x=>x<m,f7 2 3 np⟩),(2,⟨i,fun x=>x<m,f8 np sp⟩),(3,⟨i,fun x=>x<m,f9 B⟩)] (by
  refine ⟨⟨by decide,by decide,_,_,rfl,hi,?_,.inl rfl⟩,⟨by decide,by decide,_,_,rfl,hi,rfl,.inl rfl⟩,⟨by decide,by decide,_,_,rfl,hi,rfl,.inr ⟨rfl,_,rfl⟩⟩,trivial⟩
  show Blk.cells [.sl 2 i 0 np,.map 3 i]= .cells [.sl 2 (0+i) 0 np,.map 3 (0+i)]
  rw [Nat.zero_add]) (by exact ⟨rfl,rfl,rfl,trivial⟩) (by exact ⟨rfl,trivial⟩) (a0d a0k) (p0f h hn hp f t c a)
 have e:SV.mems (fmu [(1,⟨i,fun x=>x<m,f7 2 3 np⟩),(2,⟨i,fun x=>x<m,f8 np sp⟩),(3,⟨i,fun x=>x<m,f9 B⟩)]) [.ptr 1 0 0 0,.str f,.str t,.agg [.int .i64 a,.str c]]= [.ptr 1 i 0 0,.str f,.str t,.agg [.int .i64 a,.str c]]:=by
  show [SV.ptr 1 (0+i) 0 0,.str f,.str t,.agg [.int .i64 a,.str c]]=_
  rw [Nat.zero_add]
 rw [e] at c0
 have e2:f9 (B.set i ((B.getD i bk0).mv f t c a))=fun x=>if x=i then h1I ((B.getD i bk0).mv f t c a) else f9 B x:=funext fun x=>(g1l (by omega) _ x).symm
 rw [e2]
 exact c0
abbrev w0S (h5 h7 h8 h9 np m:Nat) (ds:List Int) (B:List Bk) (sp:List ByteArray):a0v:= [(h5,cyB false h7 m ds),(h7,fmB false m (f7 h8 h9 np)),(h8,fmB false m (f8 np sp)),(h9,fmB false m (f9 B))]
theorem q0F {np m:Nat} {ds:List Int} (hds:ds.length=m) (cut d:Int) (h:d∈ds):FC Tryz.prog 10 243 [.ptr 1 0 0 0,.int .i64 d] [(1,cyC true 2 4 5 6 np cut),(5,cyB true 7 m ds)] (a0s (.tup [.ptr 7 (b0v ds d) 0 0,.int .i64 0]) [] 10):=by
 have hi:b0v ds d<m:=by rw [<-hds];exact c0l.2 h
 have hfd:e0b false m [.ptrs 7 m] (b0v ds d)= .ptr 7 (b0v ds d) 0 0:=by
  show (bif decide (b0v ds d<m) then SV.ptr 7 (b0v ds d) 0 0 else .nptr)=_
  rw [decide_eq_true hi];rfl
 have hdec:decide (b0v ds d<m)=true:=decide_eq_true hi
 refine a0p mixed a0x Tryz.func243 rfl (by kernel_rfl) (by kernel_rfl) (by kernel_rfl) ?_
 repeat' ((conv=>whnf);first|(rw [hfd,hdec])|((first|apply a0f|apply a0c|apply a0g|apply a0b|apply a0h|apply a0a)<;>intro h<;>try (exfalso;(try dsimp only at h);omega))|refine a0i ?_)
 all_goals (conv=>whnf)
 all_goals first
  |exact a0n (l:= [0,1,2,3,4,5,6,7,8,9]) rfl rfl trivial a0k
  |(exfalso;omega)
  |trace_state
theorem q0G {np m:Nat} {ds:List Int} {pr:List ByteArray} (hds:ds.length=m) (hp:pr.length=np) (he:f0L pr=0) (cut d:Int) (h:¬d∈ds):FC Tryz.prog 10 243 [.ptr 1 0 0 0,.int .i64 d] [(1,cyC true 2 4 5 6 np cut),(4,cyP true np pr),(5,cyB true 7 m ds)] (a0s (.tup [.ptr 10 0 0 0,.int .i64 0]) [(10,bkC false 11 12 np),(11,cyP false np (sortS pr)),(12,bkM false (nwB pr))] 13):=by
 subst hp
 have hi:¬b0v ds d<m:=by rw [<-hds];exact fun q=>h (c0l.1 q)
 have hdec:decide (b0v ds d<m)=false:=decide_eq_false hi
 have hfd:e0b false m [.ptrs 7 m] (b0v ds d)= .nptr:=by
  show (bif decide (b0v ds d<m) then SV.ptr 7 (b0v ds d) 0 0 else .nptr)=_
  rw [hdec];rfl
 have c:=s0p pr pr.length rfl
 unfold u0a at c
 rw [if_neg (by rw [he];simp)] at c
 refine a0p mixed a0x Tryz.func243 rfl (by kernel_rfl) (by kernel_rfl) (by kernel_rfl) ?_
 repeat' ((conv=>whnf);first|(rw [hfd,hdec])|refine a0e (l:= [0,4]) (c) ?_|((first|apply a0f|apply a0c|apply a0g|apply a0b|apply a0h|apply a0a)<;>intro h<;>try (exfalso;(try dsimp only at h);omega))|refine a0i ?_)
 all_goals (conv=>whnf)
 all_goals first
  |exact a0n (l:= [0,1,2,3,4,5,6,7,8,9,10,11,12]) rfl rfl ⟨rfl,rfl,rfl,trivial⟩ (a0d (a0d (a0d a0k)))
  |(exfalso;omega)
  |trace_state
end
section
attribute [local irreducible] a0B a0D a0u a0Y sortI
def mvF (hs cd:List Int):Nat->Int->Int
 |0,_=> -1
 |k+1,x=>if x<0 then-1 else if x∈cd then mvF hs cd k (nxI hs (x+1)) else x
@[irreducible] def mvD (hs cd:List Int) (x:Int):Int:=mvF hs cd 100001 x
theorem w0T {hs cd:List Int} {x:Int} (h:x<0):∀k,mvF hs cd k x= -1
 |0=>rfl
 |k+1=>by simp only [mvF];rw [if_pos h]
def ofP (x:Int):Int:=if x<0 then 0 else x
def ofQ (x:Int):Int:=if x<0 then 14 else 0
theorem b1U (x:Int):ofV x= .tup [.int .i64 (ofP x),.int .i64 (ofQ x)]:=by unfold ofV ofP ofQ;split<;>rfl
theorem g1m {hs:List Int} {cut t:Int}:ofI hs cut t<=99999:=by
 unfold ofI
 split
 .omega
 .rename_i h
  have:=q0E h
  split
  .omega
  .by_cases q:nxI hs (k0Q t+1)<0
   .omega
   .exact (b1T q).2.1
def d0X (ds:List Int) (B:List Bk) (pr:List ByteArray) (d:Int):Bk:=if d∈ds then B.getD (b0v ds d) bk0 else nwB pr
def p0K (ds:List Int) (d:Int):List Int:=if d∈ds then ds else ds++ [d]
def w0U (ds:List Int) (B:List Bk) (d:Int) (b:Bk):List Bk:=if d∈ds then B.set (b0v ds d) b else B++ [b]
def mvX (hs ds cd:List Int) (B:List Bk) (pr:List ByteArray) (D:Int) (f t c:ByteArray) (a:Int):Int:=if D<0 then 14 else mvE (d0X ds B pr D) f t c a
def mvO (np m:Nat) (hs ds cd:List Int) (B:List Bk) (pr:List ByteArray) (D:Int) (f t c:ByteArray) (a:Int):SV->a0v->Nat->Prop:=
 if mvX hs ds cd B pr D f t c a=0 then a0s (.tup [.int .i64 D,.int .i64 0]) (w0S 5 10 11 12 np (p0K ds D).length (p0K ds D) (w0U ds B D ((d0X ds B pr D).mv f t c a)) (sortS pr)) 13
 else a0s (.tup [.int .i64 0,.int .i64 (mvX hs ds cd B pr D f t c a)]) (w0S 5 7 8 9 np m ds B (sortS pr)) 10
abbrev mvH (np m hn nc:Nat) (cut:Int) (hs ds cd:List Int) (B:List Bk) (pr:List ByteArray):a0v:=(1,cyC true 2 4 5 6 np cut)::(2,w0s true 3)::(3,tmM true hn hs)::(4,cyP true np pr)::(6,tmM true nc cd)::w0S 5 7 8 9 np m ds B (sortS pr)
theorem w0V {B:List Bk} {q:Nat} (h:q<B.length) (b:Bk):f9 (B++ [b]) q=f9 B q:=by
 unfold f9
 rw [List.getD,List.getD,List.getElem?_append_left h]
theorem w0W {B:List Bk} {m:Nat} (h:B.length=m) (b:Bk):f9 (B++ [b]) m=h1I b:=by
 unfold f9
 rw [List.getD,List.getElem?_append_right (by omega),<-h,Nat.sub_self];rfl
theorem a1g {np m:Nat} {hs ds cd:List Int} {B:List Bk} {pr:List ByteArray} {D:Int} {f t c:ByteArray} {a:Int} (h:D<0):mvO np m hs ds cd B pr D f t c a=a0s (.tup [.int .i64 0,.int .i64 14]) (w0S 5 7 8 9 np m ds B (sortS pr)) 10:=by
 unfold mvO mvX
 rw [if_pos h,if_neg (by decide)]
theorem w0X {np m:Nat} {hs ds cd:List Int} {B:List Bk} {pr:List ByteArray} {D:Int} {f t c:ByteArray} {a:Int} (h:¬D<0) (he:¬mvE (d0X ds B pr D) f t c a=0):mvO np m hs ds cd B pr D f t c a=a0s (.tup [.int .i64 0,.int .i64 (mvE (d0X ds B pr D) f t c a)]) (w0S 5 7 8 9 np m ds B (sortS pr)) 10:=by
 unfold mvO mvX
 rw [if_neg h,if_neg he]
theorem d1H {np m:Nat} {hs ds cd:List Int} {B:List Bk} {pr:List ByteArray} {D:Int} {f t c:ByteArray} {a:Int} (h:¬D<0) (he:mvE (d0X ds B pr D) f t c a=0) (hd:D∈ds) (hm:ds.length=m):mvO np m hs ds cd B pr D f t c a=a0s (.tup [.int .i64 D,.int .i64 0]) (w0S 5 10 11 12 np m ds (B.set (b0v ds D) ((d0X ds B pr D).mv f t c a)) (sortS pr)) 13:=by
 unfold mvO mvX p0K w0U
 rw [if_neg h,if_pos he,if_pos hd,if_pos hd,hm]
theorem d1I {np m:Nat} {hs ds cd:List Int} {B:List Bk} {pr:List ByteArray} {D:Int} {f t c:ByteArray} {a:Int} (h:¬D<0) (he:mvE (d0X ds B pr D) f t c a=0) (hd:¬D∈ds) (hm:ds.length=m):mvO np m hs ds cd B pr D f t c a=a0s (.tup [.int .i64 D,.int .i64 0]) (w0S 5 10 11 12 np (m+1) (ds++ [D]) (B++ [(d0X ds B pr D).mv f t c a]) (sortS pr)) 13:=by
 unfold mvO mvX p0K w0U
 rw [if_neg h,if_pos he,if_neg hd,if_neg hd,List.length_append,hm];rfl
theorem a1h {n m h h':Nat} {R:Nat->Nat->Option (Nat×Nat)} (hn:n<=h') (h1:∀q,q<m->R h' q=some (h,q)):∀i,i<m->SLe n R ((BCol.svs (e0M h m)).at i) ((BCol.ptrs h' m).at i):=by
 intro i hi
 have e1:(BCol.svs (e0M h m)).at i= .ptr h i 0 0:=e0q hi
 rw [e1]
 exact q0m hn (h1 i hi)
theorem w0Y {ds:List Int} {m:Nat} (hm:ds.length=m) {D:Int} (hd:D∈ds):(some (HB.one false (.obj (.map false false (if b0v ds D<m then m else m+1) [.ints .i64 (b0j (b0v ds D) D ds)] [.svs (b0j (b0v ds D) (.ptr 7 (b0v ds D) 0 0) (e0M 7 m))] (if b0v ds D<m then List.range m else List.range m++ [m]) (if b0v ds D<m then m else m+1)))):Option HB)=some (.one false (.obj (.map false false m [.ints .i64 ds] [.svs (e0M 7 m)] (List.range m) m))):=by
 have hi:=c0l.2 hd
 rw [n0e,if_pos hi,if_pos (by omega),if_pos (by omega),z0N (by omega)]
theorem w0Z {ds:List Int} {m h:Nat} (hm:ds.length=m) {D:Int} (hd:¬D∈ds):(some (HB.one false (.obj (.map false false (if b0v ds D<m then m else m+1) [.ints .i64 (b0j (b0v ds D) D ds)] [.svs (b0j (b0v ds D) (.ptr h 0 0 0) (e0M 7 m))] (if b0v ds D<m then List.range m else List.range m++ [m]) (if b0v ds D<m then m else m+1)))):Option HB)=some (.one false (.obj (.map false false (m+1) [.ints .i64 (ds++ [D])] [.svs (e0M 7 m++ [.ptr h 0 0 0])] (List.range (m+1)) (m+1)))):=by
 have hi:¬b0v ds D<ds.length:=fun q=>hd (c0l.1 q)
 have e:b0v ds D=m:=by have:=d1i ds D;omega
 rw [n0e,if_neg hi,if_neg (by omega),if_neg (by omega),e,z0O,List.range_succ]
theorem k0r {h5 h7 h8 h9 np m:Nat} {ds:List Int} {B:List Bk} {sp:List ByteArray}:e0t (w0S h5 h7 h8 h9 np m ds B sp):=a0d (c0f (c0f (c0f a0k)))
abbrev odD (n np:Nat) (B:List Bk) (sp:List ByteArray):List RD:= [⟨7,f7 (n+1) (n+2) np⟩,⟨8,f8 np sp⟩,⟨9,f9 B⟩]
theorem d1J {H:a0v} {n m np:Nat} {ds:List Int} {B:List Bk} {sp:List ByteArray} (hn:10<=n) (h5:a0J H 5=some (.one false (.obj (.map false false m [.ints .i64 ds] [.svs (e0M 7 m)] (List.range m) m)))) (h7:a0J H 7=fmB false m (f7 8 9 np)) (h8:a0J H 8=fmB false m (f8 np sp)) (h9:a0J H 9=fmB false m (f9 B)):
  Relab H n (rdR n m (odD n np B sp)) (fun _=>0) ((5,cyB false n m ds)::rdN n m 0 (odD n np B sp)) [7,8,9] 3:=by
 have r0:∀q,q<m->rdR n m (odD n np B sp) n q=some (7,q):=fun q hq=>s0r (D:=odD n np B sp) (i:=0) (d:=⟨7,f7 (n+1) (n+2) np⟩) rfl hq
 have r1:∀q,q<m->rdR n m (odD n np B sp) (n+1) q=some (8,q):=fun q hq=>s0r (D:=odD n np B sp) (i:=1) (d:=⟨8,f8 np sp⟩) rfl hq
 have r2:∀q,q<m->rdR n m (odD n np B sp) (n+2) q=some (9,q):=fun q hq=>s0r (D:=odD n np B sp) (i:=2) (d:=⟨9,f9 B⟩) rfl hq
 exact w0J (n:=n) (th:=5) (odD n np B sp) (by omega) h5 (n0h rfl (a1h (by omega) r0))
  ⟨⟨(show (7:Nat)≠5 by decide),_,_,h7,fun q hq=>⟨hq,j0Y ⟨l0T (by omega) (r1 q hq),q0n (by omega) (r2 q hq),trivial⟩⟩⟩,⟨(show (8:Nat)≠5 by decide),_,_,h8,fun q hq=>⟨hq,.inl rfl⟩⟩,⟨(show (9:Nat)≠5 by decide),_,_,h9,fun q hq=>⟨hq,.inl rfl⟩⟩,trivial⟩ rfl
abbrev nwD (n h np:Nat) (B:List Bk) (sp:List ByteArray):List GD:= [⟨7,h,f7 (n+1) (n+2) np⟩,⟨8,h+1,f8 np sp⟩,⟨9,h+2,f9 B⟩]
theorem d1K {H:a0v} {n m np h:Nat} {ds:List Int} {B:List Bk} {b:Bk} {sp:List ByteArray} (hn:10<=n) (hh:10<=h) (hB:B.length=m) (h5:a0J H 5=some (.one false (.obj (.map false false (m+1) [.ints .i64 ds] [.svs (e0M 7 m++ [.ptr h 0 0 0])] (List.range (m+1)) (m+1))))) (h7:a0J H 7=fmB false m (f7 8 9 np)) (h8:a0J H 8=fmB false m (f8 np sp)) (h9:a0J H 9=fmB false m (f9 B)) (k7:a0J H h=bkC false (h+1) (h+2) np) (k8:a0J H (h+1)=cyP false np sp) (k9:a0J H (h+2)=bkM false b) (hdist:b1M (nwD n h np (B++ [b]) sp)=true):
  Relab H n (gdR n m (nwD n h np (B++ [b]) sp)) (fun _=>0) ((5,cyB false n (m+1) ds)::gdN n (m+1) 0 (nwD n h np (B++ [b]) sp)) [7,h,8,h+1,9,h+2] 3:=by
 have r0:∀q,q<m->gdR n m (nwD n h np (B++ [b]) sp) n q=some (7,q):=fun q hq=>h0O (D:=nwD n h np (B++ [b]) sp) (i:=0) (d:=⟨7,h,f7 (n+1) (n+2) np⟩) rfl hq
 have r1:∀q,q<m->gdR n m (nwD n h np (B++ [b]) sp) (n+1) q=some (8,q):=fun q hq=>h0O (D:=nwD n h np (B++ [b]) sp) (i:=1) (d:=⟨8,h+1,f8 np sp⟩) rfl hq
 have r2:∀q,q<m->gdR n m (nwD n h np (B++ [b]) sp) (n+2) q=some (9,q):=fun q hq=>h0O (D:=nwD n h np (B++ [b]) sp) (i:=2) (d:=⟨9,h+2,f9 (B++ [b])⟩) rfl hq
 have s0:gdR n m (nwD n h np (B++ [b]) sp) n m=some (h,0):=h0P (D:=nwD n h np (B++ [b]) sp) (i:=0) (d:=⟨7,h,f7 (n+1) (n+2) np⟩) rfl
 have s1:gdR n m (nwD n h np (B++ [b]) sp) (n+1) m=some (h+1,0):=h0P (D:=nwD n h np (B++ [b]) sp) (i:=1) (d:=⟨8,h+1,f8 np sp⟩) rfl
 have s2:gdR n m (nwD n h np (B++ [b]) sp) (n+2) m=some (h+2,0):=h0P (D:=nwD n h np (B++ [b]) sp) (i:=2) (d:=⟨9,h+2,f9 (B++ [b])⟩) rfl
 exact h0Q (n:=n) (th:=5) (nwD n h np (B++ [b]) sp) (by omega) h5 (n0h rfl (z0L (by omega) r0 s0))
  ⟨⟨(show (7:Nat)≠5 by decide),(show h≠5 by omega),⟨_,_,h7,fun q hq=>⟨hq,j0Y ⟨l0T (by omega) (r1 q hq),q0n (by omega) (r2 q hq),trivial⟩⟩⟩,_,k7,j0Y ⟨l0T (by omega) s1,q0n (by omega) s2,trivial⟩⟩,
    ⟨(show (8:Nat)≠5 by decide),(show h+1≠5 by omega),⟨_,_,h8,fun q hq=>⟨hq,.inl rfl⟩⟩,_,k8,.inl rfl⟩,
    ⟨(show (9:Nat)≠5 by decide),(show h+2≠5 by omega),⟨_,_,h9,fun q hq=>⟨hq,.inl (w0V (by rw [hB];exact hq) b)⟩⟩,_,k9,.inl (w0W hB b)⟩,trivial⟩ hdist
set_option maxHeartbeats 1000000 in
theorem x0a {np m hn nc:Nat} {hs ds cd:List Int} {B:List Bk} {pr:List ByteArray} (hb:BksI ds B m np (sortS pr)) (hh:hs.length=hn) (hc:cd.length=nc) (hp:pr.length=np) (he:f0L pr=0) (cut t:Int) (f g c:ByteArray) (a:Int):FC Tryz.prog 10 236 [.ptr 1 0 0 0,.int .i64 t,.str f,.str g,.agg [.int .i64 a,.str c]] (mvH np m hn nc cut hs ds cd B pr) (mvO np m hs ds cd B pr (mvD hs cd (ofI hs cut t)) f g c a):=by
 have c1:=i1k np hn cut hs hh t
 rw [b1U] at c1
 have hX:=g1m (hs:=hs) (cut:=cut) (t:=t)
 have hg:∀d,(List.replicate nc true).getD (b0v cd d) false=decide (d∈cd):=s0o hc
 generalize ofI hs cut t=X at*
 have hD:mvF hs cd 100001 X=mvD hs cd X:=by unfold mvD;rfl
 generalize mvD hs cd X=D at*
 obtain ⟨K0,hK⟩:∃K:Nat,K=100001:=⟨_,rfl⟩
 rw [<-hK] at hD
 refine a0p mixed a0x Tryz.func236 rfl (by kernel_rfl) (by kernel_rfl) (by kernel_rfl) ?_
 repeat' ((conv=>whnf);first|refine a0e (l:= [0,1,2,3,4,5,6,7,8,9]) (c1) ?_|((first|apply a0f|apply a0c|apply a0g|apply a0b|apply a0h|apply a0a)<;>intro h<;>try (exfalso;(try dsimp only at h);omega))|refine a0i ?_)
 all_goals (conv=>whnf)
 refine a0z (fun x:Nat×Int=>⟨[(0,.ptr 1 0 0 0),(2,.str f),(3,.str g),(9,.ptr 10 0 0 0),(12,.int .i64 (ofP x.2)),(13,.int .i64 (ofQ x.2))],(10,some (.one false (.cells [.int .i64 a,.str c])))::mvH np m hn nc cut hs ds cd B pr,11⟩) (fun x=>mvF hs cd x.1 x.2=D/\x.2<=99999/\(x.2<0\/100001-x.2<=(x.1:Int))) (fun x=>x.1) (K0,X) [0,1,2,3,4,5,6,7,8,9,10] [] ⟨rfl,⟨rfl,rfl,rfl,rfl,rfl,rfl,trivial⟩,⟨rfl,rfl,rfl,rfl,rfl,rfl,rfl,rfl,rfl,rfl,trivial⟩⟩ ⟨hD,hX,by dsimp only;omega⟩ ?_
 rintro ⟨k,x⟩ ⟨hF,hx,hk⟩
 dsimp only at hF hx hk
 clear hD hX hK c1
 by_cases h0:x<0
 .have e1:ofP x=0:=if_pos h0
  have e2:ofQ x=14:=if_pos h0
  dsimp only
  rw [e1,e2]
  rw [w0T h0] at hF
  subst hF
  rw [a1g (by decide)]
  repeat' ((conv=>whnf);first|((first|apply a0f|apply a0c|apply a0g|apply a0b|apply a0h|apply a0a)<;>intro h<;>try (exfalso;(try dsimp only at h);omega))|refine a0i ?_)
  all_goals (conv=>whnf)
  all_goals first
   |exact a0n (l:= [0,1,2,3,4,5,6,7,8,9]) rfl rfl ⟨rfl,rfl,rfl,rfl,trivial⟩ k0r
   |(exfalso;omega)
   |trace_state
 .have e1:ofP x=x:=if_neg h0
  have e2:ofQ x=0:=if_neg h0
  dsimp only
  rw [e1,e2]
  obtain ⟨k,rfl⟩:∃j,k=j+1:=⟨k-1,by omega⟩
  simp only [mvF] at hF
  rw [if_neg h0] at hF
  have hgx:=hg x
  by_cases hxc:x∈cd
  .rw [if_pos hxc] at hF
   rw [decide_eq_true hxc] at hgx
   have c2:=s0t np hn cut hs hh x (by omega) hx
   rw [b1U] at c2
   have hN:nxI hs (x+1)<=99999/\(nxI hs (x+1)<0\/x+1<=nxI hs (x+1)):=by
    by_cases q:nxI hs (x+1)<0
    .exact ⟨by omega,.inl q⟩
    .have:=b1T q
     exact ⟨this.2.1,.inr this.1⟩
   generalize nxI hs (x+1)=y at*
   repeat' ((conv=>whnf);first|refine a0e (l:= [0,1,2,3,4,5,6,7,8,9]) (c2) ?_|((first|apply a0f|apply a0c|apply a0g|apply a0b|apply a0h|apply a0a)<;>intro h<;>try (exfalso;(try dsimp only at h);omega))|refine a0i ?_)
   all_goals (conv=>whnf)
   all_goals first
    |exact ⟨(k,y),[0,1,2,3,4,5,6,7,8,9,10],[],⟨hF,hN.1,by dsimp only;omega⟩,Nat.lt_succ_self k,⟨rfl,⟨rfl,rfl,rfl,rfl,rfl,rfl,trivial⟩,⟨rfl,rfl,rfl,rfl,rfl,rfl,rfl,rfl,rfl,rfl,trivial⟩⟩⟩
    |(exfalso;rw [hgx] at h;cases h;done)
    |(exfalso;omega)
    |trace_state
  .rw [if_neg hxc] at hF
   rw [decide_eq_false hxc] at hgx
   subst hF
   by_cases hd:x∈ds
   .have hi:b0v ds x<m:=by rw [<-hb.dl];exact c0l.2 hd
    obtain ⟨b1,b2,b3,b4⟩:=hb.I _ hi
    have c3:=q0F (np:=np) hb.dl cut x hd
    have c4:=w0R hi hb.bl b1 b2 b3 f g c a
    have hat:d0X ds B pr x=B.getD (b0v ds x) bk0:=if_pos hd
    have hput:=w0Y hb.dl hd
    rw [<-hat] at c4
    by_cases hz:mvE (d0X ds B pr x) f g c a=0
    .rw [d1H h0 hz hd hb.dl]
     rw [hz] at c4
     generalize (d0X ds B pr x).mv f g c a=b' at*
     repeat' ((conv=>whnf);first|refine a0e (l:= [0,1,2,3,4,5,6,7,8,9]) (c3) ?_|refine a0e (l:= [0,7,8,9]) (c4) ?_|((first|apply a0f|apply a0c|apply a0g|apply a0b|apply a0h|apply a0a)<;>intro h<;>try (exfalso;(try dsimp only at h);omega))|refine a0i ?_)
     all_goals (conv=>whnf)
     all_goals first
      |exact e0g (l:= [0,1,2,3,4,5,6,7,8,9,11,12,13]) [.relab (rdR 11 m (odD 11 np (B.set (b0v ds x) b') (sortS pr))) (fun _=>0) ((5,cyB false 11 m ds)::rdN 11 m 0 (odD 11 np (B.set (b0v ds x) b') (sortS pr))) [7,8,9] 3] ⟨d1J (n:=11) (by decide) hput rfl rfl rfl,rfl,rfl,⟨rfl,rfl,rfl,rfl,trivial⟩⟩ k0r
      |(exfalso;rw [hgx] at h;cases h;done)
      |(exfalso;omega)
      |trace_state
    .rw [w0X h0 hz]
     have hbs:mvE (d0X ds B pr x) f g c a≠0:=hz
     have hmv:(d0X ds B pr x).mv f g c a=d0X ds B pr x:=if_neg hz
     have hset:B.set (b0v ds x) (d0X ds B pr x)=B:=by
      rw [hat]
      refine List.ext_getElem? fun j=> ?_
      rw [List.getElem?_set]
      split
      .rename_i e
       subst e
       rw [if_pos (by rw [hb.bl];exact hi),List.getD,List.getElem?_eq_getElem (by rw [hb.bl];exact hi)];rfl
      .rfl
     rw [hmv,hset] at c4
     generalize mvE (d0X ds B pr x) f g c a=e at*
     repeat' ((conv=>whnf);first|refine a0e (l:= [0,1,2,3,4,5,6,7,8,9]) (c3) ?_|refine a0e (l:= [0,7,8,9]) (c4) ?_|((first|apply a0f|apply a0c|apply a0g|apply a0b|apply a0h|apply a0a)<;>intro h<;>try (exfalso;(try dsimp only at h);omega))|refine a0i ?_)
     all_goals (conv=>whnf)
     all_goals first
      |exact a0n (l:= [0,1,2,3,4,5,6,7,8,9]) rfl rfl ⟨rfl,rfl,rfl,rfl,trivial⟩ k0r
      |(exfalso;rw [hgx] at h;cases h;done)
      |(exfalso;omega)
      |trace_state
   .have c3:=q0G hb.dl hp he cut x hd
    have hat:d0X ds B pr x=nwB pr:=if_neg hd
    have c4:=p0f ((g1d he).up (B':=4503599627370496) (by decide)) hp rfl f g c a
    have hput:=w0Z (h:=11) hb.dl hd
    rw [<-hat] at c4
    by_cases hz:mvE (d0X ds B pr x) f g c a=0
    .rw [d1I h0 hz hd hb.dl]
     rw [hz] at c4
     rw [hat] at c4
     rw [hat]
     have hsp:(nwB pr).ps=sortS pr:=rfl
     generalize hbb:(nwB pr).mv f g c a=b' at*
     repeat' ((conv=>whnf);first|refine a0e (l:= [0,1,2,3,4,5,6,7,8,9]) (c3) ?_|refine a0e (l:= [0,11,12,13]) (c4) ?_|((first|apply a0f|apply a0c|apply a0g|apply a0b|apply a0h|apply a0a)<;>intro h<;>try (exfalso;(try dsimp only at h);omega))|refine a0i ?_)
     all_goals (conv=>whnf)
     all_goals first
      |exact e0g (l:= [0,1,2,3,4,5,6,7,8,9,14,15,16]) [.relab (gdR 14 m (nwD 14 11 np (B++ [b']) (sortS pr))) (fun _=>0) ((5,cyB false 14 (m+1) (ds++ [x]))::gdN 14 (m+1) 0 (nwD 14 11 np (B++ [b']) (sortS pr))) [7,11,8,12,9,13] 3] ⟨d1K (n:=14) (h:=11) (by decide) (by decide) hb.bl hput rfl rfl rfl rfl rfl rfl rfl,rfl,rfl,⟨rfl,rfl,rfl,rfl,trivial⟩⟩ k0r
      |(exfalso;rw [hgx] at h;cases h;done)
      |(exfalso;omega)
      |trace_state
    .rw [w0X h0 hz]
     rw [hat] at c4 hz⊢
     generalize mvE (nwB pr) f g c a=e at*
     repeat' ((conv=>whnf);first|refine a0e (l:= [0,1,2,3,4,5,6,7,8,9]) (c3) ?_|refine a0e (l:= [0,11,12,13]) (c4) ?_|((first|apply a0f|apply a0c|apply a0g|apply a0b|apply a0h|apply a0a)<;>intro h<;>try (exfalso;(try dsimp only at h);omega))|refine a0i ?_)
     all_goals (conv=>whnf)
     all_goals first
      |exact a0n (l:= [0,1,2,3,4,5,6,7,8,9]) rfl rfl ⟨rfl,rfl,rfl,rfl,trivial⟩ k0r
      |(exfalso;rw [hgx] at h;cases h;done)
      |(exfalso;omega)
      |trace_state
end
section
structure Lp where
 a:ByteArray
 n:Int
 c:ByteArray
abbrev lp0:Lp:=⟨⟨#[]⟩,0,⟨#[]⟩⟩
def poB (n:Nat) (l:List Lp):Blk:= .cols n [.sc (.strs (l.map Lp.a)),.sc (.ints .i64 (l.map Lp.n)),.sc (.strs (l.map Lp.c))]
theorem i1V (l:List Lp) (k:Nat):(l.map Lp.a).getD k ⟨#[]⟩=(l.getD k lp0).a:=by
 rw [List.getD,List.getD,List.getElem?_map];cases l[k]?<;>rfl
theorem f1g (l:List Lp) (k:Nat):(l.map Lp.n).getD k 0=(l.getD k lp0).n:=by
 rw [List.getD,List.getD,List.getElem?_map];cases l[k]?<;>rfl
theorem h1J (l:List Lp) (k:Nat):(l.map Lp.c).getD k ⟨#[]⟩=(l.getD k lp0).c:=by
 rw [List.getD,List.getD,List.getElem?_map];cases l[k]?<;>rfl
theorem p0h {a b:ByteArray}:seq a b=true↔a=b:=by unfold seq;exact decide_eq_true_iff
abbrev lgI (R:List Lp) (a c:ByteArray):Nat:=c0k (R.map Lp.a) (R.map Lp.c) a c
theorem i0M (x:Lp) (R:List Lp) (a c:ByteArray):lgI (x::R) a c=if x.a=a/\x.c=c then 0 else lgI R a c+1:=by
 show (bif seq x.a a&&seq x.c c then 0 else lgI R a c+1)=_
 by_cases h:x.a=a/\x.c=c
 .rw [if_pos h,show (seq x.a a&&seq x.c c)=true from by rw [Bool.and_eq_true,p0h,p0h];exact h];rfl
 .rw [if_neg h,show (seq x.a a&&seq x.c c)=false from by
   cases e:(seq x.a a&&seq x.c c) with
   |false=>rfl
   |true=>rw [Bool.and_eq_true,p0h,p0h] at e;exact absurd e h];rfl
theorem s0u (a c:ByteArray):∀R:List Lp,lgI R a c<=R.length
 | []=>Nat.le_refl _
 |x::R=>by
  have:=s0u a c R
  rw [i0M,List.length_cons]
  split<;>omega
def lgV (R:List Lp) (a c:ByteArray):Int:=(R.getD (lgI R a c) lp0).n
theorem q0H (a c:ByteArray):lgV [] a c=0:=rfl
theorem e0A (x:Lp) (R:List Lp) (a c:ByteArray):lgV (x::R) a c=if x.a=a/\x.c=c then x.n else lgV R a c:=by
 unfold lgV
 rw [i0M]
 split
 .rfl
 .rw [List.getD_cons_succ]
def f0h (R:List Lp) (x:Lp):List Lp:=b0j (lgI R x.a x.c) ⟨x.a,lgV R x.a x.c+x.n,x.c⟩ R
theorem k0s (x:Lp):f0h [] x= [x]:=by
 unfold f0h b0j
 rw [q0H,Int.zero_add]
 rfl
theorem h0T (y:Lp) (R:List Lp) (x:Lp):f0h (y::R) x=if y.a=x.a/\y.c=x.c then ⟨x.a,y.n+x.n,x.c⟩::R else y::f0h R x:=by
 unfold f0h
 rw [i0M,e0A]
 split
 .unfold b0j
  rw [if_pos (by simp)];rfl
 .rw [j0H]
theorem q0I (x:Lp) (a c:ByteArray):∀R:List Lp,lgV (f0h R x) a c=lgV R a c+if x.a=a/\x.c=c then x.n else 0
 | []=>by rw [k0s,e0A,q0H,Int.zero_add]
 |y::R=>by
  have ih:=q0I x a c R
  rw [h0T,e0A]
  by_cases h:y.a=x.a/\y.c=x.c
  .rw [if_pos h,e0A]
   obtain ⟨h1,h2⟩:=h
   rw [h1,h2]
   split
   .rfl
   .rw [Int.add_zero]
  .rw [if_neg h,e0A]
   by_cases h2:y.a=a/\y.c=c
   .rw [if_pos h2,if_pos h2]
    obtain ⟨e1,e2⟩:=h2
    rw [if_neg (fun k=>h ⟨e1.trans k.1.symm,e2.trans k.2.symm⟩),Int.add_zero]
   .rw [if_neg h2,if_neg h2,ih]
theorem p0i (R:List Lp) (x:Lp):(f0h R x).length=if lgI R x.a x.c<R.length then R.length else R.length+1:=d0i _ _ _
def lgD (R:List Lp):Prop:=R.Pairwise (fun x y=>¬(x.a=y.a/\x.c=y.c))
theorem p0j {x z:Lp}:∀{R:List Lp},z∈f0h R x->(z.a=x.a/\z.c=x.c)\/∃y∈R,z.a=y.a/\z.c=y.c
 | [],h=>by
   rw [k0s,List.mem_singleton] at h
   subst h
   exact .inl ⟨rfl,rfl⟩
 |y::R,h=>by
  rw [h0T] at h
  split at h
  .rcases List.mem_cons.1 h with rfl|h
   .exact .inl ⟨rfl,rfl⟩
   .exact .inr ⟨z,by simp [h],rfl,rfl⟩
  .rcases List.mem_cons.1 h with rfl|h
   .exact .inr ⟨z,by simp,rfl,rfl⟩
   .rcases p0j h with h|⟨w,hw,h⟩
    .exact .inl h
    .exact .inr ⟨w,by simp [hw],h⟩
theorem q0J {x:Lp}:∀{R:List Lp},lgD R->lgD (f0h R x)
 | [],_=>by rw [k0s];exact List.pairwise_singleton _ _
 |y::R,h=>by
  obtain ⟨h1,h2⟩:=List.pairwise_cons.1 h
  rw [h0T]
  split
  .rename_i hk
   refine List.pairwise_cons.2 ⟨fun z hz k=>h1 z hz ⟨hk.1.trans k.1,hk.2.trans k.2⟩,h2⟩
  .rename_i hk
   refine List.pairwise_cons.2 ⟨fun z hz k=> ?_,q0J h2⟩
   rcases p0j hz with ⟨e1,e2⟩|⟨w,hw,e1,e2⟩
   .exact hk ⟨k.1.trans e1,k.2.trans e2⟩
   .exact h1 w hw ⟨k.1.trans e1,k.2.trans e2⟩
def lgS:List Lp->ByteArray->ByteArray->Int
 | [],_,_=>0
 |x::L,a,c=>(if x.a=a/\x.c=c then x.n else 0)+lgS L a c
theorem m0a (A B:List Lp) (a c:ByteArray):lgS (A++B) a c=lgS A a c+lgS B a c:=by
 induction A with
 |nil=>simp [lgS]
 |cons x A ih=>simp only [List.cons_append,lgS,ih,Int.add_assoc]
theorem a1i {A B:List Lp} (h:A.Perm B) (a c:ByteArray):lgS A a c=lgS B a c:=by
 induction h with
 |nil=>rfl
 |cons x _ ih=>simp only [lgS,ih]
 |swap x y l=>simp only [lgS];omega
 |trans _ _ ih1 ih2=>exact ih1.trans ih2
theorem g1n {L:List Lp} {a c:ByteArray} (h:∀x∈L,¬(x.a=a/\x.c=c)):lgS L a c=0:=by
 induction L with
 |nil=>rfl
 |cons x L ih=>
  simp only [lgS]
  rw [if_neg (h x (by simp)),ih (fun y hy=>h y (by simp [hy]))];rfl
theorem s0v {a c:ByteArray}:∀{R:List Lp},lgD R->lgS R a c=lgV R a c
 | [],_=>rfl
 |y::R,h=>by
  obtain ⟨h1,h2⟩:=List.pairwise_cons.1 h
  rw [e0A]
  simp only [lgS]
  by_cases hk:y.a=a/\y.c=c
  .rw [if_pos hk,if_pos hk,g1n (fun x hx k=>h1 x hx ⟨hk.1.trans k.1.symm,hk.2.trans k.2.symm⟩),Int.add_zero]
  .rw [if_neg hk,if_neg hk,s0v h2,Int.zero_add]
theorem q0K {L:List Lp} {k:Nat} (hk:k<L.length):L.take (k+1)=L.take k++ [L.getD k lp0]:=by
 rw [List.take_succ_eq_append_getElem hk,List.getD,List.getElem?_eq_getElem hk];rfl
def chR (L:List Lp):Nat->List Lp
 |0=> []
 |k+1=>f0h (chR L k) (L.getD k lp0)
theorem h0i (L:List Lp):∀k,lgD (chR L k)
 |0=>List.Pairwise.nil
 |k+1=>q0J (h0i L k)
theorem x0b (L:List Lp):∀k,(chR L k).length<=k
 |0=>Nat.le_refl _
 |k+1=>by
  have:=x0b L k
  simp only [chR]
  rw [p0i]
  split<;>omega
theorem g0q {L:List Lp} (a c:ByteArray):∀k,k<=L.length->lgV (chR L k) a c=lgS (L.take k) a c
 |0,_=>by simp [chR,lgS,q0H]
 |k+1,h=>by
  simp only [chR]
  rw [q0I,g0q a c k (by omega),q0K (by omega),m0a]
  simp [lgS]
def vsR (B C:List Lp):List Nat->List Lp
 | []=>B
 |i::sn=>f0h (vsR B C sn) (C.getD i lp0)
theorem s0w {B C:List Lp} (h:lgD B):∀sn,lgD (vsR B C sn)
 | []=>h
 |i::sn=>q0J (s0w h sn)
theorem x0c (B C:List Lp):∀sn,(vsR B C sn).length<=B.length+sn.length
 | []=>Nat.le_refl _
 |i::sn=>by
  have:=x0c B C sn
  simp only [vsR]
  rw [p0i,List.length_cons]
  split<;>omega
theorem q0L (B C:List Lp) (a c:ByteArray):∀sn,lgV (vsR B C sn) a c=lgV B a c+lgS (sn.map (fun i=>C.getD i lp0)) a c
 | []=>by simp [vsR,lgS]
 |i::sn=>by
  simp only [vsR,List.map_cons,lgS]
  rw [q0I,q0L B C a c sn]
  omega
theorem d1L {B C:List Lp} (hC:lgD C) {sn:List Nat} (hd:sn.Nodup) (hl:∀i∈sn,i<C.length) (ha:∀i,i<C.length->i∈sn) (a c:ByteArray):lgV (vsR B C sn) a c=lgV B a c+lgV C a c:=by
 rw [q0L,<-s0v hC]
 congr 1
 have hp:=(l0S hd hl ha).map (fun i=>C.getD i lp0)
 rw [f0S] at hp
 exact a1i hp a c
theorem q0M {R:List Lp} (h:lgD R) {i:Nat} (hi:i<R.length):lgV R (R.getD i lp0).a (R.getD i lp0).c=(R.getD i lp0).n:=by
 induction R generalizing i with
 |nil=>simp at hi
 |cons y R ih=>
  obtain ⟨h1,h2⟩:=List.pairwise_cons.1 h
  rw [e0A]
  cases i with
  |zero=>rw [if_pos ⟨rfl,rfl⟩];rfl
  |succ i=>
   rw [List.getD_cons_succ]
   have hi':i<R.length:=by simpa using hi
   rw [if_neg (fun k=>h1 _ (by rw [List.getD,List.getElem?_eq_getElem hi'];exact List.getElem_mem hi') k)]
   exact ih h2 hi'
def lgC:List Lp->ByteArray->Int
 | [],_=>0
 |x::L,c=>(if x.c=c then x.n else 0)+lgC L c
theorem u0h (A B:List Lp) (c:ByteArray):lgC (A++B) c=lgC A c+lgC B c:=by
 induction A with
 |nil=>simp [lgC]
 |cons x A ih=>simp only [List.cons_append,lgC,ih,Int.add_assoc]
theorem g1o {L:List Lp} {c:ByteArray} (h:∀x∈L,x.c≠c):lgC L c=0:=by
 induction L with
 |nil=>rfl
 |cons x L ih=>
  simp only [lgC]
  rw [if_neg (h x (by simp)),ih (fun y hy=>h y (by simp [hy]))];rfl
theorem s0x {L:List Lp} {k:Nat} (hk:k<L.length) (c:ByteArray):lgC (L.take (k+1)) c=lgC (L.take k) c+if (L.getD k lp0).c=c then (L.getD k lp0).n else 0:=by
 rw [q0K hk,u0h];simp [lgC]
def h0U (L:List Lp):Bool:=L.all (fun x=>decide (lgC L x.c=0))
theorem k0t {L:List Lp}:h0U L=true↔∀c,lgC L c=0:=by
 unfold h0U
 rw [List.all_eq_true]
 constructor
 .intro h c
  by_cases hc:∃x∈L,x.c=c
  .obtain ⟨x,hx,rfl⟩:=hc
   exact of_decide_eq_true (h x hx)
  .exact g1o fun x hx e=>hc ⟨x,hx,e⟩
 .exact fun h x _=>decide_eq_true (h _)
structure LgM (L:List Lp) (k n:Nat) (C:List ByteArray) (W:List Int):Prop where
 c:C.length=n
 w:W.length=n
 nd:C.Nodup
 all:∀c,(if a0A C c<n then W.getD (a0A C c) 0 else 0)=lgC (L.take k) c
theorem a1j (L:List Lp):LgM L 0 0 [] []:=⟨rfl,rfl,List.nodup_nil,fun c=>by simp [lgC]⟩
theorem c0h {α:Type} {l:List α} {n:Nat} (h:l.length=n) (x:α):b0j n x l=l++ [x]:=by unfold b0j;rw [if_neg (by omega)]
theorem h0j {α:Type} {l:List α} {i:Nat} (h:i<l.length) (x:α):b0j i x l=l.set i x:=by unfold b0j;rw [if_pos h]
theorem a1k {L:List Lp} {k n:Nat} {C:List ByteArray} {W:List Int} (hI:LgM L k n C W) (hk:k<L.length) (v:Int) (hv:v=lgC (L.take k) (L.getD k lp0).c+(L.getD k lp0).n):
  LgM L (k+1) (if a0A C (L.getD k lp0).c<n then n else n+1) (b0j (a0A C (L.getD k lp0).c) (L.getD k lp0).c C) (b0j (a0A C (L.getD k lp0).c) v W):=by
 generalize hx:L.getD k lp0=x at*
 obtain ⟨hc,hw,hnd,hall⟩:=hI
 have hle:=Go.Sy.sidx_le C x.c
 by_cases h:a0A C x.c<n
 .have e1:b0j (a0A C x.c) x.c C=C:=by rw [f0g,if_pos (by omega)]
  rw [if_pos h,e1,h0j (by omega)]
  refine ⟨hc,by simp [hw],hnd,fun c=> ?_⟩
  rw [s0x hk,hx]
  by_cases ec:x.c=c
  .subst ec
   rw [if_pos h,if_pos rfl,List.getD,List.getElem?_set_self (by omega)]
   exact hv
  .rw [if_neg ec,Int.add_zero,<-hall c]
   by_cases h2:a0A C c<n
   .rw [if_pos h2,if_pos h2]
    have hne:a0A C x.c≠a0A C c:=by
     intro e
     have g1:=sidx_get (l:=C) (s:=x.c) (by omega)
     have g2:=sidx_get (l:=C) (s:=c) (by omega)
     rw [e,g2] at g1
     exact ec (Option.some.inj g1).symm
    rw [List.getD,List.getD,List.getElem?_set_ne hne]
   .rw [if_neg h2,if_neg h2]
 .have hn:a0A C x.c=n:=by omega
  rw [if_neg h,hn]
  have e1:=c0h hc x.c
  have e2:=c0h hw v
  rw [e1,e2]
  have hni:x.c∉C:=fun hm=>h (by rw [<-hc];exact sidx_lt.2 hm)
  have hnd':(C++ [x.c]).Nodup:=List.nodup_append.2 ⟨hnd,by simp,fun a ha b hb e=>by simp at hb;subst hb;subst e;exact hni ha⟩
  refine ⟨by simp [hc],by simp [hw],hnd',fun c=> ?_⟩
  rw [s0x hk,hx,<-hall c]
  by_cases ec:x.c=c
  .subst ec
   have e3:a0A (C++ [x.c]) x.c=n:=sidx_of_get hnd' (by rw [List.getElem?_append_right (by omega)];simp [hc])
   rw [e3,if_pos (by omega),if_neg h,if_pos rfl,List.getD,List.getElem?_append_right (by omega)]
   simp only [hw,Nat.sub_self,List.getElem?_cons_zero,Option.getD_some]
   have:=hall x.c
   rw [if_neg h] at this
   omega
  .rw [if_neg ec,Int.add_zero]
   by_cases h2:a0A C c<n
   .have e3:a0A (C++ [x.c]) c=a0A C c:=sidx_of_get hnd' (by rw [List.getElem?_append_left (by omega)];exact sidx_get (by omega))
    rw [e3,if_pos (by omega),if_pos h2,List.getD,List.getD,List.getElem?_append_left (by omega)]
   .have hnm:c∉C++ [x.c]:=by
     intro hm
     rcases List.mem_append.1 hm with hm|hm
     .exact h2 (by rw [<-hc];exact sidx_lt.2 hm)
     .simp at hm;exact ec hm.symm
    rw [if_neg h2,if_neg]
    intro h3
    exact hnm (sidx_lt.1 (by rw [List.length_append,hc];simpa using h3))
theorem d1M {L:List Lp} {k n:Nat} {C:List ByteArray} {W:List Int} (hI:LgM L k n C W) {i:Nat} (hi:i<n):W.getD i 0=lgC (L.take k) (C.getD i ⟨#[]⟩):=by
 have e:a0A C (C.getD i ⟨#[]⟩)=i:=sidx_of_get hI.nd (by rw [List.getD,List.getElem?_eq_getElem (by have:=hI.c;omega)];rfl)
 have:=hI.all (C.getD i ⟨#[]⟩)
 rw [e,if_pos hi] at this
 exact this
theorem g1p {L:List Lp} {n:Nat} {C:List ByteArray} {W:List Int} (hI:LgM L L.length n C W) {i:Nat} (hi:i<n) (h:W.getD i 0≠0):h0U L=false:=by
 cases hb:h0U L with
 |false=>rfl
 |true=>
  have:=d1M hI hi
  rw [List.take_length,k0t.1 hb] at this
  exact absurd this h
theorem i1l {L:List Lp} {n:Nat} {C:List ByteArray} {W:List Int} (hI:LgM L L.length n C W) (h:∀i,i<n->W.getD i 0=0):h0U L=true:=by
 rw [k0t]
 intro c
 have:=hI.all c
 rw [List.take_length] at this
 rw [<-this]
 split
 .rename_i h1;exact h _ h1
 .rfl
def y0K (L:List Lp):Prop:=∀x∈L,-4503599627370496<=x.n/\x.n<=4503599627370496
theorem g1q {L:List Lp} (h:y0K L) (c:ByteArray): -4503599627370496*(L.length:Int)<=lgC L c/\lgC L c<=4503599627370496*(L.length:Int):=by
 induction L with
 |nil=>simp [lgC]
 |cons x L ih=>
  have i1:=ih (fun y hy=>h y (by simp [hy]))
  have i2:=h x (by simp)
  simp only [lgC,List.length_cons]
  split<;>omega
theorem x0d {L:List Lp} (h:y0K L) (a c:ByteArray): -4503599627370496*(L.length:Int)<=lgS L a c/\lgS L a c<=4503599627370496*(L.length:Int):=by
 induction L with
 |nil=>simp [lgS]
 |cons x L ih=>
  have i1:=ih (fun y hy=>h y (by simp [hy]))
  have i2:=h x (by simp)
  simp only [lgS,List.length_cons]
  split<;>omega
theorem k0u {L:List Lp} (h:y0K L) (k:Nat):y0K (L.take k):=fun x hx=>h x (List.mem_of_mem_take hx)
end
section
attribute [local irreducible] a0B a0D a0u a0Y
theorem n0r (l:List Int):(a0F l).size=l.length:=by simp [a0F,ByteArray.size]
theorem d1N {n:Int} (h:0<=n) (h':n<=18446744073709551615):IntKind.u64.wrap n=n:=IntWalk.u64_in n ⟨h,h'⟩
def x0e (h:Int) (s:ByteArray):Nat->Int
 |0=>h
 |k+1=>IntKind.u64.wrap (e1Y .u64 (x0e h s k) (a0r s (k:Int))*1099511628211)
theorem g1r (x:Int):0<=IntKind.u64.wrap x/\IntKind.u64.wrap x<18446744073709551616:=by
 have:IntKind.u64.wrap x=x%18446744073709551616:=by simp [IntKind.wrap,IntKind.bits,IntKind.signed]
 omega
theorem x0f {h:Int} (hh:0<=h/\h<18446744073709551616) (s:ByteArray):∀k,0<=x0e h s k/\x0e h s k<18446744073709551616
 |0=>hh
 |k+1=>g1r _
theorem q0N {a b:ByteArray} {i:Nat} (h:i<a.size):a0r (a++b) (i:Int)=a0r a (i:Int):=by
 unfold a0r
 rw [Int.toNat_natCast]
 congr 2
 have h':i<a.data.toList.length:=by simpa using h
 simp only [ByteArray.data_append,Array.toList_append,List.getD,List.getElem?_append_left h']
theorem q0O {a b:ByteArray} {i:Nat}:a0r (a++b) ((a.size+i:Nat):Int)=a0r b (i:Int):=by
 unfold a0r
 rw [Int.toNat_natCast,Int.toNat_natCast]
 congr 2
 have h':a.data.toList.length=a.size:=by simp
 simp only [ByteArray.data_append,Array.toList_append,List.getD]
 rw [List.getElem?_append_right (by omega),h',Nat.add_sub_cancel_left]
def beL (p:Int):Nat->List Int
 |0=> []
 |k+1=>beL p k++ [IntKind.u8.wrap (i0X .u64 p ((56-8*k:Nat):Int))]
theorem d0o (p:Int):∀k,(beL p k).length=k
 |0=>rfl
 |k+1=>by simp [beL,d0o p k]
def u0Z (p:Int):ByteArray:=a0F (beL p 8)
theorem h0k (p:Int):(u0Z p).size=8:=by unfold u0Z;rw [n0r,d0o]
def beZ (p:Int) (k:Nat):List Int:=beL p k++List.replicate (8-k) 0
theorem x0g (p:Int) (k:Nat) (h:k<8):(beZ p k).set k (IntKind.u8.wrap (i0X .u64 p ((56-8*k:Nat):Int)))=beZ p (k+1):=by
 unfold beZ
 rw [show 8-k=(8-(k+1))+1 from by omega,List.replicate_succ,List.set_append_right _ _ (by rw [d0o];exact Nat.le_refl _),d0o,Nat.sub_self]
 simp [beL]
theorem x0h (p:Int):beZ p 8=beL p 8:=by unfold beZ;simp
def chI (p:Int) (s:ByteArray):Int:=x0e (x0e 14695981039346656037 (u0Z p) 8) s s.size
theorem s0y (p:Int) (s:ByteArray):0<=chI p s/\chI p s<18446744073709551616:=x0f (x0f (by omega) _ _) _ _
theorem m0b (p:Int) (s:ByteArray) (hs:s.size<=9223372036854775000):c0a Tryz.prog 52 [.int .u64 p,.str s] (.int .u64 (x0e p s s.size)):=by
 refine a0p mixed a0x Tryz.func52 rfl (by kernel_rfl) (by kernel_rfl) (by kernel_rfl) ?_
 (conv=>whnf)
 refine a0z (fun k:Nat=>⟨[(0,.int .u64 (x0e p s k)),(1,.str s),(7,.int .i64 s.size),(8,.int .i64 k)],[],1⟩) (fun k=>k<=s.size) (fun k=>s.size-k) 0 [0] [] ⟨rfl,⟨rfl,rfl,rfl,rfl,trivial⟩,trivial⟩ (by omega) ?_
 intro k hk
 have bb:=j0O s (k:Int)
 repeat' ((conv=>whnf);first|((first|apply a0f|apply a0c|apply a0g|apply a0b|apply a0h|apply a0a)<;>intro h<;>try (exfalso;(try dsimp only at h);omega))|refine a0i ?_)
 all_goals (conv=>whnf)
 .refine ⟨k+1,[0],[],by omega,by omega,⟨rfl,⟨?_,rfl,rfl,congrArg (fun z=>some (SV.int .i64 z)) (a0M (by omega)),trivial⟩,trivial⟩⟩
  refine congrArg (fun z=>some (SV.int .u64 z)) ?_
  show IntKind.u64.wrap (e1Y .u64 (x0e p s k) (IntKind.u64.wrap (a0r s (k:Int)))*1099511628211)=x0e p s (k+1)
  have e1:IntKind.u64.wrap (a0r s (k:Int))=a0r s (k:Int):=d1N (by omega) (by omega)
  rw [e1]
  rfl
 .have e:k=s.size:=by omega
  subst e
  exact a0o rfl
theorem a1l (s:ByteArray) (hs:s.size<=9223372036854775000):c0a Tryz.prog 53 [.str s] (.int .u64 (x0e 14695981039346656037 s s.size)):=by
 have c:=m0b 14695981039346656037 s hs
 refine a0p mixed a0x Tryz.func53 rfl (by kernel_rfl) (by kernel_rfl) (by kernel_rfl) ?_
 repeat' ((conv=>whnf);first|(refine a0j (c) rfl rfl rfl ?_)|(refine a0m (c) rfl rfl rfl ?_)|((first|apply a0f|apply a0c|apply a0g|apply a0b|apply a0h|apply a0a)<;>intro h<;>try (exfalso;(try dsimp only at h);omega))|refine a0i ?_)
 all_goals (conv=>whnf)
 exact a0o rfl
theorem s0z {k:Nat} (h:k<8):IntKind.i64.wrap (56-IntKind.i64.wrap (8*(k:Int)))=((56-8*k:Nat):Int):=by
 rw [a0G (n:=8*(k:Int)) (by omega) (by omega),a0G (by omega) (by omega)];omega
theorem e0m (p:Int) (s:ByteArray) (hs:s.size<=9223372036854775000):c0a Tryz.prog 25 [.int .u64 p,.str s] (.int .u64 (chI p s)):=by
 have c1:=a1l (u0Z p) (by rw [h0k];omega)
 have c2:=m0b (x0e 14695981039346656037 (u0Z p) (u0Z p).size) s hs
 rw [h0k] at c1 c2
 unfold chI
 refine a0p mixed a0x Tryz.func25 rfl (by kernel_rfl) (by kernel_rfl) (by kernel_rfl) ?_
 repeat' ((conv=>whnf);first|((first|apply a0f|apply a0c|apply a0g|apply a0b|apply a0h|apply a0a)<;>intro h<;>try (exfalso;(try dsimp only at h);omega))|refine a0i ?_)
 all_goals (conv=>whnf)
 refine a0z (fun k:Nat=>⟨[(0,.int .u64 p),(1,.str s),(5,.sl 1 0 0 8),(9,.int .i64 8),(10,.int .i64 k)],[(1,some (.one false (.cols 8 [.sc (.ints .u8 (beZ p k))])))],2⟩) (fun k=>k<=8) (fun k=>8-k) 0 [0,1] [] ⟨rfl,⟨rfl,rfl,rfl,rfl,rfl,trivial⟩,⟨rfl,trivial⟩⟩ (by omega) ?_
 intro k hk
 by_cases hlt:k<8
 .have e:=s0z hlt
  repeat' ((conv=>whnf);first|(refine a0q (show 0<=IntKind.i64.wrap (56-IntKind.i64.wrap (8*(k:Int))) from ?_) ?_;(rw [e];omega))|((first|apply a0f|apply a0c|apply a0g|apply a0b|apply a0h|apply a0a)<;>intro h<;>try (exfalso;(try dsimp only at h);omega))|refine a0i ?_)
  all_goals (conv=>whnf)
  .refine ⟨k+1,[0,1],[],by omega,by omega,⟨rfl,⟨rfl,rfl,rfl,rfl,congrArg (fun z=>some (SV.int .i64 z)) (a0M (by omega)),trivial⟩,⟨?_,trivial⟩⟩⟩
   refine congrArg (fun z=>some (HB.one false (.cols 8 [.sc (.ints .u8 z)]))) ?_
   show (beZ p k).set k (IntKind.u8.wrap (i0X .u64 p (IntKind.i64.wrap (56-IntKind.i64.wrap (8*(k:Int))))))=_
   rw [e]
   exact x0g p k hlt
 .have e:k=8:=by omega
  subst e
  rw [show beZ p 8=beL p 8 from x0h p]
  have e8:a0F (seg 0 8 (beL p 8))=u0Z p:=by
   unfold seg u0Z;rw [List.drop_zero,List.take_of_length_le (by rw [d0o];exact Nat.le_refl _)]
  rw [<-e8] at c1 c2
  repeat' ((conv=>whnf);first|(refine a0j (c1) rfl rfl rfl ?_)|(refine a0j (c2) rfl rfl rfl ?_)|(refine a0m (c1) rfl rfl rfl ?_)|(refine a0m (c2) rfl rfl rfl ?_)|((first|apply a0f|apply a0c|apply a0g|apply a0b|apply a0h|apply a0a)<;>intro h<;>try (exfalso;(try dsimp only at h);omega))|refine a0i ?_)
  all_goals (conv=>whnf)
  exact a0o (by rw [e8];rfl)
attribute [irreducible] chI
end
section
def g1s (c:Int):Bool:=decide ((97<=c/\c<=122)\/(65<=c/\c<=90)\/(48<=c/\c<=57)\/c=95\/c=45\/c=58)
def h0V (s:ByteArray):Bool:=decide (1<=s.size/\s.size<=40)&&(List.range s.size).all (fun i=>g1s (a0r s (i:Int)))
structure Le where
 id:ByteArray
 date:Int
 ps:List Lp
 np:Nat
abbrev le0:Le:=⟨⟨#[]⟩,0,[],0⟩
theorem i1m (l:List Le) (k:Nat):(l.map Le.id).getD k ⟨#[]⟩=(l.getD k le0).id:=by
 rw [List.getD,List.getD,List.getElem?_map];cases l[k]?<;>rfl
theorem i1n (l:List Le) (k:Nat):(l.map Le.np).getD k 0=(l.getD k le0).np:=by
 rw [List.getD,List.getD,List.getElem?_map];cases l[k]?<;>rfl
def poT (p:Lp):ByteArray:=⟨#[124]⟩++p.a++⟨#[47]⟩++c0g p.n++⟨#[47]⟩++p.c
def leT (e:Le):Nat->ByteArray
 |0=>e.id++⟨#[124]⟩++c0g e.date
 |k+1=>leT e k++poT (e.ps.getD k lp0)
structure Lg where
 na:Nat
 acc:List ByteArray
 ne:Nat
 ent:List Le
 ns:Nat
 st:List ByteArray
 bal:ByteArray->ByteArray->Int
 dig:Int
abbrev Lg.ids (s:Lg):List ByteArray:=s.ent.map Le.id
abbrev inL (a:ByteArray) (l:List ByteArray):Prop:=a0A l a<l.length
theorem i0t {a:ByteArray} {l:List ByteArray}:inL a l↔a∈l:=sidx_lt
def poE (acc:List ByteArray):List Lp->Int
 | []=>0
 |p::L=>if inL p.a acc then (if g0p p.n p.c=0 then poE acc L else g0p p.n p.c) else 6
def q0P (bal:ByteArray->ByteArray->Int) (L:List Lp):Bool:=(chR L L.length).all (fun x=>decide (-4503599627370496<=bal x.a x.c+x.n/\bal x.a x.c+x.n<=4503599627370496))
def lgE (s:Lg) (e:Le):Int:=
 if h0V e.id=false then 5 else if e.date<0\/99999<e.date then 14 else if inL e.id s.ids then 7 else if e.np<1\/16<e.np then 4
 else if poE s.acc e.ps≠0 then poE s.acc e.ps else if h0U e.ps=false then 26 else if q0P s.bal e.ps=false then 4 else if 512<=s.ne then 12 else 0
def lgP (s:Lg) (e:Le):Lg:= { s with ne:=s.ne+1,ent:=s.ent++ [e],bal:=fun a c=>s.bal a c+lgS e.ps a c,dig:=chI s.dig (leT e e.np)}
structure EntOk (acc:List ByteArray) (e:Le):Prop where
 id:h0V e.id=true
 d:0<=e.date/\e.date<=99999
 n:e.ps.length=e.np
 n1:1<=e.np
 n16:e.np<=16
 ps:poE acc e.ps=0
 b:h0U e.ps=true
def g1t (L:List Le):List Lp:=L.flatMap Le.ps
structure LgOk (s:Lg):Prop where
 na:s.acc.length=s.na
 n512:s.na<=512
 nd:s.acc.Nodup
 lab:∀a∈s.acc,h0V a=true
 ne:s.ent.length=s.ne
 e512:s.ne<=512
 ids:s.ids.Nodup
 ent:∀e∈s.ent,EntOk s.acc e
 ns:s.st.length=s.ns
 n2:s.ns<=2*s.ne
 st:∀x∈s.st,x∈s.ids
 bal:∀a c,s.bal a c=lgS (g1t s.ent) a c
 rng:∀a c,-4503599627370496<=s.bal a c/\s.bal a c<=4503599627370496
 dig:0<=s.dig/\s.dig<18446744073709551616
theorem i0N {s:ByteArray} (h:h0V s=true):1<=s.size/\s.size<=40:=by
 unfold h0V at h
 rw [Bool.and_eq_true] at h
 exact of_decide_eq_true h.1
theorem i0O {acc:List ByteArray}:∀{L:List Lp},poE acc L=0↔∀p∈L,p.a∈acc/\g0p p.n p.c=0
 | []=>by simp [poE]
 |p::L=>by
  have ih:=i0O (acc:=acc) (L:=L)
  simp only [poE,List.mem_cons,forall_eq_or_imp]
  by_cases h1:inL p.a acc
  .rw [if_pos h1]
   by_cases h2:g0p p.n p.c=0
   .rw [if_pos h2,ih];exact ⟨fun h=>⟨⟨i0t.1 h1,h2⟩,h⟩,fun h=>h.2⟩
   .rw [if_neg h2];exact ⟨fun h=>absurd h h2,fun h=>absurd h.1.2 h2⟩
  .rw [if_neg h1];exact ⟨fun h=>absurd h (by decide),fun h=>absurd (i0t.2 h.1.1) h1⟩
theorem k0v {a:Int} {c:ByteArray} (h:g0p a c=0):f0W c=true/\-4503599627370496<=a/\a<=4503599627370496:=by
 rcases q0v a c with (h'|h')|h'
 .omega
 .omega
 .exact h'.2
theorem a1m {a:Int} {c:ByteArray} (h:g0p a c=0):g0p (-a) c=0:=by
 obtain ⟨h1,h2,h3⟩:=k0v h
 unfold g0p
 rw [if_neg (by rw [h1];decide),if_pos (by omega)]
theorem b1V {acc:List ByteArray} {L:List Lp} (h:poE acc L=0):y0K L:=fun x hx=>(k0v (i0O.1 h x hx).2).2
theorem s0A {s:Lg} {e:Le} (hn:e.ps.length=e.np) (h:lgE s e=0):EntOk s.acc e/\e.id∉s.ids/\q0P s.bal e.ps=true/\s.ne<512:=by
 unfold lgE at h
 split at h
 .cases h
 rename_i h1
 split at h
 .cases h
 rename_i h2
 split at h
 .cases h
 rename_i h3
 split at h
 .cases h
 rename_i h4
 split at h
 .rename_i h5;exact absurd h h5
 rename_i h5
 split at h
 .cases h
 rename_i h6
 split at h
 .cases h
 rename_i h7
 split at h
 .cases h
 rename_i h8
 exact ⟨⟨by simpa using h1,by omega,hn,by omega,by omega,Classical.not_not.1 h5,by simpa using h6⟩,fun h=>h3 (i0t.2 h),by simpa using h7,by omega⟩
theorem g1u {s:Lg} {e:Le} (h:EntOk s.acc e) (h1:e.id∉s.ids) (h2:q0P s.bal e.ps=true) (h3:s.ne<512):lgE s e=0:=by
 obtain ⟨k1,k2,k3,k4,k5,k6,k7⟩:=h
 unfold lgE
 rw [if_neg (by rw [k1];decide),if_neg (by omega),if_neg (fun h=>h1 (i0t.1 h)),if_neg (by omega),if_neg (fun h=>h k6),if_neg (by rw [k7];decide),if_neg (by rw [h2];decide),if_neg (by omega)]
theorem d1O {R:List Lp} {a c:ByteArray} (h:R.length<=lgI R a c):lgV R a c=0:=by
 unfold lgV
 rw [List.getD,List.getElem?_eq_none h];rfl
theorem x0i {a c:ByteArray}:∀{R:List Lp},lgI R a c<R.length->(R.getD (lgI R a c) lp0).a=a/\(R.getD (lgI R a c) lp0).c=c
 | [],h=>absurd h (Nat.not_lt_zero _)
 |x::R,h=>by
  rw [i0M] at h⊢
  split
  .rename_i hk;exact hk
  .rename_i hk
   rw [if_neg hk] at h
   rw [List.getD_cons_succ]
   exact x0i (by simpa using h)
theorem d1P {bal:ByteArray->ByteArray->Int} {L:List Lp} (h:q0P bal L=true) (hb:∀a c,-4503599627370496<=bal a c/\bal a c<=4503599627370496) (a c:ByteArray): -4503599627370496<=bal a c+lgS L a c/\bal a c+lgS L a c<=4503599627370496:=by
 have hv:lgV (chR L L.length) a c=lgS L a c:=by rw [g0q a c L.length (Nat.le_refl _),List.take_length]
 rcases Nat.lt_or_ge (lgI (chR L L.length) a c) (chR L L.length).length with hi|hi
 .obtain ⟨e1,e2⟩:=x0i hi
  unfold q0P at h
  rw [List.all_eq_true] at h
  have hm:(chR L L.length).getD (lgI (chR L L.length) a c) lp0∈chR L L.length:=by rw [List.getD,List.getElem?_eq_getElem hi];exact List.getElem_mem hi
  have:=of_decide_eq_true (h _ hm)
  rw [e1,e2] at this
  unfold lgV at hv
  rw [hv] at this
  exact this
 .rw [d1O hi] at hv
  rw [<-hv,Int.add_zero]
  exact hb a c
theorem g1v {bal:ByteArray->ByteArray->Int} {L:List Lp} (h:∀a c,-4503599627370496<=bal a c+lgS L a c/\bal a c+lgS L a c<=4503599627370496):q0P bal L=true:=by
 unfold q0P
 rw [List.all_eq_true]
 intro x hx
 obtain ⟨i,hi,rfl⟩:=List.getElem_of_mem hx
 have e:=q0M (h0i L L.length) hi
 rw [List.getD,List.getElem?_eq_getElem hi] at e
 dsimp only [Option.getD_some] at e
 rw [g0q _ _ _ (Nat.le_refl _),List.take_length] at e
 have:=h (chR L L.length)[i].a (chR L L.length)[i].c
 rw [e] at this
 exact decide_eq_true this
theorem a1n (A:List Le) (e:Le):g1t (A++ [e])=g1t A++e.ps:=by unfold g1t;rw [List.flatMap_append];simp
theorem x0j {s:Lg} {e:Le} (h:LgOk s) (hn:e.ps.length=e.np) (h0:lgE s e=0):LgOk (lgP s e):=by
 obtain ⟨k1,k2,k3,k4⟩:=s0A hn h0
 refine ⟨h.na,h.n512,h.nd,h.lab,?_,?_,?_,?_,h.ns,?_,?_,?_,?_,s0y _ _⟩
 .show (s.ent++ [e]).length=s.ne+1
  rw [List.length_append,h.ne];rfl
 .show s.ne+1<=512;omega
 .show ((s.ent++ [e]).map Le.id).Nodup
  rw [List.map_append]
  exact List.nodup_append.2 ⟨h.ids,by simp,fun a ha b hb e'=>by simp at hb;subst hb;subst e';exact k2 ha⟩
 .intro x hx
  rcases List.mem_append.1 (show x∈s.ent++ [e] from hx) with hx|hx
  .exact h.ent x hx
  .rw [List.mem_singleton.1 hx];exact k1
 .show s.ns<=2*(s.ne+1)
  have:=h.n2;omega
 .intro x hx
  show x∈(s.ent++ [e]).map Le.id
  rw [List.map_append]
  exact List.mem_append_left _ (h.st x hx)
 .intro a c
  show s.bal a c+lgS e.ps a c=lgS (g1t (s.ent++ [e])) a c
  rw [a1n,m0a,h.bal]
 .exact d1P k3 h.rng
theorem g1w {s:Lg} (h:LgOk s) {id:ByteArray} (hi:id∈s.ids):s.ent.getD (a0A s.ids id) le0∈s.ent/\(s.ent.getD (a0A s.ids id) le0).id=id:=by
 have hlt:=sidx_lt.2 hi
 have h2:=sidx_get hlt
 have hl:a0A s.ids id<s.ent.length:=by simpa using hlt
 refine ⟨by rw [List.getD,List.getElem?_eq_getElem hl];exact List.getElem_mem hl,?_⟩
 rw [<-i1m,List.getD,h2];rfl
attribute [irreducible] h0V
end
section
attribute [local irreducible] sortI
abbrev f1h:ByteArray:=⟨#[112,97,114,116,121,58]⟩
def f0B (p:ByteArray):ByteArray:=f1h++p
structure Bks where
 cur:ByteArray
 days:Int
 na:Nat
 au:List Au
 cut:Int
 hn:Nat
 hs:List Int
 np:Nat
 pr:List ByteArray
 m:Nat
 ds:List Int
 B:List Bk
 nc:Nat
 cd:List Int
 lg:Lg
 last:Int
abbrev Bks.aid (s:Bks):List ByteArray:=s.au.map Au.id
abbrev Bks.pl (s:Bks) (id:ByteArray):Nat:=a0A s.aid id
def d0e (L:List Au) (i:Nat):Au:=⟨(L.map Au.id).getD i ⟨#[]⟩,(L.map Au.cur).getD i ⟨#[]⟩,(L.map Au.app).getD i 0,(L.map Au.rev).getD i 0,(L.map Au.cle).getD i 0,(L.map Au.exp).getD i 0,(L.map Au.st).getD i 0,(L.map Au.att).getD i 0,(L.map Au.unt).getD i 0,(L.map Au.pa).getD i 0⟩
def auB (n:Nat) (L:List Au):Blk:= .cols n [.sc (.strs (L.map Au.id)),.sc (.strs (L.map Au.cur)),.sc (.ints .i64 (L.map Au.app)),.sc (.ints .i64 (L.map Au.rev)),.sc (.ints .i64 (L.map Au.cle)),.sc (.ints .i64 (L.map Au.exp)),.sc (.ints .i64 (L.map Au.st)),.sc (.ints .i64 (L.map Au.att)),.sc (.ints .i64 (L.map Au.unt)),.sc (.ints .i64 (L.map Au.pa))]
theorem n0s (n:Nat) (L:List Au) (i:Nat) (a:Au):(.cols n [.sc (.strs ((L.map Au.id).set i a.id)),.sc (.strs ((L.map Au.cur).set i a.cur)),.sc (.ints .i64 ((L.map Au.app).set i a.app)),.sc (.ints .i64 ((L.map Au.rev).set i a.rev)),.sc (.ints .i64 ((L.map Au.cle).set i a.cle)),.sc (.ints .i64 ((L.map Au.exp).set i a.exp)),.sc (.ints .i64 ((L.map Au.st).set i a.st)),.sc (.ints .i64 ((L.map Au.att).set i a.att)),.sc (.ints .i64 ((L.map Au.unt).set i a.unt)),.sc (.ints .i64 ((L.map Au.pa).set i a.pa))]:Blk)=auB n (L.set i a):=by
 unfold auB;simp only [List.map_set]
theorem d1Q (n:Nat) (L:List Au) (a:Au):(.cols n [.sc (.strs (L.map Au.id++ [a.id])),.sc (.strs (L.map Au.cur++ [a.cur])),.sc (.ints .i64 (L.map Au.app++ [a.app])),.sc (.ints .i64 (L.map Au.rev++ [a.rev])),.sc (.ints .i64 (L.map Au.cle++ [a.cle])),.sc (.ints .i64 (L.map Au.exp++ [a.exp])),.sc (.ints .i64 (L.map Au.st++ [a.st])),.sc (.ints .i64 (L.map Au.att++ [a.att])),.sc (.ints .i64 (L.map Au.unt++ [a.unt])),.sc (.ints .i64 (L.map Au.pa++ [a.pa]))]:Blk)=auB n (L++ [a]):=by
 unfold auB;simp only [List.map_append,List.map_cons,List.map_nil]
def u0i (s:Bks) (t:Int):Int:=t+s.days*86400
def f1i (s:Bks) (o:Bop):Int:=if s.pl o.au<s.na then 7 else if 256<=s.na then 12 else (b1O o.au s.cur o.am o.t (u0i s o.t)).2
def h1K (s:Bks) (o:Bop):Bks:= { s with na:=s.na+1,au:=s.au++ [(b1O o.au s.cur o.am o.t (u0i s o.t)).1]}
def b1W (s:Bks) (o:Bop):Au×Int:=
 if o.k=2 then h0e (d0e s.au (s.pl o.au)) o.am (max (d0e s.au (s.pl o.au)).unt (u0i s o.t))
 else if o.k=3 then ((c0A (d0e s.au (s.pl o.au)) o.am).1,(c0A (d0e s.au (s.pl o.au)) o.am).2.2)
 else ((d0C (d0e s.au (s.pl o.au)) o.t).1,(d0C (d0e s.au (s.pl o.au)) o.t).2.2)
def x0k (s:Bks) (o:Bop):Int:=if s.pl o.au<s.na then (b1W s o).2 else 6
def b1X (s:Bks) (o:Bop):Bks:= { s with au:=s.au.set (s.pl o.au) (b1W s o).1}
def bkD (s:Bks) (t:Int):Int:=mvD s.hs s.cd (ofI s.hs s.cut t)
def owX (s:Bks) (t:Int) (f g:ByteArray) (n:Int):Int:=mvX s.hs s.ds s.cd s.B s.pr (bkD s t) f g s.cur n
def mtF (o:Bop):ByteArray:=if o.k=5 then o.ac else if o.k=6/\¬o.am<0 then o.ac else o.is
def mtG (o:Bop):ByteArray:=if o.k=5 then o.is else if o.k=6/\¬o.am<0 then o.is else o.ac
def mtN (o:Bop):Int:=if o.k=6 then (if o.am<0 then-o.am else o.am) else o.am-o.fe
def enB (s:Bks) (o:Bop):Le:=⟨o.id,k0Q o.t,[⟨f0B (mtF o),-mtN o,s.cur⟩,⟨f0B (mtG o),mtN o,s.cur⟩],2⟩
def clA (s:Bks) (o:Bop):Au×Int×Int×Int:=i0r (d0e s.au (s.pl o.au)) o.am o.fi
def mmE (s:Bks) (o:Bop):Int:=
 if inL o.id s.lg.ids then 15 else if 512<=s.lg.ne then 12
 else if o.k=4 then (if s.pl o.au<s.na then (if (clA s o).2.2.2≠0 then (clA s o).2.2.2 else owX s o.t (mtF o) (mtG o) (mtN o)) else 6)
 else owX s o.t (mtF o) (mtG o) (mtN o)
def owS (s:Bks) (o:Bop):Bks:= { s with
 m:=(p0K s.ds (bkD s o.t)).length,ds:=p0K s.ds (bkD s o.t),
 B:=w0U s.ds s.B (bkD s o.t) ((d0X s.ds s.B s.pr (bkD s o.t)).mv (mtF o) (mtG o) s.cur (mtN o)),lg:=lgP s.lg (enB s o)}
def mmS (s:Bks) (o:Bop):Bks:=if o.k=4 then { owS s o with au:=s.au.set (s.pl o.au) (clA s o).1} else owS s o
def clS (s:Bks) (o:Bop):Bks:= { s with nc:=s.nc+1,cd:=s.cd++ [o.am]}
def pfE (s:Bks) (o:Bop):Int:=
 if o.k=1 then f1i s o else if o.k=8 then clE s.hs s.ds s.cd o.am else if o.k=4\/o.k=5\/o.k=6 then mmE s o else x0k s o
def pfS (s:Bks) (o:Bop):Bks:=if o.k=1 then h1K s o else if o.k=8 then clS s o else if o.k=4\/o.k=5\/o.k=6 then mmS s o else b1X s o
def doE (s:Bks) (o:Bop):Int:=if ckE o≠0 then ckE o else if o.t<s.last then 14 else pfE s o
def doS (s:Bks) (o:Bop):Bks:=if doE s o=0 then { pfS s o with last:=o.t} else s
structure BkOk (s:Bks):Prop where
 lg:LgOk s.lg
 acc:s.lg.acc=s.pr.map f0B
 bd:∀a c,-(999999999999*(s.lg.ne:Int))<=s.lg.bal a c/\s.lg.bal a c<=999999999999*(s.lg.ne:Int)
 hn:s.hs.length=s.hn
 np:s.pr.length=s.np
 err:f0L s.pr=0
 bks:BksI s.ds s.B s.m s.np (sortS s.pr)
 nc:s.cd.length=s.nc
 na:s.au.length=s.na
 n256:s.na<=256
 days:1<=s.days/\s.days<=1000
 cur:f0W s.cur=true
 last:0<=s.last/\s.last<=1099511627776
 mle:s.m<=s.lg.ne
 mb:∀i,i<s.m->(s.B.getD i bk0).m<=s.lg.ne
theorem g1x {s:ByteArray} (h:auI s=true):h0V s=true:=by
 unfold auI at h
 rw [Bool.and_eq_true] at h
 obtain ⟨h1,h2⟩:=h
 have h1:=of_decide_eq_true h1
 unfold h0V
 rw [Bool.and_eq_true]
 refine ⟨decide_eq_true (by omega),?_⟩
 rw [List.all_eq_true] at h2⊢
 intro i hi
 have h3:=h2 i hi
 unfold auC at h3
 have h3:=of_decide_eq_true h3
 unfold g1s
 exact decide_eq_true (by omega)
theorem q0Q {o:Bop} (h:CkOk o) (hk:o.k=4\/o.k=5\/o.k=6): -999999999999<=mtN o/\mtN o<=999999999999:=by
 have ha:=h.a
 have hf:=h.f
 unfold pmB at ha
 unfold mtN
 rcases hk with e|e|e<;>rw [e] at ha hf⊢<;>simp at ha hf⊢
 .omega
 .omega
 .split<;>omega
theorem s0B {hs ds cd:List Int} {B:List Bk} {pr:List ByteArray} {D:Int} {f g c:ByteArray} {a:Int} (h:mvX hs ds cd B pr D f g c a=0) (hp:(d0X ds B pr D).ps=sortS pr) (hl:(d0X ds B pr D).ps.length=(d0X ds B pr D).n):¬D<0/\mvE (d0X ds B pr D) f g c a=0/\f∈pr/\g∈pr/\f≠g/\g0p a c=0:=by
 unfold mvX at h
 split at h
 .cases h
 rename_i hD
 refine ⟨hD,h,?_⟩
 unfold mvE at h
 split at h
 .cases h
 rename_i h1
 split at h
 .cases h
 rename_i h2
 split at h
 .rename_i h3;exact absurd h h3
 rename_i h3
 have key:∀x,¬idI (d0X ds B pr D).ps x (d0X ds B pr D).n<0->x∈pr:=by
  intro x hx
  by_cases q:a0A (d0X ds B pr D).ps x<(d0X ds B pr D).n
  .rw [hp] at q
   rw [<-hl,hp] at q
   exact (h0K pr).mem_iff.1 (sidx_lt.1 q)
  .exact absurd (show idI (d0X ds B pr D).ps x (d0X ds B pr D).n<0 by rw [k0i q];decide) hx
 exact ⟨key f (by omega),key g (by omega),fun e=>h2 (by rw [e]),Classical.not_not.1 h3⟩
theorem x0l {ds:List Int} {B:List Bk} {m np:Nat} {pr:List ByteArray} (hb:BksI ds B m np (sortS pr)) (hp:pr.length=np) (he:f0L pr=0) (d:Int):BkI (d0X ds B pr d) 4503599627370496/\(d0X ds B pr d).n=np/\(d0X ds B pr d).ps=sortS pr:=by
 unfold d0X
 split
 .rename_i h
  have hi:=c0l.2 h
  obtain ⟨h1,h2,h3,_⟩:=hb.I _ (by rw [<-hb.dl];exact hi)
  exact ⟨h1,h2,h3⟩
 .exact ⟨(g1d he).up (by decide),hp,rfl⟩
theorem d1R {hs cd:List Int} {cut t:Int} (h:¬mvD hs cd (ofI hs cut t)<0):0<=k0Q t/\k0Q t<=99999:=by
 by_cases q:k0Q t<0
 .exfalso
  refine h ?_
  have e:ofI hs cut t= -1:=by unfold ofI;rw [if_pos q]
  rw [e]
  unfold mvD
  rw [w0T (by decide)];decide
 .have:=q0E q
  omega
theorem x0m (s:Bks) (o:Bop) (h: -999999999999<=mtN o/\mtN o<=999999999999) (hne:f0B (mtF o)≠f0B (mtG o)) (a c:ByteArray): -999999999999<=lgS (enB s o).ps a c/\lgS (enB s o).ps a c<=999999999999:=by
 simp only [enB,lgS]
 split
 .rename_i h1
  rw [if_neg (fun h2=>hne (h1.1.trans h2.1.symm))];omega
 .split<;>omega
theorem s0C {p q:ByteArray} (h:f0B p=f0B q):p=q:=by
 have h2:=congrArg (fun b:ByteArray=>b.data.toList) h
 simp only [f0B,ByteArray.data_append,Array.toList_append,List.append_cancel_left_eq] at h2
 cases p;cases q
 congr 1
 exact Array.toList_inj.1 h2
theorem g1y {s:Bks} (h:BkOk s) {o:Bop} (hc:CkOk o) (hk:o.k=4\/o.k=5\/o.k=6) (hi:¬inL o.id s.lg.ids) (hf:¬512<=s.lg.ne) (hx:owX s o.t (mtF o) (mtG o) (mtN o)=0):lgE s.lg (enB s o)=0/\f0B (mtF o)≠f0B (mtG o):=by
 obtain ⟨b1,b2,b3⟩:=x0l h.bks h.np h.err (bkD s o.t)
 obtain ⟨m1,m2,m3,m4,m5,m6⟩:=s0B hx b3 b1.psl
 have hne:f0B (mtF o)≠f0B (mtG o):=fun e=>m5 (s0C e)
 refine ⟨?_,hne⟩
 have hd:=d1R m1
 have hb:=q0Q hc hk
 have hid:h0V o.id=true:=by
  have hn:=hc.n
  unfold bkN at hn
  rw [Bool.and_eq_true] at hn
  have h1:=hn.1
  have hmv:n0R o.k=true:=decide_eq_true hk
  rw [hmv] at h1
  exact g1x h1
 refine g1u ⟨hid,hd,rfl,by show 1<=2;omega,by show 2<=16;omega,?_,?_⟩ (fun q=>hi (i0t.2 q)) ?_ (by omega)
 .refine i0O.2 fun p hp=> ?_
  simp only [enB,List.mem_cons,List.not_mem_nil,or_false] at hp
  rw [h.acc]
  rcases hp with rfl|rfl
  .exact ⟨List.mem_map.2 ⟨_,m3,rfl⟩,a1m m6⟩
  .exact ⟨List.mem_map.2 ⟨_,m4,rfl⟩,m6⟩
 .rw [k0t]
  intro c
  simp only [enB,lgC]
  split<;>omega
 .refine g1v fun a c=> ?_
  have h1:=h.bd a c
  have h2:=x0m s o hb hne a c
  have h3:(s.lg.ne:Int)<=511:=by omega
  omega
end
section
attribute [local irreducible] sortI
theorem a1o {ds:List Int} {B:List Bk} {m np:Nat} {sp:List ByteArray} (h:BksI ds B m np sp) (D:Int) {b:Bk} (hI:BkI b 4503599627370496) (hn:b.n=np) (hp:b.ps=sp) (hm:b.m<=100000):BksI (p0K ds D) (w0U ds B D b) (p0K ds D).length np sp:=by
 unfold p0K w0U
 by_cases hd:D∈ds
 .rw [if_pos hd,if_pos hd]
  have hi:=c0l.2 hd
  refine ⟨rfl,by rw [List.length_set,h.bl,h.dl],h.nd,fun i hi2=> ?_⟩
  by_cases e:b0v ds D=i
  .subst e
   rw [List.getD,List.getElem?_set_self (by rw [h.bl,<-h.dl];exact hi)]
   exact ⟨hI,hn,hp,hm⟩
  .rw [List.getD,List.getElem?_set_ne e]
   exact h.I i (by rw [<-h.dl];exact hi2)
 .rw [if_neg hd,if_neg hd]
  refine ⟨rfl,by rw [List.length_append,List.length_append,h.bl,h.dl];rfl,List.nodup_append.2 ⟨h.nd,by simp,fun a ha b hb e=>by simp at hb;subst hb;subst e;exact hd ha⟩,fun i hi2=> ?_⟩
  rw [List.length_append,List.length_singleton] at hi2
  by_cases e:i=B.length
  .subst e
   rw [List.getD,List.getElem?_append_right (Nat.le_refl _),Nat.sub_self]
   exact ⟨hI,hn,hp,hm⟩
  .have hl:i<B.length:=by rw [h.bl,<-h.dl];rw [h.bl,<-h.dl] at e;omega
   rw [List.getD,List.getElem?_append_left hl]
   exact h.I i (by rw [<-h.bl];exact hl)
theorem a1p (ds:List Int) (D:Int):(p0K ds D).length<=ds.length+1:=by
 unfold p0K;split
 .omega
 .rw [List.length_append];exact Nat.le_refl _
theorem g1z {ds:List Int} {B:List Bk} {m:Nat} (hd:ds.length=m) (hB:B.length=m) {D:Int} {b:Bk} {k:Nat} (h:∀i,i<m->(B.getD i bk0).m<=k) (hb:b.m<=k):∀i,i<(p0K ds D).length->((w0U ds B D b).getD i bk0).m<=k:=by
 intro i hi
 unfold p0K at hi
 unfold w0U
 by_cases hD:D∈ds
 .rw [if_pos hD] at hi⊢
  by_cases e:b0v ds D=i
  .subst e
   rw [List.getD,List.getElem?_set_self (by omega)];exact hb
  .rw [List.getD,List.getElem?_set_ne e];exact h i (by omega)
 .rw [if_neg hD] at hi⊢
  rw [List.length_append,List.length_singleton] at hi
  by_cases e:i=B.length
  .subst e
   rw [List.getD,List.getElem?_append_right (Nat.le_refl _),Nat.sub_self];exact hb
  .rw [List.getD,List.getElem?_append_left (by omega)];exact h i (by omega)
theorem g1A {s:Bks} (h:BkOk s) (D:Int):(d0X s.ds s.B s.pr D).m<=s.lg.ne:=by
 unfold d0X
 split
 .rename_i hd
  exact h.mb _ (by rw [<-h.bks.dl];exact c0l.2 hd)
 .exact Nat.zero_le _
theorem i1o {s:Bks} (h:BkOk s) {o:Bop} (hc:CkOk o) (hk:o.k=4\/o.k=5\/o.k=6) (hi:¬inL o.id s.lg.ids) (hf:¬512<=s.lg.ne) (hx:owX s o.t (mtF o) (mtG o) (mtN o)=0):BkOk (owS s o):=by
 obtain ⟨hp,hne⟩:=g1y h hc hk hi hf hx
 obtain ⟨b1,b2,b3⟩:=x0l h.bks h.np h.err (bkD s o.t)
 have b4:=g1A h (bkD s o.t)
 obtain ⟨v1,v2⟩:=i1h (d0X s.ds s.B s.pr (bkD s o.t)) (mtF o) (mtG o) s.cur (mtN o)
 have v3:=j1j (d0X s.ds s.B s.pr (bkD s o.t)) (mtF o) (mtG o) s.cur (mtN o)
 have v4:=j1k b1 (mtF o) (mtG o) s.cur (mtN o)
 have hlg:=x0j h.lg (e:=enB s o) rfl hp
 have hl:=a1p s.ds (bkD s o.t)
 have hml:=h.mle
 have hne2:(lgP s.lg (enB s o)).ne=s.lg.ne+1:=rfl
 refine ⟨hlg,h.acc,fun a c=> ?_,h.hn,h.np,h.err,a1o h.bks _ v4 (v2.trans b2) (v1.trans b3) (by omega),h.nc,h.na,h.n256,h.days,h.cur,h.last,?_,?_⟩
 .have h1:=h.bd a c
  have h2:=x0m s o (q0Q hc hk) hne a c
  show-(999999999999*((s.lg.ne+1:Nat):Int))<=s.lg.bal a c+lgS (enB s o).ps a c/\s.lg.bal a c+lgS (enB s o).ps a c<=999999999999*((s.lg.ne+1:Nat):Int)
  omega
 .show (p0K s.ds (bkD s o.t)).length<=s.lg.ne+1
  have:=h.bks.dl
  omega
 .show∀i,i<(p0K s.ds (bkD s o.t)).length->((w0U s.ds s.B (bkD s o.t) ((d0X s.ds s.B s.pr (bkD s o.t)).mv (mtF o) (mtG o) s.cur (mtN o))).getD i bk0).m<=s.lg.ne+1
  exact g1z h.bks.dl h.bks.bl (fun i hi=>by have:=h.mb i hi;omega) (by omega)
theorem p0k {s:Bks} (h:BkOk s) (i:Nat) (a:Au):BkOk { s with au:=s.au.set i a}:=
 ⟨h.lg,h.acc,h.bd,h.hn,h.np,h.err,h.bks,h.nc,by show (s.au.set i a).length=s.na;rw [List.length_set];exact h.na,h.n256,h.days,h.cur,h.last,h.mle,h.mb⟩
theorem d1S {s:Bks} (h:BkOk s) {t:Int} (ht:0<=t/\t<=1099511627776):BkOk { s with last:=t}:=
 ⟨h.lg,h.acc,h.bd,h.hn,h.np,h.err,h.bks,h.nc,h.na,h.n256,h.days,h.cur,ht,h.mle,h.mb⟩
theorem i1p {s:Bks} {o:Bop} (h0:mmE s o=0):¬inL o.id s.lg.ids/\¬512<=s.lg.ne/\owX s o.t (mtF o) (mtG o) (mtN o)=0/\(o.k=4->s.pl o.au<s.na/\(clA s o).2.2.2=0):=by
 unfold mmE at h0
 split at h0
 .cases h0
 rename_i h1
 split at h0
 .cases h0
 rename_i h2
 refine ⟨h1,h2,?_⟩
 split at h0
 .split at h0
  .rename_i h4
   split at h0
   .rename_i h5;exact absurd h0 h5
   .rename_i h5;exact ⟨h0,fun _=>⟨h4,Classical.not_not.1 h5⟩⟩
  .cases h0
 .rename_i h3;exact ⟨h0,fun e=>absurd e h3⟩
theorem i1q {s:Bks} (h:BkOk s) {o:Bop} (hc:CkOk o) (h0:pfE s o=0):BkOk (pfS s o):=by
 unfold pfE at h0
 unfold pfS
 split at h0
 .rename_i e
  rw [if_pos e]
  unfold f1i at h0
  split at h0
  .cases h0
  split at h0
  .cases h0
  rename_i h2
  exact ⟨h.lg,h.acc,h.bd,h.hn,h.np,h.err,h.bks,h.nc,by show (s.au++ [_]).length=s.na+1;rw [List.length_append,h.na];rfl,by show s.na+1<=256;omega,h.days,h.cur,h.last,h.mle,h.mb⟩
 rename_i e1
 rw [if_neg e1]
 split at h0
 .rename_i e
  rw [if_pos e]
  exact ⟨h.lg,h.acc,h.bd,h.hn,h.np,h.err,h.bks,by show (s.cd++ [_]).length=s.nc+1;rw [List.length_append,h.nc];rfl,h.na,h.n256,h.days,h.cur,h.last,h.mle,h.mb⟩
 rename_i e2
 rw [if_neg e2]
 split at h0
 .rename_i e
  rw [if_pos e]
  obtain ⟨m1,m2,m3,m4⟩:=i1p h0
  have:=i1o h hc e m1 m2 m3
  unfold mmS
  split
  .exact p0k this _ _
  .exact this
 .rename_i e
  rw [if_neg e]
  exact p0k h _ _
theorem d1T {s:Bks} (h:BkOk s) (o:Bop):BkOk (doS s o):=by
 unfold doS
 split
 .rename_i h0
  unfold doE at h0
  split at h0
  .rename_i h1;exact absurd h0 h1
  rename_i h1
  split at h0
  .cases h0
  have hc:=z0R (Classical.not_not.1 h1)
  exact d1S (i1q h hc h0) hc.t
 .exact h
end
section
attribute [local irreducible] a0B a0D a0u a0Y
theorem d1U (s:ByteArray):c0a Tryz.prog 66 [.str s] (.bool (auI s)):=by
 by_cases h:s.size<1\/16<s.size
 .rw [s0i h]
  refine a0p mixed a0x Tryz.func66 rfl (by kernel_rfl) (by kernel_rfl) (by kernel_rfl) ?_
  repeat' ((conv=>whnf);first|((first|apply a0f|apply a0c|apply a0g|apply a0b|apply a0h|apply a0a)<;>intro h<;>try (exfalso;(try dsimp only at h);omega))|refine a0i ?_)
  all_goals (conv=>whnf)
  all_goals first
   |exact a0o rfl
   |(exfalso;omega)
 refine a0p mixed a0x Tryz.func66 rfl (by kernel_rfl) (by kernel_rfl) (by kernel_rfl) ?_
 repeat' ((conv=>whnf);first|((first|apply a0f|apply a0c|apply a0g|apply a0b|apply a0h|apply a0a)<;>intro h<;>try (exfalso;(try dsimp only at h);omega))|refine a0i ?_)
 all_goals (conv=>whnf)
 all_goals first
  |(exfalso;omega)
  |skip
 refine a0z (fun k:Nat=>⟨[(0,.str s),(3,.int .i64 k)],[],1⟩) (fun k=>k<=s.size/\f1P s k) (fun k=>s.size-k) 0 [0] [] ⟨rfl,⟨rfl,rfl,trivial⟩,trivial⟩ ⟨by omega,fun i hi=>by omega⟩ ?_
 rintro k ⟨hk,hc⟩
 repeat' ((conv=>whnf);first|((first|apply a0f|apply a0c|apply a0g|apply a0b|apply a0h|apply a0a)<;>intro h<;>try (exfalso;(try dsimp only at h);omega))|refine a0i ?_)
 all_goals (conv=>whnf)
 all_goals first
  |exact a0o (by rw [b1N (k:=k) (by omega) (by omega)];rfl)
  |exact ⟨k+1,[0],[],⟨by omega,o0Y hc (by omega)⟩,by omega,⟨rfl,⟨rfl,congrArg (fun z=>some (SV.int .i64 z)) (a0M (by omega)),trivial⟩,trivial⟩⟩
  |skip
 have e:k=s.size:=by omega
 subst e
 exact a0o (by rw [w0m (by omega) (by omega) hc];rfl)
theorem a1q (s:ByteArray):c0a Tryz.prog 34 [.str s] (.bool (f0W s)):=by
 refine a0p mixed a0x Tryz.func34 rfl (by kernel_rfl) (by kernel_rfl) (by kernel_rfl) ?_
 repeat' ((conv=>whnf);first|((first|apply a0f|apply a0c|apply a0g|apply a0b|apply a0h|apply a0a)<;>intro h<;>try (exfalso;(try dsimp only at h);omega))|refine a0i ?_)
 all_goals (conv=>whnf)
 .exact a0o (by rw [h0b (by omega)];rfl)
 .refine a0z (fun k:Nat=>⟨[(0,.str s),(3,.int .i64 k)],[],1⟩) (fun k=>k<=s.size/\f0V s k=true) (fun k=>s.size-k) 0 [0] [] ⟨rfl,⟨rfl,rfl,trivial⟩,trivial⟩ ⟨by omega,rfl⟩ ?_
  rintro k ⟨hk,hc⟩
  repeat' ((conv=>whnf);first|((first|apply a0f|apply a0c|apply a0g|apply a0b|apply a0h|apply a0a)<;>intro h<;>try (exfalso;(try dsimp only at h);omega))|refine a0i ?_)
  all_goals (conv=>whnf)
  .exact a0o (by rw [d0m (k:=k) (by omega) (by omega)];rfl)
  .exact a0o (by rw [d0m (k:=k) (by omega) (by omega)];rfl)
  .exact ⟨k+1,[0],[],⟨by omega,g0n hc (by omega) (by omega)⟩,by omega,⟨rfl,⟨rfl,congrArg (fun z=>some (SV.int .i64 z)) (a0M (by omega)),trivial⟩,trivial⟩⟩
  .have e:k=s.size:=by omega
   subst e
   refine a0o ?_
   have:f0W s=true:=by unfold f0W;rw [hc];simp;omega
   rw [this];rfl
theorem s0D (s:ByteArray) (u:Bool):c0a Tryz.prog 65 [.str s,.bool u,.fn 66 []] (.bool (fiB s u auI)):=by
 have c:=d1U s
 cases u<;>unfold fiB<;>dsimp only
 all_goals
  refine a0p mixed a0x Tryz.func65 rfl (by kernel_rfl) (by kernel_rfl) (by kernel_rfl) ?_
  repeat' ((conv=>whnf);first|(refine a0j (c) rfl rfl rfl ?_)|((first|apply a0f|apply a0c|apply a0g|apply a0b|apply a0h|apply a0a)<;>intro h<;>try (exfalso;(try dsimp only at h);omega))|refine a0i ?_)
  all_goals (conv=>whnf)
  all_goals exact a0o rfl
theorem s0E (s:ByteArray) (u:Bool):c0a Tryz.prog 65 [.str s,.bool u,.fn 67 []] (.bool (fiB s u nmB)):=by
 have c:=l0X s
 cases u<;>unfold fiB<;>dsimp only
 all_goals
  refine a0p mixed a0x Tryz.func65 rfl (by kernel_rfl) (by kernel_rfl) (by kernel_rfl) ?_
  repeat' ((conv=>whnf);first|(refine a0j (c) rfl rfl rfl ?_)|((first|apply a0f|apply a0c|apply a0g|apply a0b|apply a0h|apply a0a)<;>intro h<;>try (exfalso;(try dsimp only at h);omega))|refine a0i ?_)
  all_goals (conv=>whnf)
  all_goals exact a0o rfl
theorem d1V (k a:Int) (hk:¬(k<1\/8<k)):c0a Tryz.prog 68 [.int .i64 k,.int .i64 a] (.bool (pmB k a)):=by
 rcases i0L hk with rfl|rfl|rfl|rfl|rfl|rfl|rfl|rfl
 all_goals
  unfold pmB
  simp only [Int.reduceEq,if_true,if_false]
  refine a0p mixed a0x Tryz.func68 rfl (by kernel_rfl) (by kernel_rfl) (by kernel_rfl) ?_
  repeat' ((conv=>whnf);first|((first|apply a0f|apply a0c|apply a0g|apply a0b|apply a0h|apply a0a)<;>intro h<;>try (exfalso;(try dsimp only at h);omega))|refine a0i ?_)
  all_goals (conv=>whnf)
  all_goals refine a0o ?_
  all_goals
   show SV.bool _=SV.bool _
   first
    |rfl
    |congr 1
   all_goals first
    |exact decide_eq_decide.2 (by omega)
    |exact (decide_eq_false (by omega)).symm
    |(rw [<-decide_not];exact decide_eq_decide.2 (by omega))
set_option maxHeartbeats 4000000 in
theorem x0n (k t:Int) (id au is ac:ByteArray) (am fe:Int) (fi:Bool):c0a Tryz.prog 39 [.agg [.int .i64 k,.int .i64 t,.str id,.str au,.str is,.str ac,.int .i64 am,.int .i64 fe,.bool fi]] (.int .i64 (ckE ⟨k,t,id,au,is,ac,am,fe,fi⟩)):=by
 by_cases h1:k<1\/8<k
 .have e:ckE ⟨k,t,id,au,is,ac,am,fe,fi⟩=4:=by unfold ckE;rw [if_pos h1]
  rw [e]
  refine a0p mixed a0x Tryz.func39 rfl (by kernel_rfl) (by kernel_rfl) (by kernel_rfl) ?_
  repeat' ((conv=>whnf);first|((first|apply a0f|apply a0c|apply a0g|apply a0b|apply a0h|apply a0a)<;>intro h<;>try (exfalso;(try dsimp only at h);omega))|refine a0i ?_)
  all_goals (conv=>whnf)
  all_goals first
   |exact a0o rfl
   |(exfalso;omega)
 by_cases h2:t<0\/1099511627776<t
 .have e:ckE ⟨k,t,id,au,is,ac,am,fe,fi⟩=14:=by unfold ckE;rw [if_neg h1,if_pos h2]
  rw [e]
  refine a0p mixed a0x Tryz.func39 rfl (by kernel_rfl) (by kernel_rfl) (by kernel_rfl) ?_
  repeat' ((conv=>whnf);first|((first|apply a0f|apply a0c|apply a0g|apply a0b|apply a0h|apply a0a)<;>intro h<;>try (exfalso;(try dsimp only at h);omega))|refine a0i ?_)
  all_goals (conv=>whnf)
  all_goals first
   |exact a0o rfl
   |(exfalso;omega)
 have c1:=s0D id (n0R k)
 have c2:=s0D au (f1S k)
 have c3:=s0E is (n0R k)
 have c4:=s0E ac (n0R k)
 have c5:=d1V k am h1
 have e:ckE ⟨k,t,id,au,is,ac,am,fe,fi⟩=if (fiB id (n0R k) auI&&(fiB au (f1S k) auI&&(fiB is (n0R k) nmB&&fiB ac (n0R k) nmB)))=false then 5 else if pmB k am=false then 4 else if fe<0\/(if k=4\/k=5 then am else 0)<fe then 4 else if fi=true/\k≠4 then 2 else if n0R k=true/\is=ac then 7 else 0:=by
  unfold ckE bkN;rw [if_neg h1,if_neg h2]
 generalize ckE ⟨k,t,id,au,is,ac,am,fe,fi⟩=E at*
 generalize fiB id (n0R k) auI=b1 at*
 generalize fiB au (f1S k) auI=b2 at*
 generalize fiB is (n0R k) nmB=b3 at*
 generalize fiB ac (n0R k) nmB=b4 at*
 generalize pmB k am=b5 at*
 rcases i0L h1 with rfl|rfl|rfl|rfl|rfl|rfl|rfl|rfl
 all_goals
  simp only [Int.reduceEq,n0R,f1S,or_true,true_or,or_false,false_or,if_true,if_false,decide_true,decide_false,true_and,false_and,Bool.false_eq_true,ne_eq,not_true_eq_false,not_false_eq_true,and_true,and_false] at*
  refine a0p mixed a0x Tryz.func39 rfl (by kernel_rfl) (by kernel_rfl) (by kernel_rfl) ?_
  repeat' ((conv=>whnf);first|(refine a0j (c1) rfl rfl rfl ?_)|(refine a0j (c2) rfl rfl rfl ?_)|(refine a0j (c3) rfl rfl rfl ?_)|(refine a0j (c4) rfl rfl rfl ?_)|(refine a0j (c5) rfl rfl rfl ?_)|((first|apply a0f|apply a0c|apply a0g|apply a0b|apply a0h|apply a0a)<;>intro h<;>try (exfalso;(try dsimp only at h);omega))|refine a0i ?_)
  all_goals (conv=>whnf)
  all_goals first
   |(exfalso;omega)
   |(refine a0o (congrArg (SV.int .i64) (a₁:=_) ?_)
     rw [e]
     (repeat' split)<;>first|rfl|(exfalso;omega)|(exfalso;simp_all;done))
theorem d0O (o:Bop):c0a Tryz.prog 39 [o.s] (.int .i64 (ckE o)):=x0n o.k o.t o.id o.au o.is o.ac o.am o.fe o.fi
end
section
attribute [local irreducible] a0B a0D a0u a0Y
theorem h0W (a:Au):c0a Tryz.prog 80 [a.s] (.int .i64 (a0Q a)):=by
 refine a0p mixed a0x Tryz.func80 rfl (by kernel_rfl) (by kernel_rfl) (by kernel_rfl) ?_
 repeat' ((conv=>whnf);first|((first|apply a0f|apply a0c|apply a0g|apply a0b|apply a0h|apply a0a)<;>intro h<;>try (exfalso;(try dsimp only at h);omega))|refine a0i ?_)
 all_goals (conv=>whnf)
 exact a0o (by unfold a0Q;rfl)
theorem q0R (n:Int):c0a Tryz.prog 79 [.int .i64 n] (.bool (h0c n)):=by
 refine a0p mixed a0x Tryz.func79 rfl (by kernel_rfl) (by kernel_rfl) (by kernel_rfl) ?_
 repeat' ((conv=>whnf);first|((first|apply a0f|apply a0c|apply a0g|apply a0b|apply a0h|apply a0a)<;>intro h<;>try (exfalso;(try dsimp only at h);omega))|refine a0i ?_)
 all_goals (conv=>whnf)
 all_goals refine a0o ?_
 .have h':0<=n:=by assumption
  by_cases g:n<=999999999999
  .rw [show h0c n=true from decide_eq_true ⟨h',g⟩,show decide (n<=999999999999)=true from decide_eq_true g];rfl
  .rw [show h0c n=false from decide_eq_false (fun q=>g q.2),show decide (n<=999999999999)=false from decide_eq_false g];rfl
 .rw [show h0c n=false from decide_eq_false (fun q=>h q.1)];rfl
set_option maxHeartbeats 2000000 in
theorem i0u (a:Au):c0a Tryz.prog 81 [a.s] ({a with st:=b0M a}:Au).s:=by
 have c:=h0W a
 have e:b0M a=if 0<a0Q a then 1 else if 0<a.exp then 4 else if 0<a.cle then 2 else 3:=by unfold b0M;rfl
 generalize a0Q a=F at*
 generalize b0M a=st at*
 obtain ⟨id,cur,app,rev,cle,exp,st0,att,unt,pa⟩:=a
 dsimp only at*
 by_cases h1:0<F
 .rw [if_pos h1] at e
  subst e
  refine a0p mixed a0x Tryz.func81 rfl (by kernel_rfl) (by kernel_rfl) (by kernel_rfl) ?_
  repeat' ((conv=>whnf);first|(refine a0j (c) rfl rfl rfl ?_)|((first|apply a0f|apply a0c|apply a0g|apply a0b|apply a0h|apply a0a)<;>intro h<;>try (exfalso;(try dsimp only at h);omega))|refine a0i ?_)
  all_goals (conv=>whnf)
  all_goals first
   |exact a0o rfl
   |(exfalso;omega)
 rw [if_neg h1] at e
 by_cases h2:0<exp
 .rw [if_pos h2] at e
  subst e
  refine a0p mixed a0x Tryz.func81 rfl (by kernel_rfl) (by kernel_rfl) (by kernel_rfl) ?_
  repeat' ((conv=>whnf);first|(refine a0j (c) rfl rfl rfl ?_)|((first|apply a0f|apply a0c|apply a0g|apply a0b|apply a0h|apply a0a)<;>intro h<;>try (exfalso;(try dsimp only at h);omega))|refine a0i ?_)
  all_goals (conv=>whnf)
  all_goals first
   |exact a0o rfl
   |(exfalso;omega)
 rw [if_neg h2] at e
 by_cases h3:0<cle
 .rw [if_pos h3] at e
  subst e
  refine a0p mixed a0x Tryz.func81 rfl (by kernel_rfl) (by kernel_rfl) (by kernel_rfl) ?_
  repeat' ((conv=>whnf);first|(refine a0j (c) rfl rfl rfl ?_)|((first|apply a0f|apply a0c|apply a0g|apply a0b|apply a0h|apply a0a)<;>intro h<;>try (exfalso;(try dsimp only at h);omega))|refine a0i ?_)
  all_goals (conv=>whnf)
  all_goals first
   |exact a0o rfl
   |(exfalso;omega)
 rw [if_neg h3] at e
 subst e
 refine a0p mixed a0x Tryz.func81 rfl (by kernel_rfl) (by kernel_rfl) (by kernel_rfl) ?_
 repeat' ((conv=>whnf);first|(refine a0j (c) rfl rfl rfl ?_)|((first|apply a0f|apply a0c|apply a0g|apply a0b|apply a0h|apply a0a)<;>intro h<;>try (exfalso;(try dsimp only at h);omega))|refine a0i ?_)
 all_goals (conv=>whnf)
 all_goals first
  |exact a0o rfl
  |(exfalso;omega)
theorem x0o (s:ByteArray):c0a Tryz.prog 77 [.str s] (.bool (auI s)):=by
 by_cases h:s.size<1\/16<s.size
 .rw [s0i h]
  refine a0p mixed a0x Tryz.func77 rfl (by kernel_rfl) (by kernel_rfl) (by kernel_rfl) ?_
  repeat' ((conv=>whnf);first|((first|apply a0f|apply a0c|apply a0g|apply a0b|apply a0h|apply a0a)<;>intro h<;>try (exfalso;(try dsimp only at h);omega))|refine a0i ?_)
  all_goals (conv=>whnf)
  all_goals first
   |exact a0o rfl
   |(exfalso;omega)
 refine a0p mixed a0x Tryz.func77 rfl (by kernel_rfl) (by kernel_rfl) (by kernel_rfl) ?_
 repeat' ((conv=>whnf);first|((first|apply a0f|apply a0c|apply a0g|apply a0b|apply a0h|apply a0a)<;>intro h<;>try (exfalso;(try dsimp only at h);omega))|refine a0i ?_)
 all_goals (conv=>whnf)
 all_goals first
  |(exfalso;omega)
  |skip
 refine a0z (fun k:Nat=>⟨[(0,.str s),(16,.int .i64 s.size),(17,.int .i64 k)],[],1⟩) (fun k=>k<=s.size/\f1P s k) (fun k=>s.size-k) 0 [0] [] ⟨rfl,⟨rfl,rfl,rfl,trivial⟩,trivial⟩ ⟨by omega,fun i hi=>by omega⟩ ?_
 rintro k ⟨hk,hc⟩
 repeat' ((conv=>whnf);first|((first|apply a0f|apply a0c|apply a0g|apply a0b|apply a0h|apply a0a)<;>intro h<;>try (exfalso;(try dsimp only at h);omega))|refine a0i ?_)
 all_goals (conv=>whnf)
 all_goals first
  |exact a0o (by rw [b1N (k:=k) (by omega) (by omega)];rfl)
  |exact ⟨k+1,[0],[],⟨by omega,o0Y hc (by omega)⟩,by omega,⟨rfl,⟨rfl,rfl,congrArg (fun z=>some (SV.int .i64 z)) (a0M (by omega)),trivial⟩,trivial⟩⟩
  |skip
 have e:k=s.size:=by omega
 subst e
 exact a0o (by rw [w0m (by omega) (by omega) hc];rfl)
theorem u0j (s:ByteArray):c0a Tryz.prog 78 [.str s] (.bool (f0W s)):=by
 refine a0p mixed a0x Tryz.func78 rfl (by kernel_rfl) (by kernel_rfl) (by kernel_rfl) ?_
 repeat' ((conv=>whnf);first|((first|apply a0f|apply a0c|apply a0g|apply a0b|apply a0h|apply a0a)<;>intro h<;>try (exfalso;(try dsimp only at h);omega))|refine a0i ?_)
 all_goals (conv=>whnf)
 .exact a0o (by rw [h0b (by omega)];rfl)
 .refine a0z (fun k:Nat=>⟨[(0,.str s),(8,.int .i64 s.size),(9,.int .i64 k)],[],1⟩) (fun k=>k<=s.size/\f0V s k=true) (fun k=>s.size-k) 0 [0] [] ⟨rfl,⟨rfl,rfl,rfl,trivial⟩,trivial⟩ ⟨by omega,rfl⟩ ?_
  rintro k ⟨hk,hc⟩
  repeat' ((conv=>whnf);first|((first|apply a0f|apply a0c|apply a0g|apply a0b|apply a0h|apply a0a)<;>intro h<;>try (exfalso;(try dsimp only at h);omega))|refine a0i ?_)
  all_goals (conv=>whnf)
  .exact a0o (by rw [d0m (k:=k) (by omega) (by omega)];rfl)
  .exact a0o (by rw [d0m (k:=k) (by omega) (by omega)];rfl)
  .exact ⟨k+1,[0],[],⟨by omega,g0n hc (by omega) (by omega)⟩,by omega,⟨rfl,⟨rfl,rfl,congrArg (fun z=>some (SV.int .i64 z)) (a0M (by omega)),trivial⟩,trivial⟩⟩
  .have e:k=s.size:=by omega
   subst e
   refine a0o ?_
   have:f0W s=true:=by unfold f0W;rw [hc];simp;omega
   rw [this];rfl
end
section
attribute [local irreducible] a0B a0D a0u a0Y
set_option maxHeartbeats 2000000 in
theorem f0C (a:Au):c0a Tryz.prog 50 [a.s] (.int .i64 (c0q a)):=by
 refine a0p mixed a0x Tryz.func50 rfl (by kernel_rfl) (by kernel_rfl) (by kernel_rfl) ?_
 repeat' ((conv=>whnf);first|(refine a0j (x0o _) rfl rfl rfl ?_)|(refine a0j (u0j _) rfl rfl rfl ?_)|(refine a0j (q0R _) rfl rfl rfl ?_)|(refine a0j (h0W a) rfl rfl rfl ?_)|(refine a0m (i0u a) rfl rfl rfl ?_)|((first|apply a0f|apply a0c|apply a0g|apply a0b|apply a0h|apply a0a)<;>intro h<;>try (exfalso;(try dsimp only at h);omega))|refine a0i ?_)
 all_goals (conv=>whnf)
 all_goals refine a0o ?_
 all_goals simp only [d0a,cv,SV.int.injEq,true_and]
 all_goals (try simp only [h0c,decide_eq_true_eq,decide_eq_false_iff_not] at*)
 all_goals (try simp [seq] at*)
 all_goals (unfold c0q;(repeat' split)<;>first|rfl|(exfalso;omega)|(exfalso;simp_all;done))
theorem e0B (a:Au):c0a Tryz.prog 210 [a.s] (.int .i64 (d0c a)):=by
 refine a0p mixed a0x Tryz.func210 rfl (by kernel_rfl) (by kernel_rfl) (by kernel_rfl) ?_
 repeat' ((conv=>whnf);first|(refine a0j (f0C a) rfl rfl rfl ?_)|((first|apply a0f|apply a0c|apply a0g|apply a0b|apply a0h|apply a0a)<;>intro h<;>try (exfalso;(try dsimp only at h);omega))|refine a0i ?_)
 all_goals (conv=>whnf)
 all_goals refine a0o ?_
 all_goals simp [d0a,cv,d0c, *]
theorem c0B (id cur:ByteArray) (app rev cle exp st att unt pa:Int):c0a Tryz.prog 81 [.agg [.str id,.str cur,.int .i64 app,.int .i64 rev,.int .i64 cle,.int .i64 exp,.int .i64 st,.int .i64 att,.int .i64 unt,.int .i64 pa]]
  (.agg [.str id,.str cur,.int .i64 app,.int .i64 rev,.int .i64 cle,.int .i64 exp,.int .i64 (b0M ⟨id,cur,app,rev,cle,exp,st,att,unt,pa⟩),.int .i64 att,.int .i64 unt,.int .i64 pa]):=i0u ⟨id,cur,app,rev,cle,exp,st,att,unt,pa⟩
theorem e0C (id cur:ByteArray) (app rev cle exp st att unt pa:Int):c0a Tryz.prog 80 [.agg [.str id,.str cur,.int .i64 app,.int .i64 rev,.int .i64 cle,.int .i64 exp,.int .i64 st,.int .i64 att,.int .i64 unt,.int .i64 pa]] (.int .i64 (a0Q ⟨id,cur,app,rev,cle,exp,st,att,unt,pa⟩)):=h0W ⟨id,cur,app,rev,cle,exp,st,att,unt,pa⟩
theorem q0S (id cur:ByteArray) (app rev cle exp st att unt pa:Int):c0a Tryz.prog 50 [.agg [.str id,.str cur,.int .i64 app,.int .i64 rev,.int .i64 cle,.int .i64 exp,.int .i64 st,.int .i64 att,.int .i64 unt,.int .i64 pa]] (.int .i64 (c0q ⟨id,cur,app,rev,cle,exp,st,att,unt,pa⟩)):=f0C ⟨id,cur,app,rev,cle,exp,st,att,unt,pa⟩
theorem a1r (id cur:ByteArray) (n at_ un:Int):c0a Tryz.prog 204 [.str id,.str cur,.int .i64 n,.int .i64 at_,.int .i64 un] (t2 (b1O id cur n at_ un)):=by
 refine a0p mixed a0x Tryz.func204 rfl (by kernel_rfl) (by kernel_rfl) (by kernel_rfl) ?_
 repeat' ((conv=>whnf);first|(refine a0j (q0S _ _ _ _ _ _ _ _ _ _) rfl rfl rfl ?_)|(refine a0j (c0B _ _ _ _ _ _ _ _ _ _) rfl rfl rfl ?_)|((first|apply a0f|apply a0c|apply a0g|apply a0b|apply a0h|apply a0a)<;>intro h<;>try (exfalso;(try dsimp only at h);omega))|refine a0i ?_)
 all_goals (conv=>whnf)
 all_goals refine a0o ?_
 all_goals simp only [d0a,cv] at*
 all_goals
  have e:=w0n id cur n at_ un
  rw [e.1] at h
  unfold b1O
 .rw [e.1];simp [h,Au.zero]
 .simp [h,e.2 h]
theorem u0k (a:Au) (n u:Int):c0a Tryz.prog 207 [a.s,.int .i64 n,.int .i64 u] (t2 (h0e a n u)):=by
 refine a0p mixed a0x Tryz.func207 rfl (by kernel_rfl) (by kernel_rfl) (by kernel_rfl) ?_
 repeat' ((conv=>whnf);first|(refine a0j (e0B a) rfl rfl rfl ?_)|(refine a0j (e0C _ _ _ _ _ _ _ _ _ _) rfl rfl rfl ?_)|(refine a0j (c0B _ _ _ _ _ _ _ _ _ _) rfl rfl rfl ?_)|((first|apply a0f|apply a0c|apply a0g|apply a0b|apply a0h|apply a0a)<;>intro h<;>try (exfalso;(try dsimp only at h);omega))|refine a0i ?_)
 all_goals (conv=>whnf)
 all_goals refine a0o ?_
 all_goals simp only [d0a,cv,Au.eta] at*
 .simp [h0e,Au.zero, *]
 all_goals
  obtain ⟨f,hs,hp,ho,hc,hx⟩:=d0M (by assumption)
  have f1:=f.app;have f2:=f.rev;have f3:=f.cle;have f4:=f.exp;have f5:=f.funds
  have ew:IntKind.i64.wrap (999999999999-a.app)=999999999999-a.app:=a0G (by omega) (by omega)
  unfold h0e
 .rw [if_neg (by simp [*]),if_pos (by omega)];simp [Au.zero]
 .rw [if_neg (by simp [*]),if_pos (by omega)];simp [Au.zero]
 .rw [if_neg (by simp [*]),if_neg (by omega),if_pos (by omega)];simp [Au.zero]
 .rw [if_neg (by simp [*]),if_neg (by omega),if_pos (by omega)];simp [Au.zero]
 .rw [if_neg (by simp [*]),if_neg (by omega),if_neg (by omega)]
  have e1:IntKind.i64.wrap (a.app+n)=a.app+n:=a0G (by omega) (by omega)
  rw [e1]
  have e2:b0M ⟨a.id,a.cur,a.app+n,a.rev,a.cle,a.exp,a.st,a.att,u,a.pa⟩=1:=by
   unfold b0M
   rw [h0d _ (by simp;omega) (by simp;omega) (by simp;omega) (by simp;omega) (by simp;omega) (by simp;omega) (by simp;omega) (by simp;omega)]
   simp;omega
  rw [e2];simp [hs]
theorem p0l (a:Au) (n:Int):c0a Tryz.prog 208 [a.s,.int .i64 n] (t3 (c0A a n)):=by
 refine a0p mixed a0x Tryz.func208 rfl (by kernel_rfl) (by kernel_rfl) (by kernel_rfl) ?_
 repeat' ((conv=>whnf);first|(refine a0j (e0B a) rfl rfl rfl ?_)|(refine a0j (e0C _ _ _ _ _ _ _ _ _ _) rfl rfl rfl ?_)|(refine a0j (c0B _ _ _ _ _ _ _ _ _ _) rfl rfl rfl ?_)|((first|apply a0f|apply a0c|apply a0g|apply a0b|apply a0h|apply a0a)<;>intro h<;>try (exfalso;(try dsimp only at h);omega))|refine a0i ?_)
 all_goals (conv=>whnf)
 all_goals refine a0o ?_
 all_goals simp only [d0a,cv,Au.eta] at*
 .simp [c0A,Au.zero, *]
 all_goals
  obtain ⟨f,hs,hp,ho,hc,hx⟩:=d0M (by assumption)
  have f1:=f.app;have f2:=f.rev;have f3:=f.cle;have f4:=f.exp;have f5:=f.funds;have f6:=f.pa
  unfold c0A
 .rw [if_neg (by simp [*]),if_pos (by omega)];simp [Au.zero]
 .rw [if_neg (by simp [*]),if_pos (by omega)];simp [Au.zero]
 .rw [if_neg (by simp [*]),if_neg (by omega)]
  have e1:IntKind.i64.wrap (a.rev+a0Q a)=a.rev+a0Q a:=a0G (by omega) (by omega)
  rw [e1];simp [h]
 .rw [if_neg (by simp [*]),if_neg (by omega)]
  have e1:IntKind.i64.wrap (a.rev+n)=a.rev+n:=a0G (by omega) (by omega)
  rw [e1];simp [h]
theorem u0l (a:Au) (n:Int) (b:Bool):c0a Tryz.prog 234 [a.s,.int .i64 n,.bool b] (t4 (i0r a n b)):=by
 refine a0p mixed a0x Tryz.func234 rfl (by kernel_rfl) (by kernel_rfl) (by kernel_rfl) ?_
 repeat' ((conv=>whnf);first|(refine a0j (e0B a) rfl rfl rfl ?_)|(refine a0j (e0C _ _ _ _ _ _ _ _ _ _) rfl rfl rfl ?_)|(refine a0j (c0B _ _ _ _ _ _ _ _ _ _) rfl rfl rfl ?_)|((first|apply a0f|apply a0c|apply a0g|apply a0b|apply a0h|apply a0a)<;>intro h<;>try (exfalso;(try dsimp only at h);omega))|refine a0i ?_)
 all_goals (conv=>whnf)
 all_goals refine a0o ?_
 all_goals simp only [d0a,cv,Au.eta] at*
 .simp [i0r,Au.zero, *]
 all_goals
  obtain ⟨f,hs,hp,ho,hc,hx⟩:=d0M (by assumption)
  have f1:=f.app;have f2:=f.rev;have f3:=f.cle;have f4:=f.exp;have f5:=f.funds;have f6:=f.pa
  unfold i0r
 .rw [if_neg (by simp [*]),if_pos (by omega)];simp [Au.zero]
 .rw [if_neg (by simp [*]),if_pos (by omega)];simp [Au.zero]
 .rw [if_neg (by simp [*]),if_neg (by omega),if_pos (by omega)];simp [Au.zero]
 .rw [if_neg (by simp [*]),if_neg (by omega),if_neg (by omega)]
  have hm:0<min n (a0Q a)/\min n (a0Q a)<=a0Q a:=by omega
  have e1:IntKind.i64.wrap (a.cle+min n (a0Q a))=a.cle+min n (a0Q a):=a0G (by omega) (by omega)
  have e2:IntKind.i64.wrap (a.pa+1)=a.pa+1:=a0G (by omega) (by omega)
  rw [e1,e2]
  have e3:a0Q ⟨a.id,a.cur,a.app,a.rev,a.cle+min n (a0Q a),a.exp,a.st,a.att,a.unt,a.pa+1⟩=a0Q a-min n (a0Q a):=by
   rw [h0d _ (by simp;omega) (by simp;omega) (by simp;omega) (by simp;omega) (by simp;omega) (by simp;omega) (by simp;omega) (by simp;omega)]
   simp only;omega
  rw [e3]
  have e4:IntKind.i64.wrap (a.rev+(a0Q a-min n (a0Q a)))=a.rev+(a0Q a-min n (a0Q a)):=a0G (by omega) (by omega)
  rw [e4]
  simp [h]
 .rw [if_neg (by simp [*]),if_neg (by omega),if_neg (by omega)]
  have hm:0<min n (a0Q a)/\min n (a0Q a)<=a0Q a:=by omega
  have e1:IntKind.i64.wrap (a.cle+min n (a0Q a))=a.cle+min n (a0Q a):=a0G (by omega) (by omega)
  have e2:IntKind.i64.wrap (a.pa+1)=a.pa+1:=a0G (by omega) (by omega)
  rw [e1,e2]
  simp [h]
theorem q0T (a:Au) (n:Int):c0a Tryz.prog 209 [a.s,.int .i64 n] (t3 (d0C a n)):=by
 refine a0p mixed a0x Tryz.func209 rfl (by kernel_rfl) (by kernel_rfl) (by kernel_rfl) ?_
 repeat' ((conv=>whnf);first|(refine a0j (e0B a) rfl rfl rfl ?_)|(refine a0j (e0C _ _ _ _ _ _ _ _ _ _) rfl rfl rfl ?_)|(refine a0j (c0B _ _ _ _ _ _ _ _ _ _) rfl rfl rfl ?_)|((first|apply a0f|apply a0c|apply a0g|apply a0b|apply a0h|apply a0a)<;>intro h<;>try (exfalso;(try dsimp only at h);omega))|refine a0i ?_)
 all_goals (conv=>whnf)
 all_goals refine a0o ?_
 all_goals simp only [d0a,cv,Au.eta] at*
 .simp [d0C,Au.zero, *]
 all_goals
  obtain ⟨f,hs,hp,ho,hc,hx⟩:=d0M (by assumption)
  have f1:=f.app;have f2:=f.rev;have f3:=f.cle;have f4:=f.exp;have f5:=f.funds;have f6:=f.pa
  unfold d0C
 .rw [if_neg (by simp [*]),if_pos (by omega)];simp [Au.zero]
 .rw [if_neg (by simp [*]),if_neg (by omega)]
  have e1:IntKind.i64.wrap (a.exp+a0Q a)=a.exp+a0Q a:=a0G (by omega) (by omega)
  rw [e1]
end
section
attribute [local irreducible] a0B a0D a0u a0Y
theorem d1W {s:ByteArray} {k:Nat} (h:k<s.size) (hc:¬((97<=a0r s (k:Int)/\a0r s (k:Int)<=122)\/(65<=a0r s (k:Int)/\a0r s (k:Int)<=90)\/(48<=a0r s (k:Int)/\a0r s (k:Int)<=57)\/a0r s (k:Int)=95\/a0r s (k:Int)=45\/a0r s (k:Int)=58)):h0V s=false:=by
 cases e:h0V s with
 |false=>rfl
 |true=>
  unfold h0V at e
  rw [Bool.and_eq_true,List.all_eq_true] at e
  exact absurd (of_decide_eq_true (e.2 k (by simpa using h))) hc
theorem x0p {s:ByteArray} (h:s.size<1\/40<s.size):h0V s=false:=by
 cases e:h0V s with
 |false=>rfl
 |true=>have:=i0N e;omega
def a1s (s:ByteArray) (k:Nat):Prop:=∀i,i<k->g1s (a0r s (i:Int))=true
theorem u0m {s:ByteArray} {k:Nat} (h:a1s s k) (hc:(97<=a0r s (k:Int)/\a0r s (k:Int)<=122)\/(65<=a0r s (k:Int)/\a0r s (k:Int)<=90)\/(48<=a0r s (k:Int)/\a0r s (k:Int)<=57)\/a0r s (k:Int)=95\/a0r s (k:Int)=45\/a0r s (k:Int)=58):a1s s (k+1):=by
 intro i hi
 by_cases e:i=k
 .subst e;unfold g1s;exact decide_eq_true hc
 .exact h i (by omega)
theorem a1t {s:ByteArray} (h1:1<=s.size) (h2:s.size<=40) (h:a1s s s.size):h0V s=true:=by
 unfold h0V
 rw [decide_eq_true ⟨h1,h2⟩,Bool.true_and,List.all_eq_true]
 exact fun i hi=>h i (by simpa using hi)
theorem m0c (s:ByteArray):c0a Tryz.prog 64 [.str s] (.bool (h0V s)):=by
 by_cases h:s.size<1\/40<s.size
 .rw [x0p h]
  refine a0p mixed a0x Tryz.func64 rfl (by kernel_rfl) (by kernel_rfl) (by kernel_rfl) ?_
  repeat' ((conv=>whnf);first|((first|apply a0f|apply a0c|apply a0g|apply a0b|apply a0h|apply a0a)<;>intro h<;>try (exfalso;(try dsimp only at h);omega))|refine a0i ?_)
  all_goals (conv=>whnf)
  all_goals first
   |exact a0o rfl
   |(exfalso;omega)
 refine a0p mixed a0x Tryz.func64 rfl (by kernel_rfl) (by kernel_rfl) (by kernel_rfl) ?_
 repeat' ((conv=>whnf);first|((first|apply a0f|apply a0c|apply a0g|apply a0b|apply a0h|apply a0a)<;>intro h<;>try (exfalso;(try dsimp only at h);omega))|refine a0i ?_)
 all_goals (conv=>whnf)
 all_goals first
  |(exfalso;omega)
  |skip
 refine a0z (fun k:Nat=>⟨[(0,.str s),(3,.int .i64 k)],[],1⟩) (fun k=>k<=s.size/\a1s s k) (fun k=>s.size-k) 0 [0] [] ⟨rfl,⟨rfl,rfl,trivial⟩,trivial⟩ ⟨by omega,fun i hi=>by omega⟩ ?_
 rintro k ⟨hk,hc⟩
 repeat' ((conv=>whnf);first|((first|apply a0f|apply a0c|apply a0g|apply a0b|apply a0h|apply a0a)<;>intro h<;>try (exfalso;(try dsimp only at h);omega))|refine a0i ?_)
 all_goals (conv=>whnf)
 all_goals first
  |exact a0o (by rw [d1W (k:=k) (by omega) (by omega)];rfl)
  |exact ⟨k+1,[0],[],⟨by omega,u0m hc (by omega)⟩,by omega,⟨rfl,⟨rfl,congrArg (fun z=>some (SV.int .i64 z)) (a0M (by omega)),trivial⟩,trivial⟩⟩
  |skip
 have e:k=s.size:=by omega
 subst e
 exact a0o (by rw [a1t (by omega) (by omega) hc];rfl)
abbrev u0n (n:Nat) (R:List Lp):Blk:= .obj (.map true false n [.strs (R.map Lp.a),.strs (R.map Lp.c)] [.sc (.ints .i64 (R.map Lp.n))] (List.range n) n)
theorem k0w {α β:Type} (f:α->β) (i:Nat) (x:α) (l:List α):(b0j i x l).map f=b0j i (f x) (l.map f):=by
 unfold b0j
 by_cases h:i<l.length
 .rw [if_pos h,if_pos (by simpa using h),List.map_set]
 .rw [if_neg h,if_neg (by simpa using h)];simp
theorem x0q {ix r:Nat} (h:ix<=r):0<=(((if ix<r then (List.range r).getD ix 0 else r:Nat)):Int)/\(((if ix<r then (List.range r).getD ix 0 else r:Nat)):Int).toNat∈(if ix<r then List.range r else List.range r++ [r]):=by
 refine ⟨Int.natCast_nonneg _,?_⟩
 rw [Int.toNat_natCast]
 by_cases e:ix<r
 .rw [if_pos e,if_pos e]
  simp [List.getD,e]
 .rw [if_neg e,if_neg e];simp
theorem b1Y {i r:Nat} (h:i<r):(List.range r).idxOf i=i:=by
 have hl:(List.range r).idxOf i<(List.range r).length:=List.idxOf_lt_length_of_mem (by simpa using h)
 have h2:=List.getElem_idxOf hl
 rwa [List.getElem_range] at h2
theorem s0F (R:List Lp) (a c:ByteArray):(R.map Lp.n).getD (c0k (R.map Lp.a) (R.map Lp.c) a c) 0=lgV R a c:=f1g R _
theorem g1B {R:List Lp} {r:Nat} (hR:R.length=r) {a c:ByteArray} {v m:Int} (hv:v=lgV R a c+m) {ix:Nat} (hix:c0k (R.map Lp.a) (R.map Lp.c) a c=ix):
  (some (HB.one false (.obj (.map true false (if ix<r then r else r+1) [.strs (b0j ix a (R.map Lp.a)),.strs (b0j ix c (R.map Lp.c))] [.sc (.ints .i64 (b0j ((if ix<r then List.range r else List.range r++ [r]).idxOf (((if ix<r then (List.range r).getD ix 0 else r:Nat)):Int).toNat) v (b0j ix ((R.map Lp.n).getD ix 0) (R.map Lp.n))))] (if ix<r then List.range r else List.range r++ [r]) (if ix<r then r else r+1)))):Option HB)
   =some (.one false (u0n (f0h R ⟨a,m,c⟩).length (f0h R ⟨a,m,c⟩))):=by
 subst hv
 have hl:ix<=r:=by rw [<-hix,<-hR];exact s0u a c R
 have e:f0h R ⟨a,m,c⟩=b0j ix ⟨a,lgV R a c+m,c⟩ R:=by unfold f0h lgI;rw [hix]
 rw [e,d0i,hR]
 have h1:(if ix<r then List.range r else List.range r++ [r])=List.range (if ix<r then r else r+1):=by
  split
  .rfl
  .exact List.range_succ.symm
 have h2:(List.range (if ix<r then r else r+1)).idxOf (((if ix<r then (List.range r).getD ix 0 else r:Nat)):Int).toNat=ix:=by
  rw [Int.toNat_natCast]
  by_cases hx:ix<r
  .rw [if_pos hx,if_pos hx,show (List.range r).getD ix 0=ix by simp [List.getD,hx],b1Y hx]
  .have:ix=r:=by omega
   rw [if_neg hx,if_neg hx,b1Y (by omega),this]
 have h3:b0j ix (lgV R a c+m) (b0j ix ((R.map Lp.n).getD ix 0) (R.map Lp.n))=b0j ix (lgV R a c+m) (R.map Lp.n):=by
  have hn:(R.map Lp.n).length=r:=by rw [List.length_map,hR]
  by_cases hx:ix<r
  .rw [h0j (i:=ix) (l:=R.map Lp.n) (by omega),h0j (by rw [List.length_set];omega),h0j (i:=ix) (l:=R.map Lp.n) (by omega),List.set_set]
  .have:ix=r:=by omega
   subst this
   rw [c0h hn,c0h hn,h0j (by simp [hn]),List.set_append_right _ _ (by omega)]
   simp [hn]
 rw [h1,h2,h3]
 unfold u0n
 rw [k0w,k0w,k0w]
theorem p0m (L:List Lp) (k:Nat):L.getD k lp0=⟨(L.map Lp.a).getD k ⟨#[]⟩,(L.map Lp.n).getD k 0,(L.map Lp.c).getD k ⟨#[]⟩⟩:=by
 rw [i1V,f1g,h1J]
theorem a1u {L:List Lp} (hb:y0K L) (k:Nat): -4503599627370496<=(L.getD k lp0).n/\(L.getD k lp0).n<=4503599627370496:=by
 rcases Nat.lt_or_ge k L.length with h|h
 .rw [List.getD,List.getElem?_eq_getElem h];exact hb _ (List.getElem_mem h)
 .rw [List.getD,List.getElem?_eq_none h];exact ⟨by decide,by decide⟩
theorem m0d (L:List Lp) (n:Nat) (hn:L.length=n) (h16:n<=16) (hb:y0K L):FC Tryz.prog 2 246 [.sl 1 0 0 n] [(1,some (.one true (poB n L)))] (a0s (.map 2 0) [(2,some (.one false (u0n (chR L n).length (chR L n))))] 3):=by
 unfold poB
 refine a0p mixed a0x Tryz.func246 rfl (by kernel_rfl) (by kernel_rfl) (by kernel_rfl) ?_
 repeat' ((conv=>whnf);first|((first|apply a0f|apply a0c|apply a0g|apply a0b|apply a0h|apply a0a)<;>intro h<;>try (exfalso;(try dsimp only at h);omega))|refine a0i ?_)
 all_goals (conv=>whnf)
 refine a0z (fun k:Nat=>⟨[(3,.map 2 0),(7,.sl 1 0 0 n),(8,.int .i64 n),(9,.int .i64 k)],[(1,some (.one true (poB n L))),(2,some (.one false (u0n (chR L k).length (chR L k))))],3⟩) (fun k=>k<=n) (fun k=>n-k) 0 [0,1,2] [] ⟨rfl,⟨rfl,rfl,rfl,rfl,trivial⟩,⟨rfl,rfl,trivial⟩⟩ (Nat.zero_le _) ?_
 intro k hk
 unfold poB
 by_cases hk2:k<n
 .have hv0:=x0d (k0u hb k) ((L.map Lp.a).getD k ⟨#[]⟩) ((L.map Lp.c).getD k ⟨#[]⟩)
  rw [<-g0q _ _ k (by omega),List.length_take] at hv0
  have hb1:=a1u hb k
  rw [<-f1g] at hb1
  have hst:chR L (k+1)=f0h (chR L k) ⟨(L.map Lp.a).getD k ⟨#[]⟩,(L.map Lp.n).getD k 0,(L.map Lp.c).getD k ⟨#[]⟩⟩:=by rw [<-p0m];rfl
  have hl:=s0u ((L.map Lp.a).getD k ⟨#[]⟩) ((L.map Lp.c).getD k ⟨#[]⟩) (chR L k)
  have hrow:=g1B (R:=chR L k) rfl (a:=(L.map Lp.a).getD k ⟨#[]⟩) (c:=(L.map Lp.c).getD k ⟨#[]⟩) (m:=(L.map Lp.n).getD k 0) (v:=IntKind.i64.wrap (((chR L k).map Lp.n).getD (c0k ((chR L k).map Lp.a) ((chR L k).map Lp.c) ((L.map Lp.a).getD k ⟨#[]⟩) ((L.map Lp.c).getD k ⟨#[]⟩)) 0+(L.map Lp.n).getD k 0)) (by rw [s0F];exact a0G (by omega) (by omega)) rfl
  rw [<-hst] at hrow
  repeat' ((conv=>whnf);first|(refine ⟨x0q hl,?_⟩)|((first|apply a0f|apply a0c|apply a0g|apply a0b|apply a0h|apply a0a)<;>intro h<;>try (exfalso;(try dsimp only at h);omega))|refine a0i ?_)
  all_goals (conv=>whnf)
  all_goals first
   |exact ⟨k+1,[0,1,2],[],hk2,(show n-(k+1)<n-k by omega),⟨rfl,⟨rfl,rfl,rfl,congrArg (fun z=>some (SV.int .i64 z)) (a0M (by omega)),trivial⟩,⟨rfl,hrow,trivial⟩⟩⟩
   |(exfalso;omega)
 have ek:k=n:=by omega
 subst ek
 repeat' ((conv=>whnf);first|((first|apply a0f|apply a0c|apply a0g|apply a0b|apply a0h|apply a0a)<;>intro h<;>try (exfalso;(try dsimp only at h);omega))|refine a0i ?_)
 all_goals (conv=>whnf)
 all_goals first
  |exact a0n (l:= [0,1,2]) rfl rfl ⟨rfl,trivial⟩ (a0d a0k)
  |(exfalso;omega)
theorem u0o {L:List Lp} {k n:Nat} {C:List ByteArray} {W:List Int} (hI:LgM L k n C W) (c:ByteArray):W.getD (a0A C c) 0=lgC (L.take k) c:=by
 rw [<-hI.all c]
 split
 .rfl
 .rename_i h
  rw [List.getD,List.getElem?_eq_none (by have:=hI.w;omega)];rfl
theorem x0r (i m:Nat):(if i<m then List.range m else List.range m++ [m])=List.range (if i<m then m else m+1):=by
 split
 .rfl
 .exact List.range_succ.symm
theorem q0U (L:List Lp) (n:Nat) (hn:L.length=n) (h16:n<=16) (hb:y0K L):FC Tryz.prog 2 251 [.sl 1 0 0 n] [(1,some (.one true (poB n L)))] (a0s (.bool (h0U L)) [] 2):=by
 unfold poB
 refine a0p mixed a0x Tryz.func251 rfl (by kernel_rfl) (by kernel_rfl) (by kernel_rfl) ?_
 repeat' ((conv=>whnf);first|((first|apply a0f|apply a0c|apply a0g|apply a0b|apply a0h|apply a0a)<;>intro h<;>try (exfalso;(try dsimp only at h);omega))|refine a0i ?_)
 all_goals (conv=>whnf)
 refine a0z (fun x:Nat×Nat×List ByteArray×List Int=>⟨[(3,.map 2 0),(9,.sl 1 0 0 n),(10,.int .i64 n),(11,.int .i64 x.1)],[(1,some (.one true (poB n L))),(2,some (.one false (.obj (.map false false x.2.1 [.strs x.2.2.1] [.sc (.ints .i64 x.2.2.2)] (List.range x.2.1) x.2.1))))],3⟩) (fun x=>x.1<=n/\x.2.1<=x.1/\LgM L x.1 x.2.1 x.2.2.1 x.2.2.2) (fun x=>n-x.1) (0,0,[],[]) [0,1,2] [] ⟨rfl,⟨rfl,rfl,rfl,rfl,trivial⟩,⟨rfl,rfl,trivial⟩⟩ ⟨Nat.zero_le _,Nat.le_refl _,a1j L⟩ ?_
 rintro ⟨k,m,C,W⟩ ⟨hk,hm,hI⟩
 dsimp only at hk hm hI⊢
 unfold poB
 by_cases hk2:k<n
 .have hv0:=g1q (k0u hb k) ((L.map Lp.c).getD k ⟨#[]⟩)
  rw [List.length_take,Nat.min_eq_left (by omega)] at hv0
  have hb1:=a1u hb k
  have hw:=u0o hI ((L.map Lp.c).getD k ⟨#[]⟩)
  have hvv:IntKind.i64.wrap (W.getD (a0A C ((L.map Lp.c).getD k ⟨#[]⟩)) 0+(L.map Lp.n).getD k 0)=lgC (L.take k) (L.getD k lp0).c+(L.getD k lp0).n:=by
   rw [hw,f1g,<-h1J];exact a0G (by omega) (by omega)
  have hI2:=a1k hI (by omega) _ hvv
  have hc0:=h1J L k
  rw [<-hc0] at hI2
  have hst:=x0r (a0A C ((L.map Lp.c).getD k ⟨#[]⟩)) m
  repeat' ((conv=>whnf);first|((first|apply a0f|apply a0c|apply a0g|apply a0b|apply a0h|apply a0a)<;>intro h<;>try (exfalso;(try dsimp only at h);omega))|refine a0i ?_)
  all_goals (conv=>whnf)
  all_goals try (exfalso;omega)
  refine ⟨(k+1,(if a0A C ((L.map Lp.c).getD k ⟨#[]⟩)<m then m else m+1),b0j (a0A C ((L.map Lp.c).getD k ⟨#[]⟩)) ((L.map Lp.c).getD k ⟨#[]⟩) C,b0j (a0A C ((L.map Lp.c).getD k ⟨#[]⟩)) (IntKind.i64.wrap (W.getD (a0A C ((L.map Lp.c).getD k ⟨#[]⟩)) 0+(L.map Lp.n).getD k 0)) W),[0,1,2],[],⟨hk2,(by dsimp only;split<;>omega),hI2⟩,(show n-(k+1)<n-k by omega),⟨rfl,⟨rfl,rfl,rfl,congrArg (fun z=>some (SV.int .i64 z)) (a0M (by omega)),trivial⟩,⟨rfl,?_,trivial⟩⟩⟩
  dsimp only
  rw [<-hst]
  rfl
 have ek:k=n:=by omega
 subst ek
 have hI2:LgM L L.length m C W:=by rw [hn];exact hI
 repeat' ((conv=>whnf);first|((first|apply a0f|apply a0c|apply a0g|apply a0b|apply a0h|apply a0a)<;>intro h<;>try (exfalso;(try dsimp only at h);omega))|refine a0i ?_)
 all_goals (conv=>whnf)
 all_goals first
  |(exfalso;omega)
  |skip
 refine a0z (fun sn:List Nat=>⟨[(3,.map 2 0),(26,.ptr 3 0 0 0)],[(2,some (.one false (.obj (.map false false m [.strs C] [.sc (.ints .i64 W)] (List.range m) m)))),(3,some (.one false (.obj (.iter 2 0 (List.range m) m sn))))],4⟩) (fun sn=>sn.Nodup/\(∀i∈sn,i<m)/\∀i∈sn,W.getD i 0=0) (fun sn=>m-sn.length) [] [0,1,2,3] [] ⟨rfl,⟨rfl,rfl,trivial⟩,⟨rfl,rfl,trivial⟩⟩ ⟨List.nodup_nil,by simp,by simp⟩ ?_
 rintro sn ⟨hd,hl,hz⟩
 repeat' ((conv=>whnf);first|(refine ⟨⟨rfl,rfl⟩,fun x hx hnx=> ?_,fun hall=> ?_⟩)|((first|apply a0f|apply a0c|apply a0g|apply a0b|apply a0h|apply a0a)<;>intro h<;>try (exfalso;(try dsimp only at h);omega))|refine a0i ?_)
 all_goals (conv=>whnf)
 .refine a0n (l:= [0,1]) rfl ?_ trivial a0k
  rw [g1p hI2 hx h];rfl
 .have:=c0z hd hl hx hnx
  refine ⟨x::sn,[0,1,2,3],[],⟨List.nodup_cons.2 ⟨hnx,hd⟩,fun y hy=> ?_,fun y hy=> ?_⟩,by simp only [List.length_cons];omega,⟨rfl,⟨rfl,rfl,trivial⟩,⟨rfl,rfl,trivial⟩⟩⟩
  .rcases List.mem_cons.1 hy with rfl|hy
   .exact hx
   .exact hl y hy
  .rcases List.mem_cons.1 hy with rfl|hy
   .exact h
   .exact hz y hy
 .refine a0n (l:= [0,1]) rfl ?_ trivial a0k
  rw [i1l hI2 (fun i hi=>hz i (hall i hi))];rfl
end
section
open Go.RowKit Go.Sy Go.Proofs
def a1v (w:World) (e:TypeId) (v:Value) (s:ByteArray):Prop:=
 (v= .slice none 0 0/\s=⟨#[]⟩)\/∃g cap cur,v= .slice (some ⟨g,0,none⟩) s.size cap/\w.heap[g]?=some (.cells cur e (0,0))/\cur.size=cap/\s.size<=cap/\cap<=maxLen/\cur.toList.take s.size=Lib.strCells s
def x0s (w w':World) (e:TypeId) (v v':Value) (s:ByteArray):Prop:=
 ∃g cap cur,v'= .slice (some ⟨g,0,none⟩) s.size cap/\w'.heap[g]?=some (.cells cur e (0,0))/\cur.size=cap/\s.size<=cap/\cap<=maxLen/\cur.toList.take s.size=Lib.strCells s/\(w.heap.size<=g\/v.ownBlock=some g)
theorem f0i (a b:ByteArray):Lib.strCells (a++b)=Lib.strCells a++Lib.strCells b:=by
 rw [Lib.strCells_eq,Lib.strCells_eq,Lib.strCells_eq,<-Lib.byteCells_append];simp
theorem d1X {P:Program} (w:World) (t u ty e:TypeId) (i:TypeInfo) (ht:P.underlying t=some (.slice e)) (hu:P.underlying u=some .string) (hi:P.info? e=some i) (hz:i.zero=some (.int .u8 0)) (hsize:i.size=1) (hby:i.bytes=1)
  (v:Value) (s0 s:ByteArray) (hv:a1v w e v s0) (h0:0<s.size) (hb:s0.size+s.size<=1000000000):
  ∃v' w',(Builtin.append_ #[t,u] ty #[v,.string s]).run P w= .ok v' w'/\x0s w w' e v v' (s0++s)/\w.grownBy w' v.ownBlock:=by
 have hsz:(s0++s).size=s0.size+s.size:=by simp
 have hcl:∀x:ByteArray,(Lib.strCells x).length=x.size:=Lib.strCells_length
 have mx:maxLen=maxLen:=rfl
 have grown:∀(W:World) (xs:List Value) (n old:Nat),W.heap.size=w.heap.size->xs=Lib.strCells (s0++s)->n=s0.size+s.size->∀cur:Array Value,cur=xs.toArray++Builtin.zeroCells (Value.int .u8 0).cells (grownCap w n old e-n)->
   cur.size=grownCap w n old e/\(s0++s).size<=grownCap w n old e/\grownCap w n old e<=maxLen/\cur.toList.take (s0++s).size=Lib.strCells (s0++s):=by
  intro W xs n old _ hxs hn cur hcur
  have hge:=grownCap_ge w n old e
  have hcm:grownCap w n old e<=maxLen:=grownCap_le_maxLen w n old e (by unfold maxLen;omega)
  have hz1:(Value.int IntKind.u8 0).cells.size=1:=rfl
  refine ⟨?_,by omega,hcm,?_⟩
  .rw [hcur,hxs]
   simp only [Array.size_append,List.size_toArray,size_zeroCells,hz1,hcl,hsz]
   omega
  .rw [hcur,hxs]
   simp only [Array.toList_append]
   rw [<-hcl (s0++s)]
   exact List.take_left
 rcases hv with ⟨rfl,rfl⟩|⟨g,cap,cur,rfl,hg,hcs,hnc,hcm,htake⟩
 .have hr:=run_append_nil_string (P:=P) w t u ty e i (.int .u8 0) ht hu hi hz s (by omega) (by omega) (by rw [hby];omega)
  have e1:(s.data.map fun b=>Value.int .u8 b.toNat)=(Lib.strCells s).toArray:=by
   apply Array.ext'
   simp [Lib.strCells]
  rw [e1] at hr
  have hs:(⟨#[]⟩:ByteArray)++s=s:=by apply ByteArray.ext;simp
  obtain ⟨k1,k2,k3,k4⟩:=grown w (Lib.strCells s) s.size 0 rfl (by rw [hs]) (by show s.size=0+s.size;omega) _ rfl
  rw [hs] at k2 k4
  refine ⟨_,_,hr,⟨w.heap.size,_,_,by rw [hs],heap_alloc_new w.drew _,k1,by rw [hs];exact k2,k3,by rw [hs];exact k4,.inl (Nat.le_refl _)⟩,⟨rfl,rfl,rfl,by simp,fun k hk _=>heap_alloc_old w.drew _ hk⟩⟩
 .by_cases hroom:s0.size+s.size<=cap
  .have hr:=Lib.run_append_room_string (P:=P) w t u ty e i ht hu hi hsize g s0.size cap cur hg s hroom (by omega)
   refine ⟨_,_,hr,⟨g,cap,_,by rw [hsz],setRow_heap w g cur _ e _ hg,?_,by rw [hsz];exact hroom,hcm,?_,.inr rfl⟩,⟨rfl,rfl,rfl,by simp,fun k _ hk=>setRow_other w g k _ (fun e=>hk (by simp [Value.ownBlock,e]))⟩⟩
   .simp only [List.size_toArray,List.length_append,List.length_take,List.length_drop,Array.length_toList,hcl]
    omega
   .rw [htake,<-f0i,<-hcl (s0++s)]
    exact List.take_left
  .have holds:∀j u,(Lib.strCells s0)[j]?=some u->w.cell? ((⟨g,0,none⟩:Addr).add j)=some u:=by
    intro j u hj
    rw [<-htake,List.getElem?_take] at hj
    split at hj
    .have ea:((⟨g,0,none⟩:Addr).add j)=⟨g,j,none⟩:=by
      unfold Addr.add
      split
      .rename_i e;subst e;rfl
      .simp
     rw [ea,Lib.cell_of_heap hg]
     simpa using hj
    .cases hj
   have hr:=Lib.run_append_grow_string (P:=P) w t u ty e i (.int .u8 0) ht hu hi hz ⟨g,0,none⟩ s0.size cap (Lib.strCells s0) (by rw [hsize,hcl];simp) holds s (by omega) (by omega) (by rw [hby];exact growslice_fits (by omega) (by omega))
   obtain ⟨k1,k2,k3,k4⟩:=grown w (Lib.strCells (s0++s)) (s0.size+s.size) cap rfl rfl rfl _ rfl
   have e2:(Lib.strCells s0).toArray++(Lib.strCells s).toArray=(Lib.strCells (s0++s)).toArray:=by rw [f0i];simp
   rw [e2] at hr
   exact ⟨_,_,hr,⟨w.heap.size,_,_,by rw [hsz],heap_alloc_new w.drew _,k1,k2,k3,k4,.inl (Nat.le_refl _)⟩,⟨rfl,rfl,rfl,by simp,fun k hk _=>heap_alloc_old w.drew _ hk⟩⟩
theorem u0p {P:Program} {ops:Array Oper} {rest:List Oper} {o:Oper} {a:Act} {Q:Exit->Act->World->Prop} {w:World} (hgd:o.guard=none) (sl x:Operand) (t u:TypeId)
  (ho:o.op= .call { callee:= .builtin .append,args:= #[sl,x],argTypes:= #[t,u]})
  (e:TypeId) (i:TypeInfo) (ht:P.underlying t=some (.slice e)) (hu:P.underlying u=some .string) (hi:P.info? e=some i) (hz:i.zero=some (.int .u8 0))
  (hsize:i.size=1) (hby:i.bytes=1)
  (v:Value) (s0 s:ByteArray) (hs:a.eval sl=v) (hv:a1v w e v s0) (hx:a.eval x= .string s) (h0:0<s.size) (hb:s0.size+s.size<=1000000000)
  (h:∀v' w',x0s w w' e v v' (s0++s)->w.grownBy w' v.ownBlock->wpList P ops Q rest (a.put o.dst v') w'):wpList P ops Q (o::rest) a w:=by
 refine wpList_plain hgd fun K hK=> ?_
 obtain ⟨v',w',hr,h2,h3⟩:=d1X (P:=P) w t u o.type e i ht hu hi hz hsize hby v s0 s hv h0 hb
 unfold Oper.wp execOp
 simp only [ho,resolve,invoke,builtin,Sem.run_bind,Sem.run_pure,Result.andThen_ok,List.map_toArray,List.map_cons,List.map_nil,hs,hx,hr]
 exact hK _ _ (h v' w' h2 h3)
theorem b1Z:(Tryz.prog.info? 70).map (·.size)=some 2:=by kernel_rfl
theorem g1C:liesAt Tryz.prog Tryz.prog.depth 70 (2/Tryz.prog.cellsOf 70) 0 70 1=true:=by kernel_rfl
theorem d1Y:Tryz.prog.underlying 67=some (.pointer 70):=by kernel_rfl
theorem g1D:Tryz.prog.underlying 153=some .unsafePointer:=by kernel_rfl
theorem j1l:Tryz.prog.underlying 68=some (.slice 5):=by kernel_rfl
theorem i1r:Tryz.prog.underlying 9=some .string:=by kernel_rfl
theorem j1m:(Tryz.prog.info? 5).map (fun i=>(i.zero,i.size,i.bytes))=some (some (.int .u8 0),1,1):=by kernel_rfl
set_option maxHeartbeats 1000000 in
theorem i0B (b:Nat) (w:World) (h0:w.cell? ⟨b,0,none⟩=some (.pointer (some ⟨b,0,none⟩))):
  Calls Tryz.prog 49 #[.pointer (some ⟨b,0,none⟩)] w fun e w'=>e= .returned (.tuple #[])/\w'=w:=by
 obtain ⟨j,hj,_⟩:=Option.map_eq_some_iff.1 b1Z
 go_enter Tryz.func49,Tryz.ntmps49
 go_wp2
 rw [Lib.run_neq_ptr_same w _ d1Y hj]
 go_wp2
 go_end0
 exact ⟨rfl,rfl⟩
set_option maxHeartbeats 1000000 in
theorem h0X (b:Nat) (w:World) (h0:w.cell? ⟨b,0,none⟩=some (.pointer none)) (hsh:w.shape? b=some (70,2)) (hfz:w.frozen? ⟨b,0,none⟩=false):
  Calls Tryz.prog 49 #[.pointer (some ⟨b,0,none⟩)] w fun e w'=>e= .returned (.tuple #[])/\w'=w.setCell ⟨b,0,none⟩ (.pointer (some ⟨b,0,none⟩)):=by
 obtain ⟨j,hj,hjs⟩:=Option.map_eq_some_iff.1 b1Z
 go_enter Tryz.func49,Tryz.ntmps49
 go_wp2
 rw [Lib.run_to_unsafe w ⟨b,0,none⟩ d1Y g1D hj (by rw [hjs];decide) hsh (Nat.zero_lt_succ 1)]
 simp only [Result.andThen]
 rw [Oper.upon_value]
 go_wp2
 rw [run_callFunc_extern Tryz.func76 (by kernel_rfl) (by kernel_rfl) (by kernel_rfl) (e:=Extern.AbiNoEscape.same) (by kernel_rfl)]
 rw [Lib.run_noEscape]
 simp only [Result.andThen]
 rw [Oper.upon_value]
 go_wp2
 rw [Lib.run_from_unsafe w ⟨b,0,none⟩ g1D d1Y hj hsh g1C]
 simp only [Result.andThen]
 rw [Oper.upon_value]
 go_wp2
 go_end0
 exact ⟨rfl,rfl⟩
def a1w (B:Nat->Prop) (w w':World):Prop:=w'.os=w.os/\w'.tape=w.tape/\w'.output=w.output/\w.heap.size<=w'.heap.size/\∀k,k<w.heap.size->¬B k->w'.heap[k]?=w.heap[k]?
set_option maxHeartbeats 2000000 in
theorem h0l (b:Nat) (p v:Value) (s0 s:ByteArray) (w:World) (hb:w.heap[b]?=some (.cells #[p,v] 70 (0,0))) (hp:p= .pointer none\/p= .pointer (some ⟨b,0,none⟩)) (hv:a1v w 5 v s0) (hne:v.ownBlock≠some b) (h0:0<s.size) (hsz:s0.size+s.size<=1000000000):
  Calls Tryz.prog 22 #[.pointer (some ⟨b,0,none⟩),.string s] w fun e w'=>e= .returned (.tuple #[.int .i64 s.size,.nilIface])/\∃v',w'.heap[b]?=some (.cells #[.pointer (some ⟨b,0,none⟩),v'] 70 (0,0))/\x0s w w' 5 v v' (s0++s)/\a1w (fun k=>k=b\/v.ownBlock=some k) w w':=by
 obtain ⟨i0,hi,hi3⟩:=Option.map_eq_some_iff.1 j1m
 simp only [Prod.mk.injEq] at hi3
 obtain ⟨hz0,hz1,hz2⟩:=hi3
 have hlt:b<w.heap.size:=by
  rcases Nat.lt_or_ge b w.heap.size with h'|h'
  .exact h'
  .simp [Array.getElem?_eq_none h'] at hb
 have cc:Calls Tryz.prog 49 #[.pointer (some ⟨b,0,none⟩)] w fun e w'=>e= .returned (.tuple #[])/\w'.heap[b]?=some (.cells #[.pointer (some ⟨b,0,none⟩),v] 70 (0,0))/\w'.heap.size=w.heap.size/\w'.os=w.os/\w'.tape=w.tape/\w'.output=w.output/\∀k,k≠b->w'.heap[k]?=w.heap[k]?:=by
  rcases hp with rfl|rfl
  .refine (h0X b w (by rw [Lib.cell_of_heap hb];rfl) (by simp [World.shape?,hb]) (Lib.frozen_of_heap hb 0)).mono ?_
   rintro e w' ⟨rfl,rfl⟩
   refine ⟨rfl,?_,by simp [World.setCell],rfl,rfl,rfl,fun k hk=> ?_⟩
   .simp [World.setCell,Array.getElem?_modify,hb]
   .simp [World.setCell,Array.getElem?_modify,Ne.symm hk]
  .refine (i0B b w (by rw [Lib.cell_of_heap hb];rfl)).mono ?_
   rintro e w' ⟨rfl,rfl⟩
   exact ⟨rfl,hb,rfl,rfl,rfl,rfl,fun _ _=>rfl⟩
 go_enter Tryz.func22,Tryz.ntmps22
 go_wp2_with (go_at_call 49;refine cc.mono ?_)
 rintro e w1 ⟨rfl,hb1,hs1,ho1,ht1,hu1,hk1⟩
 have c0:w1.cell? ⟨b,0,none⟩=some (.pointer (some ⟨b,0,none⟩)):=by rw [Lib.cell_of_heap hb1];rfl
 have c1:w1.cell? ⟨b,1,none⟩=some v:=by rw [Lib.cell_of_heap hb1];rfl
 have hv1:a1v w1 5 v s0:=by
  rcases hv with h|⟨g,cap,cur,rfl,hg,h⟩
  .exact .inl h
  .refine .inr ⟨g,cap,cur,rfl,?_,h⟩
   rw [hk1 g (fun e=>hne (by rw [e];rfl))]
   exact hg
 go_wp2_with (at_builtin;refine u0p rfl _ _ 68 9 rfl 5 i0 j1l i1r hi hz0 hz1 hz2 v s0 s rfl hv1 rfl h0 hsz ?_)
 intro v' w2 hrow hgrow
 have hb2:w2.heap[b]?=some (.cells #[.pointer (some ⟨b,0,none⟩),v] 70 (0,0)):=by
  rw [hgrow.block b (by omega) (fun e=>hne e.symm)]
  exact hb1
 have d0:w2.cell? ⟨b,0,none⟩=some (.pointer (some ⟨b,0,none⟩)):=by rw [Lib.cell_of_heap hb2];rfl
 have d1:w2.cell? ⟨b,1,none⟩=some v:=by rw [Lib.cell_of_heap hb2];rfl
 have f1:w2.frozen? ⟨b,1,none⟩=false:=Lib.frozen_of_heap hb2 1
 obtain ⟨g,cap,cur,rfl,r2,r3,r4,r5,r6,r7⟩:=hrow
 have hgb:g≠b:=by
  rcases r7 with r7|r7
  .omega
  .exact fun e=>hne (by rw [r7,e])
 go_wp2
 go_ret2
 refine ⟨rfl,_,?_,⟨g,cap,cur,rfl,?_,r3,r4,r5,r6,by rw [<-hs1];exact r7⟩,?_⟩
 .simp [World.setCell,Array.getElem?_modify,hb2]
 .simp [World.setCell,Array.getElem?_modify,Ne.symm hgb,r2]
 .refine ⟨?_,?_,?_,?_,fun k hk hn=> ?_⟩
  .show w2.os=w.os;rw [hgrow.os,ho1]
  .show w2.tape=w.tape;rw [hgrow.tape,ht1]
  .show w2.output=w.output;rw [hgrow.output,hu1]
  .have:=hgrow.size;simp [World.setCell];omega
  .have k1:k≠b:=fun e=>hn (.inl e)
   have k2:some k≠v.ownBlock:=fun e=>hn (.inr e.symm)
   have:∀x,(w2.setCell ⟨b,1,none⟩ x).heap[k]?=w2.heap[k]?:=fun x=>by simp [World.setCell,Array.getElem?_modify,Ne.symm k1]
   rw [this,hgrow.block k (by omega) k2,hk1 k k1]
theorem j1n:Tryz.prog.underlying 117=some (.pointer 5):=by kernel_rfl
theorem j1o:Tryz.prog.cellsOf 5=1:=by kernel_rfl
set_option maxHeartbeats 2000000 in
theorem a1x (b g cap:Nat) (p:Value) (cur:Array Value) (s:ByteArray) (w:World) (hb:w.heap[b]?=some (.cells #[p,.slice (some ⟨g,0,none⟩) s.size cap] 70 (0,0))) (hg:w.heap[g]?=some (.cells cur 5 (0,0))) (hcs:cur.size=cap) (hnc:s.size<=cap) (hcm:cap<=maxLen) (htake:cur.toList.take s.size=Lib.strCells s) (h0:0<s.size):
  Calls Tryz.prog 27 #[.pointer (some ⟨b,0,none⟩)] w fun e w'=>e= .returned (.string s)/\a1w (fun k=>k=g) w w':=by
 have hl0:s.data.toList≠[]:=by
  intro e
  have h1:s.data.toList.length=s.size:=by simp
  rw [e] at h1
  simp at h1
  omega
 have hll:s.data.toList.length=s.size:=by simp
 have c1:w.drew.cell? ⟨b,1,none⟩=some (.slice (some ⟨g,0,none⟩) s.size cap):=by
  have:w.drew.heap[b]?=some (.cells #[p,.slice (some ⟨g,0,none⟩) s.size cap] 70 (0,0)):=hb
  rw [Lib.cell_of_heap this];rfl
 have hg':w.drew.heap[g]?=some (.cells cur 5 (0,0)):=hg
 have hSD:(Builtin.unsafeSliceData_ #[68] 117 #[.slice (some ⟨g,0,none⟩) s.size cap]).run Tryz.prog w.drew= .ok (.pointer (some ⟨g,0,none⟩)) w.drew:=
  Lib.run_unsafeSliceData_row _ _ _ _ _ _ (by omega)
 have hUS:(Builtin.unsafeString_ #[117,3] 9 #[.pointer (some ⟨g,0,none⟩),.int .i64 s.size]).run Tryz.prog w.drew= .ok (.string s) (w.drew.freeze ⟨g,0,none⟩ s.size):=by
  have:=Lib.run_unsafeString_row (P:=Tryz.prog) w.drew 117 3 9 5 j1n j1o g cur.size (by simp [World.shape?,hg']) s.data.toList hl0 (by omega) (by unfold maxLen at hcm;omega) (by
   intro j x hx
   have ea:((⟨g,0,none⟩:Addr).add j)=⟨g,j,none⟩:=by
    unfold Addr.add
    split
    .rename_i e;subst e;rfl
    .simp
   rw [ea,Lib.cell_of_heap hg']
   have h1:(Lib.strCells s)[j]?=some (.int .u8 x.toNat):=by rw [Lib.strCells_eq];simp only [Lib.byteCells,List.getElem?_map,hx];rfl
   rw [<-htake,List.getElem?_take] at h1
   split at h1
   .simpa using h1
   .cases h1)
  rw [hll] at this
  exact this
 have hkeep:a1w (fun k=>k=g) w (w.drew.freeze ⟨g,0,none⟩ s.size):=by
  unfold World.freeze
  split
  .exact ⟨rfl,rfl,rfl,Nat.le_refl _,fun _ _ _=>rfl⟩
  .refine ⟨rfl,rfl,rfl,by simp,fun k hk hn=> ?_⟩
   simp only [Array.getElem?_modify]
   rw [if_neg (fun e=>hn e.symm)]
   rfl
 have mixed:Tryz.prog.follows .mixedOrders=true:=by kernel_rfl
 go_enter Tryz.func27,Tryz.ntmps27
 go_wp2
 go_region_o
 all_goals (go_wp2;go_ret;exact ⟨rfl,hkeep⟩)
end
section
open Go.RowKit Go.Sy Go.Proofs
def i0y (h n:Nat):Option HB:=some (.one false (.obj (.bld 70 h 0 n)))
def x0t:Option HB:=some (.one false (.obj (.bld0 70)))
def e0K (s:ByteArray):Option HB:=some (.one false (.obj (.brow 5 s)))
theorem k0x {h1 h2 h q:Nat} {ro:Bool} {b1 b2 b:Blk} (he:Ent [(h1,some (.one false b1)),(h2,some (.one false b2))] h q ro b):(h=h1/\q=0/\ro=false/\b=b1)\/(h≠h1/\h=h2/\q=0/\ro=false/\b=b2):=by
 rcases a0E.1 he with ⟨e,hb,k1,k2,k3⟩|⟨e,he⟩
 .cases k1
  exact .inl ⟨e.symm,k2.1,k3.symm,k2.2⟩
 .rcases a0E.1 he with ⟨e',hb,k1,k2,k3⟩|⟨_,he⟩
  .cases k1
   exact .inr ⟨fun x=>e x.symm,e'.symm,k2.1,k3.symm,k2.2⟩
  .obtain ⟨hb,k,_⟩:=he;simp [a0J] at k
theorem x0u {g:G} {w:World} {h1 h2:Nat} {b1 b2:Blk} {β1 β2:Base} (e1:g h1 0=some β1) (B1:BlkAt g β1 false b1 w) (e2:g h2 0=some β2) (B2:BlkAt g β2 false b2 w) (hd:β1.blk≠β2.blk):Holds g [(h1,some (.one false b1)),(h2,some (.one false b2))] w:=by
 refine ⟨?_,?_⟩
 .intro h q ro b he
  rcases k0x he with ⟨rfl,rfl,rfl,rfl⟩|⟨_,rfl,rfl,rfl,rfl⟩
  .exact ⟨_,e1,B1⟩
  .exact ⟨_,e2,B2⟩
 .intro h q h' q' b ro' b' β β' hne he he' hg hg' hc hc'
  rcases k0x he with ⟨rfl,rfl,_,rfl⟩|⟨hx,rfl,rfl,_,rfl⟩
  .rcases k0x he' with ⟨rfl,rfl,_,rfl⟩|⟨_,rfl,rfl,_,rfl⟩
   .exact absurd ⟨rfl,rfl⟩ hne
   .rw [e1] at hg;cases hg
    rw [e2] at hg';cases hg'
    exact hd
  .rcases k0x he' with ⟨rfl,rfl,_,rfl⟩|⟨_,rfl,rfl,_,rfl⟩
   .rw [e2] at hg;cases hg
    rw [e1] at hg';cases hg'
    exact hd.symm
   .exact absurd ⟨rfl,rfl⟩ hne
theorem x0v {g:G} {w w':World} {n r cap m:Nat} {H:a0v} {β:Base} {cur:Array Value} {s:ByteArray} {Bk:Nat->Prop} (hg1:g 1 0=some β) (hcap:0<β.cap) (hoff:β.off=0) (hes:β.es=0) (h1n:1<n) (hu:g.upto n)
  (hb:w'.heap[β.blk]?=some (.cells #[.pointer (some ⟨β.blk,0,none⟩),.slice (some ⟨r,0,none⟩) s.size cap] 70 (0,0))) (hr:w'.heap[r]?=some (.cells cur 5 (0,0))) (hcs:cur.size=cap) (hnc:s.size<=cap) (hcm:cap<=maxLen) (htake:cur.toList.take s.size=Lib.strCells s) (h0:0<s.size)
  (hne:r≠β.blk) (hk:a1w Bk w w') (hBk:∀k,Bk k->e0G g H k) (hW:e0G g H β.blk) (hWr:e0G g H r\/w.heap.size<=r):
  Out g w n H (a0s (.tup [.int .i64 m,.nif]) [(1,i0y n s.size),(n,e0K s)] (n+1)) (.tuple #[.int .i64 m,.nilIface]) w':=by
 obtain ⟨k1,k2,k3,k4,k5⟩:=hk
 have lt:∀{k:Nat} {o:Obj},w'.heap[k]?=some o->k<w'.heap.size:=by
  intro k o h
  rcases Nat.lt_or_ge k w'.heap.size with h'|h'
  .exact h'
  .simp [Array.getElem?_eq_none h'] at h
 have g1:(g.add n ⟨r,0,0,cap⟩) 1 0=some β:=by simp only [G.add];rw [if_neg (by omega)];exact hg1
 have gn:(g.add n ⟨r,0,0,cap⟩) n 0=some ⟨r,0,0,cap⟩:=by simp [G.add]
 refine ⟨_,_,n+1,g.add n ⟨r,0,0,cap⟩,⟨rfl,rfl,rfl⟩,Nat.le_succ _,?_,?_,?_,?_,a0d (a0d a0k),⟨k1,k2,k3,k4,fun k hk hn=>k5 k hk (fun hb=>hn (hBk k hb))⟩,?_⟩
 .intro h q hh
  simp only [G.add]
  rw [if_neg (by omega)]
  exact hu h q (by omega)
 .intro h q hh
  simp only [G.add]
  rw [if_neg (by omega)]
 .simp only [Rv,Rvs]
  exact ⟨_,rfl,_,_,rfl,rfl,_,_,rfl,rfl,rfl⟩
 .refine x0u g1 (m0K hes hcap hoff (lt hb) ?_) gn (m0K rfl (by show 0<cap;omega) rfl (lt hr) ?_) hne.symm
  .exact ⟨_,gn,hb⟩
  .exact ⟨cur,hr,hcs,hnc,hcm,by rw [htake,Lib.strCells_eq];rfl⟩
 .intro h q b β' he hg hc
  rcases k0x he with ⟨rfl,rfl,_,rfl⟩|⟨_,rfl,rfl,_,rfl⟩
  .rw [g1] at hg;cases hg;exact .inl hW
  .rw [gn] at hg;cases hg;exact hWr
theorem h0Y (s:ByteArray) (h0:0<s.size) (hs:s.size<=1000000000):FC Tryz.prog 2 22 [.ptr 1 0 0 0,.str s] [(1,x0t)] (a0s (.tup [.int .i64 s.size,.nif]) [(1,i0y 2 s.size),(2,e0K s)] 3):=by
 refine .inl ⟨d0l Tryz.func22 (by kernel_rfl) (by kernel_rfl),fun g w vs hg hu hH hvs=> ?_⟩
 obtain ⟨β,hβ,hB⟩:=hH.blk 1 0 false (.obj (.bld0 70)) ⟨_,rfl,⟨rfl,rfl⟩,rfl⟩
 obtain ⟨hcap,hoff,hheap⟩:=hB.obj
 have hW:e0G g [(1,x0t)] β.blk:=⟨1,0,_,β,⟨_,rfl,⟨rfl,rfl⟩,rfl⟩,hβ,hcap,rfl⟩
 have haddr:β.addr 0 0=⟨β.blk,0,none⟩:=by simp [Base.addr,hoff]
 simp only [Rvs,Rv] at hvs
 obtain ⟨v,r1,rfl,⟨β',e',rfl⟩,v2,r2,rfl,rfl,rfl⟩:=hvs
 rw [hβ] at e';cases e'
 rw [haddr]
 have hz:(⟨#[]⟩:ByteArray).size=0:=rfl
 have hs0:(⟨#[]⟩:ByteArray)++s=s:=by apply ByteArray.ext;simp
 have hlt:=hB.lt hcap
 refine (h0l β.blk (.pointer none) (.slice none 0 0) ⟨#[]⟩ s w hheap (.inl rfl) (.inl ⟨rfl,rfl⟩) (by simp [Value.ownBlock]) h0 (by rw [hz];omega)).mono ?_
 rw [hs0]
 rintro e w' ⟨rfl,v',hb',⟨r,cap,cur,rfl,hr,hcs,hnc,hcm,htake,hr2⟩,hk⟩
 have hr3:w.heap.size<=r:=by
  rcases hr2 with h|h
  .exact h
  .cases h
 refine ⟨_,rfl,x0v hβ hcap hoff hB.es (by omega) hu hb' hr hcs hnc hcm htake h0 (by omega) hk ?_ hW (.inr hr3)⟩
 rintro k (rfl|h)
 .exact hW
 .cases h
theorem m0e (s0 s:ByteArray) (h0:0<s.size) (hs:s0.size+s.size<=1000000000):FC Tryz.prog 3 22 [.ptr 1 0 0 0,.str s] [(1,i0y 2 s0.size),(2,e0K s0)] (a0s (.tup [.int .i64 s.size,.nif]) [(1,i0y 3 (s0++s).size),(3,e0K (s0++s))] 4):=by
 refine .inl ⟨d0l Tryz.func22 (by kernel_rfl) (by kernel_rfl),fun g w vs hg hu hH hvs=> ?_⟩
 have en1:Ent [(1,i0y 2 s0.size),(2,e0K s0)] 1 0 false (.obj (.bld 70 2 0 s0.size)):=⟨_,rfl,⟨rfl,rfl⟩,rfl⟩
 have en2:Ent [(1,i0y 2 s0.size),(2,e0K s0)] 2 0 false (.obj (.brow 5 s0)):=⟨_,rfl,⟨rfl,rfl⟩,rfl⟩
 obtain ⟨β,hβ,hB⟩:=hH.blk _ _ _ _ en1
 obtain ⟨β2,hβ2,hB2⟩:=hH.blk _ _ _ _ en2
 obtain ⟨hcap,hoff,β2',e2,hheap⟩:=hB.obj
 rw [hβ2] at e2;cases e2
 obtain ⟨hcap2,hoff2,cur0,hheap2,j1,j2,j3,j4⟩:=hB2.obj
 have hW:e0G g [(1,i0y 2 s0.size),(2,e0K s0)] β.blk:=⟨1,0,_,β,en1,hβ,hcap,rfl⟩
 have hW2:e0G g [(1,i0y 2 s0.size),(2,e0K s0)] β2.blk:=⟨2,0,_,β2,en2,hβ2,hcap2,rfl⟩
 have hd:β.blk≠β2.blk:=hH.sep 1 0 2 0 _ _ _ β β2 (by omega) en1 en2 hβ hβ2 hcap hcap2
 have haddr:β.addr 0 0=⟨β.blk,0,none⟩:=by simp [Base.addr,hoff]
 simp only [Rvs,Rv] at hvs
 obtain ⟨v,r1,rfl,⟨β',e',rfl⟩,v2,r2,rfl,rfl,rfl⟩:=hvs
 rw [hβ] at e';cases e'
 rw [haddr]
 have hlt:=hB.lt hcap
 refine (h0l β.blk _ _ s0 s w hheap (.inr rfl) (.inr ⟨β2.blk,β2.cap,cur0,rfl,hheap2,j1,j2,j3,by rw [j4,Lib.strCells_eq];rfl⟩) (by simp [Value.ownBlock];exact fun e=>hd e.symm) h0 hs).mono ?_
 rintro e w' ⟨rfl,v',hb',⟨r,cap,cur,rfl,hr,hcs,hnc,hcm,htake,hr2⟩,hk⟩
 have hr3:e0G g [(1,i0y 2 s0.size),(2,e0K s0)] r\/w.heap.size<=r:=by
  rcases hr2 with h|h
  .exact .inr h
  .simp only [Value.ownBlock,Option.some.injEq] at h
   subst h;exact .inl hW2
 refine ⟨_,rfl,x0v hβ hcap hoff hB.es (by omega) hu hb' hr hcs hnc hcm htake (by simp;omega) ?_ hk ?_ hW hr3⟩
 .rcases hr2 with h|h
  .omega
  .simp only [Value.ownBlock,Option.some.injEq] at h
   subst h;exact hd.symm
 .rintro k (rfl|h)
  .exact hW
  .simp only [Value.ownBlock,Option.some.injEq] at h
   subst h;exact hW2
theorem e0n (s:ByteArray) (h0:0<s.size):FC Tryz.prog 3 27 [.ptr 1 0 0 0] [(1,i0y 2 s.size),(2,e0K s)] (a0s (.str s) [] 3):=by
 refine .inl ⟨d0l Tryz.func27 (by kernel_rfl) (by kernel_rfl),fun g w vs hg hu hH hvs=> ?_⟩
 have en1:Ent [(1,i0y 2 s.size),(2,e0K s)] 1 0 false (.obj (.bld 70 2 0 s.size)):=⟨_,rfl,⟨rfl,rfl⟩,rfl⟩
 have en2:Ent [(1,i0y 2 s.size),(2,e0K s)] 2 0 false (.obj (.brow 5 s)):=⟨_,rfl,⟨rfl,rfl⟩,rfl⟩
 obtain ⟨β,hβ,hB⟩:=hH.blk _ _ _ _ en1
 obtain ⟨β2,hβ2,hB2⟩:=hH.blk _ _ _ _ en2
 obtain ⟨hcap,hoff,β2',e2,hheap⟩:=hB.obj
 rw [hβ2] at e2;cases e2
 obtain ⟨hcap2,hoff2,cur0,hheap2,j1,j2,j3,j4⟩:=hB2.obj
 have hW2:e0G g [(1,i0y 2 s.size),(2,e0K s)] β2.blk:=⟨2,0,_,β2,en2,hβ2,hcap2,rfl⟩
 have haddr:β.addr 0 0=⟨β.blk,0,none⟩:=by simp [Base.addr,hoff]
 simp only [Rvs,Rv] at hvs
 obtain ⟨v,r1,rfl,⟨β',e',rfl⟩,rfl⟩:=hvs
 rw [hβ] at e';cases e'
 rw [haddr]
 refine (a1x β.blk β2.blk β2.cap _ cur0 s w hheap hheap2 j1 j2 j3 (by rw [j4,Lib.strCells_eq];rfl) h0).mono ?_
 rintro e w' ⟨rfl,k1,k2,k3,k4,k5⟩
 refine ⟨_,rfl,.str s,[],3,g,⟨rfl,rfl,rfl⟩,Nat.le_refl _,hu,fun _ _ _=>rfl,by simp only [Rv],⟨?_,?_⟩,a0k,⟨k1,k2,k3,k4,fun k hk hn=>k5 k hk (fun e=>hn (e▸hW2))⟩,?_⟩
 .intro h q ro b he;obtain ⟨hb,e,_⟩:=he;simp [a0J] at e
 .intro h q h' q' b ro' b' β β' _ he;obtain ⟨hb,e,_⟩:=he;simp [a0J] at e
 .intro h q b β he;obtain ⟨hb,e,_⟩:=he;simp [a0J] at e
end
section
attribute [local irreducible] a0B a0D a0u a0Y
theorem n0t {α:Type} {l:List α} {n:Nat} (h:l.length=n):seg 0 n l=l:=by
 unfold seg;rw [List.drop_zero,List.take_of_length_le (by omega)]
theorem a1y (L:List Lp) (n:Nat) (hn:L.length=n) (h1:1<=n) (h2:n<=1000000):FC Tryz.prog 2 240 [.sl 1 0 0 n] [(1,some (.one true (poB n L)))] (a0s (.sl 2 0 0 n) [(2,some (.one false (poB n L)))] 3):=by
 unfold poB
 have k1:(L.map Lp.a).length=n:=by rw [List.length_map,hn]
 have k2:(L.map Lp.n).length=n:=by rw [List.length_map,hn]
 have k3:(L.map Lp.c).length=n:=by rw [List.length_map,hn]
 generalize L.map Lp.a=A at*
 generalize L.map Lp.n=B at*
 generalize L.map Lp.c=C at*
 obtain ⟨m,rfl⟩:∃m,n=m+1:=⟨n-1,by omega⟩
 refine a0p mixed a0x Tryz.func240 rfl (by kernel_rfl) (by kernel_rfl) (by kernel_rfl) ?_
 repeat' ((conv=>whnf);first|((first|apply a0f|apply a0c|apply a0g|apply a0b|apply a0h|apply a0a)<;>intro h<;>try (exfalso;(try dsimp only at h);omega))|refine a0i ?_)
 all_goals (conv=>whnf)
 all_goals (rw [Nat.zero_add (m+1),n0t k1,n0t k2,n0t k3];exact a0n (l:= [0,1,3]) rfl rfl ⟨rfl,trivial⟩ (a0d a0k))
theorem i0v (id:ByteArray) (d:Int) (L:List Lp) (n:Nat) (hn:L.length=n) (h1:1<=n) (h2:n<=1000000):FC Tryz.prog 2 235 [.agg [.str id,.int .i64 d,.sl 1 0 0 n]] [(1,some (.one true (poB n L)))] (a0s (.agg [.str id,.int .i64 d,.sl 2 0 0 n]) [(2,some (.one false (poB n L)))] 3):=by
 have c:=a1y L n hn h1 h2
 refine a0p mixed a0x Tryz.func235 rfl (by kernel_rfl) (by kernel_rfl) (by kernel_rfl) ?_
 repeat' ((conv=>whnf);first|refine a0e (l:= [0,1]) (c) ?_|refine a0l (l:= [0,1]) (c) ?_|((first|apply a0f|apply a0c|apply a0g|apply a0b|apply a0h|apply a0a)<;>intro h<;>try (exfalso;(try dsimp only at h);omega))|refine a0i ?_)
 all_goals (conv=>whnf)
 all_goals exact a0n (l:= [0,1,4]) rfl rfl ⟨rfl,trivial⟩ (a0d a0k)
theorem h0m (i:Int) (h1: -9223372036854775808<=i) (h2:i<=9223372036854775807):k0U Tryz.prog glT 24 [.int .i64 i] (.str (c0g i)):=by
 have c:=f0f i h1 h2
 have c2:k0U Tryz.prog glT 51 [.int .i64 i] (.str (c0g i)):=by
  refine a0p mixed a0x Tryz.func51 rfl (by kernel_rfl) (by kernel_rfl) (by kernel_rfl) ?_
  repeat' ((conv=>whnf);first|(refine a0t (c) rfl rfl rfl rfl ?_)|(refine a0w (c) rfl rfl rfl rfl ?_)|((first|apply a0f|apply a0c|apply a0g|apply a0b|apply a0h|apply a0a)<;>intro h<;>try (exfalso;(try dsimp only at h);omega))|refine a0i ?_)
  all_goals (conv=>whnf)
  exact a0o rfl
 refine a0p mixed a0x Tryz.func24 rfl (by kernel_rfl) (by kernel_rfl) (by kernel_rfl) ?_
 repeat' ((conv=>whnf);first|(refine a0t (c2) rfl rfl rfl rfl ?_)|(refine a0w (c2) rfl rfl rfl rfl ?_)|((first|apply a0f|apply a0c|apply a0g|apply a0b|apply a0h|apply a0a)<;>intro h<;>try (exfalso;(try dsimp only at h);omega))|refine a0i ?_)
 all_goals (conv=>whnf)
 exact a0o rfl
theorem lgz (x:UInt8):(ByteArray.mk #[x]).size=1:=rfl
theorem i1s:(⟨#[124]⟩:ByteArray).size=1:=rfl
theorem i1W:(⟨#[47]⟩:ByteArray).size=1:=rfl
def h1L (L:List Lp):Prop:=∀x∈L,x.a.size<=40/\x.c.size<=3
theorem x0w {L:List Lp} (h:h1L L) (k:Nat):(L.getD k lp0).a.size<=40/\(L.getD k lp0).c.size<=3:=by
 rcases Nat.lt_or_ge k L.length with hk|hk
 .rw [List.getD,List.getElem?_eq_getElem hk];exact h _ (List.getElem_mem hk)
 .rw [List.getD,List.getElem?_eq_none hk];exact ⟨by decide,by decide⟩
theorem a1z {p:Lp} (h1:p.a.size<=40) (h2:p.c.size<=3) (h3: -4503599627370496<=p.n/\p.n<=4503599627370496):(poT p).size<=70/\0<(poT p).size:=by
 have:=b0G p.n (by omega) (by omega)
 unfold poT
 simp only [ByteArray.size_append,i1s,i1W]
 omega
theorem a1A {a c:ByteArray} {n:Int} (h1:a.size<=40) (h2:c.size<=3) (h3: -4503599627370496<=n/\n<=4503599627370496):((⟨#[124]⟩:ByteArray)++a++⟨#[47]⟩++c0g n++⟨#[47]⟩++c).size<=70/\0<((⟨#[124]⟩:ByteArray)++a++⟨#[47]⟩++c0g n++⟨#[47]⟩++c).size:=by
 have:=b0G n (by omega) (by omega)
 simp only [ByteArray.size_append,i1s,i1W]
 omega
theorem g1E (a c:ByteArray) (n:Int):poT ⟨a,n,c⟩=(⟨#[124]⟩:ByteArray)++a++⟨#[47]⟩++c0g n++⟨#[47]⟩++c:=rfl
theorem n0u {e:Le} (hi:e.id.size<=40) (hd:0<=e.date/\e.date<=99999) (hz:h1L e.ps) (hb:y0K e.ps):∀k,(leT e k).size<=70+70*k/\0<(leT e k).size
 |0=>by
  have:=b0G e.date (by omega) (by omega)
  simp only [leT,ByteArray.size_append,i1s]
  omega
 |k+1=>by
  have ih:=n0u hi hd hz hb k
  have h1:=x0w hz k
  have h2:=a1z h1.1 h1.2 (a1u hb k)
  simp only [leT,ByteArray.size_append]
  omega
attribute [local irreducible] seq ByteArray.extract
set_option maxHeartbeats 1000000 in
theorem p0n (id:ByteArray) (d:Int) (L:List Lp) (n:Nat) (hn:L.length=n) (h16:n<=16) (hi:id.size<=40) (hd:0<=d/\d<=99999) (hz:h1L L) (hb:y0K L):
  FC Tryz.prog 2 247 [.agg [.str id,.int .i64 d,.sl 1 0 0 n]] [(0,some (GB glT)),(1,some (.one true (poB n L)))] (a0s (.str (leT ⟨id,d,L,n⟩ n)) [] 2):=by
 have c1:=h0m d (by omega) (by omega)
 have hds:=b0G d (by omega) (by omega)
 have hT:=n0u (e:=⟨id,d,L,n⟩) hi hd hz hb
 have c2:=h0Y (id++⟨#[124]⟩++c0g d) (hT 0).2 (Nat.le_trans (hT 0).1 (by decide))
 unfold poB
 refine a0p mixed a0x Tryz.func247 rfl (by kernel_rfl) (by kernel_rfl) (by kernel_rfl) ?_
 repeat' ((conv=>whnf);first|(refine a0t (c1) rfl rfl rfl rfl ?_)|(refine a0w (c1) rfl rfl rfl rfl ?_)|refine a0e (l:= [0,3]) (c2) ?_|refine a0l (l:= [0,3]) (c2) ?_|(refine a0q ?_ ?_;(simp only [ByteArray.size_append,lgz,Int.toNat_natCast,Nat.add_zero];omega))|((first|apply a0f|apply a0c|apply a0g|apply a0b|apply a0h|apply a0a)<;>intro h<;>try (exfalso;(try dsimp only at h);omega))|refine a0i ?_)
 all_goals (conv=>whnf)
 refine a0z (fun k:Nat=>⟨[(1,.ptr 2 0 0 0),(3,.ptr 3 0 0 0),(15,.sl 1 0 0 n),(16,.int .i64 n),(17,.int .i64 k)],[(0,some (GB glT)),(1,some (.one true (poB n L))),(2,some (.one false (.cells [.str id,.int .i64 d,.sl 1 0 0 n]))),(3,i0y 4 (leT ⟨id,d,L,n⟩ k).size),(4,e0K (leT ⟨id,d,L,n⟩ k))],5⟩) (fun k=>k<=n) (fun k=>n-k) 0 [0,1,2,3,4] [] ⟨rfl,⟨rfl,rfl,rfl,rfl,rfl,trivial⟩,⟨gwk rfl,rfl,rfl,rfl,rfl,trivial⟩⟩ (Nat.zero_le _) ?_
 intro k hk
 unfold poB
 have hTk:=hT k
 have hTe:leT ⟨id,d,L,n⟩ (k+1)=leT ⟨id,d,L,n⟩ k++poT ⟨(L.map Lp.a).getD k ⟨#[]⟩,(L.map Lp.n).getD k 0,(L.map Lp.c).getD k ⟨#[]⟩⟩:=by rw [<-p0m];rfl
 have hTk1:=hT (k+1)
 by_cases hk2:k<n
 .have h1:=x0w hz k
  have h2:=a1u hb k
  rw [p0m] at h1 h2
  dsimp only at h1 h2
  have h3:=a1A h1.1 h1.2 h2
  rw [g1E] at hTe
  have c3:=b0I ((L.map Lp.n).getD k 0) (by omega) (by omega)
  have h4:=b0G ((L.map Lp.n).getD k 0) (by omega) (by omega)
  generalize hT1:leT ⟨id,d,L,n⟩ (k+1)=T1 at*
  generalize hT0:leT ⟨id,d,L,n⟩ k=T at*
  have c4:=m0e T _ h3.2 (Nat.le_trans (Nat.add_le_add hTk.1 h3.1) (by omega))
  rw [<-hTe] at c4
  repeat' ((conv=>whnf);first|(refine a0t (c3) rfl rfl rfl rfl ?_)|(refine a0w (c3) rfl rfl rfl rfl ?_)|refine a0e (l:= [0,3,4]) (c4) ?_|refine a0l (l:= [0,3,4]) (c4) ?_|(refine a0q ?_ ?_;(simp only [ByteArray.size_append,lgz,Int.toNat_natCast,Nat.add_zero];omega))|((first|apply a0f|apply a0c|apply a0g|apply a0b|apply a0h|apply a0a)<;>intro h<;>try (exfalso;(try dsimp only at h);omega))|refine a0i ?_)
  all_goals (conv=>whnf)
  all_goals first
   |(subst hT1;exact ⟨k+1,[0,1,2,3,6],[],hk2,(show n-(k+1)<n-k by omega),⟨rfl,⟨rfl,rfl,rfl,rfl,congrArg (fun z=>some (SV.int .i64 z)) (a0M (by omega)),trivial⟩,⟨gwk rfl,rfl,rfl,rfl,rfl,trivial⟩⟩⟩)
   |(exfalso;omega)
 have ek:k=n:=by omega
 subst ek
 have c5:=e0n (leT ⟨id,d,L,k⟩ k) hTk.2
 generalize leT ⟨id,d,L,k⟩ k=T at*
 repeat' ((conv=>whnf);first|refine a0e (l:= [0,3,4]) (c5) ?_|refine a0l (l:= [0,3,4]) (c5) ?_|((first|apply a0f|apply a0c|apply a0g|apply a0b|apply a0h|apply a0a)<;>intro h<;>try (exfalso;(try dsimp only at h);omega))|refine a0i ?_)
 all_goals (conv=>whnf)
 all_goals first
  |exact a0n (l:= [0,1]) rfl rfl trivial a0k
  |(exfalso;omega)
end
section
attribute [local irreducible] a0B a0D a0u a0Y
abbrev lgF (a e p t b:Nat) (s:Lg):List SV:= [.map a 0,.sl e 0 0 s.ne,.map p 0,.map t 0,.map b 0,.int .u64 s.dig]
abbrev l0d (s:Lg):Blk:= .obj (.map false false s.na [.strs s.acc] [.sc (.bools (List.replicate s.na true))] (List.range s.na) s.na)
abbrev u0q (s:Lg):Blk:= .obj (.map false false s.ne [.strs (s.ent.map Le.id)] [.sc (.ints .i64 ((List.range s.ne).map Int.ofNat))] (List.range s.ne) s.ne)
theorem g0r (k:Nat):(k:Int).toNat+0=k:=rfl
theorem x0x (n i:Nat):(List.replicate n true).getD i false=decide (i<n):=by
 rw [List.getD,List.getElem?_replicate]
 split
 .rename_i h;rw [decide_eq_true h];rfl
 .rename_i h;rw [decide_eq_false h];rfl
theorem s0G (acc:List ByteArray) (p:Lp) (L:List Lp):poE acc (p::L)=if inL p.a acc then (if g0p p.n p.c=0 then poE acc L else g0p p.n p.c) else 6:=rfl
theorem q0V {acc:List ByteArray} (B:List Lp):∀A:List Lp,poE acc (A++B)=if poE acc A=0 then poE acc B else poE acc A
 | []=>by simp [poE]
 |p::A=>by
  rw [List.cons_append,s0G,s0G]
  by_cases h:inL p.a acc
  .rw [if_pos h,if_pos h]
   by_cases h2:g0p p.n p.c=0
   .rw [if_pos h2,if_pos h2];exact q0V B A
   .rw [if_neg h2,if_neg h2,if_neg h2]
  .rw [if_neg h,if_neg h,if_neg (by decide)]
theorem a1B {acc:List ByteArray} {L:List Lp} {k:Nat} (hk:k<L.length) (h:poE acc (L.take k)=0):poE acc (L.take (k+1))=if inL (L.getD k lp0).a acc then g0p (L.getD k lp0).n (L.getD k lp0).c else 6:=by
 rw [q0K hk,q0V,if_pos h]
 simp only [poE]
 split
 .split
  .rename_i h2;exact h2.symm
  .rfl
 .rfl
theorem a1C {acc:List ByteArray} {L:List Lp} (k:Nat) (h:poE acc (L.take k)≠0):poE acc L=poE acc (L.take k):=by
 have:=q0V (acc:=acc) (L.drop k) (L.take k)
 rw [List.take_append_drop,if_neg h] at this
 exact this
def f1j (bal:ByteArray->ByteArray->Int) (x:Lp):Prop:= -4503599627370496<=bal x.a x.c+x.n/\bal x.a x.c+x.n<=4503599627370496
theorem g1F {bal:ByteArray->ByteArray->Int} {L:List Lp} {i:Nat} (hi:i<(chR L L.length).length) (h:¬f1j bal ((chR L L.length).getD i lp0)):q0P bal L=false:=by
 cases e:q0P bal L with
 |false=>rfl
 |true=>
  unfold q0P at e
  rw [List.all_eq_true] at e
  refine absurd (of_decide_eq_true (e ((chR L L.length).getD i lp0) ?_)) h
  rw [List.getD,List.getElem?_eq_getElem hi]
  exact List.getElem_mem hi
theorem d1Z {bal:ByteArray->ByteArray->Int} {L:List Lp} (h:∀i,i<(chR L L.length).length->f1j bal ((chR L L.length).getD i lp0)):q0P bal L=true:=by
 unfold q0P
 rw [List.all_eq_true]
 intro x hx
 obtain ⟨i,hi,rfl⟩:=List.getElem_of_mem hx
 have:=h i hi
 rw [List.getD,List.getElem?_eq_getElem hi] at this
 exact decide_eq_true this
attribute [local irreducible] seq ByteArray.extract poE q0P h0U lgE
abbrev ckH (s:Lg) (r:Nat) (R:List Lp) (n:Nat) (L:List Lp):a0v:= [(1,some (.one true (.cells (lgF 2 3 4 5 6 s)))),(2,some (.one true (l0d s))),(4,some (.one true (u0q s))),(6,some (.one true (u0n r R))),(8,some (.one true (poB n L)))]
theorem a1D (s:Lg) (id:ByteArray) (d:Int) (L:List Lp) (n:Nat) (r:Nat) (R:List Lp) (hs:LgOk s) (hr:R.length=r) (hRv:∀a c,lgV R a c=s.bal a c) (hn:L.length=n):
  FC Tryz.prog 9 245 [.ptr 1 0 0 0,.agg [.str id,.int .i64 d,.sl 8 0 0 n]] (ckH s r R n L) (a0s (.int .i64 (lgE s ⟨id,d,L,n⟩)) [] 9):=by
 have c1:=m0c id
 have hne:=hs.ne
 have hna:=hs.na
 have hidl:(s.ent.map Le.id).length=s.ne:=by rw [List.length_map,hne]
 unfold ckH lgF l0d u0q poB
 by_cases g1:h0V id=false
 .have he:lgE s ⟨id,d,L,n⟩=5:=by unfold lgE;rw [if_pos g1]
  rw [he]
  rw [g1] at c1
  refine a0p mixed a0x Tryz.func245 rfl (by kernel_rfl) (by kernel_rfl) (by kernel_rfl) ?_
  repeat' ((conv=>whnf);first|(refine a0j (c1) rfl rfl rfl ?_)|(refine a0m (c1) rfl rfl rfl ?_)|((first|apply a0f|apply a0c|apply a0g|apply a0b|apply a0h|apply a0a)<;>intro h<;>try (exfalso;(try dsimp only at h);omega))|refine a0i ?_)
  all_goals (conv=>whnf)
  all_goals first
   |exact a0n (l:= [0,1,2,3,4,5,6,7,8]) rfl rfl trivial a0k
   |(exfalso;omega)
 have g1':h0V id=true:=by simpa using g1
 rw [g1'] at c1
 by_cases g2:d<0\/99999<d
 .have he:lgE s ⟨id,d,L,n⟩=14:=by unfold lgE;rw [if_neg g1,if_pos g2]
  rw [he]
  refine a0p mixed a0x Tryz.func245 rfl (by kernel_rfl) (by kernel_rfl) (by kernel_rfl) ?_
  repeat' ((conv=>whnf);first|(refine a0j (c1) rfl rfl rfl ?_)|(refine a0m (c1) rfl rfl rfl ?_)|((first|apply a0f|apply a0c|apply a0g|apply a0b|apply a0h|apply a0a)<;>intro h<;>try (exfalso;(try dsimp only at h);omega))|refine a0i ?_)
  all_goals (conv=>whnf)
  all_goals first
   |exact a0n (l:= [0,1,2,3,4,5,6,7,8]) rfl rfl trivial a0k
   |(exfalso;omega)
 by_cases g3:inL id s.ids
 .have he:lgE s ⟨id,d,L,n⟩=7:=by unfold lgE;rw [if_neg g1,if_neg g2,if_pos g3]
  rw [he]
  have g3':a0A (s.ent.map Le.id) id<s.ne:=by rw [<-hidl];exact g3
  refine a0p mixed a0x Tryz.func245 rfl (by kernel_rfl) (by kernel_rfl) (by kernel_rfl) ?_
  repeat' ((conv=>whnf);first|(refine a0j (c1) rfl rfl rfl ?_)|(refine a0m (c1) rfl rfl rfl ?_)|((first|apply a0f|apply a0c|apply a0g|apply a0b|apply a0h|apply a0a)<;>intro h<;>try (exfalso;(try dsimp only at h);omega))|refine a0i ?_)
  all_goals (conv=>whnf)
  all_goals first
   |exact a0n (l:= [0,1,2,3,4,5,6,7,8]) rfl rfl trivial a0k
   |(exfalso;omega)
 have g3':¬a0A (s.ent.map Le.id) id<s.ne:=by rw [<-hidl];exact g3
 by_cases g4:n<1\/16<n
 .have he:lgE s ⟨id,d,L,n⟩=4:=by unfold lgE;rw [if_neg g1,if_neg g2,if_neg g3,if_pos g4]
  rw [he]
  refine a0p mixed a0x Tryz.func245 rfl (by kernel_rfl) (by kernel_rfl) (by kernel_rfl) ?_
  repeat' ((conv=>whnf);first|(refine a0j (c1) rfl rfl rfl ?_)|(refine a0m (c1) rfl rfl rfl ?_)|((first|apply a0f|apply a0c|apply a0g|apply a0b|apply a0h|apply a0a)<;>intro h<;>try (exfalso;(try dsimp only at h);omega))|refine a0i ?_)
  all_goals (conv=>whnf)
  all_goals first
   |exact a0n (l:= [0,1,2,3,4,5,6,7,8]) rfl rfl trivial a0k
   |(exfalso;omega)
 have g5:poE s.acc L≠0->lgE s ⟨id,d,L,n⟩=poE s.acc L:=fun h=>by unfold lgE;rw [if_neg g1,if_neg g2,if_neg g3,if_neg g4,if_pos h]
 have g6:poE s.acc L=0->lgE s ⟨id,d,L,n⟩=if h0U L=false then 26 else if q0P s.bal L=false then 4 else if 512<=s.ne then 12 else 0:=fun h=>by unfold lgE;rw [if_neg g1,if_neg g2,if_neg g3,if_neg g4,if_neg (fun h'=>h' h)]
 generalize lgE s ⟨id,d,L,n⟩=E at*
 refine a0p mixed a0x Tryz.func245 rfl (by kernel_rfl) (by kernel_rfl) (by kernel_rfl) ?_
 repeat' ((conv=>whnf);first|(refine a0j (c1) rfl rfl rfl ?_)|(refine a0m (c1) rfl rfl rfl ?_)|((first|apply a0f|apply a0c|apply a0g|apply a0b|apply a0h|apply a0a)<;>intro h<;>try (exfalso;(try dsimp only at h);omega))|refine a0i ?_)
 all_goals (conv=>whnf)
 all_goals first
  |(exfalso;omega)
  |skip
 refine a0z (fun k:Nat=>⟨[(0,.ptr 1 0 0 0),(3,.ptr 9 0 0 0),(47,.sl 8 0 0 n),(48,.int .i64 n),(49,.int .i64 k)],[(1,some (.one true (.cells (lgF 2 3 4 5 6 s)))),(2,some (.one true (l0d s))),(4,some (.one true (u0q s))),(6,some (.one true (u0n r R))),(8,some (.one true (poB n L))),(9,some (.one false (.cells [.str id,.int .i64 d,.sl 8 0 0 n])))],10⟩) (fun k=>k<=n/\poE s.acc (L.take k)=0) (fun k=>n-k) 0 [0,1,2,3,4,5,6,7,8,9] [] ⟨rfl,⟨rfl,rfl,rfl,rfl,rfl,trivial⟩,⟨rfl,rfl,rfl,rfl,rfl,rfl,trivial⟩⟩ ⟨Nat.zero_le _,by unfold poE;rfl⟩ ?_
 rintro k ⟨hk,hz⟩
 unfold lgF l0d u0q poB
 by_cases hk2:k<n
 .have hnx:=a1B (acc:=s.acc) (L:=L) (k:=k) (by omega) hz
  have hst:=a1C (acc:=s.acc) (L:=L) (k+1)
  rw [p0m] at hnx
  dsimp only at hnx
  by_cases hin:inL ((L.map Lp.a).getD k ⟨#[]⟩) s.acc
  .have hin':a0A s.acc ((L.map Lp.a).getD k ⟨#[]⟩)<s.na:=by rw [<-hna];exact hin
   have hrep:=x0x s.na (a0A s.acc ((L.map Lp.a).getD k ⟨#[]⟩))
   rw [decide_eq_true hin'] at hrep
   rw [if_pos hin] at hnx
   have c2:=k0f ((L.map Lp.n).getD k 0) ((L.map Lp.c).getD k ⟨#[]⟩)
   by_cases hm:g0p ((L.map Lp.n).getD k 0) ((L.map Lp.c).getD k ⟨#[]⟩)=0
   .rw [hm] at c2 hnx
    repeat' ((conv=>whnf);first|(refine a0j (c2) rfl rfl rfl ?_)|(refine a0m (c2) rfl rfl rfl ?_)|(simp only [g0r,hrep])|((first|apply a0f|apply a0c|apply a0g|apply a0b|apply a0h|apply a0a)<;>intro h<;>try (exfalso;(try dsimp only at h);omega))|refine a0i ?_)
    all_goals (conv=>whnf)
    all_goals first
     |exact ⟨k+1,[0,1,2,3,4,5,6,7,8,9],[],⟨hk2,hnx⟩,(show n-(k+1)<n-k by omega),⟨rfl,⟨rfl,rfl,rfl,rfl,congrArg (fun z=>some (SV.int .i64 z)) (a0M (by omega)),trivial⟩,⟨rfl,rfl,rfl,rfl,rfl,rfl,trivial⟩⟩⟩
     |(exfalso;omega)
   .have hE:=g5 (by rw [hst (by rw [hnx];exact hm),hnx];exact hm)
    rw [hst (by rw [hnx];exact hm),hnx] at hE
    rw [hE]
    generalize g0p ((L.map Lp.n).getD k 0) ((L.map Lp.c).getD k ⟨#[]⟩)=M at*
    repeat' ((conv=>whnf);first|(refine a0j (c2) rfl rfl rfl ?_)|(refine a0m (c2) rfl rfl rfl ?_)|(simp only [g0r,hrep])|((first|apply a0f|apply a0c|apply a0g|apply a0b|apply a0h|apply a0a)<;>intro h<;>try (exfalso;(try dsimp only at h);omega))|refine a0i ?_)
    all_goals (conv=>whnf)
    all_goals first
     |exact a0n (l:= [0,1,2,3,4,5,6,7,8]) rfl rfl trivial a0k
     |(exfalso;omega)
  .have hin':¬a0A s.acc ((L.map Lp.a).getD k ⟨#[]⟩)<s.na:=by rw [<-hna];exact hin
   have hrep:=x0x s.na (a0A s.acc ((L.map Lp.a).getD k ⟨#[]⟩))
   rw [decide_eq_false hin'] at hrep
   rw [if_neg hin] at hnx
   have hE:=g5 (by rw [hst (by rw [hnx];decide),hnx];decide)
   rw [hst (by rw [hnx];decide),hnx] at hE
   rw [hE]
   repeat' ((conv=>whnf);first|(simp only [g0r,hrep])|((first|apply a0f|apply a0c|apply a0g|apply a0b|apply a0h|apply a0a)<;>intro h<;>try (exfalso;(try dsimp only at h);omega))|refine a0i ?_)
   all_goals (conv=>whnf)
   all_goals first
    |exact a0n (l:= [0,1,2,3,4,5,6,7,8]) rfl rfl trivial a0k
    |(exfalso;omega)
 have ek:k=n:=by omega
 subst ek
 rw [show L.take k=L by rw [<-hn,List.take_length]] at hz
 have hE:=g6 hz
 have hbd:=b1V hz
 have c3:=q0U L k hn (by omega) hbd
 have c4:=m0d L k hn (by omega) hbd
 unfold poB at c3 c4
 by_cases g7:h0U L=false
 .rw [if_pos g7] at hE
  rw [hE]
  rw [g7] at c3
  repeat' ((conv=>whnf);first|refine a0e (l:= [0,8]) (c3) ?_|refine a0l (l:= [0,8]) (c3) ?_|((first|apply a0f|apply a0c|apply a0g|apply a0b|apply a0h|apply a0a)<;>intro h<;>try (exfalso;(try dsimp only at h);omega))|refine a0i ?_)
  all_goals (conv=>whnf)
  all_goals first
   |exact a0n (l:= [0,1,2,3,4,5,6,7,8]) rfl rfl trivial a0k
   |(exfalso;omega)
 have g7':h0U L=true:=by simpa using g7
 rw [if_neg g7] at hE
 rw [g7'] at c3
 have hno:=fun i hi h=>g1F (bal:=s.bal) (L:=L) (i:=i) hi h
 have hyes:=d1Z (bal:=s.bal) (L:=L)
 have hcb:∀i,-4503599627370496*16<=((chR L L.length).getD i lp0).n/\((chR L L.length).getD i lp0).n<=4503599627370496*16:=by
  intro i
  rcases Nat.lt_or_ge i (chR L L.length).length with hi|hi
  .have h1:=q0M (h0i L L.length) hi
   rw [g0q _ _ _ (Nat.le_refl _),List.take_length] at h1
   have h2:=x0d hbd ((chR L L.length).getD i lp0).a ((chR L L.length).getD i lp0).c
   rw [h1] at h2
   omega
  .rw [List.getD,List.getElem?_eq_none hi];exact ⟨by decide,by decide⟩
 rw [hn] at hno hyes hcb
 generalize chR L k=C at*
 generalize hm:C.length=m at*
 repeat' ((conv=>whnf);first|refine a0e (l:= [0,8]) (c3) ?_|refine a0l (l:= [0,8]) (c3) ?_|refine a0e (l:= [0,8]) (c4) ?_|refine a0l (l:= [0,8]) (c4) ?_|((first|apply a0f|apply a0c|apply a0g|apply a0b|apply a0h|apply a0a)<;>intro h<;>try (exfalso;(try dsimp only at h);omega))|refine a0i ?_)
 all_goals (conv=>whnf)
 all_goals first
  |(exfalso;omega)
  |skip
 refine a0z (fun sn:List Nat=>⟨[(0,.ptr 1 0 0 0),(75,.ptr 11 0 0 0)],[(1,some (.one true (.cells (lgF 2 3 4 5 6 s)))),(6,some (.one true (u0n r R))),(10,some (.one false (u0n m C))),(11,some (.one false (.obj (.iter 10 0 (List.range m) m sn))))],12⟩) (fun sn=>sn.Nodup/\(∀i∈sn,i<m)/\∀i∈sn,f1j s.bal (C.getD i lp0)) (fun sn=>m-sn.length) [] [0,1,2,3,4,5,6,7,8,9,10,11] [] ⟨rfl,⟨rfl,rfl,trivial⟩,⟨rfl,rfl,rfl,rfl,trivial⟩⟩ ⟨List.nodup_nil,by simp,by simp⟩ ?_
 rintro sn ⟨hd,hl,hz2⟩
 unfold lgF
 have key:∀x,IntKind.i64.wrap ((R.map Lp.n).getD (c0k (R.map Lp.a) (R.map Lp.c) ((C.map Lp.a).getD x ⟨#[]⟩) ((C.map Lp.c).getD x ⟨#[]⟩)) 0+(C.map Lp.n).getD x 0)=s.bal (C.getD x lp0).a (C.getD x lp0).c+(C.getD x lp0).n:=by
  intro x
  have h1:=hs.rng (C.getD x lp0).a (C.getD x lp0).c
  have h2:=hcb x
  rw [s0F,hRv,i1V,h1J,f1g]
  exact a0G (by omega) (by omega)
 repeat' ((conv=>whnf);first|(refine ⟨⟨rfl,rfl⟩,fun x hx hnx=> ?_,fun hall=> ?_⟩)|(rw [key])|((first|apply a0f|apply a0c|apply a0g|apply a0b|apply a0h|apply a0a)<;>intro h<;>try (exfalso;(try dsimp only at h);omega))|refine a0i ?_)
 all_goals (conv=>whnf)
 .have hB:=hno x hx (fun hk=>by unfold f1j at hk;omega)
  rw [if_pos hB] at hE
  rw [hE]
  exact a0n (l:= [0,1,2,3,4,5,6,7,8]) rfl rfl trivial a0k
 .have hB:=hno x hx (fun hk=>by unfold f1j at hk;omega)
  rw [if_pos hB] at hE
  rw [hE]
  exact a0n (l:= [0,1,2,3,4,5,6,7,8]) rfl rfl trivial a0k
 .have:=c0z hd hl hx hnx
  refine ⟨x::sn,[0,1,2,3,4,5,6,7,8,9,10,11],[],⟨List.nodup_cons.2 ⟨hnx,hd⟩,fun y hy=> ?_,fun y hy=> ?_⟩,by simp only [List.length_cons];omega,⟨rfl,⟨rfl,rfl,trivial⟩,⟨rfl,rfl,rfl,rfl,trivial⟩⟩⟩
  .rcases List.mem_cons.1 hy with rfl|hy
   .exact hx
   .exact hl y hy
  .rcases List.mem_cons.1 hy with rfl|hy
   .unfold f1j;omega
   .exact hz2 y hy
 .have hB:=hyes fun i hi=>hz2 i (hall i hi)
  rw [if_neg (by rw [hB];decide),if_pos (by omega)] at hE
  rw [hE]
  exact a0n (l:= [0,1,2,3,4,5,6,7,8]) rfl rfl trivial a0k
 .have hB:=hyes fun i hi=>hz2 i (hall i hi)
  rw [if_neg (by rw [hB];decide),if_neg (by omega)] at hE
  rw [hE]
  exact a0n (l:= [0,1,2,3,4,5,6,7,8]) rfl rfl trivial a0k
end
section
attribute [local irreducible] a0B a0D a0u a0Y
abbrev n0v (f:Nat) (s:Lg):Blk:= .cols s.ne [.sc (.strs (s.ent.map Le.id)),.sc (.ints .i64 (s.ent.map Le.date)),.own f (s.ent.map Le.np)]
def enF (E:List Le) (q:Nat):Blk:=poB (E.getD q le0).np (E.getD q le0).ps
abbrev q0W (ro:Bool) (s:Lg):Option HB:=some (.fam ro (fun x=>x<s.ne) (enF s.ent))
def LgB (bal:ByteArray->ByteArray->Int) (m:Nat):y0J:=fun a c v=>∃R:List Lp,a=R.map Lp.a/\c=R.map Lp.c/\v=R.map Lp.n/\lgD R/\(∀a c,lgV R a c=bal a c)/\R.length<=16*m
theorem e1a {E:List Le} {e:Le}:∀q,q<E.length->enF (E++ [e]) q=enF E q:=by
 intro q hq
 unfold enF
 rw [List.getD,List.getElem?_append_left hq];rfl
theorem e1b {E:List Le} {e:Le}:enF (E++ [e]) E.length=poB e.np e.ps:=by
 unfold enF
 rw [List.getD,List.getElem?_append_right (Nat.le_refl _),Nat.sub_self];rfl
theorem n0w {H:a0v} {n a b g m k:Nat} {ns:List Nat} {c1 c2:Col} {dom:Nat->Prop} {f F:Nat->Blk} {bg:Blk} (hl:ns.length=m) (h1:c1.len=m+1) (h2:c2.len=m+1) (ha:a<n) (hta:a0J H a=some (.one false (.cols (m+1) [.sc c1,.sc c2,.svs (i0F b ns++ [.sl g 0 0 k])]))) (hb:a0J H b=some (.fam false dom f)) (hdom:∀q,q<m->dom q)
  (hg:a0J H g=some (.one false bg)) (hba:b≠a) (hga:g≠a) (hbg:b≠g) (hF:∀q,q<m->F q=f q) (hFm:F m=bg):
  Relab H n (gdR n m [⟨b,g,F⟩]) (fun _=>0) [(a,some (.one false (.cols (m+1) [.sc c1,.sc c2,.own n (ns++ [k])]))),(n+0,some (.fam false (fun x=>x<m+1) F))] [b,g] 1:=by
 have r0:∀q,q<m->gdR n m [⟨b,g,F⟩] n q=some (b,q):=fun q hq=>h0O (i:=0) (D:= [⟨b,g,F⟩]) rfl hq
 have s0:gdR n m [⟨b,g,F⟩] n m=some (g,0):=h0P (i:=0) (D:= [⟨b,g,F⟩]) rfl
 refine h0Q (n:=n) (m:=m) (th:=a) [⟨b,g,F⟩] ha hta (i0J ?_) ?_ ?_
 .refine ⟨⟨fun _=>h1,fun i hi=>f0s _⟩,⟨fun _=>h2,fun i hi=>f0s _⟩,⟨fun _=> ?_,w0N hl (Nat.le_refl _) r0 s0⟩,trivial⟩
  show (ns++ [k]).length=m+1
  rw [List.length_append,List.length_singleton];omega
 .refine ⟨⟨hba,hga,⟨dom,f,hb,fun q hq=>⟨hdom q hq,.inl (hF q hq)⟩⟩,bg,hg,.inl hFm⟩,trivial⟩
 .show (!(Nat.beq g b||false)&&(!false&&true))=true
  have:Nat.beq g b=false:=by
   cases e:Nat.beq g b with
   |false=>rfl
   |true=>exact absurd (Nat.eq_of_beq_eq_true e).symm hbg
  rw [this];rfl
theorem x0y (f:Nat) (s:Lg) (e:Le):n0v f (lgP s e)= .cols (s.ne+1) [.sc (.strs (s.ent.map Le.id++ [e.id])),.sc (.ints .i64 (s.ent.map Le.date++ [e.date])),.own f (s.ent.map Le.np++ [e.np])]:=by
 unfold n0v lgP
 simp
theorem a1E {s:Lg} {e:Le} {ix:Nat} (hix:ix=s.ne) (hl:s.ent.length=s.ne):
  (some (HB.one false (.obj (.map false false (if ix<s.ne then s.ne else s.ne+1) [.strs (b0j ix e.id (s.ent.map Le.id))] [.sc (.ints .i64 (b0j ix (s.ne:Int) ((List.range s.ne).map Int.ofNat)))] (if ix<s.ne then List.range s.ne else List.range s.ne++ [s.ne]) (if ix<s.ne then s.ne else s.ne+1)))):Option HB)=some (.one false (u0q (lgP s e))):=by
 subst hix
 unfold u0q lgP
 rw [if_neg (by omega),if_neg (by omega),c0h (by rw [List.length_map,hl]),c0h (by rw [List.length_map,List.length_range])]
 simp only [List.map_append,List.map_cons,List.map_nil,List.range_succ]
 rfl
theorem s0H {c:ByteArray} (h:f0W c=true):c.size<=3:=by
 by_cases e:c.size=3
 .omega
 .rw [h0b e] at h;cases h
theorem x0z {M:Int} (a c:ByteArray):∀{L:List Lp},(∀x∈L,-M<=x.n/\x.n<=M)->0<=M->-(M*(L.length:Int))<=lgS L a c/\lgS L a c<=M*(L.length:Int)
 | [],_,h0=>by simp [lgS]
 |x::L,h,h0=>by
  have i1:=x0z a c (L:=L) (fun y hy=>h y (by simp [hy])) h0
  have i2:=h x (by simp)
  simp only [lgS,List.length_cons]
  have e:M*((L.length+1:Nat):Int)=M*(L.length:Int)+M:=by rw [Int.natCast_add,Int.mul_add];simp
  rw [e]
  split<;>omega
attribute [local irreducible] seq ByteArray.extract poE q0P h0U lgE
abbrev psH (s:Lg) (n:Nat) (L:List Lp):a0v:= [(0,some (GB glT)),(1,some (.one false (.cells (lgF 2 3 4 5 6 s)))),(2,some (.one true (l0d s))),(3,some (.one false (n0v 7 s))),(4,some (.one false (u0q s))),(7,q0W false s),(8,some (.one true (poB n L)))]
abbrev psO (s:Lg):a0v:= [(1,some (.one false (.cells (lgF 2 9 4 5 6 s)))),(9,some (.one false (n0v 10 s))),(4,some (.one false (u0q s))),(10,q0W false s)]
set_option maxHeartbeats 2000000 in
theorem p0o (s:Lg) (id:ByteArray) (d:Int) (L:List Lp) (n:Nat) (r:Nat) (R:List Lp) (hs:LgOk s) (hr:R.length=r) (hRv:∀a c,lgV R a c=s.bal a c) (hRd:lgD R) (hRn:r<=16*s.ne) (hn:L.length=n) (h0:lgE s ⟨id,d,L,n⟩=0):
  FC Tryz.prog 9 239 [.ptr 1 0 0 0,.agg [.str id,.int .i64 d,.sl 8 0 0 n]] ((6,some (.one false (u0n r R)))::psH s n L)
   (fun sv H1 n1=>∃x:BagX,LgB (lgP s ⟨id,d,L,n⟩).bal (s.ne+1) x.a x.c x.v/\a0s (.int .i64 0) ((6,some (.one false x.blk))::psO (lgP s ⟨id,d,L,n⟩)) 11 sv H1 n1):=by
 have c1:=a1D s id d L n r R hs hr hRv hn
 obtain ⟨hok,hni,hrg,hfu⟩:=s0A hn h0
 rw [h0] at c1
 have hid:=hok.id
 have hdt:=hok.d
 have hn1:=hok.n1
 have hn16:=hok.n16
 have hps:=hok.ps
 dsimp only at hid hdt hn1 hn16 hps
 have hbd:=b1V hps
 have hsz:h1L L:=fun x hx=>by
  obtain ⟨h1,h2⟩:=i0O.1 hps x hx
  exact ⟨(i0N (hs.lab _ h1)).2,(s0H (k0v h2).1)⟩
 have c2:=m0d L n hn hn16 hbd
 have c3:=i0v id d L n hn hn1 (by omega)
 have c4:=p0n id d L n hn hn16 (i0N hid).2 hdt hsz hbd
 have hTz:=(n0u (e:=⟨id,d,L,n⟩) (i0N hid).2 hdt hsz hbd n).1
 have c5:=e0m s.dig (leT ⟨id,d,L,n⟩ n) (by omega)
 have hidl:(s.ent.map Le.id).length=s.ne:=by rw [List.length_map,hs.ne]
 have hix:a0A (s.ent.map Le.id) id=s.ne:=by
  have h1:=Go.Sy.sidx_le (s.ent.map Le.id) id
  have h2:¬a0A (s.ent.map Le.id) id<s.ne:=fun h=>hni (sidx_lt.1 (by rw [hidl];exact h))
  omega
 have hpl:=a1E (s:=s) (e:=⟨id,d,L,n⟩) hix hs.ne
 have hcb:∀i,-72057594037927936<=((chR L n).getD i lp0).n/\((chR L n).getD i lp0).n<=72057594037927936:=by
  intro i
  rcases Nat.lt_or_ge i (chR L n).length with hi|hi
  .have h1:=q0M (h0i L n) hi
   rw [g0q _ _ _ (by omega)] at h1
   have h2:=x0d (k0u hbd n) ((chR L n).getD i lp0).a ((chR L n).getD i lp0).c
   rw [h1,List.length_take,Nat.min_eq_left (by omega)] at h2
   omega
  .rw [List.getD,List.getElem?_eq_none hi];exact ⟨by decide,by decide⟩
 have hCd:=h0i L n
 have hCn:=x0b L n
 have hCv:∀a c,lgV (chR L n) a c=lgS L a c:=fun a c=>by rw [g0q a c n (by omega),<-hn,List.take_length]
 unfold psO
 rw [x0y]
 generalize chR L n=C at*
 generalize hm:C.length=m at*
 refine a0p mixed a0x Tryz.func239 rfl (by kernel_rfl) (by kernel_rfl) (by kernel_rfl) ?_
 repeat' ((conv=>whnf);first|refine a0e (l:= [0,1,2,3,4,5,6,7,8]) (c1) ?_|refine a0l (l:= [0,1,2,3,4,5,6,7,8]) (c1) ?_|refine a0e (l:= [0,8]) (c2) ?_|refine a0l (l:= [0,8]) (c2) ?_|((first|apply a0f|apply a0c|apply a0g|apply a0b|apply a0h|apply a0a)<;>intro h<;>try (exfalso;(try dsimp only at h);omega))|refine a0i ?_)
 all_goals (conv=>whnf)
 all_goals first
  |(exfalso;omega)
  |skip
 refine a0z (fun sn:List Nat=>⟨[(0,.ptr 1 0 0 0),(3,.ptr 9 0 0 0),(19,.ptr 11 0 0 0)],[(0,some (GB glT)),(1,some (.one false (.cells (lgF 2 3 4 5 6 s)))),(3,some (.one false (n0v 7 s))),(4,some (.one false (u0q s))),(6,some (.one false (u0n (vsR R C sn).length (vsR R C sn)))),(7,q0W false s),(8,some (.one true (poB n L))),(9,some (.one false (.cells [.str id,.int .i64 d,.sl 8 0 0 n]))),(10,some (.one false (u0n m C))),(11,some (.one false (.obj (.iter 10 0 (List.range m) m sn))))],12⟩) (fun sn=>sn.Nodup/\(∀i∈sn,i<m)) (fun sn=>m-sn.length) [] [0,1,2,3,4,5,6,7,8,9,10,11] [] ⟨rfl,⟨rfl,rfl,rfl,trivial⟩,⟨gwk rfl,rfl,rfl,rfl,by rw [<-hr];rfl,rfl,rfl,rfl,rfl,rfl,trivial⟩⟩ ⟨List.nodup_nil,by simp⟩ ?_
 rintro sn ⟨hd,hl⟩
 have hsl:=f0b m sn hd hl
 have key:∀x,IntKind.i64.wrap (((vsR R C sn).map Lp.n).getD (c0k ((vsR R C sn).map Lp.a) ((vsR R C sn).map Lp.c) ((C.map Lp.a).getD x ⟨#[]⟩) ((C.map Lp.c).getD x ⟨#[]⟩)) 0+(C.map Lp.n).getD x 0)=lgV (vsR R C sn) ((C.map Lp.a).getD x ⟨#[]⟩) ((C.map Lp.c).getD x ⟨#[]⟩)+(C.map Lp.n).getD x 0:=by
  intro x
  have h1:=hs.rng ((C.map Lp.a).getD x ⟨#[]⟩) ((C.map Lp.c).getD x ⟨#[]⟩)
  have h2:=hcb x
  have h3:=x0z (M:=72057594037927936) ((C.map Lp.a).getD x ⟨#[]⟩) ((C.map Lp.c).getD x ⟨#[]⟩) (L:=sn.map (fun i=>C.getD i lp0)) (fun y hy=>by obtain ⟨i,_,rfl⟩:=List.mem_map.1 hy;exact hcb i) (by decide)
  rw [List.length_map] at h3
  rw [s0F,q0L,hRv,f1g]
  exact a0G (by omega) (by omega)
 have hrow:∀x,_:=fun x=>g1B (R:=vsR R C sn) rfl (key x) rfl
 have hli:∀x,c0k ((vsR R C sn).map Lp.a) ((vsR R C sn).map Lp.c) ((C.map Lp.a).getD x ⟨#[]⟩) ((C.map Lp.c).getD x ⟨#[]⟩)<=(vsR R C sn).length:=fun x=>s0u _ _ _
 have hnxt:∀x,vsR R C (x::sn)=f0h (vsR R C sn) ⟨(C.map Lp.a).getD x ⟨#[]⟩,(C.map Lp.n).getD x 0,(C.map Lp.c).getD x ⟨#[]⟩⟩:=fun x=>by rw [<-p0m];rfl
 have hfin:(∀i,i<m->i∈sn)->LgB (lgP s ⟨id,d,L,n⟩).bal (s.ne+1) ((vsR R C sn).map Lp.a) ((vsR R C sn).map Lp.c) ((vsR R C sn).map Lp.n):=fun hall=>by
  have h3:=x0c R C sn
  refine ⟨vsR R C sn,rfl,rfl,rfl,s0w hRd sn,fun a c=> ?_,by omega⟩
  rw [d1L hCd hd (by rw [hm];exact hl) (by rw [hm];exact hall),hRv,hCv]
  rfl
 generalize hV:vsR R C sn=V at*
 repeat' ((conv=>whnf);first|(refine ⟨⟨rfl,rfl⟩,fun x hx hnx=> ?_,fun hall=> ?_⟩)|refine a0e (l:= [0,8]) (c3) ?_|refine a0l (l:= [0,8]) (c3) ?_|refine a0e (l:= [0,12]) (c4) ?_|refine a0l (l:= [0,12]) (c4) ?_|(refine a0j (c5) rfl rfl rfl ?_)|(refine a0m (c5) rfl rfl rfl ?_)|(refine ⟨x0q (hli _),?_⟩)|((first|apply a0f|apply a0c|apply a0g|apply a0b|apply a0h|apply a0a)<;>intro h<;>try (exfalso;(try dsimp only at h);omega))|refine a0i ?_)
 all_goals (conv=>whnf)
 .have:=c0z hd hl hx hnx
  refine ⟨x::sn,[0,1,2,3,4,5,6,7,8,9,10,11],[],⟨List.nodup_cons.2 ⟨hnx,hd⟩,fun y hy=> ?_⟩,by simp only [List.length_cons];omega,⟨rfl,⟨rfl,rfl,rfl,trivial⟩,⟨gwk rfl,rfl,rfl,rfl,?_,rfl,rfl,rfl,rfl,rfl,trivial⟩⟩⟩
  .rcases List.mem_cons.1 hy with rfl|hy
   .exact hx
   .exact hl y hy
  .rw [hnxt x];exact hrow x
 .have hb:=hfin hall
  refine e0h (fun _ _ _ h=>⟨⟨V.map Lp.a,V.map Lp.c,V.map Lp.n,V.length⟩,hb,h⟩) (e0g (l:= [0,1,2,3,4,5,6,7,8,14,15]) [.relab (gdR 15 s.ne [⟨7,12,enF (s.ent++ [⟨id,d,L,n⟩])⟩]) (fun _=>0) [(14,some (.one false (.cols (s.ne+1) [.sc (.strs (s.ent.map Le.id++ [id])),.sc (.ints .i64 (s.ent.map Le.date++ [d])),.own 15 (s.ent.map Le.np++ [n])]))),(15+0,some (.fam false (fun x=>x<s.ne+1) (enF (s.ent++ [⟨id,d,L,n⟩]))))] [7,12] 1] ?_ (a0d (a0d (a0d (a0d (c0f a0k))))))
  exact ⟨n0w (by rw [List.length_map];exact hs.ne) (by show (s.ent.map Le.id++ [id]).length=s.ne+1;simp [hs.ne]) (by show (s.ent.map Le.date++ [d]).length=s.ne+1;simp [hs.ne]) (by omega) rfl rfl (fun q hq=>hq) rfl (by decide) (by decide) (by decide) (fun q hq=>e1a q (by rw [hs.ne];exact hq)) (by rw [<-hs.ne];exact e1b),rfl,rfl,rfl,rfl,rfl,hpl,rfl,trivial⟩
end
section
attribute [local irreducible] a0B a0D a0u a0Y
abbrev c1a (ro:Bool) (s:Lg):Option HB:=some (.one ro (.obj (.bag (LgB s.bal s.ne))))
theorem s0I {s:Lg} {x:BagX} (h:x.ok (LgB s.bal s.ne)):∃R:List Lp,R.length=x.n/\x.blk=u0n x.n R/\lgD R/\(∀a c,lgV R a c=s.bal a c)/\R.length<=16*s.ne:=by
 obtain ⟨a,c,v,n⟩:=x
 obtain ⟨⟨R,e1,e2,e3,h1,h2,h3⟩,k1,k2,k3⟩:=h
 dsimp only at e1 e2 e3 k1 k2 k3
 subst e1;subst e2;subst e3
 rw [List.length_map] at k1
 exact ⟨R,k1,rfl,h1,h2,h3⟩
theorem u0r (s:Lg) (id:ByteArray) (d:Int) (L:List Lp) (n:Nat) (hs:LgOk s) (hn:L.length=n) (h0:lgE s ⟨id,d,L,n⟩=0):
  FC Tryz.prog 9 239 [.ptr 1 0 0 0,.agg [.str id,.int .i64 d,.sl 8 0 0 n]] ((6,c1a false s)::psH s n L) (a0s (.int .i64 0) ((6,c1a false (lgP s ⟨id,d,L,n⟩))::psO (lgP s ⟨id,d,L,n⟩)) 11):=by
 refine g1h fun x hx=> ?_
 obtain ⟨R,h1,h2,h3,h4,h5⟩:=s0I hx
 rw [h2]
 exact p0o s id d L n x.n R hs h1 h4 h3 (by omega) hn h0
theorem k0y (s:Lg) (a c:ByteArray) (r:Nat) (R:List Lp) (hR:R.length=r) (h:∀a c,lgV R a c=s.bal a c):FC Tryz.prog 7 43 [.ptr 1 0 0 0,.str a,.str c] [(6,some (.one true (u0n r R))),(1,some (.one true (.cells (lgF 2 3 4 5 6 s))))] (a0s (.int .i64 (s.bal a c)) [] 7):=by
 have hv:(R.map Lp.n).getD (c0k (R.map Lp.a) (R.map Lp.c) a c) 0=s.bal a c:=(s0F R a c).trans (h a c)
 rw [<-hv]
 refine a0p mixed a0x Tryz.func43 rfl (by kernel_rfl) (by kernel_rfl) (by kernel_rfl) ?_
 repeat' ((conv=>whnf);first|((first|apply a0f|apply a0c|apply a0g|apply a0b|apply a0h|apply a0a)<;>intro h<;>try (exfalso;(try dsimp only at h);omega))|refine a0i ?_)
 all_goals (conv=>whnf)
 all_goals exact a0n (l:= [0,1,2,3,4,5,6]) rfl rfl trivial a0k
theorem u0s (s:Lg) (a c:ByteArray):FC Tryz.prog 7 43 [.ptr 1 0 0 0,.str a,.str c] [(6,c1a true s),(1,some (.one true (.cells (lgF 2 3 4 5 6 s))))] (a0s (.int .i64 (s.bal a c)) [] 7):=by
 refine w0M fun x hx=> ?_
 obtain ⟨R,h1,h2,h3,h4,h5⟩:=s0I hx
 rw [h2]
 exact k0y s a c x.n R h1 h4
theorem x0A (s:Lg):FC Tryz.prog 7 26 [.ptr 1 0 0 0] [(1,some (.one true (.cells (lgF 2 3 4 5 6 s))))] (a0s (.int .u64 s.dig) [] 7):=by
 refine a0p mixed a0x Tryz.func26 rfl (by kernel_rfl) (by kernel_rfl) (by kernel_rfl) ?_
 repeat' ((conv=>whnf);first|((first|apply a0f|apply a0c|apply a0g|apply a0b|apply a0h|apply a0a)<;>intro h<;>try (exfalso;(try dsimp only at h);omega))|refine a0i ?_)
 all_goals (conv=>whnf)
 all_goals exact a0n (l:= [0,1,2,3,4,5,6]) rfl rfl trivial a0k
end
section
attribute [local irreducible] a0B a0D a0u a0Y
theorem a1F (dom:Nat->Prop) (F:Nat->Blk) (i:Nat) (id:ByteArray) (d:Int) (L:List Lp) (n:Nat) (hi:dom i) (hF:F i=poB n L) (hn:L.length=n) (h1:1<=n) (h2:n<=1000000):
  FC Tryz.prog 2 235 [.agg [.str id,.int .i64 d,.sl 1 i 0 n]] [(1,some (.fam true dom F))] (a0s (.agg [.str id,.int .i64 d,.sl 2 0 0 n]) [(2,some (.one false (poB n L)))] 3):=by
 have c0:=s0e [(1,⟨i,dom,F⟩)] (by exact ⟨⟨by decide,by decide,_,_,rfl,hi,hF,.inl rfl⟩,trivial⟩) (by exact ⟨rfl,trivial⟩) (by exact ⟨rfl,trivial⟩) (a0d a0k) (i0v id d L n hn h1 h2)
 have e:SV.mems (fmu [(1,⟨i,dom,F⟩)]) [.agg [.str id,.int .i64 d,.sl 1 0 0 n]]= [.agg [.str id,.int .i64 d,.sl 1 i 0 n]]:=by
  show [SV.agg [.str id,.int .i64 d,.sl 1 (0+i) 0 n]]=_
  rw [Nat.zero_add]
 rw [e] at c0
 exact c0
abbrev g1G (s:Lg):Blk:= .obj (.map false false s.ns [.strs s.st] [.sc (.bools (List.replicate s.ns true))] (List.range s.ns) s.ns)
attribute [local irreducible] seq ByteArray.extract lgE
theorem u0t {n ix:Nat} (h:ix<n):((List.range n).map Int.ofNat).getD ix 0=(ix:Int):=by
 rw [List.getD,List.getElem?_map,List.getElem?_range h];rfl
end
section
attribute [local irreducible] a0B a0D a0u a0Y sortI
abbrev h1M (ro:Bool) (a:Nat) (s:Bks):Option HB:=some (.one ro (.cells [.str s.cur,.int .i64 s.days,.sl a 0 0 s.na,.map 3 0,.ptr 4 0 0 0,.int .i64 s.lg.ne,.ptr 11 0 0 0,.int .i64 s.last]))
abbrev s0J (n:Nat) (ids:List ByteArray):Option HB:=some (.one false (.obj (.map false false n [.strs ids] [.sc (.ints .i64 ((List.range n).map Int.ofNat))] (List.range n) n)))
abbrev i1t (a e f h7 h8 h9:Nat) (s:Bks):a0v:=
 (1,h1M false a s)::(a,some (.one false (auB s.na s.au)))::(3,s0J s.na s.aid)::
 (9,c1a false s.lg)::(4,some (.one false (.cells (lgF 5 e 7 8 9 s.lg))))::(5,some (.one false (l0d s.lg)))::(e,some (.one false (n0v f s.lg)))::(7,some (.one false (u0q s.lg)))::(8,some (.one false (g1G s.lg)))::(f,q0W false s.lg)::
 (11,cyC false 12 14 15 16 s.np s.cut)::(12,w0s false 13)::(13,tmM false s.hn s.hs)::(14,cyP false s.np s.pr)::(16,tmM false s.nc s.cd)::w0S 15 h7 h8 h9 s.np s.m s.ds s.B (sortS s.pr)
abbrev h0n (s:Bks):a0v:=(0,some (GB glT))::i1t 2 6 10 17 18 19 s
abbrev h0o (s:Bks):a0v:=i1t 20 21 22 23 24 25 s
theorem a0P {a e f h7 h8 h9:Nat} {s:Bks}:e0t (i1t a e f h7 h8 h9 s):=
 a0d (a0d (a0d (a0d (a0d (a0d (a0d (a0d (a0d (c0f (a0d (a0d (a0d (a0d (a0d k0r))))))))))))))
theorem e0D (k:Int) (hk:¬(k<1\/8<k)):c0a Tryz.prog 40 [.int .i64 k] (.iface (if k=1 then 142 else if k=8 then 144 else if k=4\/k=5\/k=6 then 145 else 143) (.agg [])):=by
 rcases i0L hk with rfl|rfl|rfl|rfl|rfl|rfl|rfl|rfl
 all_goals
  simp only [Int.reduceEq,if_true,if_false,or_true,true_or,or_false,false_or]
  refine a0p mixed a0x Tryz.func40 rfl (by kernel_rfl) (by kernel_rfl) (by kernel_rfl) ?_
  repeat' ((conv=>whnf);first|((first|apply a0f|apply a0c|apply a0g|apply a0b|apply a0h|apply a0a)<;>intro h<;>try (exfalso;(try dsimp only at h);omega))|refine a0i ?_)
  all_goals (conv=>whnf)
  all_goals exact a0o rfl
theorem f0j (p:ByteArray) (h:p.size<=1000):c0a Tryz.prog 37 [.str p] (.str (f0B p)):=by
 have hz:f1h.size+p.size<=9223372036854775807:=by have:f1h.size=6:=rfl;omega
 refine a0p mixed a0x Tryz.func37 rfl (by kernel_rfl) (by kernel_rfl) (by kernel_rfl) ?_
 repeat' ((conv=>whnf);first|(refine a0q hz ?_)|((first|apply a0f|apply a0c|apply a0g|apply a0b|apply a0h|apply a0a)<;>intro h<;>try (exfalso;(try dsimp only at h);omega))|refine a0i ?_)
 all_goals (conv=>whnf)
 exact a0o rfl
theorem n0x (s:Bks) (n:Int):FC Tryz.prog 20 237 [.ptr 1 0 0 0,.int .i64 n] [(1,h1M true 2 s)] (a0s (.agg [.int .i64 n,.str s.cur]) [] 20):=by
 refine a0p mixed a0x Tryz.func237 rfl (by kernel_rfl) (by kernel_rfl) (by kernel_rfl) ?_
 repeat' ((conv=>whnf);first|((first|apply a0f|apply a0c|apply a0g|apply a0b|apply a0h|apply a0a)<;>intro h<;>try (exfalso;(try dsimp only at h);omega))|refine a0i ?_)
 all_goals (conv=>whnf)
 exact a0n (l:= [0,1,2,3,4,5,6,7,8,9,10,11,12,13,14,15,16,17,18,19]) rfl rfl trivial a0k
theorem s0K (s:Bks) (t:Int) (hd:1<=s.days/\s.days<=1000) (ht:0<=t/\t<=1099511627776):FC Tryz.prog 20 205 [.ptr 1 0 0 0,.int .i64 t] [(1,h1M true 2 s)] (a0s (.int .i64 (u0i s t)) [] 20):=by
 have e:IntKind.i64.wrap (t+IntKind.i64.wrap (s.days*86400))=u0i s t:=by
  unfold u0i
  rw [a0G (n:=s.days*86400) (by omega) (by omega),a0G (by omega) (by omega)]
 rw [<-e]
 refine a0p mixed a0x Tryz.func205 rfl (by kernel_rfl) (by kernel_rfl) (by kernel_rfl) ?_
 repeat' ((conv=>whnf);first|((first|apply a0f|apply a0c|apply a0g|apply a0b|apply a0h|apply a0a)<;>intro h<;>try (exfalso;(try dsimp only at h);omega))|refine a0i ?_)
 all_goals (conv=>whnf)
 exact a0n (l:= [0,1,2,3,4,5,6,7,8,9,10,11,12,13,14,15,16,17,18,19]) rfl rfl trivial a0k
theorem f0D (s:Lg) (id:ByteArray) (hs:LgOk s):FC Tryz.prog 8 232 [.ptr 1 0 0 0,.str id] [(1,some (.one true (.cells (lgF 2 3 4 5 6 s)))),(3,some (.one true (n0v 7 s))),(4,some (.one true (u0q s))),(7,q0W true s)]
  (if inL id s.ids then a0s (.tup [.agg [.str ((s.ent.map Le.id).getD (a0A s.ids id) ⟨#[]⟩),.int .i64 ((s.ent.map Le.date).getD (a0A s.ids id) 0),.sl 8 0 0 ((s.ent.map Le.np).getD (a0A s.ids id) 0)],.bool true]) [(8,some (.one false (poB ((s.ent.map Le.np).getD (a0A s.ids id) 0) (s.ent.getD (a0A s.ids id) le0).ps)))] 9
   else a0s (.tup [.agg [.str ⟨#[]⟩,.int .i64 0,.nsl],.bool false]) [] 8):=by
 have hidl:(s.ent.map Le.id).length=s.ne:=by rw [List.length_map,hs.ne]
 by_cases h:inL id s.ids
 .rw [if_pos h]
  have h':a0A (s.ent.map Le.id) id<s.ne:=by rw [<-hidl];exact h
  have hm:=(g1w hs (i0t.1 h)).1
  have hok:=hs.ent _ hm
  have hNP:=i1n s.ent (a0A s.ids id)
  have c1:=a1F (fun x=>x<s.ne) (enF s.ent) (a0A s.ids id) ((s.ent.map Le.id).getD (a0A s.ids id) ⟨#[]⟩) ((s.ent.map Le.date).getD (a0A s.ids id) 0) (s.ent.getD (a0A s.ids id) le0).ps ((s.ent.map Le.np).getD (a0A s.ids id) 0) h' (by rw [hNP];rfl) (by rw [hNP];exact hok.n) (by rw [hNP];exact hok.n1) (by rw [hNP];have:=hok.n16;omega)
  have hpl:=u0t h'
  have hb:decide (a0A (s.ent.map Le.id) id<s.ne)=true:=decide_eq_true h'
  have hc:0<=((List.range s.ne).map Int.ofNat).getD (a0A (s.ent.map Le.id) id) 0/\((List.range s.ne).map Int.ofNat).getD (a0A (s.ent.map Le.id) id) 0<(s.ne:Int):=by rw [hpl];omega
  refine a0p mixed a0x Tryz.func232 rfl (by kernel_rfl) (by kernel_rfl) (by kernel_rfl) ?_
  repeat' ((conv=>whnf);first|(rw [hb])|(simp only [hpl,g0r])|refine a0e (l:= [0,7]) (c1) ?_|refine a0l (l:= [0,7]) (c1) ?_|((first|apply a0f|apply a0c|apply a0g|apply a0b|apply a0h|apply a0a)<;>intro h<;>try (exfalso;(try dsimp only at h);omega))|refine a0i ?_)
  all_goals (conv=>whnf)
  all_goals first
   |exact a0n (l:= [0,1,2,3,4,5,6,7,9]) rfl rfl ⟨rfl,trivial⟩ (a0d a0k)
   |exact a0n (l:= [0,1,2,3,4,5,6,7,10]) rfl rfl ⟨rfl,trivial⟩ (a0d a0k)
   |(exfalso;omega)
   |trace_state
 .rw [if_neg h]
  have h':¬a0A (s.ent.map Le.id) id<s.ne:=by rw [<-hidl];exact h
  have hb:decide (a0A (s.ent.map Le.id) id<s.ne)=false:=decide_eq_false h'
  refine a0p mixed a0x Tryz.func232 rfl (by kernel_rfl) (by kernel_rfl) (by kernel_rfl) ?_
  repeat' ((conv=>whnf);first|(rw [hb])|((first|apply a0f|apply a0c|apply a0g|apply a0b|apply a0h|apply a0a)<;>intro h<;>try (exfalso;(try dsimp only at h);omega))|refine a0i ?_)
  all_goals (conv=>whnf)
  all_goals first
   |exact a0n (l:= [0,1,2,3,4,5,6,7]) rfl rfl trivial a0k
   |(exfalso;omega)
   |trace_state
end
section
attribute [local irreducible] a0B a0D a0u a0Y sortI
attribute [local irreducible] seq ByteArray.extract lgE
theorem a1G {n ix:Nat} {ids:List ByteArray} {id:ByteArray} (hix:ix=n) (hl:ids.length=n):
  (some (HB.one false (.obj (.map false false (if ix<n then n else n+1) [.strs (b0j ix id ids)] [.sc (.ints .i64 (b0j ix (n:Int) ((List.range n).map Int.ofNat)))] (if ix<n then List.range n else List.range n++ [n]) (if ix<n then n else n+1)))):Option HB)=s0J (n+1) (ids++ [id]):=by
 subst hix
 rw [if_neg (by omega),if_neg (by omega),c0h hl,c0h (by rw [List.length_map,List.length_range])]
 unfold s0J
 rw [List.range_succ,List.map_append]
 rfl
theorem i0P (L:List Au) (i:Nat) (a:Au) (h:a.id=(d0e L i).id):(L.set i a).map Au.id=L.map Au.id:=by
 rw [List.map_set]
 refine List.ext_getElem (List.length_set ..) fun j h1 h2=> ?_
 rw [List.getElem_set]
 split
 .rename_i e
  subst e
  rw [h]
  show (L.map Au.id).getD i ⟨#[]⟩=_
  rw [List.getD,List.getElem?_eq_getElem h2];rfl
 .rfl
theorem x0B {a:Au} {n u:Int} (h:(h0e a n u).2=0):(h0e a n u).1.id=a.id:=by
 unfold h0e at h⊢
 repeat' split
 all_goals first|rfl|(simp_all;done)
theorem q0X {a:Au} {n:Int} (h:(c0A a n).2.2=0):(c0A a n).1.id=a.id:=by
 unfold c0A at h⊢
 repeat' split
 all_goals first|rfl|(simp_all;done)
theorem u0u {a:Au} {n:Int} (h:(d0C a n).2.2=0):(d0C a n).1.id=a.id:=by
 unfold d0C at h⊢
 repeat' split
 all_goals first|rfl|(simp_all;done)
theorem x0C {a:Au} {n:Int} {b:Bool} (h:(i0r a n b).2.2.2=0):(i0r a n b).1.id=a.id:=by
 unfold i0r at h⊢
 repeat' split
 all_goals first|rfl|(simp_all;done)
set_option maxHeartbeats 2000000 in
theorem u0v (s:Bks) (o:Bop) (h:BkOk s) (hc:CkOk o):FC Tryz.prog 20 203 [.agg [],.ptr 1 0 0 0,o.s] (h0n s) (a0s (.int .i64 (f1i s o)) (h0o (if f1i s o=0 then h1K s o else s)) 26):=by
 have c1:=s0K s o.t h.days hc.t
 have c2:=a1r o.au s.cur o.am o.t (u0i s o.t)
 have hal:s.aid.length=s.na:=by unfold Bks.aid;rw [List.length_map,h.na]
 have h256:=h.n256
 unfold f1i h1K
 by_cases hk:s.pl o.au<s.na
 .rw [if_pos hk,if_neg (by decide)]
  have hb:decide (a0A s.aid o.au<s.na)=true:=decide_eq_true hk
  refine a0p mixed a0x Tryz.func203 rfl (by kernel_rfl) (by kernel_rfl) (by kernel_rfl) ?_
  repeat' ((conv=>whnf);first|(rw [hb])|((first|apply a0f|apply a0c|apply a0g|apply a0b|apply a0h|apply a0a)<;>intro h<;>try (exfalso;(try dsimp only at h);omega))|refine a0i ?_)
  all_goals (conv=>whnf)
  all_goals first
   |exact a0n (l:= [0,1,2,3,4,5,6,7,8,9,10,11,12,13,14,15,16,17,18,19,2,6,10,17,18,19]) rfl rfl ⟨rfl,rfl,rfl,rfl,rfl,rfl,rfl,rfl,rfl,rfl,rfl,rfl,rfl,rfl,rfl,rfl,rfl,rfl,rfl,trivial⟩ a0P
   |(exfalso;omega)
   |trace_state
 rw [if_neg hk]
 have hb:decide (a0A s.aid o.au<s.na)=false:=decide_eq_false hk
 by_cases hn:256<=s.na
 .rw [if_pos hn,if_neg (by decide)]
  refine a0p mixed a0x Tryz.func203 rfl (by kernel_rfl) (by kernel_rfl) (by kernel_rfl) ?_
  repeat' ((conv=>whnf);first|(rw [hb])|((first|apply a0f|apply a0c|apply a0g|apply a0b|apply a0h|apply a0a)<;>intro h<;>try (exfalso;(try dsimp only at h);omega))|refine a0i ?_)
  all_goals (conv=>whnf)
  all_goals first
   |exact a0n (l:= [0,1,2,3,4,5,6,7,8,9,10,11,12,13,14,15,16,17,18,19,2,6,10,17,18,19]) rfl rfl ⟨rfl,rfl,rfl,rfl,rfl,rfl,rfl,rfl,rfl,rfl,rfl,rfl,rfl,rfl,rfl,rfl,rfl,rfl,rfl,trivial⟩ a0P
   |(exfalso;omega)
   |trace_state
 rw [if_neg hn]
 have hnid:=d1q o.au s.cur o.am o.t (u0i s o.t)
 generalize b1O o.au s.cur o.am o.t (u0i s o.t)=N at*
 obtain ⟨a,e⟩:=N
 dsimp only at c2 hnid⊢
 by_cases he:e=0
 .rw [if_pos he]
  subst he
  have hid:a.id=o.au:=hnid rfl
  have hix:a0A s.aid o.au=s.na:=by
   have h1:=Go.Sy.sidx_le s.aid o.au
   have h2:¬a0A s.aid o.au<s.na:=hk
   omega
  have hpl:=a1G (n:=s.na) (ids:=s.aid) (id:=o.au) hix hal
  have hap:=d1Q (s.na+1) s.au a
  have e3:s0J (s.na+1) (s.aid++ [o.au])=s0J (s.na+1) ((s.au++ [a]).map Au.id):=by rw [List.map_append,<-hid];rfl
  refine a0p mixed a0x Tryz.func203 rfl (by kernel_rfl) (by kernel_rfl) (by kernel_rfl) ?_
  repeat' ((conv=>whnf);first|(rw [hb])|refine a0e (l:= [0,1,2,3,4,5,6,7,8,9,10,11,12,13,14,15,16,17,18,19]) (c1) ?_|refine a0l (l:= [0,1,2,3,4,5,6,7,8,9,10,11,12,13,14,15,16,17,18,19]) (c1) ?_|(refine a0j (c2) rfl rfl rfl ?_)|(refine a0m (c2) rfl rfl rfl ?_)|((first|apply a0f|apply a0c|apply a0g|apply a0b|apply a0h|apply a0a)<;>intro h<;>try (exfalso;(try dsimp only at h);omega))|refine a0i ?_)
  all_goals (conv=>whnf)
  all_goals first
   |(exfalso;omega)
   |(exfalso;exact h rfl)
   |exact a0n (l:= [0,1,2,3,4,5,6,7,8,9,10,11,12,13,14,15,16,17,18,19,24,6,10,17,18,19]) rfl rfl ⟨rfl,congrArg (fun z=>some (HB.one false z)) hap,hpl.trans e3,rfl,rfl,rfl,rfl,rfl,rfl,rfl,rfl,rfl,rfl,rfl,rfl,rfl,rfl,rfl,rfl,trivial⟩ a0P
   |trace_state
 .rw [if_neg he]
  refine a0p mixed a0x Tryz.func203 rfl (by kernel_rfl) (by kernel_rfl) (by kernel_rfl) ?_
  repeat' ((conv=>whnf);first|(rw [hb])|refine a0e (l:= [0,1,2,3,4,5,6,7,8,9,10,11,12,13,14,15,16,17,18,19]) (c1) ?_|refine a0l (l:= [0,1,2,3,4,5,6,7,8,9,10,11,12,13,14,15,16,17,18,19]) (c1) ?_|(refine a0j (c2) rfl rfl rfl ?_)|(refine a0m (c2) rfl rfl rfl ?_)|((first|apply a0f|apply a0c|apply a0g|apply a0b|apply a0h|apply a0a)<;>intro h<;>try (exfalso;(try dsimp only at h);omega))|refine a0i ?_)
  all_goals (conv=>whnf)
  all_goals first
   |exact a0n (l:= [0,1,2,3,4,5,6,7,8,9,10,11,12,13,14,15,16,17,18,19,2,6,10,17,18,19]) rfl rfl ⟨rfl,rfl,rfl,rfl,rfl,rfl,rfl,rfl,rfl,rfl,rfl,rfl,rfl,rfl,rfl,rfl,rfl,rfl,rfl,trivial⟩ a0P
   |(exfalso;omega)
   |(exfalso;exact he h)
   |trace_state
set_option maxHeartbeats 2000000 in
theorem u0w (s:Bks) (o:Bop) (h:BkOk s) (hc:CkOk o) (hk:o.k=2):FC Tryz.prog 20 206 [.agg [],.ptr 1 0 0 0,o.s] (h0n s) (a0s (.int .i64 (x0k s o)) (h0o (if x0k s o=0 then b1X s o else s)) 26):=by
 have c1:=s0K s o.t h.days hc.t
 have c2:=u0k (d0e s.au (s.pl o.au)) o.am (max (d0e s.au (s.pl o.au)).unt (u0i s o.t))
 have hA:b1W s o=h0e (d0e s.au (s.pl o.au)) o.am (max (d0e s.au (s.pl o.au)).unt (u0i s o.t)):=by unfold b1W;rw [if_pos hk]
 have hd2:decide (o.k=2)=true:=decide_eq_true hk
 unfold x0k b1X
 by_cases hp:s.pl o.au<s.na
 .have hb:decide (a0A s.aid o.au<s.na)=true:=decide_eq_true hp
  have hpl:=u0t hp
  have hcn:0<=((List.range s.na).map Int.ofNat).getD (s.pl o.au) 0/\((List.range s.na).map Int.ofNat).getD (s.pl o.au) 0<(s.na:Int):=by rw [hpl];omega
  rw [if_pos hp,hA]
  have hidk:=x0B (a:=d0e s.au (s.pl o.au)) (n:=o.am) (u:=max (d0e s.au (s.pl o.au)).unt (u0i s o.t))
  unfold d0e at c2
  try dsimp only at c2
  generalize hN:h0e (d0e s.au (s.pl o.au)) o.am (max (d0e s.au (s.pl o.au)).unt (u0i s o.t))=N at*
  unfold d0e at hN
  rw [hN] at c2
  obtain ⟨a,e⟩:=N
  dsimp only at c2 hidk⊢
  by_cases he:e=0
  .rw [if_pos he]
   subst he
   have hap:=n0s s.na s.au (s.pl o.au) a
   have r3:s0J s.na s.aid=s0J s.na ((s.au.set (s.pl o.au) a).map Au.id):=by rw [i0P _ _ _ (hidk rfl)]
   refine a0p mixed a0x Tryz.func206 rfl (by kernel_rfl) (by kernel_rfl) (by kernel_rfl) ?_
   repeat' ((conv=>whnf);first|(rw [hb])|(rw [hd2];dsimp only [b0l,b0s])|(simp only [hpl,g0r])|refine a0e (l:= [0,1,2,3,4,5,6,7,8,9,10,11,12,13,14,15,16,17,18,19]) (c1) ?_|refine a0l (l:= [0,1,2,3,4,5,6,7,8,9,10,11,12,13,14,15,16,17,18,19]) (c1) ?_|(refine a0j (c2) rfl rfl rfl ?_)|(refine a0m (c2) rfl rfl rfl ?_)|((first|apply a0f|apply a0c|apply a0g|apply a0b|apply a0h|apply a0a)<;>intro h<;>try (exfalso;(try dsimp only at h);omega))|refine a0i ?_)
   all_goals (conv=>whnf)
   all_goals first
    |(exfalso;omega)
    |(exfalso;exact h rfl)
    |exact a0n (l:= [0,1,2,3,4,5,6,7,8,9,10,11,12,13,14,15,16,17,18,19,2,6,10,17,18,19]) rfl rfl ⟨rfl,congrArg (fun z=>some (HB.one false z)) hap,r3,rfl,rfl,rfl,rfl,rfl,rfl,rfl,rfl,rfl,rfl,rfl,rfl,rfl,rfl,rfl,rfl,trivial⟩ a0P
    |trace_state
  .rw [if_neg he]
   refine a0p mixed a0x Tryz.func206 rfl (by kernel_rfl) (by kernel_rfl) (by kernel_rfl) ?_
   repeat' ((conv=>whnf);first|(rw [hb])|(rw [hd2];dsimp only [b0l,b0s])|(simp only [hpl,g0r])|refine a0e (l:= [0,1,2,3,4,5,6,7,8,9,10,11,12,13,14,15,16,17,18,19]) (c1) ?_|refine a0l (l:= [0,1,2,3,4,5,6,7,8,9,10,11,12,13,14,15,16,17,18,19]) (c1) ?_|(refine a0j (c2) rfl rfl rfl ?_)|(refine a0m (c2) rfl rfl rfl ?_)|((first|apply a0f|apply a0c|apply a0g|apply a0b|apply a0h|apply a0a)<;>intro h<;>try (exfalso;(try dsimp only at h);omega))|refine a0i ?_)
   all_goals (conv=>whnf)
   all_goals first
    |exact a0n (l:= [0,1,2,3,4,5,6,7,8,9,10,11,12,13,14,15,16,17,18,19,2,6,10,17,18,19]) rfl rfl ⟨rfl,rfl,rfl,rfl,rfl,rfl,rfl,rfl,rfl,rfl,rfl,rfl,rfl,rfl,rfl,rfl,rfl,rfl,rfl,trivial⟩ a0P
    |(exfalso;omega)
    |(exfalso;exact he h)
    |trace_state
 .have hb:decide (a0A s.aid o.au<s.na)=false:=decide_eq_false hp
  rw [if_neg hp,if_neg (by decide)]
  refine a0p mixed a0x Tryz.func206 rfl (by kernel_rfl) (by kernel_rfl) (by kernel_rfl) ?_
  repeat' ((conv=>whnf);first|(rw [hb])|((first|apply a0f|apply a0c|apply a0g|apply a0b|apply a0h|apply a0a)<;>intro h<;>try (exfalso;(try dsimp only at h);omega))|refine a0i ?_)
  all_goals (conv=>whnf)
  all_goals first
   |exact a0n (l:= [0,1,2,3,4,5,6,7,8,9,10,11,12,13,14,15,16,17,18,19,2,6,10,17,18,19]) rfl rfl ⟨rfl,rfl,rfl,rfl,rfl,rfl,rfl,rfl,rfl,rfl,rfl,rfl,rfl,rfl,rfl,rfl,rfl,rfl,rfl,trivial⟩ a0P
   |(exfalso;omega)
   |trace_state
set_option maxHeartbeats 2000000 in
theorem u0x (s:Bks) (o:Bop) (h:BkOk s) (hc:CkOk o) (hk:o.k=3):FC Tryz.prog 20 206 [.agg [],.ptr 1 0 0 0,o.s] (h0n s) (a0s (.int .i64 (x0k s o)) (h0o (if x0k s o=0 then b1X s o else s)) 26):=by
 have c1:=s0K s o.t h.days hc.t
 have c2:=p0l (d0e s.au (s.pl o.au)) o.am
 have hA:b1W s o=((c0A (d0e s.au (s.pl o.au)) o.am).1,(c0A (d0e s.au (s.pl o.au)) o.am).2.2):=by unfold b1W;rw [if_neg (by omega),if_pos hk]
 have hd2:decide (o.k=2)=false:=decide_eq_false (by omega)
 have hd3:decide (o.k=3)=true:=decide_eq_true hk
 unfold x0k b1X
 by_cases hp:s.pl o.au<s.na
 .have hb:decide (a0A s.aid o.au<s.na)=true:=decide_eq_true hp
  have hpl:=u0t hp
  have hcn:0<=((List.range s.na).map Int.ofNat).getD (s.pl o.au) 0/\((List.range s.na).map Int.ofNat).getD (s.pl o.au) 0<(s.na:Int):=by rw [hpl];omega
  rw [if_pos hp,hA]
  have hidk:=q0X (a:=d0e s.au (s.pl o.au)) (n:=o.am)
  unfold d0e at c2
  try dsimp only at c2
  generalize hN:c0A (d0e s.au (s.pl o.au)) o.am=N at*
  unfold d0e at hN
  rw [hN] at c2
  obtain ⟨a,r,e⟩:=N
  dsimp only at c2 hidk⊢
  by_cases he:e=0
  .rw [if_pos he]
   subst he
   have hap:=n0s s.na s.au (s.pl o.au) a
   have r3:s0J s.na s.aid=s0J s.na ((s.au.set (s.pl o.au) a).map Au.id):=by rw [i0P _ _ _ (hidk rfl)]
   refine a0p mixed a0x Tryz.func206 rfl (by kernel_rfl) (by kernel_rfl) (by kernel_rfl) ?_
   repeat' ((conv=>whnf);first|(rw [hb])|(rw [hd2];dsimp only [b0l,b0s])|(rw [hd3];try dsimp only [b0l,b0s])|(simp only [hpl,g0r])|refine a0e (l:= [0,1,2,3,4,5,6,7,8,9,10,11,12,13,14,15,16,17,18,19]) (c1) ?_|refine a0l (l:= [0,1,2,3,4,5,6,7,8,9,10,11,12,13,14,15,16,17,18,19]) (c1) ?_|(refine a0j (c2) rfl rfl rfl ?_)|(refine a0m (c2) rfl rfl rfl ?_)|((first|apply a0f|apply a0c|apply a0g|apply a0b|apply a0h|apply a0a)<;>intro h<;>try (exfalso;(try dsimp only at h);omega))|refine a0i ?_)
   all_goals (conv=>whnf)
   all_goals first
    |(exfalso;omega)
    |(exfalso;exact h rfl)
    |exact a0n (l:= [0,1,2,3,4,5,6,7,8,9,10,11,12,13,14,15,16,17,18,19,2,6,10,17,18,19]) rfl rfl ⟨rfl,congrArg (fun z=>some (HB.one false z)) hap,r3,rfl,rfl,rfl,rfl,rfl,rfl,rfl,rfl,rfl,rfl,rfl,rfl,rfl,rfl,rfl,rfl,trivial⟩ a0P
    |trace_state
  .rw [if_neg he]
   refine a0p mixed a0x Tryz.func206 rfl (by kernel_rfl) (by kernel_rfl) (by kernel_rfl) ?_
   repeat' ((conv=>whnf);first|(rw [hb])|(rw [hd2];dsimp only [b0l,b0s])|(rw [hd3];try dsimp only [b0l,b0s])|(simp only [hpl,g0r])|refine a0e (l:= [0,1,2,3,4,5,6,7,8,9,10,11,12,13,14,15,16,17,18,19]) (c1) ?_|refine a0l (l:= [0,1,2,3,4,5,6,7,8,9,10,11,12,13,14,15,16,17,18,19]) (c1) ?_|(refine a0j (c2) rfl rfl rfl ?_)|(refine a0m (c2) rfl rfl rfl ?_)|((first|apply a0f|apply a0c|apply a0g|apply a0b|apply a0h|apply a0a)<;>intro h<;>try (exfalso;(try dsimp only at h);omega))|refine a0i ?_)
   all_goals (conv=>whnf)
   all_goals first
    |exact a0n (l:= [0,1,2,3,4,5,6,7,8,9,10,11,12,13,14,15,16,17,18,19,2,6,10,17,18,19]) rfl rfl ⟨rfl,rfl,rfl,rfl,rfl,rfl,rfl,rfl,rfl,rfl,rfl,rfl,rfl,rfl,rfl,rfl,rfl,rfl,rfl,trivial⟩ a0P
    |(exfalso;omega)
    |(exfalso;exact he h)
    |trace_state
 .have hb:decide (a0A s.aid o.au<s.na)=false:=decide_eq_false hp
  rw [if_neg hp,if_neg (by decide)]
  refine a0p mixed a0x Tryz.func206 rfl (by kernel_rfl) (by kernel_rfl) (by kernel_rfl) ?_
  repeat' ((conv=>whnf);first|(rw [hb])|((first|apply a0f|apply a0c|apply a0g|apply a0b|apply a0h|apply a0a)<;>intro h<;>try (exfalso;(try dsimp only at h);omega))|refine a0i ?_)
  all_goals (conv=>whnf)
  all_goals first
   |exact a0n (l:= [0,1,2,3,4,5,6,7,8,9,10,11,12,13,14,15,16,17,18,19,2,6,10,17,18,19]) rfl rfl ⟨rfl,rfl,rfl,rfl,rfl,rfl,rfl,rfl,rfl,rfl,rfl,rfl,rfl,rfl,rfl,rfl,rfl,rfl,rfl,trivial⟩ a0P
   |(exfalso;omega)
   |trace_state
set_option maxHeartbeats 2000000 in
theorem u0y (s:Bks) (o:Bop) (h:BkOk s) (hc:CkOk o) (hk:o.k=7):FC Tryz.prog 20 206 [.agg [],.ptr 1 0 0 0,o.s] (h0n s) (a0s (.int .i64 (x0k s o)) (h0o (if x0k s o=0 then b1X s o else s)) 26):=by
 have c1:=s0K s o.t h.days hc.t
 have c2:=q0T (d0e s.au (s.pl o.au)) o.t
 have hA:b1W s o=((d0C (d0e s.au (s.pl o.au)) o.t).1,(d0C (d0e s.au (s.pl o.au)) o.t).2.2):=by unfold b1W;rw [if_neg (by omega),if_neg (by omega)]
 have hd2:decide (o.k=2)=false:=decide_eq_false (by omega)
 have hd3:decide (o.k=3)=false:=decide_eq_false (by omega)
 unfold x0k b1X
 by_cases hp:s.pl o.au<s.na
 .have hb:decide (a0A s.aid o.au<s.na)=true:=decide_eq_true hp
  have hpl:=u0t hp
  have hcn:0<=((List.range s.na).map Int.ofNat).getD (s.pl o.au) 0/\((List.range s.na).map Int.ofNat).getD (s.pl o.au) 0<(s.na:Int):=by rw [hpl];omega
  rw [if_pos hp,hA]
  have hidk:=u0u (a:=d0e s.au (s.pl o.au)) (n:=o.t)
  unfold d0e at c2
  try dsimp only at c2
  generalize hN:d0C (d0e s.au (s.pl o.au)) o.t=N at*
  unfold d0e at hN
  rw [hN] at c2
  obtain ⟨a,r,e⟩:=N
  dsimp only at c2 hidk⊢
  by_cases he:e=0
  .rw [if_pos he]
   subst he
   have hap:=n0s s.na s.au (s.pl o.au) a
   have r3:s0J s.na s.aid=s0J s.na ((s.au.set (s.pl o.au) a).map Au.id):=by rw [i0P _ _ _ (hidk rfl)]
   refine a0p mixed a0x Tryz.func206 rfl (by kernel_rfl) (by kernel_rfl) (by kernel_rfl) ?_
   repeat' ((conv=>whnf);first|(rw [hb])|(rw [hd2];dsimp only [b0l,b0s])|(rw [hd3];try dsimp only [b0l,b0s])|(simp only [hpl,g0r])|refine a0e (l:= [0,1,2,3,4,5,6,7,8,9,10,11,12,13,14,15,16,17,18,19]) (c1) ?_|refine a0l (l:= [0,1,2,3,4,5,6,7,8,9,10,11,12,13,14,15,16,17,18,19]) (c1) ?_|(refine a0j (c2) rfl rfl rfl ?_)|(refine a0m (c2) rfl rfl rfl ?_)|((first|apply a0f|apply a0c|apply a0g|apply a0b|apply a0h|apply a0a)<;>intro h<;>try (exfalso;(try dsimp only at h);omega))|refine a0i ?_)
   all_goals (conv=>whnf)
   all_goals first
    |(exfalso;omega)
    |(exfalso;exact h rfl)
    |exact a0n (l:= [0,1,2,3,4,5,6,7,8,9,10,11,12,13,14,15,16,17,18,19,2,6,10,17,18,19]) rfl rfl ⟨rfl,congrArg (fun z=>some (HB.one false z)) hap,r3,rfl,rfl,rfl,rfl,rfl,rfl,rfl,rfl,rfl,rfl,rfl,rfl,rfl,rfl,rfl,rfl,trivial⟩ a0P
    |trace_state
  .rw [if_neg he]
   refine a0p mixed a0x Tryz.func206 rfl (by kernel_rfl) (by kernel_rfl) (by kernel_rfl) ?_
   repeat' ((conv=>whnf);first|(rw [hb])|(rw [hd2];dsimp only [b0l,b0s])|(rw [hd3];try dsimp only [b0l,b0s])|(simp only [hpl,g0r])|refine a0e (l:= [0,1,2,3,4,5,6,7,8,9,10,11,12,13,14,15,16,17,18,19]) (c1) ?_|refine a0l (l:= [0,1,2,3,4,5,6,7,8,9,10,11,12,13,14,15,16,17,18,19]) (c1) ?_|(refine a0j (c2) rfl rfl rfl ?_)|(refine a0m (c2) rfl rfl rfl ?_)|((first|apply a0f|apply a0c|apply a0g|apply a0b|apply a0h|apply a0a)<;>intro h<;>try (exfalso;(try dsimp only at h);omega))|refine a0i ?_)
   all_goals (conv=>whnf)
   all_goals first
    |exact a0n (l:= [0,1,2,3,4,5,6,7,8,9,10,11,12,13,14,15,16,17,18,19,2,6,10,17,18,19]) rfl rfl ⟨rfl,rfl,rfl,rfl,rfl,rfl,rfl,rfl,rfl,rfl,rfl,rfl,rfl,rfl,rfl,rfl,rfl,rfl,rfl,trivial⟩ a0P
    |(exfalso;omega)
    |(exfalso;exact he h)
    |trace_state
 .have hb:decide (a0A s.aid o.au<s.na)=false:=decide_eq_false hp
  rw [if_neg hp,if_neg (by decide)]
  refine a0p mixed a0x Tryz.func206 rfl (by kernel_rfl) (by kernel_rfl) (by kernel_rfl) ?_
  repeat' ((conv=>whnf);first|(rw [hb])|((first|apply a0f|apply a0c|apply a0g|apply a0b|apply a0h|apply a0a)<;>intro h<;>try (exfalso;(try dsimp only at h);omega))|refine a0i ?_)
  all_goals (conv=>whnf)
  all_goals first
   |exact a0n (l:= [0,1,2,3,4,5,6,7,8,9,10,11,12,13,14,15,16,17,18,19,2,6,10,17,18,19]) rfl rfl ⟨rfl,rfl,rfl,rfl,rfl,rfl,rfl,rfl,rfl,rfl,rfl,rfl,rfl,rfl,rfl,rfl,rfl,rfl,rfl,trivial⟩ a0P
   |(exfalso;omega)
   |trace_state
end
section
attribute [local irreducible] a0B a0D a0u a0Y sortI
attribute [local irreducible] seq ByteArray.extract lgE
theorem p0p {s:ByteArray} (h:nmB s=true):s.size<=16:=by
 unfold nmB at h
 simp only [Bool.and_eq_true,decide_eq_true_eq] at h
 exact h.1.1.2
theorem x0D (s:Bks) (o:Bop) (f g:ByteArray) (n:Int) (h:BkOk s) (hx:owX s o.t f g n≠0):FC Tryz.prog 20 233 [.ptr 1 0 0 0,o.s,.str f,.str g,.int .i64 n] (h0n s) (a0s (.int .i64 (owX s o.t f g n)) (h0o s) 26):=by
 have c1:=n0x s n
 have c2:=x0a h.bks h.hn h.nc h.np h.err s.cut o.t f g s.cur n
 unfold mvO at c2
 rw [if_neg (show¬mvX s.hs s.ds s.cd s.B s.pr (mvD s.hs s.cd (ofI s.hs s.cut o.t)) f g s.cur n=0 from hx)] at c2
 unfold owX bkD at hx⊢
 generalize mvX s.hs s.ds s.cd s.B s.pr (mvD s.hs s.cd (ofI s.hs s.cut o.t)) f g s.cur n=E at*
 refine a0p mixed a0x Tryz.func233 rfl (by kernel_rfl) (by kernel_rfl) (by kernel_rfl) ?_
 repeat' ((conv=>whnf);first|refine a0e (l:= [0,1,2,3,4,5,6,7,8,9,10,11,12,13,14,15,16,17,18,19]) (c1) ?_|refine a0l (l:= [0,1,2,3,4,5,6,7,8,9,10,11,12,13,14,15,16,17,18,19]) (c1) ?_|refine a0e (l:= [0,11,12,13,14,15,16,17,18,19]) (c2) ?_|refine a0l (l:= [0,11,12,13,14,15,16,17,18,19]) (c2) ?_|((first|apply a0f|apply a0c|apply a0g|apply a0b|apply a0h|apply a0a)<;>intro h<;>try (exfalso;(try dsimp only at h);omega))|refine a0i ?_)
 all_goals (conv=>whnf)
 all_goals first
  |exact a0n (l:= [0,1,2,3,4,5,6,7,8,9,10,11,12,13,14,15,16,17,18,19,2,6,10,17,18,19]) rfl rfl ⟨rfl,rfl,rfl,rfl,rfl,rfl,rfl,rfl,rfl,rfl,rfl,rfl,rfl,rfl,rfl,rfl,rfl,rfl,rfl,trivial⟩ a0P
  |(exfalso;omega)
  |(exfalso;exact hx h)
  |trace_state
theorem x0E (s:Bks) (o:Bop) (h:BkOk s) (hc:CkOk o) (hk:o.k=4\/o.k=5\/o.k=6) (hi:¬inL o.id s.lg.ids) (hf:¬512<=s.lg.ne) (hx:owX s o.t (mtF o) (mtG o) (mtN o)=0):
  FC Tryz.prog 20 233 [.ptr 1 0 0 0,o.s,.str (mtF o),.str (mtG o),.int .i64 (mtN o)] (h0n s) (a0s (.int .i64 0) (h0o (owS s o)) 26):=by
 obtain ⟨hp,hne⟩:=g1y h hc hk hi hf hx
 obtain ⟨b1,b2,b3⟩:=x0l h.bks h.np h.err (bkD s o.t)
 obtain ⟨m1,m2,m3,m4,m5,m6⟩:=s0B hx b3 b1.psl
 have hb:=q0Q hc hk
 obtain ⟨w1,w2,w3⟩:=w0F h.err
 have z1:=p0p (w3 _ m3)
 have z2:=p0p (w3 _ m4)
 have c1:=n0x s (mtN o)
 have c1':=n0x s (-mtN o)
 have c2:=x0a h.bks h.hn h.nc h.np h.err s.cut o.t (mtF o) (mtG o) s.cur (mtN o)
 unfold mvO at c2
 rw [if_pos (show mvX s.hs s.ds s.cd s.B s.pr (mvD s.hs s.cd (ofI s.hs s.cut o.t)) (mtF o) (mtG o) s.cur (mtN o)=0 from hx)] at c2
 have c3:=w0r o.t
 have c4:=f0j (mtF o) (by omega)
 have c4':=f0j (mtG o) (by omega)
 have c5:=u0r s.lg o.id (k0Q o.t) (enB s o).ps 2 h.lg rfl hp
 change FC _ _ _ _ _ (a0s _ ((6,c1a false (lgP s.lg (enB s o)))::psO (lgP s.lg (enB s o))) _) at c5
 have hneg:IntKind.i64.wrap (0-mtN o)= -mtN o:=by rw [a0G (by omega) (by omega)];omega
 have hne1:IntKind.i64.wrap ((s.lg.ne:Int)+1)=((lgP s.lg (enB s o)).ne:Int):=a0M (by omega)
 have ha:l0d s.lg=l0d (lgP s.lg (enB s o)):=rfl
 have hst:g1G s.lg=g1G (lgP s.lg (enB s o)):=rfl
 unfold owS
 unfold enB at c5
 dsimp only at c5
 change FC _ _ _ _ _ (a0s _ ((6,c1a false (lgP s.lg (enB s o)))::psO (lgP s.lg (enB s o))) _) at c5
 generalize lgP s.lg (enB s o)=S' at*
 unfold bkD
 generalize mvD s.hs s.cd (ofI s.hs s.cut o.t)=D at*
 generalize mtF o=F at*
 generalize mtG o=G at*
 generalize mtN o=N at*
 generalize k0Q o.t=dd at*
 generalize d1w o.t=ds at*
 have r1:(some (HB.one false (.cells [.str s.cur,.int .i64 s.days,.sl 2 0 0 s.na,.map 3 0,.ptr 4 0 0 0,.int .i64 (IntKind.i64.wrap ((s.lg.ne:Int)+1)),.ptr 11 0 0 0,.int .i64 s.last])):Option HB)=some (.one false (.cells [.str s.cur,.int .i64 s.days,.sl 2 0 0 s.na,.map 3 0,.ptr 4 0 0 0,.int .i64 S'.ne,.ptr 11 0 0 0,.int .i64 s.last])):=by rw [hne1]
 have r5:=congrArg (fun z=>some (HB.one false z)) ha
 have r8:=congrArg (fun z=>some (HB.one false z)) hst
 refine a0p mixed a0x Tryz.func233 rfl (by kernel_rfl) (by kernel_rfl) (by kernel_rfl) ?_
 repeat' ((conv=>whnf);first|refine a0e (l:= [0,1,2,3,4,5,6,7,8,9,10,11,12,13,14,15,16,17,18,19]) (c1) ?_|refine a0l (l:= [0,1,2,3,4,5,6,7,8,9,10,11,12,13,14,15,16,17,18,19]) (c1) ?_|refine a0e (l:= [0,1,2,3,4,5,6,7,8,9,10,11,12,13,14,15,16,17,18,19]) (c1') ?_|refine a0l (l:= [0,1,2,3,4,5,6,7,8,9,10,11,12,13,14,15,16,17,18,19]) (c1') ?_|refine a0e (l:= [0,11,12,13,14,15,16,17,18,19]) (c2) ?_|refine a0l (l:= [0,11,12,13,14,15,16,17,18,19]) (c2) ?_|(refine a0j (c3) rfl rfl rfl ?_)|(refine a0m (c3) rfl rfl rfl ?_)|(refine a0j (c4) rfl rfl rfl ?_)|(refine a0m (c4) rfl rfl rfl ?_)|(refine a0j (c4') rfl rfl rfl ?_)|(refine a0m (c4') rfl rfl rfl ?_)|(rw [hneg])|refine a0e (l:= [0,4,5,6,7,8,9,10,24]) (c5) ?_|refine a0l (l:= [0,4,5,6,7,8,9,10,24]) (c5) ?_|((first|apply a0f|apply a0c|apply a0g|apply a0b|apply a0h|apply a0a)<;>intro h<;>try (exfalso;(try dsimp only at h);omega))|refine a0i ?_)
 all_goals (conv=>whnf)
 all_goals first
  |(exfalso;omega)
  |(exfalso;exact h rfl)
  |exact a0n (l:= [0,1,2,3,4,5,6,7,8,9,10,11,12,13,14,15,16,17,18,19,2,25,26,21,22,23]) rfl rfl ⟨r1,rfl,rfl,rfl,rfl,r5,rfl,rfl,r8,rfl,rfl,rfl,rfl,rfl,rfl,rfl,rfl,rfl,rfl,trivial⟩ a0P
  |trace_state
end
section
attribute [local irreducible] a0B a0D a0u a0Y sortI
theorem n0y {s:ByteArray} {u:Bool} {p:ByteArray->Bool} (h:fiB s u p=true) (hp:p s=true->s.size<=16):s.size<=16:=by
 unfold fiB at h
 cases u with
 |true=>exact hp h
 |false=>have e:s=⟨#[]⟩:=of_decide_eq_true h;rw [e];decide
theorem x0F {s:ByteArray} (h:auI s=true):s.size<=16:=by
 unfold auI at h
 rw [Bool.and_eq_true] at h
 have:=of_decide_eq_true h.1
 omega
def c1b (o:Bop):List ByteArray:= [c0g o.k,c0g o.t,o.id,o.au,o.is,o.ac,c0g o.am,c0g o.fe,if o.fi=true then ⟨#[49]⟩ else ⟨#[48]⟩]
def c0c (o:Bop):ByteArray:=e0J (c1b o) ⟨#[124]⟩
structure BopSz (o:Bop):Prop where
 k: -9223372036854775808<=o.k/\o.k<=9223372036854775807
 t: -9223372036854775808<=o.t/\o.t<=9223372036854775807
 am: -9223372036854775808<=o.am/\o.am<=9223372036854775807
 fe: -9223372036854775808<=o.fe/\o.fe<=9223372036854775807
 id:o.id.size<=16
 au:o.au.size<=16
 is:o.is.size<=16
 ac:o.ac.size<=16
theorem c1c {o:Bop} (h:CkOk o):BopSz o:=by
 have hn:=h.n
 unfold bkN at hn
 simp only [Bool.and_eq_true] at hn
 have ha:=h.a
 have hk:=h.k
 have ht:=h.t
 have hf:=h.f
 have hb: -999999999999<=o.am/\o.am<=999999999999:=by
  unfold pmB at ha
  repeat' split at ha
  all_goals (have ha:=of_decide_eq_true ha;omega)
 have hfe:o.fe<=999999999999:=by
  have:=hf.2
  split at this<;>omega
 exact ⟨by omega,by omega,by omega,by omega,n0y hn.1 x0F,n0y hn.2.1 x0F,n0y hn.2.2.1 p0p,n0y hn.2.2.2 p0p⟩
theorem s0L {o:Bop} (h:BopSz o):(e0J (c1b o) ⟨#[124]⟩).size<=1000:=by
 have h1:=b0G o.k h.k.1 h.k.2
 have h2:=b0G o.t h.t.1 h.t.2
 have h3:=b0G o.am h.am.1 h.am.2
 have h4:=b0G o.fe h.fe.1 h.fe.2
 have h5:o.id.data.size<=16:=h.id
 have h6:o.au.data.size<=16:=h.au
 have h7:o.is.data.size<=16:=h.is
 have h8:o.ac.data.size<=16:=h.ac
 have h9:(if o.fi=true then (⟨#[49]⟩:ByteArray) else ⟨#[48]⟩).size<=1:=by split<;>decide
 unfold e0J c1b
 show (Lib.join _ _).toArray.size<=1000
 rw [List.size_toArray,List.map_cons,Lib.join_cons,List.length_append,Lib.joinTail_length]
 generalize (if o.fi=true then (⟨#[49]⟩:ByteArray) else ⟨#[48]⟩)=z at*
 simp only [Lib.lens,List.map_cons,List.map_nil,List.sum_cons,List.sum_nil,List.length_cons,List.length_nil,Array.length_toList]
 simp only [ByteArray.size] at h1 h2 h3 h4 h9
 omega
theorem s0M (n:Nat) (L:List ByteArray) (sep:ByteArray) (h0:0<n) (hN:n<=1000000) (hlen:(e0J L sep).size<=140737488355328):
  FC Tryz.prog 2 41 [.sl 1 0 0 n,.str sep] [(1,some (.one true (.cols n [.sc (.strs L)])))] (a0s (.str (e0J L sep)) [] 2):=
 d1D (fun bk o c xs sep w h1 h2 h3 h4 h5=>Tryz.strings_Join bk o c xs sep w h1 h2 h3 h4 h5) (f0a Tryz.func41 (by kernel_rfl) (by kernel_rfl)) n L sep h0 hN hlen
theorem f0k (o:Bop) (hc:ckE o=0):k0U Tryz.prog glT 18 [o.s] (.tup [.str (c0c o),.int .i64 0]):=by
 have c1:=d0O o
 rw [hc] at c1
 have hs:=c1c (z0R hc)
 have hj:=s0L hs
 have g1:=h0m o.k hs.k.1 hs.k.2
 have g2:=h0m o.t hs.t.1 hs.t.2
 have g3:=b0I o.am hs.am.1 hs.am.2
 have g4:=b0I o.fe hs.fe.1 hs.fe.2
 have c2:=s0M 9 (c1b o) ⟨#[124]⟩ (by decide) (by decide) (by omega)
 unfold c0c
 unfold c1b at c2⊢
 obtain ⟨k,t,id,au,is,ac,am,fe,fi⟩:=o
 cases fi with
 |true=>
  rw [if_pos rfl] at c2
  rw [if_pos rfl]
  refine a0p mixed a0x Tryz.func18 rfl (by kernel_rfl) (by kernel_rfl) (by kernel_rfl) ?_
  repeat' ((conv=>whnf);first|(refine a0j (c1) rfl rfl rfl ?_)|(refine a0m (c1) rfl rfl rfl ?_)|(refine a0t (g1) rfl rfl rfl rfl ?_)|(refine a0w (g1) rfl rfl rfl rfl ?_)|(refine a0t (g2) rfl rfl rfl rfl ?_)|(refine a0w (g2) rfl rfl rfl rfl ?_)|(refine a0t (g3) rfl rfl rfl rfl ?_)|(refine a0w (g3) rfl rfl rfl rfl ?_)|(refine a0t (g4) rfl rfl rfl rfl ?_)|(refine a0w (g4) rfl rfl rfl rfl ?_)|refine a0e (l:= [0,2]) (c2) ?_|refine a0l (l:= [0,2]) (c2) ?_|((first|apply a0f|apply a0c|apply a0g|apply a0b|apply a0h|apply a0a)<;>intro h<;>try (exfalso;(try dsimp only at h);omega))|refine a0i ?_)
  all_goals (conv=>whnf)
  all_goals first
   |(exfalso;omega)
   |(exfalso;exact h rfl)
   |exact a0o rfl
   |trace_state
 |false=>
  rw [if_neg (fun e=>Bool.noConfusion e)] at c2
  rw [if_neg (fun e=>Bool.noConfusion e)]
  refine a0p mixed a0x Tryz.func18 rfl (by kernel_rfl) (by kernel_rfl) (by kernel_rfl) ?_
  repeat' ((conv=>whnf);first|(refine a0j (c1) rfl rfl rfl ?_)|(refine a0m (c1) rfl rfl rfl ?_)|(refine a0t (g1) rfl rfl rfl rfl ?_)|(refine a0w (g1) rfl rfl rfl rfl ?_)|(refine a0t (g2) rfl rfl rfl rfl ?_)|(refine a0w (g2) rfl rfl rfl rfl ?_)|(refine a0t (g3) rfl rfl rfl rfl ?_)|(refine a0w (g3) rfl rfl rfl rfl ?_)|(refine a0t (g4) rfl rfl rfl rfl ?_)|(refine a0w (g4) rfl rfl rfl rfl ?_)|refine a0e (l:= [0,2]) (c2) ?_|refine a0l (l:= [0,2]) (c2) ?_|((first|apply a0f|apply a0c|apply a0g|apply a0b|apply a0h|apply a0a)<;>intro h<;>try (exfalso;(try dsimp only at h);omega))|refine a0i ?_)
  all_goals (conv=>whnf)
  all_goals first
   |(exfalso;omega)
   |(exfalso;exact h rfl)
   |exact a0o rfl
   |trace_state
end
end Go.Proofs.YtmgnedokogidoaaGreatDoor
