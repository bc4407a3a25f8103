/- Several texts in one: Kk2. -/
import Derived.Test.YtmnjebhdclmcfaaGreatDoorP5
import Derived.WalkKit
import Derived.Lib.Builder
import Derived.Lib.AppendStr
import Derived.Lib.UnsafeStr
import Derived.Lib.Strings
import Derived.Lib.Slices
import Derived.Lib.Walk
import Derived.Shelf.RegionOpenPlain
import Derived.Shelf.Strings.Split
import Derived.Lib.ParseIntBTie
set_option linter.unusedVariables false
set_option linter.unusedSimpArgs false
set_option maxRecDepth 100000
open Go.Proofs.Tryz hiding sortI
open Go.IntKind (i64 u8 u64)
attribute [local irreducible] Go.Sy.a0n Go.Sy.a0o Go.Sy.a0i Go.Sy.a0E
namespace Go.Sy
abbrev k1o:=@ByteArray.size_append
abbrev s1o:=@List.pairwise_cons
abbrev t1C:=@Classical.not_not
abbrev t1F:=@List.drop_eq_getElem_cons
abbrev t1G:=@ByteArray.data_append
abbrev t1I:=@Lib.cell_of_heap
abbrev t1Q:=@Nat.lt_succ_self
abbrev t1V:=@List.mem_append_left
abbrev t1j:=@Lib.strCells_eq
abbrev t1p:=@Int.add_zero
abbrev t1x:=@List.take_append_of_le_length
abbrev u1Y:=@List.length_range
abbrev u1b:=@Lib.join_cons
end Go.Sy
namespace Go.Proofs.YtmnjebhdclmcfaaGreatDoor
open Go.RowKit Go.Sy
section
attribute [local irreducible] sortI
theorem n1L {B:List Bk} {i:Nat} (hi:i<B.length) (b:Bk) (x:Nat):(if x=i then p1T b else f9 B x)=f9 (B.set i b) x:=by
 unfold f9;grind
theorem b1Z {B:List Bk} {m i np:Nat} {sp:List BA} (hi:i<m) (hB:B.length=m) (h:BkI (B.getD i bk0) 4503599627370496) (hn:(B.getD i bk0).n=np) (hp:(B.getD i bk0).ps=sp) (f t c:BA) (a:Int):FC prog 4 357 [.ptr 1 i 0 0,.str f,.str t,.agg [.i a,.str c]] [(1,fmB true m (f7 2 3 np)),(2,fmB true m (f8 np sp)),(3,fmB false m (f9 B))] (a0g (.i (mvE (B.getD i bk0) f t c a)) [(3,fmB false m (f9 (B.set i ((B.getD i bk0).mv f t c a))))] 4):=by
 have c0:=k0s [(1,⟨i,fun x=>x<m,f7 2 3 np⟩),(2,⟨i,fun x=>x<m,f8 np sp⟩),(3,⟨i,fun x=>x<m,f9 B⟩)] (by
  refine ⟨⟨by simp,by simp,_,_,rfl,hi,?_,.inl rfl⟩,⟨by simp,by simp,_,_,rfl,hi,rfl,.inl rfl⟩,⟨by simp,by simp,_,_,rfl,hi,rfl,.inr ⟨rfl,_,rfl⟩⟩,trivial⟩;show Blk.cells [.sl 2 i 0 np,.map 3 i]= .cells [.sl 2 (0+i) 0 np,.map 3 (0+i)];simp) (by trivial) (by trivial) (a0b a0c) (s0v h hn hp f t c a)
 have e:SV.mems (fmu [(1,⟨i,fun x=>x<m,f7 2 3 np⟩),(2,⟨i,fun x=>x<m,f8 np sp⟩),(3,⟨i,fun x=>x<m,f9 B⟩)]) [.ptr 1 0 0 0,.str f,.str t,.agg [.i a,.str c]]= [.ptr 1 i 0 0,.str f,.str t,.agg [.i a,.str c]]:=by
  show [SV.ptr 1 (0+i) 0 0,.str f,.str t,.agg [.i a,.str c]]=_;simp
 rw [e] at c0;have e2:f9 (B.set i ((B.getD i bk0).mv f t c a))=fun x=>if x=i then p1T ((B.getD i bk0).mv f t c a) else f9 B x:=funext fun x=>(n1L oM _ x).symm
 rw [e2];exact c0
abbrev c1a (h5 h7 h8 h9 np m:Nat) (ds:List Int) (B:List Bk) (sp:List BA):a0k:= [(h5,cyB false h7 m ds),(h7,fmB false m (f7 h8 h9 np)),(h8,fmB false m (f8 np sp)),(h9,fmB false m (f9 B))]
theorem u0C {np m:Nat} {ds:List Int} (hds:ds.length=m) (cut d:Int) (h:d∈ds):FC prog 10 356 [.ptr 1 0 0 0,.i d] [(1,cyC true 2 4 5 6 np cut),(5,cyB true 7 m ds)] (a0g (.tup [.ptr 7 (a0S ds d) 0 0,.i 0]) [] 10):=by
 have hi:a0S ds d<m:=by rw [<-hds];exact b0o.2 h
 have hfd:e0D false m [.ptrs 7 m] (a0S ds d)= .ptr 7 (a0S ds d) 0 0:=by
  show (bif decide (a0S ds d<m) then SV.ptr 7 (a0S ds d) 0 0 else .nptr)=_;simp_all
 have hdec:decide (a0S ds d<m)=true:=decide_eq_true hi;let l:=xAc;have q0:=hfd;exact Wx func356
theorem u0D {np m:Nat} {ds:List Int} {pr:List BA} (hds:ds.length=m) (hp:pr.length=np) (he:c0u pr=0) (cut d:Int) (h:¬d∈ds):FC prog 10 356 [.ptr 1 0 0 0,.i d] [(1,cyC true 2 4 5 6 np cut),(4,cyP true np pr),(5,cyB true 7 m ds)] (a0g (.tup [.ptr 10 0 0 0,.i 0]) [(10,bkC false 11 12 np),(11,cyP false np (sortS pr)),(12,bkM false (nwB pr))] 13):=by
 subst hp;have hi:¬a0S ds d<m:=by rw [<-hds];exact fun q=>h (b0o.1 q)
 have hdec:decide (a0S ds d<m)=false:=decide_eq_false hi;have hfd:e0D false m [.ptrs 7 m] (a0S ds d)= .nptr:=by
  show (bif decide (a0S ds d<m) then SV.ptr 7 (a0S ds d) 0 0 else .nptr)=_;grind
 have c:=w0F pr pr.length rfl;unfold y0P at c;rw [if_neg oM] at c;have c0:=c;let l:=[0,4];let R:=xBc;exact Wx func356
def mvF (hs cd:List Int):Nat->Int->Int
 |0,_=> -1
 |k+1,x=>if x<0 then-1 else if x∈cd then mvF hs cd k (nxI hs (x+1)) else x
@[irreducible] def mvD (hs cd:List Int) (x:Int):Int:=mvF hs cd 100001 x
theorem u0E {hs cd:List Int} {x:Int} (h:x<0):∀k,mvF hs cd k x= -1
 |0=>rfl
 |k+1=>by simp_all [mvF]
def ofP (x:Int):Int:=if x<0 then 0 else x
def ofQ (x:Int):Int:=if x<0 then 14 else 0
theorem w0K (x:Int):ofV x= .tup [.i (ofP x),.i (ofQ x)]:=by unfold ofV ofP ofQ;split<;>rfl
theorem i1O {hs:List Int} {cut t:Int}:ofI hs cut t<=99999:=by
 unfold ofI;split
 .omega
 .rename_i h;have:=q0v h;split
  .omega
  .by_cases q:nxI hs (h0R t+1)<0
   .omega
   .exact (b1S q).2.1
def c0H (ds:List Int) (B:List Bk) (pr:List BA) (d:Int):Bk:=if d∈ds then B.getD (a0S ds d) bk0 else nwB pr
def k0G (ds:List Int) (d:Int):List Int:=if d∈ds then ds else ds++ [d]
def s0x (ds:List Int) (B:List Bk) (d:Int) (b:Bk):List Bk:=if d∈ds then B.set (a0S ds d) b else B++ [b]
def mvX (hs ds cd:List Int) (B:List Bk) (pr:List BA) (D:Int) (f t c:BA) (a:Int):Int:=if D<0 then 14 else mvE (c0H ds B pr D) f t c a
def mvO (np m:Nat) (hs ds cd:List Int) (B:List Bk) (pr:List BA) (D:Int) (f t c:BA) (a:Int):SV->a0k->Nat->Prop:=
 if mvX hs ds cd B pr D f t c a=0 then a0g (.tup [.i D,.i 0]) (c1a 5 10 11 12 np (k0G ds D).length (k0G ds D) (s0x ds B D ((c0H ds B pr D).mv f t c a)) (sortS pr)) 13
 else a0g (.tup [.i 0,.i (mvX hs ds cd B pr D f t c a)]) (c1a 5 7 8 9 np m ds B (sortS pr)) 10
abbrev mvH (np m hn nc:Nat) (cut:Int) (hs ds cd:List Int) (B:List Bk) (pr:List BA):a0k:=(1,cyC true 2 4 5 6 np cut)::(2,b1D true 3)::(3,tmM true hn hs)::(4,cyP true np pr)::(6,tmM true nc cd)::c1a 5 7 8 9 np m ds B (sortS pr)
theorem c1b {B:List Bk} {q:Nat} (h:q<B.length) (b:Bk):f9 (B++ [b]) q=f9 B q:=by
 simp_all [f9,e1S]
theorem c1c {B:List Bk} {m:Nat} (h:B.length=m) (b:Bk):f9 (B++ [b]) m=p1T b:=by
 unfold f9;simp_all
theorem g1k {np m:Nat} {hs ds cd:List Int} {B:List Bk} {pr:List BA} {D:Int} {f t c:BA} {a:Int} (h:D<0):mvO np m hs ds cd B pr D f t c a=a0g (.tup [.i 0,.i 14]) (c1a 5 7 8 9 np m ds B (sortS pr)) 10:=by
 simp_all [mvO,mvX]
theorem c1d {np m:Nat} {hs ds cd:List Int} {B:List Bk} {pr:List BA} {D:Int} {f t c:BA} {a:Int} (h:¬D<0) (he:¬mvE (c0H ds B pr D) f t c a=0):mvO np m hs ds cd B pr D f t c a=a0g (.tup [.i 0,.i (mvE (c0H ds B pr D) f t c a)]) (c1a 5 7 8 9 np m ds B (sortS pr)) 10:=by
 grind [mvO,mvX]
theorem k1K {np m:Nat} {hs ds cd:List Int} {B:List Bk} {pr:List BA} {D:Int} {f t c:BA} {a:Int} (h:¬D<0) (he:mvE (c0H ds B pr D) f t c a=0) (hd:D∈ds) (hm:ds.length=m):mvO np m hs ds cd B pr D f t c a=a0g (.tup [.i D,.i 0]) (c1a 5 10 11 12 np m ds (B.set (a0S ds D) ((c0H ds B pr D).mv f t c a)) (sortS pr)) 13:=by
 simp_all [mvO,mvX,k0G,s0x]
theorem k1L {np m:Nat} {hs ds cd:List Int} {B:List Bk} {pr:List BA} {D:Int} {f t c:BA} {a:Int} (h:¬D<0) (he:mvE (c0H ds B pr D) f t c a=0) (hd:¬D∈ds) (hm:ds.length=m):mvO np m hs ds cd B pr D f t c a=a0g (.tup [.i D,.i 0]) (c1a 5 10 11 12 np (m+1) (ds++ [D]) (B++ [(c0H ds B pr D).mv f t c a]) (sortS pr)) 13:=by
 unfold mvO mvX k0G s0x;simp_all
theorem g1l {n m h h':Nat} {R:Nat->Nat->Option (Nat×Nat)} (hn:n<=h') (h1:∀q,q<m->R h' q=some (h,q)):∀i,i<m->SLe n R ((BCol.svs (e0A h m)).at i) ((BCol.ptrs h' m).at i):=by
 intro i hi;have e1:(BCol.svs (e0A h m)).at i= .ptr h i 0 0:=e0Y hi;rw [e1];exact d0y hn (h1 i hi)
theorem c1e {ds:List Int} {m:Nat} (hm:ds.length=m) {D:Int} (hd:D∈ds):(some (HB.one false (.obj (.map false false (if a0S ds D<m then m else m+1) [.ints .i64 (b0j (a0S ds D) D ds)] [.svs (b0j (a0S ds D) (.ptr 7 (a0S ds D) 0 0) (e0A 7 m))] (if a0S ds D<m then List.range m else List.range m++ [m]) (if a0S ds D<m then m else m+1)))):Option HB)=some (.one false (.obj (.map false false m [.ints .i64 ds] [.svs (e0A 7 m)] (List.range m) m))):=by
 have hi:=b0o.2 hd;simp_all [q0e,f1U]
theorem c1f {ds:List Int} {m h:Nat} (hm:ds.length=m) {D:Int} (hd:¬D∈ds):(some (HB.one false (.obj (.map false false (if a0S ds D<m then m else m+1) [.ints .i64 (b0j (a0S ds D) D ds)] [.svs (b0j (a0S ds D) (.ptr h 0 0 0) (e0A 7 m))] (if a0S ds D<m then List.range m else List.range m++ [m]) (if a0S ds D<m then m else m+1)))):Option HB)=some (.one false (.obj (.map false false (m+1) [.ints .i64 (ds++ [D])] [.svs (e0A 7 m++ [.ptr h 0 0 0])] (List.range (m+1)) (m+1)))):=by
 have hi:¬a0S ds D<ds.length:=fun q=>hd (b0o.1 q)
 have e:a0S ds D=m:=by have:=b1i ds D;omega
 rw [q0e,if_neg hi,if_neg oM,if_neg oM,e,f1V,t1U]
theorem m0C {h5 h7 h8 h9 np m:Nat} {ds:List Int} {B:List Bk} {sp:List BA}:c0x (c1a h5 h7 h8 h9 np m ds B sp):=a0b (a0r (a0r (a0r a0c)))
abbrev odD (n np:Nat) (B:List Bk) (sp:List BA):List RD:= [⟨7,f7 (n+1) (n+2) np⟩,⟨8,f8 np sp⟩,⟨9,f9 B⟩]
theorem k1M {H:a0k} {n m np:Nat} {ds:List Int} {B:List Bk} {sp:List BA} (hn:10<=n) (h5:a0w H 5=some (.one false (.obj (.map false false m [.ints .i64 ds] [.svs (e0A 7 m)] (List.range m) m)))) (h7:a0w H 7=fmB false m (f7 8 9 np)) (h8:a0w H 8=fmB false m (f8 np sp)) (h9:a0w H 9=fmB false m (f9 B)):
  Relab H n (rdR n m (odD n np B sp)) (fun _=>0) ((5,cyB false n m ds)::rdN n m 0 (odD n np B sp)) [7,8,9] 3:=by
 have r0:∀q,q<m->rdR n m (odD n np B sp) n q=some (7,q):=fun q hq=>k0t (D:=odD n np B sp) (i:=0) (d:=⟨7,f7 (n+1) (n+2) np⟩) rfl hq
 have r1:∀q,q<m->rdR n m (odD n np B sp) (n+1) q=some (8,q):=fun q hq=>k0t (D:=odD n np B sp) (i:=1) (d:=⟨8,f8 np sp⟩) rfl hq
 have r2:∀q,q<m->rdR n m (odD n np B sp) (n+2) q=some (9,q):=fun q hq=>k0t (D:=odD n np B sp) (i:=2) (d:=⟨9,f9 B⟩) rfl hq
 exact s0j (n:=n) (th:=5) (odD n np B sp) oM h5 (q0i rfl (g1l oM r0))
  ⟨⟨(show (7:Nat)≠5 by simp),_,_,h7,fun q hq=>⟨hq,b0G ⟨g0a oM (r1 q hq),u0j oM (r2 q hq),trivial⟩⟩⟩,⟨(show (8:Nat)≠5 by simp),_,_,h8,fun q hq=>⟨hq,.inl rfl⟩⟩,⟨(show (9:Nat)≠5 by simp),_,_,h9,fun q hq=>⟨hq,.inl rfl⟩⟩,trivial⟩ rfl
abbrev nwD (n h np:Nat) (B:List Bk) (sp:List BA):List GD:= [⟨7,h,f7 (n+1) (n+2) np⟩,⟨8,h+1,f8 np sp⟩,⟨9,h+2,f9 B⟩]
theorem k1N {H:a0k} {n m np h:Nat} {ds:List Int} {B:List Bk} {b:Bk} {sp:List BA} (hn:10<=n) (hh:10<=h) (hB:B.length=m) (h5:a0w H 5=some (.one false (.obj (.map false false (m+1) [.ints .i64 ds] [.svs (e0A 7 m++ [.ptr h 0 0 0])] (List.range (m+1)) (m+1))))) (h7:a0w H 7=fmB false m (f7 8 9 np)) (h8:a0w H 8=fmB false m (f8 np sp)) (h9:a0w H 9=fmB false m (f9 B)) (k7:a0w H h=bkC false (h+1) (h+2) np) (k8:a0w H (h+1)=cyP false np sp) (k9:a0w H (h+2)=bkM false b) (hdist:b1n (nwD n h np (B++ [b]) sp)=true):
  Relab H n (gdR n m (nwD n h np (B++ [b]) sp)) (fun _=>0) ((5,cyB false n (m+1) ds)::gdN n (m+1) 0 (nwD n h np (B++ [b]) sp)) [7,h,8,h+1,9,h+2] 3:=by
 have r0:∀q,q<m->gdR n m (nwD n h np (B++ [b]) sp) n q=some (7,q):=fun q hq=>f0g (D:=nwD n h np (B++ [b]) sp) (i:=0) (d:=⟨7,h,f7 (n+1) (n+2) np⟩) rfl hq
 have r1:∀q,q<m->gdR n m (nwD n h np (B++ [b]) sp) (n+1) q=some (8,q):=fun q hq=>f0g (D:=nwD n h np (B++ [b]) sp) (i:=1) (d:=⟨8,h+1,f8 np sp⟩) rfl hq
 have r2:∀q,q<m->gdR n m (nwD n h np (B++ [b]) sp) (n+2) q=some (9,q):=fun q hq=>f0g (D:=nwD n h np (B++ [b]) sp) (i:=2) (d:=⟨9,h+2,f9 (B++ [b])⟩) rfl hq
 have s0:gdR n m (nwD n h np (B++ [b]) sp) n m=some (h,0):=e0x (D:=nwD n h np (B++ [b]) sp) (i:=0) (d:=⟨7,h,f7 (n+1) (n+2) np⟩) rfl;have s1:gdR n m (nwD n h np (B++ [b]) sp) (n+1) m=some (h+1,0):=e0x (D:=nwD n h np (B++ [b]) sp) (i:=1) (d:=⟨8,h+1,f8 np sp⟩) rfl;have s2:gdR n m (nwD n h np (B++ [b]) sp) (n+2) m=some (h+2,0):=e0x (D:=nwD n h np (B++ [b]) sp) (i:=2) (d:=⟨9,h+2,f9 (B++ [b])⟩) rfl;exact g0P (n:=n) (th:=5) (nwD n h np (B++ [b]) sp) oM h5 (q0i rfl (w0r oM r0 s0))
  ⟨⟨(show (7:Nat)≠5 by simp),(show h≠5 by omega),⟨_,_,h7,fun q hq=>⟨hq,b0G ⟨g0a oM (r1 q hq),u0j oM (r2 q hq),trivial⟩⟩⟩,_,k7,b0G ⟨g0a oM s1,u0j oM s2,trivial⟩⟩,
    ⟨(show (8:Nat)≠5 by simp),(show h+1≠5 by omega),⟨_,_,h8,fun q hq=>⟨hq,.inl rfl⟩⟩,_,k8,.inl rfl⟩,
    ⟨(show (9:Nat)≠5 by simp),(show h+2≠5 by omega),⟨_,_,h9,fun q hq=>⟨hq,.inl (c1b oM b)⟩⟩,_,k9,.inl (c1c hB b)⟩,trivial⟩ hdist
set_option maxHeartbeats 1000000 in
theorem c1g {np m hn nc:Nat} {hs ds cd:List Int} {B:List Bk} {pr:List BA} (hb:BksI ds B m np (sortS pr)) (hh:hs.length=hn) (hc:cd.length=nc) (hp:pr.length=np) (he:c0u pr=0) (cut t:Int) (f g c:BA) (a:Int):FC prog 10 349 [.ptr 1 0 0 0,.i t,.str f,.str g,.agg [.i a,.str c]] (mvH np m hn nc cut hs ds cd B pr) (mvO np m hs ds cd B pr (mvD hs cd (ofI hs cut t)) f g c a):=by
 have c1:=q1s np hn cut hs hh t;rw [w0K] at c1;have hX:=i1O (hs:=hs) (cut:=cut) (t:=t);have hg:∀d,(List.replicate nc true).getD (a0S cd d) false=decide (d∈cd):=w0C hc;generalize ofI hs cut t=X at*;have hD:mvF hs cd 100001 X=mvD hs cd X:=by unfold mvD;rfl
 generalize mvD hs cd X=D at*;obtain ⟨K0,hK⟩:∃K:Nat,K=100001:=⟨_,rfl⟩;rw [<-hK] at hD;refine fEx func349 ?_;repeat' ((conv=>whnf);first|refine cOx (l:= xAc) c1 ?_|refine a0a ?_|(apply bRx<;>intro h<;>try exact aX))
 all_goals (conv=>whnf)
 refine a0h (fun x:Nat×Int=>⟨[(0,.ptr 1 0 0 0),(2,.str f),(3,.str g),(9,.ptr 10 0 0 0),(12,.i (ofP x.2)),(13,.i (ofQ x.2))],(10,some (.one false (.cells [.i a,.str c])))::mvH np m hn nc cut hs ds cd B pr,11⟩) (fun x=>mvF hs cd x.1 x.2=D/\x.2<=99999/\(x.2<0\/100001-x.2<=(x.1:Int))) (fun x=>x.1) (K0,X) [0,1,2,3,4,5,6,7,8,9,10] [] wHx ⟨hD,hX,by dsimp only;omega⟩ ?_;rintro ⟨k,x⟩ ⟨hF,hx,hk⟩;dsimp only at hF hx hk;clear hD hX hK c1;by_cases h0:x<0
 .have e1:ofP x=0:=if_pos h0;have e2:ofQ x=14:=if_pos h0;dsimp only;rw [e1,e2];rw [u0E h0] at hF;subst hF;rw [g1k (by decide)];let l:=xAc;have w:=@m0C;exact Vx
 .have e1:ofP x=x:=if_neg h0;have e2:ofQ x=0:=if_neg h0;dsimp only;rw [e1,e2];obtain ⟨k,rfl⟩:∃j,k=j+1:=⟨k-1,by omega⟩;simp only [mvF] at hF;rw [if_neg h0] at hF;have hgx:=hg x;by_cases hxc:x∈cd
  .rw [if_pos hxc] at hF;rw [decide_eq_true hxc] at hgx;have c2:=w0H np hn cut hs hh x (by omega) hx;rw [w0K] at c2;have hN:nxI hs (x+1)<=99999/\(nxI hs (x+1)<0\/x+1<=nxI hs (x+1)):=by
    by_cases q:nxI hs (x+1)<0
    .exact ⟨by omega,.inl q⟩
    .have:=b1S q;exact ⟨this.2.1,.inr this.1⟩
   generalize nxI hs (x+1)=y at*;repeat' ((conv=>whnf);first|refine cOx (l:= xAc) c2 ?_|refine a0a ?_|(apply bRx<;>intro h<;>try exact aX)|exact ⟨(k,y),xBb,[],⟨hF,hN.1,by dsimp only;omega⟩,t1Q k,⟨rfl,⟨rfl,rfl,rfl,rfl,rfl,rfl,trivial⟩,⟨rfl,rfl,rfl,rfl,rfl,rfl,rfl,rfl,rfl,rfl,trivial⟩⟩⟩|(exfalso;rw [hgx] at h;cases h;done)|exact aX)
  .rw [if_neg hxc] at hF;rw [decide_eq_false hxc] at hgx;subst hF;by_cases hd:x∈ds
   .have hi:a0S ds x<m:=by rw [<-hb.dl];exact b0o.2 hd
    obtain ⟨b1,b2,b3,b4⟩:=hb.I _ hi;have c3:=u0C (np:=np) hb.dl cut x hd;have c4:=b1Z hi hb.bl b1 b2 b3 f g c a;have hat:c0H ds B pr x=B.getD (a0S ds x) bk0:=if_pos hd;have hput:=c1e hb.dl hd;rw [<-hat] at c4;by_cases hz:mvE (c0H ds B pr x) f g c a=0
    .rw [k1K h0 hz hd hb.dl];rw [hz] at c4;generalize (c0H ds B pr x).mv f g c a=b' at*;repeat' ((conv=>whnf);first|refine cOx (l:= xAc) c3 ?_|refine cOx (l:= [0,7,8,9]) c4 ?_|refine a0a ?_|(apply bRx<;>intro h<;>try exact aX)|exact b0K (l:= [0,1,2,3,4,5,6,7,8,9,11,12,13]) [.relab (rdR 11 m (odD 11 np (B.set (a0S ds x) b') (sortS pr))) (fun _=>0) ((5,cyB false 11 m ds)::rdN 11 m 0 (odD 11 np (B.set (a0S ds x) b') (sortS pr))) [7,8,9] 3] ⟨k1M (n:=11) (by decide) hput rfl rfl rfl,rfl,rfl,⟨rfl,rfl,rfl,rfl,trivial⟩⟩ m0C|(exfalso;rw [hgx] at h;cases h;done)|exact aX)
    .rw [c1d h0 hz];have hbs:mvE (c0H ds B pr x) f g c a≠0:=hz;have hmv:(c0H ds B pr x).mv f g c a=c0H ds B pr x:=if_neg hz;have hset:B.set (a0S ds x) (c0H ds B pr x)=B:=by
      rw [hat];refine s1P fun j=> ?_
      rw [s1h];split
      .rename_i e;subst e;rw [if_pos (by rw [hb.bl];exact hi),List.getD,m0b (by rw [hb.bl];exact hi)];rfl
      .rfl
     rw [hmv,hset] at c4;generalize mvE (c0H ds B pr x) f g c a=e at*;repeat' ((conv=>whnf);first|refine cOx (l:= xAc) c3 ?_|refine cOx (l:= [0,7,8,9]) c4 ?_|refine a0a ?_|(apply bRx<;>intro h<;>try exact aX)|exact rOx xAc m0C|(exfalso;rw [hgx] at h;cases h;done)|exact aX)
   .have c3:=u0D hb.dl hp he cut x hd;have hat:c0H ds B pr x=nwB pr:=if_neg hd;have c4:=s0v ((k1F he).up (B':=4503599627370496) (by decide)) hp rfl f g c a;have hput:=c1f (h:=11) hb.dl hd;rw [<-hat] at c4;by_cases hz:mvE (c0H ds B pr x) f g c a=0
    .rw [k1L h0 hz hd hb.dl];rw [hz] at c4;rw [hat] at c4;rw [hat];have hsp:(nwB pr).ps=sortS pr:=rfl;generalize hbb:(nwB pr).mv f g c a=b' at*;repeat' ((conv=>whnf);first|refine cOx (l:= xAc) c3 ?_|refine cOx (l:= [0,11,12,13]) c4 ?_|refine a0a ?_|(apply bRx<;>intro h<;>try exact aX)|exact b0K (l:= [0,1,2,3,4,5,6,7,8,9,14,15,16]) [.relab (gdR 14 m (nwD 14 11 np (B++ [b']) (sortS pr))) (fun _=>0) ((5,cyB false 14 (m+1) (ds++ [x]))::gdN 14 (m+1) 0 (nwD 14 11 np (B++ [b']) (sortS pr))) [7,11,8,12,9,13] 3] ⟨k1N (n:=14) (h:=11) (by decide) (by decide) hb.bl hput rfl rfl rfl rfl rfl rfl rfl,rfl,rfl,⟨rfl,rfl,rfl,rfl,trivial⟩⟩ m0C|(exfalso;rw [hgx] at h;cases h;done)|exact aX)
    .rw [c1d h0 hz];rw [hat] at c4 hz⊢;generalize mvE (nwB pr) f g c a=e at*;repeat' ((conv=>whnf);first|refine cOx (l:= xAc) c3 ?_|refine cOx (l:= [0,11,12,13]) c4 ?_|refine a0a ?_|(apply bRx<;>intro h<;>try exact aX)|exact rOx xAc m0C|(exfalso;rw [hgx] at h;cases h;done)|exact aX)
end
section
structure Lp where
 a:BA
 n:Int
 c:BA
abbrev lp0:Lp:=⟨⟨#[]⟩,0,⟨#[]⟩⟩
def poB (n:Nat) (l:List Lp):Blk:= .cols n [.sc (.strs (l.map Lp.a)),.sc (.ints .i64 (l.map Lp.n)),.sc (.strs (l.map Lp.c))]
theorem p1U (l:List Lp) (k:Nat):(l.map Lp.a).getD k ⟨#[]⟩=(l.getD k lp0).a:=by
 grind
theorem g1m (l:List Lp) (k:Nat):(l.map Lp.n).getD k 0=(l.getD k lp0).n:=by
 grind
theorem k1O (l:List Lp) (k:Nat):(l.map Lp.c).getD k ⟨#[]⟩=(l.getD k lp0).c:=by
 grind
theorem s0y {a b:BA}:seq a b=true↔a=b:=by simp [seq]
abbrev lgI (R:List Lp) (a c:BA):Nat:=c0B (R.map Lp.a) (R.map Lp.c) a c
theorem k0R (x:Lp) (R:List Lp) (a c:BA):lgI (x::R) a c=if x.a=a/\x.c=c then 0 else lgI R a c+1:=by
 show (bif seq x.a a&&seq x.c c then 0 else lgI R a c+1)=_;by_cases h:x.a=a/\x.c=c
 .rw [if_pos h,show (seq x.a a&&seq x.c c)=true from by rw [n0M,s0y,s0y];omega];rfl
 .rw [if_neg h,show (seq x.a a&&seq x.c c)=false from by
   cases e:(seq x.a a&&seq x.c c) with
   |false=>rfl
   |true=>simp_all [s0y]];rfl
theorem w0L (a c:BA):∀R:List Lp,lgI R a c<=R.length
 | []=>m0c _
 |x::R=>by
  have:=w0L a c R;rw [k0R,i1y];split<;>omega
def lgV (R:List Lp) (a c:BA):Int:=(R.getD (lgI R a c) lp0).n
theorem u0F (a c:BA):lgV [] a c=0:=rfl
theorem f0m (x:Lp) (R:List Lp) (a c:BA):lgV (x::R) a c=if x.a=a/\x.c=c then x.n else lgV R a c:=by
 unfold lgV;rw [k0R];grind
def g0j (R:List Lp) (x:Lp):List Lp:=b0j (lgI R x.a x.c) ⟨x.a,lgV R x.a x.c+x.n,x.c⟩ R
theorem m0D (x:Lp):g0j [] x= [x]:=by
 unfold g0j b0j;rw [u0F,Int.zero_add];rfl
theorem j0N (y:Lp) (R:List Lp) (x:Lp):g0j (y::R) x=if y.a=x.a/\y.c=x.c then ⟨x.a,y.n+x.n,x.c⟩::R else y::g0j R x:=by
 unfold g0j;rw [k0R,f0m];split
 .rfl
 .rw [l0R]
theorem u0G (x:Lp) (a c:BA):∀R:List Lp,lgV (g0j R x) a c=lgV R a c+if x.a=a/\x.c=c then x.n else 0
 | []=>by rw [m0D,f0m,u0F,Int.zero_add]
 |y::R=>by
  have ih:=u0G x a c R;rw [j0N,f0m];by_cases h:y.a=x.a/\y.c=x.c
  .rw [if_pos h,f0m];grind
  .rw [if_neg h,f0m];grind
theorem s0z (R:List Lp) (x:Lp):(g0j R x).length=if lgI R x.a x.c<R.length then R.length else R.length+1:=d0G _ _ _
def lgD (R:List Lp):Prop:=R.Pairwise (fun x y=>¬(x.a=y.a/\x.c=y.c))
theorem s0A {x z:Lp}:∀{R:List Lp},z∈g0j R x->(z.a=x.a/\z.c=x.c)\/∃y∈R,z.a=y.a/\z.c=y.c
 | [],h=>by
   rw [m0D,b1h] at h;simp_all
 |y::R,h=>by
  rw [j0N] at h;split at h
  .grind
  .rcases f1I.1 h with rfl|h
   .simp
   .rcases s0A h with h|⟨w,hw,h⟩
    all_goals grind
theorem u0H {x:Lp}:∀{R:List Lp},lgD R->lgD (g0j R x)
 | [],_=>by exact t1s _ _
 |y::R,h=>by
  obtain ⟨h1,h2⟩:=s1o.1 h;rw [j0N];split
  .rename_i hk;refine s1o.2 ⟨fun z hz k=>h1 z hz ⟨hk.1.trans k.1,hk.2.trans k.2⟩,h2⟩
  .refine s1o.2 ⟨fun z hz k=> ?_,u0H h2⟩;grind [s0A]
def lgS:List Lp->BA->BA->Int
 | [],_,_=>0
 |x::L,a,c=>(if x.a=a/\x.c=c then x.n else 0)+lgS L a c
theorem j0O (A B:List Lp) (a c:BA):lgS (A++B) a c=lgS A a c+lgS B a c:=by
 induction A with
 |nil=>simp [lgS]
 |cons x A ih=>simp_all [lgS,Int.add_assoc]
theorem g1n {A B:List Lp} (h:A.Perm B) (a c:BA):lgS A a c=lgS B a c:=by
 induction h with
 |nil=>rfl
 |cons x _ ih=>simp only [lgS,ih]
 |swap x y l=>simp only [lgS];omega
 |trans _ _ ih1 ih2=>omega
theorem i1P {L:List Lp} {a c:BA} (h:∀x∈L,¬(x.a=a/\x.c=c)):lgS L a c=0:=by
 induction L with
 |nil=>rfl
 |cons x L ih=>
  simp only [lgS];simp_all
theorem w0M {a c:BA}:∀{R:List Lp},lgD R->lgS R a c=lgV R a c
 | [],_=>rfl
 |y::R,h=>by
  obtain ⟨h1,h2⟩:=s1o.1 h;rw [f0m];simp only [lgS];by_cases hk:y.a=a/\y.c=c
  .rw [if_pos hk,if_pos hk,i1P (fun x hx k=>h1 x hx ⟨hk.1.trans k.1.symm,hk.2.trans k.2.symm⟩),t1p]
  .rw [if_neg hk,if_neg hk,w0M h2,Int.zero_add]
theorem u0I {L:List Lp} {k:Nat} (hk:k<L.length):L.take (k+1)=L.take k++ [L.getD k lp0]:=by
 simp_all
def chR (L:List Lp):Nat->List Lp
 |0=> []
 |k+1=>g0j (chR L k) (L.getD k lp0)
theorem i0N (L:List Lp):∀k,lgD (chR L k)
 |0=>List.Pairwise.nil
 |k+1=>u0H (i0N L k)
theorem c1h (L:List Lp):∀k,(chR L k).length<=k
 |0=>m0c _
 |k+1=>by
  have:=c1h L k;grind [chR,s0z]
theorem h0S {L:List Lp} (a c:BA):∀k,k<=L.length->lgV (chR L k) a c=lgS (L.take k) a c
 |0,_=>by rfl
 |k+1,h=>by
  simp only [chR];rw [u0G,h0S a c k oM,u0I oM,j0O];simp [lgS]
def vsR (B C:List Lp):List Nat->List Lp
 | []=>B
 |i::sn=>g0j (vsR B C sn) (C.getD i lp0)
theorem w0N {B C:List Lp} (h:lgD B):∀sn,lgD (vsR B C sn)
 | []=>h
 |i::sn=>u0H (w0N h sn)
theorem c1i (B C:List Lp):∀sn,(vsR B C sn).length<=B.length+sn.length
 | []=>m0c _
 |i::sn=>by
  have:=c1i B C sn;simp only [vsR];rw [s0z,i1y];split<;>omega
theorem u0J (B C:List Lp) (a c:BA):∀sn,lgV (vsR B C sn) a c=lgV B a c+lgS (sn.map (fun i=>C.getD i lp0)) a c
 | []=>by simp [vsR,lgS]
 |i::sn=>by
  simp only [vsR,n1w,lgS];rw [u0G,u0J B C a c sn];omega
theorem k1P {B C:List Lp} (hC:lgD C) {sn:List Nat} (hd:sn.Nodup) (hl:∀i∈sn,i<C.length) (ha:∀i,i<C.length->i∈sn) (a c:BA):lgV (vsR B C sn) a c=lgV B a c+lgV C a c:=by
 rw [u0J,<-w0M hC];congr 1;have hp:=(o0D hd hl ha).map (fun i=>C.getD i lp0);rw [h0w] at hp;exact g1n hp a c
theorem u0K {R:List Lp} (h:lgD R) {i:Nat} (hi:i<R.length):lgV R (R.getD i lp0).a (R.getD i lp0).c=(R.getD i lp0).n:=by
 induction R generalizing i with
 |nil=>rfl
 |cons y R ih=>
  obtain ⟨h1,h2⟩:=s1o.1 h;rw [f0m];cases i with
  |zero=>simp
  |succ i=>
   have hi':i<R.length:=by simp_all
   rw [if_neg (fun k=>h1 _ (by simp_all) k)];exact ih h2 hi'
def lgC:List Lp->BA->Int
 | [],_=>0
 |x::L,c=>(if x.c=c then x.n else 0)+lgC L c
theorem y0V (A B:List Lp) (c:BA):lgC (A++B) c=lgC A c+lgC B c:=by
 induction A with
 |nil=>simp [lgC]
 |cons x A ih=>simp_all [lgC,Int.add_assoc]
theorem n1M {L:List Lp} {c:BA} (h:∀x∈L,x.c≠c):lgC L c=0:=by
 induction L with
 |nil=>rfl
 |cons x L ih=>
  simp only [lgC];simp_all
theorem q0w {L:List Lp} {k:Nat} (hk:k<L.length) (c:BA):lgC (L.take (k+1)) c=lgC (L.take k) c+if (L.getD k lp0).c=c then (L.getD k lp0).n else 0:=by
 rw [u0I hk,y0V];simp [lgC]
def j0P (L:List Lp):Bool:=L.all (fun x=>decide (lgC L x.c=0))
theorem i0O {L:List Lp}:j0P L=true↔∀c,lgC L c=0:=by
 unfold j0P;constructor
 .intro h c;by_cases hc:∃x∈L,x.c=c
  .grind
  simp_all [n1M]
 simp_all
structure LgM (L:List Lp) (k n:Nat) (C:List BA) (W:List Int):Prop where
 c:C.length=n
 w:W.length=n
 nd:C.Nodup
 all:∀c,(if a0q C c<n then W.getD (a0q C c) 0 else 0)=lgC (L.take k) c
theorem g1o (L:List Lp):LgM L 0 0 [] []:=⟨rfl,rfl,s1Z,fun c=>by rfl⟩
theorem c0z {α:Type} {l:List α} {n:Nat} (h:l.length=n) (x:α):b0j n x l=l++ [x]:=by simp_all [b0j]
theorem i0P {α:Type} {l:List α} {i:Nat} (h:i<l.length) (x:α):b0j i x l=l.set i x:=by unfold b0j;simp_all
theorem g1p {L:List Lp} {k n:Nat} {C:List BA} {W:List Int} (hI:LgM L k n C W) (hk:k<L.length) (v:Int) (hv:v=lgC (L.take k) (L.getD k lp0).c+(L.getD k lp0).n):
  LgM L (k+1) (if a0q C (L.getD k lp0).c<n then n else n+1) (b0j (a0q C (L.getD k lp0).c) (L.getD k lp0).c C) (b0j (a0q C (L.getD k lp0).c) v W):=by
 generalize hx:L.getD k lp0=x at*;obtain ⟨hc,hw,hnd,hall⟩:=hI;have hle:=Go.Sy.sidx_le C x.c;by_cases h:a0q C x.c<n
 .have e1:b0j (a0q C x.c) x.c C=C:=by simp_all [g0i]
  rw [if_pos h,e1,i0P oM];refine ⟨hc,by grind,hnd,fun c=> ?_⟩;rw [q0w hk,hx];by_cases ec:x.c=c
  .simp_all
  .rw [if_neg ec,t1p,<-hall c];by_cases h2:a0q C c<n
   .have hne:a0q C x.c≠a0q C c:=by
     grind [sidx_get]
    simp_all
   omega
 .have hn:a0q C x.c=n:=oM
  rw [if_neg h,hn];have e1:=c0z hc x.c;have e2:=c0z hw v;rw [e1,e2];have hni:x.c∉C:=fun hm=>h (by rw [<-hc];exact sidx_lt.2 hm)
  have hnd':(C++ [x.c]).Nodup:=s1p.2 ⟨hnd,by simp,fun a ha b hb e=>by simp_all⟩;refine ⟨by grind,by grind,hnd',fun c=> ?_⟩;rw [q0w hk,hx,<-hall c];by_cases ec:x.c=c
  .have e3:a0q (C++ [x.c]) x.c=n:=sidx_of_get hnd' (by simp_all);grind
  .rw [if_neg ec,t1p];by_cases h2:a0q C c<n
   .have e3:a0q (C++ [x.c]) c=a0q C c:=sidx_of_get hnd' (by grind [sidx_get]);grind
   .have hnm:c∉C++ [x.c]:=by
     intro hm;rcases k1q.1 hm with hm|hm
     .exact h2 (by rw [<-hc];exact sidx_lt.2 hm)
     simp_all
    rw [if_neg h2,if_neg];intro h3;exact hnm (sidx_lt.1 (by simp_all))
theorem k1Q {L:List Lp} {k n:Nat} {C:List BA} {W:List Int} (hI:LgM L k n C W) {i:Nat} (hi:i<n):W.getD i 0=lgC (L.take k) (C.getD i ⟨#[]⟩):=by
 have e:a0q C (C.getD i ⟨#[]⟩)=i:=sidx_of_get hI.nd (by rw [List.getD,m0b (by have:=hI.c;omega)];rfl);have:=hI.all (C.getD i ⟨#[]⟩);simp_all
theorem n1N {L:List Lp} {n:Nat} {C:List BA} {W:List Int} (hI:LgM L L.length n C W) {i:Nat} (hi:i<n) (h:W.getD i 0≠0):j0P L=false:=by
 cases hb:j0P L with
 |false=>rfl
 |true=>
  have:=k1Q hI hi;rw [n1v,i0O.1 hb] at this;omega
theorem q1u {L:List Lp} {n:Nat} {C:List BA} {W:List Int} (hI:LgM L L.length n C W) (h:∀i,i<n->W.getD i 0=0):j0P L=true:=by
 rw [i0O];intro c;have:=hI.all c;simp_all
def c1j (L:List Lp):Prop:=∀x∈L,-4503599627370496<=x.n/\x.n<=4503599627370496
theorem n1O {L:List Lp} (h:c1j L) (c:BA): -4503599627370496*(L.length:Int)<=lgC L c/\lgC L c<=4503599627370496*(L.length:Int):=by
 induction L with
 |nil=>simp [lgC]
 |cons x L ih=>
  have i1:=ih (fun y hy=>h y (by grind));have i2:=h x (by simp);simp only [lgC,i1y];split<;>omega
theorem c1k {L:List Lp} (h:c1j L) (a c:BA): -4503599627370496*(L.length:Int)<=lgS L a c/\lgS L a c<=4503599627370496*(L.length:Int):=by
 induction L with
 |nil=>simp [lgS]
 |cons x L ih=>
  have i1:=ih (fun y hy=>h y (by grind));have i2:=h x (by simp);simp only [lgS,i1y];split<;>omega
theorem m0E {L:List Lp} (h:c1j L) (k:Nat):c1j (L.take k):=fun x hx=>h x (List.mem_of_mem_take hx)
theorem b0R (l:List Int):(a0m l).size=l.length:=by simp [a0m,ByteArray.size]
theorem u0L {n:Int} (h:0<=n) (h':n<=18446744073709551615):u64.wrap n=n:=IntWalk.u64_in n ⟨h,h'⟩
def j0Q (h:Int) (s:BA):Nat->Int
 |0=>h
 |k+1=>u64.wrap (i1l .u64 (j0Q h s k) (a0d s (k:Int))*1099511628211)
theorem n1P (x:Int):0<=u64.wrap x/\u64.wrap x<18446744073709551616:=by
 grind [IntKind.wrap,IntKind.bits,IntKind.signed]
theorem c1l {h:Int} (hh:0<=h/\h<18446744073709551616) (s:BA):∀k,0<=j0Q h s k/\j0Q h s k<18446744073709551616
 |0=>hh
 |k+1=>n1P _
theorem m0F {a b:BA} {i:Nat} (h:i<a.size):a0d (a++b) (i:Int)=a0d a (i:Int):=by
 simp_all [a0d,e1S]
theorem m0G {a b:BA} {i:Nat}:a0d (a++b) ((a.size+i:Nat):Int)=a0d b (i:Int):=by
 unfold a0d;rw [u0f,u0f];simp [f1K]
theorem s0B (h:Int) (a b:BA):∀k,k<=a.size->j0Q h (a++b) k=j0Q h a k
 |0,_=>rfl
 |k+1,hk=>by simp only [j0Q];rw [s0B h a b k oM,m0F oM]
theorem s0C (h:Int) (a b:BA):∀k,j0Q h (a++b) (a.size+k)=j0Q (j0Q h a a.size) b k
 |0=>s0B h a b _ (m0c _)
 |k+1=>by
  rw [show a.size+(k+1)=(a.size+k)+1 from by rfl];simp only [j0Q];rw [s0C h a b k,m0G]
def beL (p:Int):Nat->List Int
 |0=> []
 |k+1=>beL p k++ [u8.wrap (i0b .u64 p ((56-8*k:Nat):Int))]
theorem b0m (p:Int):∀k,(beL p k).length=k
 |0=>rfl
 |k+1=>by simp [beL,b0m p k]
theorem q1v (x:Int):0<=u8.wrap x/\u8.wrap x<=255:=by
 grind [IntKind.wrap,IntKind.bits,IntKind.signed]
theorem i1Q (p:Int):∀k,∀x∈beL p k,0<=x/\x<=255
 |0,x,h=>by trivial
 |k+1,x,h=>by
  simp only [beL,k1q,b1h] at h;rcases h with h|rfl
  .exact i1Q p k x h
  .exact q1v _
theorem c1m (p:Int):∀k i,i<k->(beL p k)[i]? =some (u8.wrap (i0b .u64 p ((56-8*i:Nat):Int)))
 |0,i,h=>by omega
 |k+1,i,h=>by
  simp only [beL];by_cases e:i=k
  .subst e;rw [f1K (by rw [b0m];omega),b0m,s1N];rfl
  .rw [e1S (by rw [b0m];omega)];exact c1m p k i oM
def j0R (p:Int):BA:=a0m (beL p 8)
theorem d0Z (p:Int):(j0R p).size=8:=by rfl
def beZ (p:Int) (k:Nat):List Int:=beL p k++List.replicate (8-k) 0
theorem c1n (p:Int) (k:Nat) (h:k<8):(beZ p k).set k (u8.wrap (i0b .u64 p ((56-8*k:Nat):Int)))=beZ p (k+1):=by
 unfold beZ;rw [show 8-k=(8-(k+1))+1 from by omega,u1j,List.set_append_right _ _ (by rw [b0m];omega),b0m,s1N];simp [beL]
theorem c1o (p:Int):beZ p 8=beL p 8:=by rfl
def chI (p:Int) (s:BA):Int:=j0Q (j0Q 14695981039346656037 (j0R p) 8) s s.size
theorem m0H (p:Int) (s:BA):0<=chI p s/\chI p s<18446744073709551616:=c1l (c1l oM _ _) _ _
theorem c1p (p:Int) (s:BA):j0Q 14695981039346656037 (j0R p++s) (8+s.size)=chI p s:=by
 have:=s0C 14695981039346656037 (j0R p) s s.size;trivial
theorem o0K (p:Int) (s:BA) (hs:s.size<=9223372036854775000):a0K prog 97 [.int .u64 p,.str s] (.int .u64 (j0Q p s s.size)):=by
 refine fEx func97 ?_
 refine a0h (fun k:Nat=>⟨[(0,.int .u64 (j0Q p s k)),(1,.str s),(7,.i s.size),(8,.i k)],[],1⟩) (fun k=>k<=s.size) (fun k=>s.size-k) 0 [0] [] wHx oM ?_;intro k hk;have bb:=d0p s (k:Int);repeat' (first|refine a0a ?_|(apply bRx<;>intro h))
 .refine ⟨k+1,[0],[],by omega,by omega,⟨rfl,⟨?_,rfl,rfl,sI (a0j oM),trivial⟩,trivial⟩⟩;have e1:u64.wrap (a0d s (k:Int))=a0d s (k:Int):=u0L oM oM;rw [e1];rfl
 .have e:k=s.size:=oM
  subst e;exact a0e rfl
theorem g1q (s:BA) (hs:s.size<=9223372036854775000):a0K prog 98 [.str s] (.int .u64 (j0Q 14695981039346656037 s s.size)):=by
 have c:=o0K 14695981039346656037 s hs;have c0:=c;exact Wx func98
theorem w0O {k:Nat} (h:k<8):i64.wrap (56-i64.wrap (8*(k:Int)))=((56-8*k:Nat):Int):=by
 grind [a0l]
theorem e0N (p:Int) (s:BA) (hs:s.size<=9223372036854775000):a0K prog 51 [.int .u64 p,.str s] (.int .u64 (chI p s)):=by
 have c1:=g1q (j0R p) (by rw [d0Z];omega);have c2:=o0K (j0Q 14695981039346656037 (j0R p) (j0R p).size) s hs;refine fEx func51 ?_;repeat' (first|refine a0a ?_)
 refine a0h (fun k:Nat=>⟨[(0,.int .u64 p),(1,.str s),(5,.sl 1 0 0 8),(9,.i 8),(10,.i k)],[(1,some (.one false (.cols 8 [.sc (.ints .u8 (beZ p k))])))],2⟩) (fun k=>k<=8) (fun k=>8-k) 0 [0,1] [] wHx oM ?_;intro k hk;by_cases hlt:k<8
 .have e:=w0O hlt;repeat' (first|refine a0a ?_|(apply bRx<;>intro h<;>try exact aX))
  .refine ⟨k+1,[0,1],[],by omega,by omega,⟨rfl,⟨rfl,rfl,rfl,rfl,sI (a0j oM),trivial⟩,⟨?_,trivial⟩⟩⟩;refine congrArg (fun z=>some (HB.one false (.cols 8 [.sc (.ints .u8 z)]))) ?_;rw [e];exact c1n p k hlt
 .have e:k=8:=oM
  subst e;repeat' ((conv=>whnf);first|refine cPx c1 ?_|refine cPx c2 ?_|refine a0a ?_|exact a0e (by rfl))
attribute [irreducible] chI
def n1Q (c:Int):Bool:=decide ((97<=c/\c<=122)\/(65<=c/\c<=90)\/(48<=c/\c<=57)\/c=95\/c=45\/c=58)
def j0p (s:BA):Bool:=decide (1<=s.size/\s.size<=40)&&(List.range s.size).all (fun i=>n1Q (a0d s (i:Int)))
structure Le where
 id:BA
 date:Int
 ps:List Lp
 np:Nat
abbrev le0:Le:=⟨⟨#[]⟩,0,[],0⟩
theorem n1R (l:List Le) (k:Nat):(l.map Le.id).getD k ⟨#[]⟩=(l.getD k le0).id:=by
 grind
theorem k1R (l:List Le) (k:Nat):(l.map Le.date).getD k 0=(l.getD k le0).date:=by
 grind
theorem k1T (l:List Le) (k:Nat):(l.map Le.np).getD k 0=(l.getD k le0).np:=by
 grind
def poT (p:Lp):BA:=⟨#[124]⟩++p.a++⟨#[47]⟩++b0i p.n++⟨#[47]⟩++p.c
def leT (e:Le):Nat->BA
 |0=>e.id++⟨#[124]⟩++b0i e.date
 |k+1=>leT e k++poT (e.ps.getD k lp0)
structure Lg where
 na:Nat
 acc:List BA
 ne:Nat
 ent:List Le
 ns:Nat
 st:List BA
 bal:BA->BA->Int
 dig:Int
abbrev Lg.ids (s:Lg):List BA:=s.ent.map Le.id
abbrev inL (a:BA) (l:List BA):Prop:=a0q l a<l.length
theorem h0z {a:BA} {l:List BA}:inL a l↔a∈l:=sidx_lt
def poE (acc:List BA):List Lp->Int
 | []=>0
 |p::L=>if inL p.a acc then (if f0k p.n p.c=0 then poE acc L else f0k p.n p.c) else 6
def u0M (bal:BA->BA->Int) (L:List Lp):Bool:=(chR L L.length).all (fun x=>decide (-4503599627370496<=bal x.a x.c+x.n/\bal x.a x.c+x.n<=4503599627370496))
def lgE (s:Lg) (e:Le):Int:=
 if j0p e.id=false then 5 else if e.date<0\/99999<e.date then 14 else if inL e.id s.ids then 7 else if e.np<1\/16<e.np then 4
 else if poE s.acc e.ps≠0 then poE s.acc e.ps else if j0P e.ps=false then 26 else if u0M s.bal e.ps=false then 4 else if 512<=s.ne then 12 else 0
def lgP (s:Lg) (e:Le):Lg:= { s with ne:=s.ne+1,ent:=s.ent++ [e],bal:=fun a c=>s.bal a c+lgS e.ps a c,dig:=chI s.dig (leT e e.np)}
structure EntOk (acc:List BA) (e:Le):Prop where
 id:j0p e.id=true
 d:0<=e.date/\e.date<=99999
 n:e.ps.length=e.np
 n1:1<=e.np
 n16:e.np<=16
 ps:poE acc e.ps=0
 b:j0P e.ps=true
def q0x (L:List Le):List Lp:=L.flatMap Le.ps
structure LgOk (s:Lg):Prop where
 na:s.acc.length=s.na
 n512:s.na<=512
 nd:s.acc.Nodup
 lab:∀a∈s.acc,j0p a=true
 ne:s.ent.length=s.ne
 e512:s.ne<=512
 ids:s.ids.Nodup
 ent:∀e∈s.ent,EntOk s.acc e
 ns:s.st.length=s.ns
 n2:s.ns<=2*s.ne
 st:∀x∈s.st,x∈s.ids
 bal:∀a c,s.bal a c=lgS (q0x s.ent) a c
 rng:∀a c,-4503599627370496<=s.bal a c/\s.bal a c<=4503599627370496
 dig:0<=s.dig/\s.dig<18446744073709551616
theorem d0i {s:BA} (h:j0p s=true):1<=s.size/\s.size<=40:=by
 simp_all [j0p]
theorem e0m {acc:List BA}:∀{L:List Lp},poE acc L=0↔∀p∈L,p.a∈acc/\f0k p.n p.c=0
 | []=>by simp [poE]
 |p::L=>by
  have ih:=e0m (acc:=acc) (L:=L);simp only [poE,f1I,forall_eq_or_imp];by_cases h1:inL p.a acc
  .rw [if_pos h1];by_cases h2:f0k p.n p.c=0
   .rw [if_pos h2,ih];exact ⟨fun h=>⟨⟨h0z.1 h1,h2⟩,h⟩,fun h=>h.2⟩
   omega
  .rw [if_neg h1];exact ⟨fun h=>absurd h (by simp),fun h=>absurd (h0z.2 h.1.1) h1⟩
theorem g0k {a:Int} {c:BA} (h:f0k a c=0):e0c c=true/\-4503599627370496<=a/\a<=4503599627370496:=by
 grind [q0r]
theorem g1r {a:Int} {c:BA} (h:f0k a c=0):f0k (-a) c=0:=by
 grind [f0k]
theorem w0P {acc:List BA} {L:List Lp} (h:poE acc L=0):c1j L:=fun x hx=>(g0k (e0m.1 h x hx).2).2
theorem k0S {s:Lg} {e:Le} (hn:e.ps.length=e.np) (h:lgE s e=0):EntOk s.acc e/\e.id∉s.ids/\u0M s.bal e.ps=true/\s.ne<512:=by
 unfold lgE at h;split at h
 .omega
 split at h
 .omega
 split at h
 .omega
 rename_i h3;split at h
 .omega
 split at h
 .omega
 rename_i h5;split at h
 .omega
 split at h
 .omega
 split at h
 .omega
 exact ⟨⟨by simp_all,by omega,hn,by omega,by omega,t1C.1 h5,by simp_all⟩,fun h=>h3 (h0z.2 h),by simp_all,by omega⟩
theorem n1S {s:Lg} {e:Le} (h:EntOk s.acc e) (h1:e.id∉s.ids) (h2:u0M s.bal e.ps=true) (h3:s.ne<512):lgE s e=0:=by
 obtain ⟨k1,k2,k3,k4,k5,k6,k7⟩:=h;unfold lgE;rw [if_neg (by simp_all),if_neg oM,if_neg (fun h=>h1 (h0z.1 h)),if_neg oM,if_neg (fun h=>h k6),if_neg (by simp_all),if_neg (by simp_all),if_neg oM]
theorem k1U {R:List Lp} {a c:BA} (h:R.length<=lgI R a c):lgV R a c=0:=by
 unfold lgV;simp_all
theorem c1q {a c:BA}:∀{R:List Lp},lgI R a c<R.length->(R.getD (lgI R a c) lp0).a=a/\(R.getD (lgI R a c) lp0).c=c
 | [],h=>absurd h (p1R _)
 |x::R,h=>by
  rw [k0R] at h⊢;split
  .trivial
  .exact c1q (by simp_all)
theorem c1r {bal:BA->BA->Int} {L:List Lp} (h:u0M bal L=true) (hb:∀a c,-4503599627370496<=bal a c/\bal a c<=4503599627370496) (a c:BA): -4503599627370496<=bal a c+lgS L a c/\bal a c+lgS L a c<=4503599627370496:=by
 have hv:lgV (chR L L.length) a c=lgS L a c:=by simp_all [h0S]
 rcases i1B (lgI (chR L L.length) a c) (chR L L.length).length with hi|hi
 .obtain ⟨e1,e2⟩:=c1q hi;unfold u0M at h;grind [lgV]
 .rw [k1U hi] at hv;grind
theorem n1T {bal:BA->BA->Int} {L:List Lp} (h:∀a c,-4503599627370496<=bal a c+lgS L a c/\bal a c+lgS L a c<=4503599627370496):u0M bal L=true:=by
 unfold u0M;rw [s1E];intro x hx;obtain ⟨i,hi,rfl⟩:=s1B hx;have e:=u0K (i0N L L.length) hi;rw [h0S _ _ _ (m0c _),n1v] at e;grind
theorem w0Q (A:List Le) (e:Le):q0x (A++ [e])=q0x A++e.ps:=by simp [q0x]
theorem c1s {s:Lg} {e:Le} (h:LgOk s) (hn:e.ps.length=e.np) (h0:lgE s e=0):LgOk (lgP s e):=by
 obtain ⟨k1,k2,k3,k4⟩:=k0S hn h0;refine ⟨h.na,h.n512,h.nd,h.lab,?_,?_,?_,?_,h.ns,?_,?_,?_,?_,m0H _ _⟩
 .show (s.ent++ [e]).length=s.ne+1;rw [s0c,h.ne];rfl
 .trivial
 .show ((s.ent++ [e]).map Le.id).Nodup;rw [n1q];exact s1p.2 ⟨h.ids,by simp,fun a ha b hb e'=>by grind⟩
 .intro x hx;rcases k1q.1 (show x∈s.ent++ [e] from hx) with hx|hx
  .exact h.ent x hx
  .rw [b1h.1 hx];exact k1
 .show s.ns<=2*(s.ne+1);have:=h.n2;omega
 .intro x hx;show x∈(s.ent++ [e]).map Le.id;rw [n1q];exact t1V _ (h.st x hx)
 .intro a c;show s.bal a c+lgS e.ps a c=lgS (q0x (s.ent++ [e])) a c;rw [w0Q,j0O,h.bal]
 .exact c1r k3 h.rng
theorem n1U {s:Lg} (h:LgOk s) {id:BA} (hi:id∈s.ids):s.ent.getD (a0q s.ids id) le0∈s.ent/\(s.ent.getD (a0q s.ids id) le0).id=id:=by
 have hlt:=sidx_lt.2 hi;have h2:=sidx_get hlt;simp_all
attribute [irreducible] j0p
end
section
attribute [local irreducible] sortI
abbrev a1c:BA:=⟨#[112,97,114,116,121,58]⟩
def e0n (p:BA):BA:=a1c++p
structure Bks where
 cur:BA
 days:Int
 na:Nat
 au:List Au
 cut:Int
 hn:Nat
 hs:List Int
 np:Nat
 pr:List BA
 m:Nat
 ds:List Int
 B:List Bk
 nc:Nat
 cd:List Int
 lg:Lg
 last:Int
abbrev Bks.aid (s:Bks):List BA:=s.au.map Au.id
abbrev Bks.pl (s:Bks) (id:BA):Nat:=a0q s.aid id
def b0S (L:List Au) (i:Nat):Au:=⟨(L.map Au.id).getD i ⟨#[]⟩,(L.map Au.cur).getD i ⟨#[]⟩,(L.map Au.app).getD i 0,(L.map Au.rev).getD i 0,(L.map Au.cle).getD i 0,(L.map Au.exp).getD i 0,(L.map Au.st).getD i 0,(L.map Au.att).getD i 0,(L.map Au.unt).getD i 0,(L.map Au.pa).getD i 0⟩
def auB (n:Nat) (L:List Au):Blk:= .cols n [.sc (.strs (L.map Au.id)),.sc (.strs (L.map Au.cur)),.sc (.ints .i64 (L.map Au.app)),.sc (.ints .i64 (L.map Au.rev)),.sc (.ints .i64 (L.map Au.cle)),.sc (.ints .i64 (L.map Au.exp)),.sc (.ints .i64 (L.map Au.st)),.sc (.ints .i64 (L.map Au.att)),.sc (.ints .i64 (L.map Au.unt)),.sc (.ints .i64 (L.map Au.pa))]
theorem g0l (n:Nat) (L:List Au) (i:Nat) (a:Au):(.cols n [.sc (.strs ((L.map Au.id).set i a.id)),.sc (.strs ((L.map Au.cur).set i a.cur)),.sc (.ints .i64 ((L.map Au.app).set i a.app)),.sc (.ints .i64 ((L.map Au.rev).set i a.rev)),.sc (.ints .i64 ((L.map Au.cle).set i a.cle)),.sc (.ints .i64 ((L.map Au.exp).set i a.exp)),.sc (.ints .i64 ((L.map Au.st).set i a.st)),.sc (.ints .i64 ((L.map Au.att).set i a.att)),.sc (.ints .i64 ((L.map Au.unt).set i a.unt)),.sc (.ints .i64 ((L.map Au.pa).set i a.pa))]:Blk)=auB n (L.set i a):=by
 simp [auB]
theorem c1t (n:Nat) (L:List Au) (a:Au):(.cols n [.sc (.strs (L.map Au.id++ [a.id])),.sc (.strs (L.map Au.cur++ [a.cur])),.sc (.ints .i64 (L.map Au.app++ [a.app])),.sc (.ints .i64 (L.map Au.rev++ [a.rev])),.sc (.ints .i64 (L.map Au.cle++ [a.cle])),.sc (.ints .i64 (L.map Au.exp++ [a.exp])),.sc (.ints .i64 (L.map Au.st++ [a.st])),.sc (.ints .i64 (L.map Au.att++ [a.att])),.sc (.ints .i64 (L.map Au.unt++ [a.unt])),.sc (.ints .i64 (L.map Au.pa++ [a.pa]))]:Blk)=auB n (L++ [a]):=by
 simp [auB]
def n0G (s:Bks) (t:Int):Int:=t+s.days*86400
def c1u (s:Bks) (o:Bop):Int:=if s.pl o.au<s.na then 7 else if 256<=s.na then 12 else (b1u o.au s.cur o.am o.t (n0G s o.t)).2
def i1R (s:Bks) (o:Bop):Bks:= { s with na:=s.na+1,au:=s.au++ [(b1u o.au s.cur o.am o.t (n0G s o.t)).1]}
def w0R (s:Bks) (o:Bop):Au×Int:=
 if o.k=2 then e0k (b0S s.au (s.pl o.au)) o.am (max (b0S s.au (s.pl o.au)).unt (n0G s o.t))
 else if o.k=3 then ((b0v (b0S s.au (s.pl o.au)) o.am).1,(b0v (b0S s.au (s.pl o.au)) o.am).2.2)
 else ((c0p (b0S s.au (s.pl o.au)) o.t).1,(c0p (b0S s.au (s.pl o.au)) o.t).2.2)
def e0d (s:Bks) (o:Bop):Int:=if s.pl o.au<s.na then (w0R s o).2 else 6
def h0s (s:Bks) (o:Bop):Bks:= { s with au:=s.au.set (s.pl o.au) (w0R s o).1}
def bkD (s:Bks) (t:Int):Int:=mvD s.hs s.cd (ofI s.hs s.cut t)
def owX (s:Bks) (t:Int) (f g:BA) (n:Int):Int:=mvX s.hs s.ds s.cd s.B s.pr (bkD s t) f g s.cur n
def mtF (o:Bop):BA:=if o.k=5 then o.ac else if o.k=6/\¬o.am<0 then o.ac else o.is
def mtG (o:Bop):BA:=if o.k=5 then o.is else if o.k=6/\¬o.am<0 then o.is else o.ac
def mtN (o:Bop):Int:=if o.k=6 then (if o.am<0 then-o.am else o.am) else o.am-o.fe
def enB (s:Bks) (o:Bop):Le:=⟨o.id,h0R o.t,[⟨e0n (mtF o),-mtN o,s.cur⟩,⟨e0n (mtG o),mtN o,s.cur⟩],2⟩
def clA (s:Bks) (o:Bop):Au×Int×Int×Int:=g0d (b0S s.au (s.pl o.au)) o.am o.fi
def mmE (s:Bks) (o:Bop):Int:=
 if inL o.id s.lg.ids then 15 else if 512<=s.lg.ne then 12
 else if o.k=4 then (if s.pl o.au<s.na then (if (clA s o).2.2.2≠0 then (clA s o).2.2.2 else owX s o.t (mtF o) (mtG o) (mtN o)) else 6)
 else owX s o.t (mtF o) (mtG o) (mtN o)
def owS (s:Bks) (o:Bop):Bks:= { s with
 m:=(k0G s.ds (bkD s o.t)).length,ds:=k0G s.ds (bkD s o.t),
 B:=s0x s.ds s.B (bkD s o.t) ((c0H s.ds s.B s.pr (bkD s o.t)).mv (mtF o) (mtG o) s.cur (mtN o)),lg:=lgP s.lg (enB s o)}
def mmS (s:Bks) (o:Bop):Bks:=if o.k=4 then { owS s o with au:=s.au.set (s.pl o.au) (clA s o).1} else owS s o
def clS (s:Bks) (o:Bop):Bks:= { s with nc:=s.nc+1,cd:=s.cd++ [o.am]}
def pfE (s:Bks) (o:Bop):Int:=
 if o.k=1 then c1u s o else if o.k=8 then clE s.hs s.ds s.cd o.am else if o.k=4\/o.k=5\/o.k=6 then mmE s o else e0d s o
def pfS (s:Bks) (o:Bop):Bks:=if o.k=1 then i1R s o else if o.k=8 then clS s o else if o.k=4\/o.k=5\/o.k=6 then mmS s o else h0s s o
def doE (s:Bks) (o:Bop):Int:=if ckE o≠0 then ckE o else if o.t<s.last then 14 else pfE s o
def doS (s:Bks) (o:Bop):Bks:=if doE s o=0 then { pfS s o with last:=o.t} else s
structure BkOk (s:Bks):Prop where
 lg:LgOk s.lg
 acc:s.lg.acc=s.pr.map e0n
 bd:∀a c,-(999999999999*(s.lg.ne:Int))<=s.lg.bal a c/\s.lg.bal a c<=999999999999*(s.lg.ne:Int)
 hn:s.hs.length=s.hn
 np:s.pr.length=s.np
 err:c0u s.pr=0
 bks:BksI s.ds s.B s.m s.np (sortS s.pr)
 nc:s.cd.length=s.nc
 na:s.au.length=s.na
 n256:s.na<=256
 days:1<=s.days/\s.days<=1000
 cur:e0c s.cur=true
 last:0<=s.last/\s.last<=1099511627776
 mle:s.m<=s.lg.ne
 mb:∀i,i<s.m->(s.B.getD i bk0).m<=s.lg.ne
theorem n1V {s:BA} (h:auI s=true):j0p s=true:=by
 unfold auI at h;rw [n0M] at h;obtain ⟨h1,h2⟩:=h;unfold j0p;grind [auC,n1Q]
theorem m0I {o:Bop} (h:CkOk o) (hk:o.k=4\/o.k=5\/o.k=6): -999999999999<=mtN o/\mtN o<=999999999999:=by
 have ha:=h.a;have hf:=h.f;grind [pmB,mtN]
theorem q0y {hs ds cd:List Int} {B:List Bk} {pr:List BA} {D:Int} {f g c:BA} {a:Int} (h:mvX hs ds cd B pr D f g c a=0) (hp:(c0H ds B pr D).ps=sortS pr) (hl:(c0H ds B pr D).ps.length=(c0H ds B pr D).n):¬D<0/\mvE (c0H ds B pr D) f g c a=0/\f∈pr/\g∈pr/\f≠g/\f0k a c=0:=by
 unfold mvX at h;split at h
 .cases h
 rename_i hD;refine ⟨hD,h,?_⟩;unfold mvE at h;split at h
 .cases h
 split at h
 .cases h
 rename_i h2;split at h
 .rename_i h3;exact absurd h h3
 rename_i h3;have key:∀x,¬idI (c0H ds B pr D).ps x (c0H ds B pr D).n<0->x∈pr:=by
  intro x hx;by_cases q:a0q (c0H ds B pr D).ps x<(c0H ds B pr D).n
  .rw [<-hl,hp] at q;exact (d0M pr).mem_iff.1 (sidx_lt.1 q)
  .exact absurd (show idI (c0H ds B pr D).ps x (c0H ds B pr D).n<0 by rw [i0J q];decide) hx
 exact ⟨key f oM,key g oM,fun e=>h2 (by rw [e]),t1C.1 h3⟩
theorem w0S {ds:List Int} {B:List Bk} {m np:Nat} {pr:List BA} (hb:BksI ds B m np (sortS pr)) (hp:pr.length=np) (he:c0u pr=0) (d:Int):BkI (c0H ds B pr d) 4503599627370496/\(c0H ds B pr d).n=np/\(c0H ds B pr d).ps=sortS pr:=by
 unfold c0H;split
 .rename_i h;have hi:=b0o.2 h;obtain ⟨h1,h2,h3,_⟩:=hb.I _ (by rw [<-hb.dl];omega);trivial
 .exact ⟨(k1F he).up (by simp),hp,rfl⟩
theorem k1V {hs cd:List Int} {cut t:Int} (h:¬mvD hs cd (ofI hs cut t)<0):0<=h0R t/\h0R t<=99999:=by
 by_cases q:h0R t<0
 all_goals simp_all [ofI,mvD,u0E,q0v]
theorem c1v (s:Bks) (o:Bop) (h: -999999999999<=mtN o/\mtN o<=999999999999) (hne:e0n (mtF o)≠e0n (mtG o)) (a c:BA): -999999999999<=lgS (enB s o).ps a c/\lgS (enB s o).ps a c<=999999999999:=by
 grind [enB,lgS]
theorem w0T {p q:BA} (h:e0n p=e0n q):p=q:=by
 simp_all [e0n]
theorem k1W {s:Bks} (h:BkOk s) {o:Bop} (hc:CkOk o) (hk:o.k=4\/o.k=5\/o.k=6) (hi:¬inL o.id s.lg.ids) (hf:¬512<=s.lg.ne) (hx:owX s o.t (mtF o) (mtG o) (mtN o)=0):lgE s.lg (enB s o)=0/\e0n (mtF o)≠e0n (mtG o):=by
 obtain ⟨b1,b2,b3⟩:=w0S h.bks h.np h.err (bkD s o.t);obtain ⟨m1,m2,m3,m4,m5,m6⟩:=q0y hx b3 b1.psl;have hne:e0n (mtF o)≠e0n (mtG o):=fun e=>m5 (w0T e)
 refine ⟨?_,hne⟩;have hd:=k1V m1;have hb:=m0I hc hk;have hid:j0p o.id=true:=by
  have hn:=hc.n;unfold bkN at hn;rw [n0M] at hn;have h1:=hn.1;have hmv:g0W o.k=true:=decide_eq_true hk;rw [hmv] at h1;exact n1V h1
 refine n1S ⟨hid,hd,rfl,by show 1<=2;omega,by show 2<=16;omega,?_,?_⟩ (fun q=>hi (h0z.2 q)) ?_ oM
 .refine e0m.2 fun p hp=> ?_
  simp only [enB,f1I,s1O,or_false] at hp;rw [h.acc];rcases hp with rfl|rfl
  .exact ⟨r1U.2 ⟨_,m3,rfl⟩,g1r m6⟩
  grind
 .grind [enB,lgC,i0O]
 .refine n1T fun a c=> ?_
  have h1:=h.bd a c;have h2:=c1v s o hb hne a c;omega
theorem g1s {ds:List Int} {B:List Bk} {m np:Nat} {sp:List BA} (h:BksI ds B m np sp) (D:Int) {b:Bk} (hI:BkI b 4503599627370496) (hn:b.n=np) (hp:b.ps=sp) (hm:b.m<=100000):BksI (k0G ds D) (s0x ds B D b) (k0G ds D).length np sp:=by
 unfold k0G s0x;by_cases hd:D∈ds
 .rw [if_pos hd,if_pos hd];refine ⟨rfl,by rw [s1a,h.bl,h.dl],h.nd,fun i hi2=> ?_⟩;by_cases e:a0S ds D=i
  .subst e;rw [List.getD,s1K (by rw [h.bl,<-h.dl];omega)];trivial
  .rw [List.getD,s1W e];exact h.I i (by rw [<-h.dl];omega)
 .rw [if_neg hd,if_neg hd];refine ⟨rfl,by rw [s0c,s0c,h.bl,h.dl];rfl,s1p.2 ⟨h.nd,by simp,fun a ha b hb e=>by simp_all⟩,fun i hi2=> ?_⟩;rw [s0c,m1T] at hi2;by_cases e:i=B.length
  .simp_all
  .have hl:i<B.length:=by rw [h.bl,<-h.dl];rw [h.bl,<-h.dl] at e;omega
   rw [List.getD,e1S hl];exact h.I i (by rw [<-h.bl];omega)
theorem g1t (ds:List Int) (D:Int):(k0G ds D).length<=ds.length+1:=by
 unfold k0G;grind
theorem n1W {ds:List Int} {B:List Bk} {m:Nat} (hd:ds.length=m) (hB:B.length=m) {D:Int} {b:Bk} {k:Nat} (h:∀i,i<m->(B.getD i bk0).m<=k) (hb:b.m<=k):∀i,i<(k0G ds D).length->((s0x ds B D b).getD i bk0).m<=k:=by
 unfold s0x;grind
theorem n1X {s:Bks} (h:BkOk s) (D:Int):(c0H s.ds s.B s.pr D).m<=s.lg.ne:=by
 unfold c0H;split
 .rename_i hd;exact h.mb _ (by rw [<-h.bks.dl];exact b0o.2 hd)
 .exact b1f _
theorem n1Y {s:Bks} (h:BkOk s) {o:Bop} (hc:CkOk o) (hk:o.k=4\/o.k=5\/o.k=6) (hi:¬inL o.id s.lg.ids) (hf:¬512<=s.lg.ne) (hx:owX s o.t (mtF o) (mtG o) (mtN o)=0):BkOk (owS s o):=by
 obtain ⟨hp,hne⟩:=k1W h hc hk hi hf hx;obtain ⟨b1,b2,b3⟩:=w0S h.bks h.np h.err (bkD s o.t);have b4:=n1X h (bkD s o.t);obtain ⟨v1,v2⟩:=g1f (c0H s.ds s.B s.pr (bkD s o.t)) (mtF o) (mtG o) s.cur (mtN o);have v3:=r1j (c0H s.ds s.B s.pr (bkD s o.t)) (mtF o) (mtG o) s.cur (mtN o);have v4:=r1k b1 (mtF o) (mtG o) s.cur (mtN o);have hlg:=c1s h.lg (e:=enB s o) rfl hp;have hl:=g1t s.ds (bkD s o.t);have hml:=h.mle;refine ⟨hlg,h.acc,fun a c=> ?_,h.hn,h.np,h.err,g1s h.bks _ v4 (v2.trans b2) (v1.trans b3) oM,h.nc,h.na,h.n256,h.days,h.cur,h.last,?_,?_⟩
 .have h1:=h.bd a c;have h2:=c1v s o (m0I hc hk) hne a c;show-(999999999999*((s.lg.ne+1:Nat):Int))<=s.lg.bal a c+lgS (enB s o).ps a c/\s.lg.bal a c+lgS (enB s o).ps a c<=999999999999*((s.lg.ne+1:Nat):Int);omega
 .show (k0G s.ds (bkD s o.t)).length<=s.lg.ne+1;have:=h.bks.dl;omega
 .show∀i,i<(k0G s.ds (bkD s o.t)).length->((s0x s.ds s.B (bkD s o.t) ((c0H s.ds s.B s.pr (bkD s o.t)).mv (mtF o) (mtG o) s.cur (mtN o))).getD i bk0).m<=s.lg.ne+1;exact n1W h.bks.dl h.bks.bl (fun i hi=>by have:=h.mb i hi;omega) oM
theorem e0O {s:Bks} (h:BkOk s) (i:Nat) (a:Au):BkOk { s with au:=s.au.set i a}:=
 ⟨h.lg,h.acc,h.bd,h.hn,h.np,h.err,h.bks,h.nc,by rw [s1a];exact h.na,h.n256,h.days,h.cur,h.last,h.mle,h.mb⟩
theorem k1X {s:Bks} (h:BkOk s) {t:Int} (ht:0<=t/\t<=1099511627776):BkOk { s with last:=t}:=
 ⟨h.lg,h.acc,h.bd,h.hn,h.np,h.err,h.bks,h.nc,h.na,h.n256,h.days,h.cur,ht,h.mle,h.mb⟩
theorem q1w {s:Bks} {o:Bop} (h0:mmE s o=0):¬inL o.id s.lg.ids/\¬512<=s.lg.ne/\owX s o.t (mtF o) (mtG o) (mtN o)=0/\(o.k=4->s.pl o.au<s.na/\(clA s o).2.2.2=0):=by
 grind [mmE]
theorem k1Y {s:Bks} (h:BkOk s) {o:Bop} (hc:CkOk o) (h0:pfE s o=0):BkOk (pfS s o):=by
 unfold pfE at h0;unfold pfS;split at h0
 .rename_i e;rw [if_pos e];unfold c1u at h0;split at h0
  .omega
  split at h0
  .omega
  exact ⟨h.lg,h.acc,h.bd,h.hn,h.np,h.err,h.bks,h.nc,by show (s.au++ [_]).length=s.na+1;rw [s0c,h.na];rfl,by show s.na+1<=256;omega,h.days,h.cur,h.last,h.mle,h.mb⟩
 rename_i e1;rw [if_neg e1];split at h0
 .rename_i e;rw [if_pos e];exact ⟨h.lg,h.acc,h.bd,h.hn,h.np,h.err,h.bks,by show (s.cd++ [_]).length=s.nc+1;rw [s0c,h.nc];rfl,h.na,h.n256,h.days,h.cur,h.last,h.mle,h.mb⟩
 rename_i e2;rw [if_neg e2];split at h0
 .rename_i e;rw [if_pos e];obtain ⟨m1,m2,m3,m4⟩:=q1w h0;have:=n1Y h hc e m1 m2 m3;unfold mmS;split
  .exact e0O this _ _
  omega
 .rename_i e;rw [if_neg e];exact e0O h _ _
theorem g1u {s:Bks} (h:BkOk s) (o:Bop):BkOk (doS s o):=by
 unfold doS;split
 .rename_i h0;unfold doE at h0;split at h0
  .omega
  rename_i h1;split at h0
  .omega
  have hc:=u0u (t1C.1 h1);exact k1X (k1Y h hc h0) hc.t
 omega
end
section
theorem k1Z (s:BA):a0K prog 107 [.str s] (.bool (auI s)):=by
 by_cases h:s.size<1\/16<s.size
 .rw [q0o h];exact Wx func107
 refine fEx func107 ?_;repeat' ((conv=>whnf);first|refine a0a ?_|(apply bRx<;>intro h<;>try exact aX))
 refine a0h (fun k:Nat=>⟨[(0,.str s),(3,.i k)],[],1⟩) (fun k=>k<=s.size/\m1V s k) (fun k=>s.size-k) 0 [0] [] wHx ⟨by omega,fun i hi=>by omega⟩ ?_;rintro k ⟨hk,hc⟩;repeat' ((conv=>whnf);first|refine a0a ?_|(apply bRx<;>intro h))
 all_goals first
  |exact a0e (by rw [b1s (k:=k) oM oM];rfl)
  |exact ⟨k+1,[0],[],⟨by omega,m0n hc oM⟩,by omega,⟨rfl,⟨rfl,sI (a0j oM),trivial⟩,trivial⟩⟩
  |skip
 have e:k=s.size:=oM
 subst e;exact a0e (by rw [u0r oM oM hc];rfl)
theorem w0U (s:BA):a0K prog 58 [.str s] (.bool (e0c s)):=by
 refine fEx func58 ?_;repeat' (first|(apply bRx<;>intro h))
 .exact a0e (by rw [e0K oM];rfl)
 .refine a0h (fun k:Nat=>⟨[(0,.str s),(3,.i k)],[],1⟩) (fun k=>k<=s.size/\f0F s k=true) (fun k=>s.size-k) 0 [0] [] wHx ⟨by omega,rfl⟩ ?_;rintro k ⟨hk,hc⟩;repeat' (first|refine a0a ?_|(apply bRx<;>intro h))
  .exact a0e (by rw [b0H (k:=k) oM oM];rfl)
  .exact a0e (by rw [b0H (k:=k) oM oM];rfl)
  .exact ⟨k+1,[0],[],⟨by omega,c0C hc oM oM⟩,by omega,⟨rfl,⟨rfl,sI (a0j oM),trivial⟩,trivial⟩⟩
  .refine a0e ?_;have:e0c s=true:=by grind [e0c]
   rw [this];rfl
theorem w0V (s:BA) (u:Bool):a0K prog 106 [.str s,.bool u,.fn 107 []] (.bool (fiB s u auI)):=by
 have c:=k1Z s;cases u;all_goals
  have c0:=c;exact Wx func106
theorem w0W (s:BA) (u:Bool):a0K prog 106 [.str s,.bool u,.fn 108 []] (.bool (fiB s u nmB)):=by
 have c:=o0H s;cases u;all_goals
  have c0:=c;exact Wx func106
theorem l1a (k a:Int) (hk:¬(k<1\/8<k)):a0K prog 109 [.i k,.i a] (.bool (pmB k a)):=by
 rcases f0j hk with rfl|rfl|rfl|rfl|rfl|rfl|rfl|rfl
 all_goals
  unfold pmB;refine fEx func109 ?_;repeat' (first|(apply bRx<;>intro h))
  all_goals refine a0e ?_
  all_goals
   show SV.bool _=SV.bool _;first
    
    |congr 1
   all_goals grind
set_option maxHeartbeats 4000000 in
theorem c1w (k t:Int) (id au is ac:BA) (am fe:Int) (fi:Bool):a0K prog 63 [.agg [.i k,.i t,.str id,.str au,.str is,.str ac,.i am,.i fe,.bool fi]] (.i (ckE ⟨k,t,id,au,is,ac,am,fe,fi⟩)):=by
 by_cases h1:k<1\/8<k
 .have e:ckE ⟨k,t,id,au,is,ac,am,fe,fi⟩=4:=by unfold ckE;rw [if_pos h1]
  rw [e];exact Wx func63
 by_cases h2:t<0\/1099511627776<t
 .have e:ckE ⟨k,t,id,au,is,ac,am,fe,fi⟩=14:=by unfold ckE;rw [if_neg h1,if_pos h2]
  rw [e];exact Wx func63
 have c1:=w0V id (g0W k);have c2:=w0V au (b1y k);have c3:=w0W is (g0W k);have c4:=w0W ac (g0W k);have c5:=l1a k am h1;have e:ckE ⟨k,t,id,au,is,ac,am,fe,fi⟩=if (fiB id (g0W k) auI&&(fiB au (b1y k) auI&&(fiB is (g0W k) nmB&&fiB ac (g0W k) nmB)))=false then 5 else if pmB k am=false then 4 else if fe<0\/(if k=4\/k=5 then am else 0)<fe then 4 else if fi=true/\k≠4 then 2 else if g0W k=true/\is=ac then 7 else 0:=by
  unfold ckE bkN;rw [if_neg h1,if_neg h2]
 generalize ckE ⟨k,t,id,au,is,ac,am,fe,fi⟩=E at*;generalize fiB id (g0W k) auI=b1 at*;generalize fiB au (b1y k) auI=b2 at*;generalize fiB is (g0W k) nmB=b3 at*;generalize fiB ac (g0W k) nmB=b4 at*;generalize pmB k am=b5 at*;rcases f0j h1 with rfl|rfl|rfl|rfl|rfl|rfl|rfl|rfl
 all_goals
  simp only [Int.reduceEq,g0W,b1y,or_true,true_or,or_false,false_or,if_true,if_false,decide_true,decide_false,true_and,false_and,s1X,ne_eq,not_true_eq_false,not_false_eq_true,and_true,and_false] at*;refine fEx func63 ?_;repeat' ((conv=>whnf);first|refine cPx c1 ?_|refine cPx c2 ?_|refine cPx c3 ?_|refine cPx c4 ?_|refine cPx c5 ?_|refine a0a ?_|(apply bRx<;>intro h<;>try exact aX))
  all_goals (conv=>whnf)
  all_goals first
   |exact aX
   |(refine a0e (congrArg (SV.int .i64) (a₁:=_) ?_)
     rw [e]
     (repeat' split)<;>first|rfl|exact aX|(exfalso;simp_all;done))
theorem e0o (o:Bop):a0K prog 63 [o.s] (.i (ckE o)):=c1w o.k o.t o.id o.au o.is o.ac o.am o.fe o.fi
theorem j0S (a:Au):a0K prog 152 [a.s] (.i (a0t a)):=by
 refine fEx func152 ?_;repeat' (first|exact a0e (by unfold a0t;rfl))
theorem u0N (n:Int):a0K prog 151 [.i n] (.bool (i0F n)):=by
 refine fEx func151 ?_;repeat' (first|(apply bRx<;>intro h))
 all_goals refine a0e ?_
 .have h':0<=n:=oM
  by_cases g:n<=999999999999
  .rw [show i0F n=true from decide_eq_true ⟨h',g⟩,show decide (n<=999999999999)=true from decide_eq_true g];rfl
  .rw [show i0F n=false from decide_eq_false (fun q=>g q.2),show decide (n<=999999999999)=false from decide_eq_false g];rfl
 .rw [show i0F n=false from decide_eq_false (fun q=>h q.1)];rfl
set_option maxHeartbeats 2000000 in
theorem k0x (a:Au):a0K prog 153 [a.s] ({a with st:=b0A a}:Au).s:=by
 have c:=j0S a;have e:b0A a=if 0<a0t a then 1 else if 0<a.exp then 4 else if 0<a.cle then 2 else 3:=by unfold b0A;rfl
 generalize a0t a=F at*;generalize b0A a=st at*;obtain ⟨id,cur,app,rev,cle,exp,st0,att,unt,pa⟩:=a;dsimp only at*;by_cases h1:0<F
 .rw [if_pos h1] at e;subst e;have c0:=c;exact Wx func153
 rw [if_neg h1] at e;by_cases h2:0<exp
 .rw [if_pos h2] at e;subst e;have c1:=c;exact Wx func153
 rw [if_neg h2] at e;by_cases h3:0<cle
 .rw [if_pos h3] at e;subst e;have c2:=c;exact Wx func153
 rw [if_neg h3] at e;subst e;have c3:=c;exact Wx func153
theorem c1x (s:BA):a0K prog 149 [.str s] (.bool (auI s)):=by
 by_cases h:s.size<1\/16<s.size
 .rw [q0o h];exact Wx func149
 refine fEx func149 ?_;repeat' ((conv=>whnf);first|refine a0a ?_|(apply bRx<;>intro h<;>try exact aX))
 refine a0h (fun k:Nat=>⟨[(0,.str s),(16,.i s.size),(17,.i k)],[],1⟩) (fun k=>k<=s.size/\m1V s k) (fun k=>s.size-k) 0 [0] [] wHx ⟨by omega,fun i hi=>by omega⟩ ?_;rintro k ⟨hk,hc⟩;repeat' ((conv=>whnf);first|refine a0a ?_|(apply bRx<;>intro h))
 all_goals first
  |exact a0e (by rw [b1s (k:=k) oM oM];rfl)
  |exact ⟨k+1,[0],[],⟨by omega,m0n hc oM⟩,by omega,⟨rfl,⟨rfl,rfl,sI (a0j oM),trivial⟩,trivial⟩⟩
  |skip
 have e:k=s.size:=oM
 subst e;exact a0e (by rw [u0r oM oM hc];rfl)
theorem y0W (s:BA):a0K prog 150 [.str s] (.bool (e0c s)):=by
 refine fEx func150 ?_;repeat' (first|(apply bRx<;>intro h))
 .exact a0e (by rw [e0K oM];rfl)
 .refine a0h (fun k:Nat=>⟨[(0,.str s),(8,.i s.size),(9,.i k)],[],1⟩) (fun k=>k<=s.size/\f0F s k=true) (fun k=>s.size-k) 0 [0] [] wHx ⟨by omega,rfl⟩ ?_;rintro k ⟨hk,hc⟩;repeat' (first|refine a0a ?_|(apply bRx<;>intro h))
  .exact a0e (by rw [b0H (k:=k) oM oM];rfl)
  .exact a0e (by rw [b0H (k:=k) oM oM];rfl)
  .exact ⟨k+1,[0],[],⟨by omega,c0C hc oM oM⟩,by omega,⟨rfl,⟨rfl,rfl,sI (a0j oM),trivial⟩,trivial⟩⟩
  .refine a0e ?_;have:e0c s=true:=by grind [e0c]
   rw [this];rfl
set_option maxHeartbeats 2000000 in
theorem g0X (a:Au):a0K prog 95 [a.s] (.i (b0L a)):=by
 refine fEx func95 ?_;repeat' ((conv=>whnf);first|refine cPx (c1x _) ?_|refine cPx (y0W _) ?_|refine cPx (u0N _) ?_|refine cPx (j0S a) ?_|refine cPx (k0x a) ?_|refine a0a ?_|(apply bRx<;>intro h<;>try exact aX))
 all_goals (conv=>whnf)
 all_goals refine a0e ?_
 all_goals simp only [c0g,cv,SV.int.injEq,true_and]
 all_goals (try simp only [i0F,decide_eq_true_eq,decide_eq_false_iff_not] at*)
 all_goals (try simp [seq] at*)
 all_goals (unfold b0L;(repeat' split)<;>first|rfl|exact aX|(exfalso;simp_all;done))
theorem f0n (a:Au):a0K prog 323 [a.s] (.i (c0Q a)):=by
 refine fEx func323 ?_;repeat' ((conv=>whnf);first|refine cPx (g0X a) ?_|(apply bRx<;>intro h))
 all_goals refine a0e ?_
 all_goals grind [c0g,cv,c0Q]
theorem c0R (id cur:BA) (app rev cle exp st att unt pa:Int):a0K prog 153 [.agg [.str id,.str cur,.i app,.i rev,.i cle,.i exp,.i st,.i att,.i unt,.i pa]]
  (.agg [.str id,.str cur,.i app,.i rev,.i cle,.i exp,.i (b0A ⟨id,cur,app,rev,cle,exp,st,att,unt,pa⟩),.i att,.i unt,.i pa]):=k0x ⟨id,cur,app,rev,cle,exp,st,att,unt,pa⟩
theorem f0o (id cur:BA) (app rev cle exp st att unt pa:Int):a0K prog 152 [.agg [.str id,.str cur,.i app,.i rev,.i cle,.i exp,.i st,.i att,.i unt,.i pa]] (.i (a0t ⟨id,cur,app,rev,cle,exp,st,att,unt,pa⟩)):=j0S ⟨id,cur,app,rev,cle,exp,st,att,unt,pa⟩
theorem u0O (id cur:BA) (app rev cle exp st att unt pa:Int):a0K prog 95 [.agg [.str id,.str cur,.i app,.i rev,.i cle,.i exp,.i st,.i att,.i unt,.i pa]] (.i (b0L ⟨id,cur,app,rev,cle,exp,st,att,unt,pa⟩)):=g0X ⟨id,cur,app,rev,cle,exp,st,att,unt,pa⟩
theorem g1v (id cur:BA) (n at_ un:Int):a0K prog 317 [.str id,.str cur,.i n,.i at_,.i un] (t2 (b1u id cur n at_ un)):=by
 refine fEx func317 ?_;repeat' ((conv=>whnf);first|refine cPx (u0O _ _ _ _ _ _ _ _ _ _) ?_|refine cPx (c0R _ _ _ _ _ _ _ _ _ _) ?_|(apply bRx<;>intro h))
 all_goals refine a0e ?_
 all_goals grind [c0g,cv,b1u,Au.zero,b1v]
theorem y0X (a:Au) (n u:Int):a0K prog 320 [a.s,.i n,.i u] (t2 (e0k a n u)):=by
 refine fEx func320 ?_;repeat' ((conv=>whnf);first|refine cPx (f0n a) ?_|refine cPx (c0R _ _ _ _ _ _ _ _ _ _) ?_|refine a0a ?_|(apply bRx<;>intro h))
 all_goals refine a0e ?_
 all_goals simp only [c0g,cv,Au.eta] at*
 .simp [e0k,Au.zero, *]
 all_goals
  obtain ⟨f,hs,hp,ho,hc,hx⟩:=b0M oM;have f1:=f.app;have f2:=f.rev;have f3:=f.cle;have f5:=f.funds;have ew:i64.wrap (999999999999-a.app)=999999999999-a.app:=a0l oM oM;unfold e0k
 .grind [Au.zero]
 .simp_all [Au.zero]
 .simp_all [Au.zero]
 .simp_all [Au.zero]
 .rw [if_neg oM,if_neg oM,if_neg oM];have e1:i64.wrap (a.app+n)=a.app+n:=a0l oM oM;rw [e1];have e2:b0A ⟨a.id,a.cur,a.app+n,a.rev,a.cle,a.exp,a.st,a.att,u,a.pa⟩=1:=by
   unfold b0A;rw [g0c _ (by grind) (by grind) (by simp_all) (by simp_all) (by simp_all) (by simp_all) (by simp_all) (by simp_all)];grind
  simp_all
theorem s0D (a:Au) (n:Int):a0K prog 321 [a.s,.i n] (t3 (b0v a n)):=by
 refine fEx func321 ?_;repeat' ((conv=>whnf);first|refine cPx (f0n a) ?_|refine cPx (f0o _ _ _ _ _ _ _ _ _ _) ?_|refine cPx (c0R _ _ _ _ _ _ _ _ _ _) ?_|refine a0a ?_|(apply bRx<;>intro h<;>try exact aX))
 all_goals refine a0e ?_
 all_goals simp only [c0g,cv,Au.eta] at*
 .simp [b0v,Au.zero, *]
 all_goals
  obtain ⟨f,hs,hp,ho,hc,hx⟩:=b0M oM;have f1:=f.app;have f2:=f.rev;have f3:=f.cle;have f5:=f.funds;have f6:=f.pa;unfold b0v
 .grind [Au.zero]
 .simp_all [Au.zero]
 .grind [a0t,a0l]
 .grind [a0l]
theorem y0Y (a:Au) (n:Int) (b:Bool):a0K prog 347 [a.s,.i n,.bool b] (t4 (g0d a n b)):=by
 refine fEx func347 ?_;repeat' ((conv=>whnf);first|refine cPx (f0n a) ?_|refine cPx (f0o _ _ _ _ _ _ _ _ _ _) ?_|refine cPx (c0R _ _ _ _ _ _ _ _ _ _) ?_|refine a0a ?_|(apply bRx<;>intro h<;>try exact aX))
 all_goals (conv=>whnf)
 all_goals refine a0e ?_
 all_goals simp only [c0g,cv,Au.eta] at*
 .simp [g0d,Au.zero, *]
 all_goals
  obtain ⟨f,hs,hp,ho,hc,hx⟩:=b0M (by assumption);have f1:=f.app;have f2:=f.rev;have f3:=f.cle;have f4:=f.exp;have f5:=f.funds;have f6:=f.pa;unfold g0d
 .rw [if_neg (by simp [*]),if_pos (by omega)];simp [Au.zero]
 .rw [if_neg (by simp [*]),if_pos (by omega)];simp [Au.zero]
 .rw [if_neg (by simp [*]),if_neg (by omega),if_pos (by omega)];simp [Au.zero]
 .rw [if_neg (by simp [*]),if_neg (by omega),if_neg (by omega)];have hm:0<min n (a0t a)/\min n (a0t a)<=a0t a:=by omega
  have e1:i64.wrap (a.cle+min n (a0t a))=a.cle+min n (a0t a):=a0l (by omega) (by omega);have e2:i64.wrap (a.pa+1)=a.pa+1:=a0l (by omega) (by omega);rw [e1,e2];have e3:a0t ⟨a.id,a.cur,a.app,a.rev,a.cle+min n (a0t a),a.exp,a.st,a.att,a.unt,a.pa+1⟩=a0t a-min n (a0t a):=by
   rw [g0c _ (by simp;omega) (by simp;omega) (by simp;omega) (by simp;omega) (by simp;omega) (by simp;omega) (by simp;omega) (by simp;omega)];simp only;omega
  rw [e3];have e4:i64.wrap (a.rev+(a0t a-min n (a0t a)))=a.rev+(a0t a-min n (a0t a)):=a0l (by omega) (by omega);rw [e4];simp [h]
 .rw [if_neg (by simp [*]),if_neg (by omega),if_neg (by omega)];have hm:0<min n (a0t a)/\min n (a0t a)<=a0t a:=by omega
  have e1:i64.wrap (a.cle+min n (a0t a))=a.cle+min n (a0t a):=a0l (by omega) (by omega);have e2:i64.wrap (a.pa+1)=a.pa+1:=a0l (by omega) (by omega);rw [e1,e2];simp [h]
theorem u0P (a:Au) (n:Int):a0K prog 322 [a.s,.i n] (t3 (c0p a n)):=by
 refine fEx func322 ?_;repeat' ((conv=>whnf);first|refine cPx (f0n a) ?_|refine cPx (f0o _ _ _ _ _ _ _ _ _ _) ?_|refine cPx (c0R _ _ _ _ _ _ _ _ _ _) ?_|refine a0a ?_|(apply bRx<;>intro h<;>try exact aX))
 all_goals (conv=>whnf)
 all_goals refine a0e ?_
 all_goals simp only [c0g,cv,Au.eta] at*
 .simp [c0p,Au.zero, *]
 all_goals
  obtain ⟨f,hs,hp,ho,hc,hx⟩:=b0M (by assumption);have f1:=f.app;have f2:=f.rev;have f3:=f.cle;have f4:=f.exp;have f5:=f.funds;have f6:=f.pa;unfold c0p
 .rw [if_neg (by simp [*]),if_pos (by omega)];simp [Au.zero]
 .rw [if_neg (by simp [*]),if_neg (by omega)];have e1:i64.wrap (a.exp+a0t a)=a.exp+a0t a:=a0l (by omega) (by omega);rw [e1]
theorem c1y {s:BA} {k:Nat} (h:k<s.size) (hc:¬((97<=a0d s (k:Int)/\a0d s (k:Int)<=122)\/(65<=a0d s (k:Int)/\a0d s (k:Int)<=90)\/(48<=a0d s (k:Int)/\a0d s (k:Int)<=57)\/a0d s (k:Int)=95\/a0d s (k:Int)=45\/a0d s (k:Int)=58)):j0p s=false:=by
 cases e:j0p s with
 |false=>rfl
 |true=>
  unfold j0p at e;rw [n0M,s1E] at e;exact absurd (of_decide_eq_true (e.2 k (by simpa using h))) hc
theorem s0E {s:BA} (h:s.size<1\/40<s.size):j0p s=false:=by
 cases e:j0p s with
 |false=>rfl
 |true=>have:=d0i e;omega
def c1z (s:BA) (k:Nat):Prop:=∀i,i<k->n1Q (a0d s (i:Int))=true
theorem o0L {s:BA} {k:Nat} (h:c1z s k) (hc:(97<=a0d s (k:Int)/\a0d s (k:Int)<=122)\/(65<=a0d s (k:Int)/\a0d s (k:Int)<=90)\/(48<=a0d s (k:Int)/\a0d s (k:Int)<=57)\/a0d s (k:Int)=95\/a0d s (k:Int)=45\/a0d s (k:Int)=58):c1z s (k+1):=by
 intro i hi;by_cases e:i=k
 .simp_all [n1Q]
 .exact h i oM
theorem w0X {s:BA} (h1:1<=s.size) (h2:s.size<=40) (h:c1z s s.size):j0p s=true:=by
 unfold j0p;rw [decide_eq_true ⟨h1,h2⟩,s1S,s1E];exact fun i hi=>h i (by simp_all)
theorem o0M (s:BA):a0K prog 105 [.str s] (.bool (j0p s)):=by
 by_cases h:s.size<1\/40<s.size
 .rw [s0E h];exact Wx func105
 refine fEx func105 ?_;repeat' ((conv=>whnf);first|refine a0a ?_|(apply bRx<;>intro h<;>try exact aX))
 all_goals (conv=>whnf)
 all_goals first
  |exact aX
  |skip
 refine a0h (fun k:Nat=>⟨[(0,.str s),(3,.i k)],[],1⟩) (fun k=>k<=s.size/\c1z s k) (fun k=>s.size-k) 0 [0] [] wHx ⟨by omega,fun i hi=>by omega⟩ ?_;rintro k ⟨hk,hc⟩;repeat' ((conv=>whnf);first|refine a0a ?_|(apply bRx<;>intro h<;>try exact aX))
 all_goals (conv=>whnf)
 all_goals first
  |exact a0e (by rw [c1y (k:=k) oM oM];rfl)
  |exact ⟨k+1,[0],[],⟨by omega,o0L hc oM⟩,by omega,⟨rfl,⟨rfl,sI (a0j oM),trivial⟩,trivial⟩⟩
  |skip
 have e:k=s.size:=oM
 subst e;exact a0e (by rw [w0X oM oM hc];rfl)
abbrev y0Z (n:Nat) (R:List Lp):Blk:= .obj (.map true false n [.strs (R.map Lp.a),.strs (R.map Lp.c)] [.sc (.ints .i64 (R.map Lp.n))] (List.range n) n)
theorem m0J {α β:Type} (f:α->β) (i:Nat) (x:α) (l:List α):(b0j i x l).map f=b0j i (f x) (l.map f):=by
 unfold b0j;by_cases h:i<l.length
 all_goals simp_all [if_neg]
theorem c1A {ix r:Nat} (h:ix<=r):0<=(((if ix<r then (List.range r).getD ix 0 else r:Nat)):Int)/\(((if ix<r then (List.range r).getD ix 0 else r:Nat)):Int).toNat∈(if ix<r then List.range r else List.range r++ [r]):=by
 grind
theorem i1S {i r:Nat} (h:i<r):(List.range r).idxOf i=i:=by
 have hl:(List.range r).idxOf i<(List.range r).length:=List.idxOf_lt_length_of_mem (by simp_all);have h2:=List.getElem_idxOf hl
 grind
theorem w0Y (R:List Lp) (a c:BA):(R.map Lp.n).getD (c0B (R.map Lp.a) (R.map Lp.c) a c) 0=lgV R a c:=g1m R _
theorem n1Z {R:List Lp} {r:Nat} (hR:R.length=r) {a c:BA} {v m:Int} (hv:v=lgV R a c+m) {ix:Nat} (hix:c0B (R.map Lp.a) (R.map Lp.c) a c=ix):
  (some (HB.one false (.obj (.map true false (if ix<r then r else r+1) [.strs (b0j ix a (R.map Lp.a)),.strs (b0j ix c (R.map Lp.c))] [.sc (.ints .i64 (b0j ((if ix<r then List.range r else List.range r++ [r]).idxOf (((if ix<r then (List.range r).getD ix 0 else r:Nat)):Int).toNat) v (b0j ix ((R.map Lp.n).getD ix 0) (R.map Lp.n))))] (if ix<r then List.range r else List.range r++ [r]) (if ix<r then r else r+1)))):Option HB)
   =some (.one false (y0Z (g0j R ⟨a,m,c⟩).length (g0j R ⟨a,m,c⟩))):=by
 have hl:ix<=r:=by grind [w0L]
 have e:g0j R ⟨a,m,c⟩=b0j ix ⟨a,lgV R a c+m,c⟩ R:=by unfold g0j lgI;grind
 rw [e,d0G,hR];have h1:(if ix<r then List.range r else List.range r++ [r])=List.range (if ix<r then r else r+1):=by
  split
  .rfl
  .exact t1U.symm
 have h2:(List.range (if ix<r then r else r+1)).idxOf (((if ix<r then (List.range r).getD ix 0 else r:Nat)):Int).toNat=ix:=by
  rw [u0f];by_cases hx:ix<r
  .rw [if_pos hx,if_pos hx,show (List.range r).getD ix 0=ix by simp_all,i1S hx]
  grind
 have h3:b0j ix (lgV R a c+m) (b0j ix ((R.map Lp.n).getD ix 0) (R.map Lp.n))=b0j ix (lgV R a c+m) (R.map Lp.n):=by
  by_cases hx:ix<r
  .simp_all [i0P]
  .have:ix=r:=oM
   simp_all [c0z,i0P]
 simp_all [m0J]
theorem m0K (L:List Lp) (k:Nat):L.getD k lp0=⟨(L.map Lp.a).getD k ⟨#[]⟩,(L.map Lp.n).getD k 0,(L.map Lp.c).getD k ⟨#[]⟩⟩:=by
 rw [p1U,g1m,k1O]
theorem c1B {L:List Lp} (hb:c1j L) (k:Nat): -4503599627370496<=(L.getD k lp0).n/\(L.getD k lp0).n<=4503599627370496:=by
 rcases i1B k L.length with h|h
 .rw [List.getD,m0b h];exact hb _ (k1j h)
 simp_all
theorem o0N (L:List Lp) (n:Nat) (hn:L.length=n) (h16:n<=16) (hb:c1j L):FC prog 2 359 [.sl 1 0 0 n] [(1,some (.one true (poB n L)))] (a0g (.map 2 0) [(2,some (.one false (y0Z (chR L n).length (chR L n))))] 3):=by
 unfold poB;refine fEx func359 ?_;repeat' ((conv=>whnf);first|refine a0a ?_|(apply bRx<;>intro h<;>try exact aX))
 all_goals (conv=>whnf)
 refine a0h (fun k:Nat=>⟨[(3,.map 2 0),(7,.sl 1 0 0 n),(8,.i n),(9,.i k)],[(1,some (.one true (poB n L))),(2,some (.one false (y0Z (chR L k).length (chR L k))))],3⟩) (fun k=>k<=n) (fun k=>n-k) 0 [0,1,2] [] wHx (b1f _) ?_;intro k hk;unfold poB;by_cases hk2:k<n
 .have hv0:=c1k (m0E hb k) ((L.map Lp.a).getD k ⟨#[]⟩) ((L.map Lp.c).getD k ⟨#[]⟩);rw [<-h0S _ _ k oM,p1O] at hv0;have hb1:=c1B hb k;rw [<-g1m] at hb1;have hst:chR L (k+1)=g0j (chR L k) ⟨(L.map Lp.a).getD k ⟨#[]⟩,(L.map Lp.n).getD k 0,(L.map Lp.c).getD k ⟨#[]⟩⟩:=by rw [<-m0K];rfl
  have hl:=w0L ((L.map Lp.a).getD k ⟨#[]⟩) ((L.map Lp.c).getD k ⟨#[]⟩) (chR L k);have hrow:=n1Z (R:=chR L k) rfl (a:=(L.map Lp.a).getD k ⟨#[]⟩) (c:=(L.map Lp.c).getD k ⟨#[]⟩) (m:=(L.map Lp.n).getD k 0) (v:=i64.wrap (((chR L k).map Lp.n).getD (c0B ((chR L k).map Lp.a) ((chR L k).map Lp.c) ((L.map Lp.a).getD k ⟨#[]⟩) ((L.map Lp.c).getD k ⟨#[]⟩)) 0+(L.map Lp.n).getD k 0)) (by rw [w0Y];exact a0l oM oM) rfl;rw [<-hst] at hrow;repeat' ((conv=>whnf);first|(refine ⟨c1A hl,?_⟩)|refine a0a ?_|(apply bRx<;>intro h<;>try exact aX)|exact ⟨k+1,[0,1,2],[],hk2,(show n-(k+1)<n-k by omega),⟨rfl,⟨rfl,rfl,rfl,sI (a0j oM),trivial⟩,⟨rfl,hrow,trivial⟩⟩⟩|exact aX)
 have ek:k=n:=oM
 subst ek;let l:=[0,1,2];exact Vx
theorem z0a {L:List Lp} {k n:Nat} {C:List BA} {W:List Int} (hI:LgM L k n C W) (c:BA):W.getD (a0q C c) 0=lgC (L.take k) c:=by
 rw [<-hI.all c];split
 .rfl
 .rw [List.getD,a1X (by have:=hI.w;omega)];rfl
theorem c1C (i m:Nat):(if i<m then List.range m else List.range m++ [m])=List.range (if i<m then m else m+1):=by
 split
 .rfl
 .exact t1U.symm
theorem u0Q (L:List Lp) (n:Nat) (hn:L.length=n) (h16:n<=16) (hb:c1j L):FC prog 2 364 [.sl 1 0 0 n] [(1,some (.one true (poB n L)))] (a0g (.bool (j0P L)) [] 2):=by
 unfold poB;refine fEx func364 ?_;repeat' ((conv=>whnf);first|refine a0a ?_|(apply bRx<;>intro h<;>try exact aX))
 all_goals (conv=>whnf)
 refine a0h (fun x:Nat×Nat×List BA×List Int=>⟨[(3,.map 2 0),(9,.sl 1 0 0 n),(10,.i n),(11,.i x.1)],[(1,some (.one true (poB n L))),(2,some (.one false (.obj (.map false false x.2.1 [.strs x.2.2.1] [.sc (.ints .i64 x.2.2.2)] (List.range x.2.1) x.2.1))))],3⟩) (fun x=>x.1<=n/\x.2.1<=x.1/\LgM L x.1 x.2.1 x.2.2.1 x.2.2.2) (fun x=>n-x.1) (0,0,[],[]) [0,1,2] [] wHx ⟨b1f _,m0c _,g1o L⟩ ?_;rintro ⟨k,m,C,W⟩ ⟨hk,hm,hI⟩;dsimp only at hk hm hI⊢;unfold poB;by_cases hk2:k<n
 .have hv0:=n1O (m0E hb k) ((L.map Lp.c).getD k ⟨#[]⟩);rw [p1O,t1u oM] at hv0;have hb1:=c1B hb k;have hw:=z0a hI ((L.map Lp.c).getD k ⟨#[]⟩);have hvv:i64.wrap (W.getD (a0q C ((L.map Lp.c).getD k ⟨#[]⟩)) 0+(L.map Lp.n).getD k 0)=lgC (L.take k) (L.getD k lp0).c+(L.getD k lp0).n:=by
   rw [hw,g1m,<-k1O];exact a0l oM oM
  have hI2:=g1p hI oM _ hvv;have hc0:=k1O L k;rw [<-hc0] at hI2;have hst:=c1C (a0q C ((L.map Lp.c).getD k ⟨#[]⟩)) m;repeat' ((conv=>whnf);first|refine a0a ?_|(apply bRx<;>intro h<;>try exact aX))
  all_goals (conv=>whnf)
  all_goals try exact aX
  refine ⟨(k+1,(if a0q C ((L.map Lp.c).getD k ⟨#[]⟩)<m then m else m+1),b0j (a0q C ((L.map Lp.c).getD k ⟨#[]⟩)) ((L.map Lp.c).getD k ⟨#[]⟩) C,b0j (a0q C ((L.map Lp.c).getD k ⟨#[]⟩)) (i64.wrap (W.getD (a0q C ((L.map Lp.c).getD k ⟨#[]⟩)) 0+(L.map Lp.n).getD k 0)) W),[0,1,2],[],⟨hk2,(by dsimp only;split<;>omega),hI2⟩,(show n-(k+1)<n-k by omega),⟨rfl,⟨rfl,rfl,rfl,sI (a0j oM),trivial⟩,⟨rfl,?_,trivial⟩⟩⟩;dsimp only;rw [<-hst];rfl
 have ek:k=n:=oM
 subst ek;have hI2:LgM L L.length m C W:=by rw [hn];exact hI
 repeat' ((conv=>whnf);first|refine a0a ?_|(apply bRx<;>intro h<;>try exact aX))
 all_goals (conv=>whnf)
 all_goals first
  |exact aX
  |skip
 refine a0h (fun sn:List Nat=>⟨[(3,.map 2 0),(26,.ptr 3 0 0 0)],[(2,some (.one false (.obj (.map false false m [.strs C] [.sc (.ints .i64 W)] (List.range m) m)))),(3,some (.one false (.obj (.iter 2 0 (List.range m) m sn))))],4⟩) (fun sn=>sn.Nodup/\(∀i∈sn,i<m)/\∀i∈sn,W.getD i 0=0) (fun sn=>m-sn.length) [] [0,1,2,3] [] wHx ⟨s1Z,by simp,by simp⟩ ?_;rintro sn ⟨hd,hl,hz⟩;repeat' ((conv=>whnf);first|(refine ⟨⟨rfl,rfl⟩,fun x hx hnx=> ?_,fun hall=> ?_⟩)|refine a0a ?_|(apply bRx<;>intro h<;>try exact aX))
 all_goals (conv=>whnf)
 .refine a0A (l:= [0,1]) rfl ?_ trivial a0c;rw [n1N hI2 hx h];rfl
 .have:=c0O hd hl hx hnx;refine ⟨x::sn,[0,1,2,3],[],⟨t1D.2 ⟨hnx,hd⟩,fun y hy=> ?_,fun y hy=> ?_⟩,by simp only [i1y];omega,⟨rfl,rX,rX⟩⟩
  .rcases f1I.1 hy with rfl|hy
   .exact hx
   .exact hl y hy
  .rcases f1I.1 hy with rfl|hy
   .exact h
   .exact hz y hy
 .refine a0A (l:= [0,1]) rfl ?_ trivial a0c;rw [q1u hI2 (fun i hi=>hz i (hall i hi))];rfl
end
section
open Go.RowKit Go.Sy Go.Proofs
def g1w (w:World) (e:TypeId) (v:Value) (s:BA):Prop:=
 (v= .slice none 0 0/\s=⟨#[]⟩)\/∃g cap cur,v= .slice (some ⟨g,0,none⟩) s.size cap/\w.heap[g]? =some (.cells cur e (0,0))/\cur.size=cap/\s.size<=cap/\cap<=maxLen/\cur.toList.take s.size=Lib.strCells s
def c1D (w w':World) (e:TypeId) (v v':Value) (s:BA):Prop:=
 ∃g cap cur,v'= .slice (some ⟨g,0,none⟩) s.size cap/\w'.heap[g]? =some (.cells cur e (0,0))/\cur.size=cap/\s.size<=cap/\cap<=maxLen/\cur.toList.take s.size=Lib.strCells s/\(w.heap.size<=g\/v.ownBlock=some g)
theorem g0m (a b:BA):Lib.strCells (a++b)=Lib.strCells a++Lib.strCells b:=by
 simp_all [t1j,Lib.byteCells_append]
theorem l1b {P:Program} (w:World) (t u ty e:TypeId) (i:TypeInfo) (ht:P.underlying t=some (.slice e)) (hu:P.underlying u=some .string) (hi:P.info? e=some i) (hz:i.zero=some (.int .u8 0)) (hsize:i.size=1) (hby:i.bytes=1)
  (v:Value) (s0 s:BA) (hv:g1w w e v s0) (h0:0<s.size) (hb:s0.size+s.size<=1000000000):
  ∃v' w',(Builtin.append_ #[t,u] ty #[v,.string s]).run P w= .ok v' w'/\c1D w w' e v v' (s0++s)/\w.grownBy w' v.ownBlock:=by
 have hsz:(s0++s).size=s0.size+s.size:=by simp
 have hcl:∀x:BA,(Lib.strCells x).length=x.size:=Lib.strCells_length;have grown:∀(W:World) (xs:List Value) (n old:Nat),W.heap.size=w.heap.size->xs=Lib.strCells (s0++s)->n=s0.size+s.size->∀cur:Array Value,cur=xs.toArray++Builtin.zeroCells (Value.int .u8 0).cells (grownCap w n old e-n)->
   cur.size=grownCap w n old e/\(s0++s).size<=grownCap w n old e/\grownCap w n old e<=maxLen/\cur.toList.take (s0++s).size=Lib.strCells (s0++s):=by
  intro W xs n old _ hxs hn cur hcur;have hge:=grownCap_ge w n old e;have hcm:grownCap w n old e<=maxLen:=grownCap_le_maxLen w n old e (by unfold maxLen;omega);have hz1:(Value.int u8 0).cells.size=1:=rfl;simp_all [t1y,t1k,s1R,size_zeroCells]
 rcases hv with ⟨rfl,rfl⟩|⟨g,cap,cur,rfl,hg,hcs,hnc,hcm,htake⟩
 .have hr:=run_append_nil_string (P:=P) w t u ty e i (.int .u8 0) ht hu hi hz s oM oM (by grind);have e1:(s.data.map fun b=>Value.int .u8 b.toNat)=(Lib.strCells s).toArray:=by
   grind [Lib.strCells]
  rw [e1] at hr;have hs:(⟨#[]⟩:BA)++s=s:=by rfl
  obtain ⟨k1,k2,k3,k4⟩:=grown w (Lib.strCells s) s.size 0 rfl (by rfl) (by trivial) _ rfl;refine ⟨_,_,hr,⟨w.heap.size,_,_,by rfl,heap_alloc_new w.drew _,k1,by trivial,k3,by trivial,.inl (m0c _)⟩,⟨rfl,rfl,rfl,by simp,fun k hk _=>heap_alloc_old w.drew _ hk⟩⟩
 .by_cases hroom:s0.size+s.size<=cap
  .have hr:=Lib.run_append_room_string (P:=P) w t u ty e i ht hu hi hsize g s0.size cap cur hg s hroom oM;refine ⟨_,_,hr,⟨g,cap,_,by simp,setRow_heap w g cur _ e _ hg,?_,by omega,hcm,?_,.inr rfl⟩,⟨rfl,rfl,rfl,by simp,fun k _ hk=>setRow_other w g k _ (fun e=>hk (by simp [Value.ownBlock,e]))⟩⟩
   .grind
   grind [g0m]
  .have holds:∀j u,(Lib.strCells s0)[j]? =some u->w.cell? ((⟨g,0,none⟩:Addr).add j)=some u:=by
    intro j u hj;rw [<-htake,r1T] at hj;split at hj
    .have ea:((⟨g,0,none⟩:Addr).add j)=⟨g,j,none⟩:=by
      unfold Addr.add;simp_all
     rw [ea,t1I hg];simp_all
    trivial
   have hr:=Lib.run_append_grow_string (P:=P) w t u ty e i (.int .u8 0) ht hu hi hz ⟨g,0,none⟩ s0.size cap (Lib.strCells s0) (by simp_all) holds s oM oM (by rw [hby];exact growslice_fits oM oM);obtain ⟨k1,k2,k3,k4⟩:=grown w (Lib.strCells (s0++s)) (s0.size+s.size) cap rfl rfl rfl _ rfl;have e2:(Lib.strCells s0).toArray++(Lib.strCells s).toArray=(Lib.strCells (s0++s)).toArray:=by rw [g0m];simp
   rw [e2] at hr;exact ⟨_,_,hr,⟨w.heap.size,_,_,by simp,heap_alloc_new w.drew _,k1,k2,k3,k4,.inl (m0c _)⟩,⟨rfl,rfl,rfl,by simp,fun k hk _=>heap_alloc_old w.drew _ hk⟩⟩
theorem z0b {P:Program} {ops:Array Oper} {rest:List Oper} {o:Oper} {a:Act} {Q:Exit->Act->World->Prop} {w:World} (hgd:o.guard=none) (sl x:Operand) (t u:TypeId)
  (ho:o.op= .call { callee:= .builtin .append,args:= #[sl,x],argTypes:= #[t,u]})
  (e:TypeId) (i:TypeInfo) (ht:P.underlying t=some (.slice e)) (hu:P.underlying u=some .string) (hi:P.info? e=some i) (hz:i.zero=some (.int .u8 0))
  (hsize:i.size=1) (hby:i.bytes=1)
  (v:Value) (s0 s:BA) (hs:a.eval sl=v) (hv:g1w w e v s0) (hx:a.eval x= .string s) (h0:0<s.size) (hb:s0.size+s.size<=1000000000)
  (h:∀v' w',c1D w w' e v v' (s0++s)->w.grownBy w' v.ownBlock->wpList P ops Q rest (a.put o.dst v') w'):wpList P ops Q (o::rest) a w:=by
 refine wpList_plain hgd fun K hK=> ?_
 obtain ⟨v',w',hr,h2,h3⟩:=l1b (P:=P) w t u o.type e i ht hu hi hz hsize hby v s0 s hv h0 hb;unfold Oper.wp execOp;simp only [ho,resolve,invoke,builtin,k1h,n1x,b1g,List.map_toArray,n1w,s1Y,hs,hx,hr];exact hK _ _ (h v' w' h2 h3)
theorem i1T:(prog.info? 101).map (·.size)=some 2:=by rfl
theorem o1a:liesAt prog prog.depth 101 (2/prog.cellsOf 101) 0 101 1=true:=by rfl
theorem l1c:prog.underlying 98=some (.pointer 101):=by rfl
theorem o1b:prog.underlying 246=some .unsafePointer:=by rfl
theorem r1A:prog.underlying 99=some (.slice 5):=by rfl
theorem q1x:prog.underlying 9=some .string:=by rfl
theorem r1B:(prog.info? 5).map (fun i=>(i.zero,i.size,i.bytes))=some (some (.int .u8 0),1,1):=by rfl
set_option maxHeartbeats 1000000 in
theorem k0H (b:Nat) (w:World) (h0:w.cell? ⟨b,0,none⟩=some (.pointer (some ⟨b,0,none⟩))):
  Calls prog 94 #[.pointer (some ⟨b,0,none⟩)] w fun e w'=>e= .returned (.tuple #[])/\w'=w:=by
 obtain ⟨j,hj,_⟩:=t1w.1 i1T
 go_enter func94,Tryz.ntmps94
 go_wp2
 rw [Lib.run_neq_ptr_same w _ l1c hj]
 go_wp2
 go_end0
 exact ⟨rfl,rfl⟩
set_option maxHeartbeats 1000000 in
theorem j0T (b:Nat) (w:World) (h0:w.cell? ⟨b,0,none⟩=some (.pointer none)) (hsh:w.shape? b=some (101,2)) (hfz:w.frozen? ⟨b,0,none⟩=false):
  Calls prog 94 #[.pointer (some ⟨b,0,none⟩)] w fun e w'=>e= .returned (.tuple #[])/\w'=w.setCell ⟨b,0,none⟩ (.pointer (some ⟨b,0,none⟩)):=by
 obtain ⟨j,hj,hjs⟩:=t1w.1 i1T
 go_enter func94,Tryz.ntmps94
 go_wp2
 rw [Lib.run_to_unsafe w ⟨b,0,none⟩ l1c o1b hj (by rw [hjs];decide) hsh (Nat.zero_lt_succ 1)];simp only [Result.andThen];rw [u1h]
 go_wp2
 rw [run_callFunc_extern func148 (by kernel_rfl) (by kernel_rfl) (by kernel_rfl) (e:=Extern.AbiNoEscape.same) (by kernel_rfl)];rw [Lib.run_noEscape];simp only [Result.andThen];rw [u1h]
 go_wp2
 rw [Lib.run_from_unsafe w ⟨b,0,none⟩ o1b l1c hj hsh o1a];simp only [Result.andThen];rw [u1h]
 go_wp2
 go_end0
 exact ⟨rfl,rfl⟩
def g1x (B:Nat->Prop) (w w':World):Prop:=w'.os=w.os/\w'.tape=w.tape/\w'.output=w.output/\w.heap.size<=w'.heap.size/\∀k,k<w.heap.size->¬B k->w'.heap[k]? =w.heap[k]?
set_option maxHeartbeats 2000000 in
theorem i0Q (b:Nat) (p v:Value) (s0 s:BA) (w:World) (hb:w.heap[b]? =some (.cells #[p,v] 101 (0,0))) (hp:p= .pointer none\/p= .pointer (some ⟨b,0,none⟩)) (hv:g1w w 5 v s0) (hne:v.ownBlock≠some b) (h0:0<s.size) (hsz:s0.size+s.size<=1000000000):
  Calls prog 48 #[.pointer (some ⟨b,0,none⟩),.string s] w fun e w'=>e= .returned (.tuple #[.int .i64 s.size,.nilIface])/\∃v',w'.heap[b]? =some (.cells #[.pointer (some ⟨b,0,none⟩),v'] 101 (0,0))/\c1D w w' 5 v v' (s0++s)/\g1x (fun k=>k=b\/v.ownBlock=some k) w w':=by
 obtain ⟨i0,hi,hi3⟩:=t1w.1 r1B;simp only [Prod.mk.injEq] at hi3;obtain ⟨hz0,hz1,hz2⟩:=hi3;have hlt:b<w.heap.size:=by
  rcases i1B b w.heap.size with h'|h'
  .exact h'
  .simp [u1Z h'] at hb
 have cc:Calls prog 94 #[.pointer (some ⟨b,0,none⟩)] w fun e w'=>e= .returned (.tuple #[])/\w'.heap[b]? =some (.cells #[.pointer (some ⟨b,0,none⟩),v] 101 (0,0))/\w'.heap.size=w.heap.size/\w'.os=w.os/\w'.tape=w.tape/\w'.output=w.output/\∀k,k≠b->w'.heap[k]? =w.heap[k]?:=by
  rcases hp with rfl|rfl
  .refine (j0T b w (by rw [t1I hb];rfl) (by simp [World.shape?,hb]) (Lib.frozen_of_heap hb 0)).mono ?_;rintro e w' ⟨rfl,rfl⟩;refine ⟨rfl,?_,by simp [World.setCell],rfl,rfl,rfl,fun k hk=> ?_⟩
   .simp [World.setCell,r1Y,hb]
   .simp [World.setCell,r1Y,Ne.symm hk]
  .refine (k0H b w (by rw [t1I hb];rfl)).mono ?_;rintro e w' ⟨rfl,rfl⟩;exact ⟨rfl,hb,rfl,rfl,rfl,rfl,fun _ _=>rfl⟩
 go_enter func48,Tryz.ntmps48
 go_wp2_with (go_at_call 94;refine cc.mono ?_)
 rintro e w1 ⟨rfl,hb1,hs1,ho1,ht1,hu1,hk1⟩;have c0:w1.cell? ⟨b,0,none⟩=some (.pointer (some ⟨b,0,none⟩)):=by rw [t1I hb1];rfl
 have c1:w1.cell? ⟨b,1,none⟩=some v:=by rw [t1I hb1];rfl
 have hv1:g1w w1 5 v s0:=by
  rcases hv with h|⟨g,cap,cur,rfl,hg,h⟩
  .exact .inl h
  .refine .inr ⟨g,cap,cur,rfl,?_,h⟩;rw [hk1 g (fun e=>hne (by rw [e];rfl))];exact hg
 go_wp2_with (at_builtin;refine z0b rfl _ _ 99 9 rfl 5 i0 r1A q1x hi hz0 hz1 hz2 v s0 s rfl hv1 rfl h0 hsz ?_)
 intro v' w2 hrow hgrow;have hb2:w2.heap[b]? =some (.cells #[.pointer (some ⟨b,0,none⟩),v] 101 (0,0)):=by
  rw [hgrow.block b (by omega) (fun e=>hne e.symm)];exact hb1
 have d0:w2.cell? ⟨b,0,none⟩=some (.pointer (some ⟨b,0,none⟩)):=by rw [t1I hb2];rfl
 have d1:w2.cell? ⟨b,1,none⟩=some v:=by rw [t1I hb2];rfl
 have f1:w2.frozen? ⟨b,1,none⟩=false:=Lib.frozen_of_heap hb2 1;obtain ⟨g,cap,cur,rfl,r2,r3,r4,r5,r6,r7⟩:=hrow;have hgb:g≠b:=by
  rcases r7 with r7|r7
  .omega
  .exact fun e=>hne (by rw [r7,e])
 go_wp2
 go_ret2
 refine ⟨rfl,_,?_,⟨g,cap,cur,rfl,?_,r3,r4,r5,r6,by rw [<-hs1];exact r7⟩,?_⟩
 .simp [World.setCell,r1Y,hb2]
 .simp [World.setCell,r1Y,Ne.symm hgb,r2]
 .refine ⟨?_,?_,?_,?_,fun k hk hn=> ?_⟩
  .show w2.os=w.os;rw [hgrow.os,ho1]
  .show w2.tape=w.tape;rw [hgrow.tape,ht1]
  .show w2.output=w.output;rw [hgrow.output,hu1]
  .have:=hgrow.size;simp [World.setCell];omega
  .have k1:k≠b:=fun e=>hn (.inl e)
   have k2:some k≠v.ownBlock:=fun e=>hn (.inr e.symm)
   have:∀x,(w2.setCell ⟨b,1,none⟩ x).heap[k]? =w2.heap[k]?:=fun x=>by simp [World.setCell,r1Y,Ne.symm k1]
   rw [this,hgrow.block k (by omega) k2,hk1 k k1]
theorem r1C:prog.underlying 181=some (.pointer 5):=by rfl
theorem r1D:prog.cellsOf 5=1:=by rfl
set_option maxHeartbeats 2000000 in
theorem g1y (b g cap:Nat) (p:Value) (cur:Array Value) (s:BA) (w:World) (hb:w.heap[b]? =some (.cells #[p,.slice (some ⟨g,0,none⟩) s.size cap] 101 (0,0))) (hg:w.heap[g]? =some (.cells cur 5 (0,0))) (hcs:cur.size=cap) (hnc:s.size<=cap) (hcm:cap<=maxLen) (htake:cur.toList.take s.size=Lib.strCells s) (h0:0<s.size):
  Calls prog 53 #[.pointer (some ⟨b,0,none⟩)] w fun e w'=>e= .returned (.string s)/\g1x (fun k=>k=g) w w':=by
 have hl0:s.data.toList≠[]:=by
  intro e;have h1:s.data.toList.length=s.size:=by simp
  rw [e] at h1;simp at h1;omega
 have hll:s.data.toList.length=s.size:=by simp
 have c1:w.drew.cell? ⟨b,1,none⟩=some (.slice (some ⟨g,0,none⟩) s.size cap):=by
  have:w.drew.heap[b]? =some (.cells #[p,.slice (some ⟨g,0,none⟩) s.size cap] 101 (0,0)):=hb;rw [t1I this];rfl
 have hg':w.drew.heap[g]? =some (.cells cur 5 (0,0)):=hg;have hSD:(Builtin.unsafeSliceData_ #[99] 181 #[.slice (some ⟨g,0,none⟩) s.size cap]).run prog w.drew= .ok (.pointer (some ⟨g,0,none⟩)) w.drew:=
  Lib.run_unsafeSliceData_row _ _ _ _ _ _ (by omega)
 have hUS:(Builtin.unsafeString_ #[181,3] 9 #[.pointer (some ⟨g,0,none⟩),.int .i64 s.size]).run prog w.drew= .ok (.string s) (w.drew.freeze ⟨g,0,none⟩ s.size):=by
  have:=Lib.run_unsafeString_row (P:=prog) w.drew 181 3 9 5 r1C r1D g cur.size (by simp [World.shape?,hg']) s.data.toList hl0 (by omega) (by unfold maxLen at hcm;omega) (by
   intro j x hx;have ea:((⟨g,0,none⟩:Addr).add j)=⟨g,j,none⟩:=by
    unfold Addr.add;split
    .rename_i e;subst e;rfl
    .simp
   rw [ea,t1I hg'];have h1:(Lib.strCells s)[j]? =some (.int .u8 x.toNat):=by rw [t1j];simp only [Lib.byteCells,f1Q,hx];rfl
   rw [<-htake,r1T] at h1;split at h1
   .simpa using h1
   .cases h1)
  rw [hll] at this;exact this
 have hkeep:g1x (fun k=>k=g) w (w.drew.freeze ⟨g,0,none⟩ s.size):=by
  unfold World.freeze;split
  .exact ⟨rfl,rfl,rfl,m0c _,fun _ _ _=>rfl⟩
  .refine ⟨rfl,rfl,rfl,by simp,fun k hk hn=> ?_⟩;simp only [r1Y];rw [if_neg (fun e=>hn e.symm)];rfl
 have mixed:prog.follows .mixedOrders=true:=by kernel_rfl
 go_enter func53,Tryz.ntmps53
 go_wp2
 go_region_o
 all_goals (go_wp2;go_ret;exact ⟨rfl,hkeep⟩)
def k0B (h n:Nat):Option HB:=some (.one false (.obj (.bld 101 h 0 n)))
def c1E:Option HB:=some (.one false (.obj (.bld0 101)))
def f0I (s:BA):Option HB:=some (.one false (.obj (.brow 5 s)))
theorem m0L {h1 h2 h q:Nat} {ro:Bool} {b1 b2 b:Blk} (he:Ent [(h1,some (.one false b1)),(h2,some (.one false b2))] h q ro b):(h=h1/\q=0/\ro=false/\b=b1)\/(h≠h1/\h=h2/\q=0/\ro=false/\b=b2):=by
 rcases a0v.1 he with ⟨e,hb,k1,k2,k3⟩|⟨e,he⟩
 .cases k1;exact .inl ⟨e.symm,k2.1,k3.symm,k2.2⟩
 .rcases a0v.1 he with ⟨e',hb,k1,k2,k3⟩|⟨_,he⟩
  .cases k1;exact .inr ⟨fun x=>e x.symm,e'.symm,k2.1,k3.symm,k2.2⟩
  .obtain ⟨hb,k,_⟩:=he;trivial
theorem c1F {g:G} {w:World} {h1 h2:Nat} {b1 b2:Blk} {β1 β2:Base} (e1:g h1 0=some β1) (B1:BlkAt g β1 false b1 w) (e2:g h2 0=some β2) (B2:BlkAt g β2 false b2 w) (hd:β1.blk≠β2.blk):Holds g [(h1,some (.one false b1)),(h2,some (.one false b2))] w:=by
 refine ⟨?_,?_⟩
 .intro h q ro b he;rcases m0L he with rX|⟨_,rX⟩
  all_goals simp_all
 .intro h q h' q' b ro' b' β β' hne he he' hg hg' hc hc';rcases m0L he with ⟨rfl,rfl,_,rfl⟩|⟨hx,rfl,rfl,_,rfl⟩
  .rcases m0L he' with ⟨rfl,rfl,_,rfl⟩|⟨_,rfl,rfl,_,rfl⟩
   all_goals simp_all
  .rcases m0L he' with ⟨rfl,rfl,_,rfl⟩|⟨_,rfl,rfl,_,rfl⟩
   all_goals grind
theorem c1G {g:G} {w w':World} {n r cap m:Nat} {H:a0k} {β:Base} {cur:Array Value} {s:BA} {Bk:Nat->Prop} (hg1:g 1 0=some β) (hcap:0<β.cap) (hoff:β.off=0) (hes:β.es=0) (h1n:1<n) (hu:g.upto n)
  (hb:w'.heap[β.blk]? =some (.cells #[.pointer (some ⟨β.blk,0,none⟩),.slice (some ⟨r,0,none⟩) s.size cap] 101 (0,0))) (hr:w'.heap[r]? =some (.cells cur 5 (0,0))) (hcs:cur.size=cap) (hnc:s.size<=cap) (hcm:cap<=maxLen) (htake:cur.toList.take s.size=Lib.strCells s) (h0:0<s.size)
  (hne:r≠β.blk) (hk:g1x Bk w w') (hBk:∀k,Bk k->f0z g H k) (hW:f0z g H β.blk) (hWr:f0z g H r\/w.heap.size<=r):
  Out g w n H (a0g (.tup [.int .i64 m,.nif]) [(1,k0B n s.size),(n,f0I s)] (n+1)) (.tuple #[.int .i64 m,.nilIface]) w':=by
 obtain ⟨k1,k2,k3,k4,k5⟩:=hk;have lt:∀{k:Nat} {o:Obj},w'.heap[k]? =some o->k<w'.heap.size:=by
  grind
 have g1:(g.add n ⟨r,0,0,cap⟩) 1 0=some β:=by grind [G.add]
 have gn:(g.add n ⟨r,0,0,cap⟩) n 0=some ⟨r,0,0,cap⟩:=by simp [G.add]
 refine ⟨_,_,n+1,g.add n ⟨r,0,0,cap⟩,rX,s1f _,?_,?_,?_,?_,a0b (a0b a0c),⟨k1,k2,k3,k4,fun k hk hn=>k5 k hk (fun hb=>hn (hBk k hb))⟩,?_⟩
 .intro h q hh;simp only [G.add];rw [if_neg oM];exact hu h q oM
 .grind [G.add]
 .simp only [Rv,Rvs];simp
 .refine c1F g1 (p0K hes hcap hoff (lt hb) ?_) gn (p0K rfl (by grind) rfl (lt hr) ?_) hne.symm
  .exact ⟨_,gn,hb⟩
  .exact ⟨cur,hr,hcs,hnc,hcm,by trivial⟩
 .intro h q b β' he hg hc;rcases m0L he with ⟨rfl,rfl,_,rfl⟩|⟨_,rfl,rfl,_,rfl⟩
  all_goals simp_all
theorem j0U (s:BA) (h0:0<s.size) (hs:s.size<=1000000000):FC prog 2 48 [.ptr 1 0 0 0,.str s] [(1,c1E)] (a0g (.tup [.int .i64 s.size,.nif]) [(1,k0B 2 s.size),(2,f0I s)] 3):=by
 refine .inl ⟨c0G func48 (by rfl) (by rfl),fun g w vs hg hu hH hvs=> ?_⟩;obtain ⟨β,hβ,hB⟩:=hH.blk 1 0 false (.obj (.bld0 101)) ⟨_,rfl,⟨rfl,rfl⟩,rfl⟩;obtain ⟨hcap,hoff,hheap⟩:=hB.obj;have hW:f0z g [(1,c1E)] β.blk:=⟨1,0,_,β,⟨_,rfl,⟨rfl,rfl⟩,rfl⟩,hβ,hcap,rfl⟩;have haddr:β.addr 0 0=⟨β.blk,0,none⟩:=by simp [Base.addr,hoff]
 obtain ⟨v,r1,rfl,⟨β',e',rfl⟩,v2,r2,rfl,rfl,rfl⟩:=hvs;rw [hβ] at e';cases e';rw [haddr];have hz:(⟨#[]⟩:BA).size=0:=rfl;have hs0:(⟨#[]⟩:BA)++s=s:=by rfl
 have hlt:=hB.lt hcap;refine (i0Q β.blk (.pointer none) (.slice none 0 0) ⟨#[]⟩ s w hheap (.inl rfl) (.inl ⟨rfl,rfl⟩) (by simp [Value.ownBlock]) h0 oM).mono ?_;rintro e w' ⟨rfl,v',hb',⟨r,cap,cur,rfl,hr,hcs,hnc,hcm,htake,hr2⟩,hk⟩;have hr3:w.heap.size<=r:=by
  rcases hr2 with h|h
  all_goals trivial
 refine ⟨_,rfl,c1G hβ hcap hoff hB.es oM hu hb' hr hcs hnc hcm htake h0 oM hk ?_ hW (.inr hr3)⟩;rintro k (rfl|h)
 all_goals trivial
theorem o0O (s0 s:BA) (h0:0<s.size) (hs:s0.size+s.size<=1000000000):FC prog 3 48 [.ptr 1 0 0 0,.str s] [(1,k0B 2 s0.size),(2,f0I s0)] (a0g (.tup [.i s.size,.nif]) [(1,k0B 3 (s0++s).size),(3,f0I (s0++s))] 4):=by
 refine .inl ⟨c0G func48 (by rfl) (by rfl),fun g w vs hg hu hH hvs=> ?_⟩;have en1:Ent [(1,k0B 2 s0.size),(2,f0I s0)] 1 0 false (.obj (.bld 101 2 0 s0.size)):=⟨_,rfl,⟨rfl,rfl⟩,rfl⟩;have en2:Ent [(1,k0B 2 s0.size),(2,f0I s0)] 2 0 false (.obj (.brow 5 s0)):=⟨_,rfl,⟨rfl,rfl⟩,rfl⟩;obtain ⟨β,hβ,hB⟩:=hH.blk _ _ _ _ en1;obtain ⟨β2,hβ2,hB2⟩:=hH.blk _ _ _ _ en2;obtain ⟨hcap,hoff,β2',e2,hheap⟩:=hB.obj;rw [hβ2] at e2;cases e2;obtain ⟨hcap2,hoff2,cur0,hheap2,j1,j2,j3,j4⟩:=hB2.obj;have hW:f0z g [(1,k0B 2 s0.size),(2,f0I s0)] β.blk:=⟨1,0,_,β,en1,hβ,hcap,rfl⟩;have hW2:f0z g [(1,k0B 2 s0.size),(2,f0I s0)] β2.blk:=⟨2,0,_,β2,en2,hβ2,hcap2,rfl⟩;have haddr:β.addr 0 0=⟨β.blk,0,none⟩:=by simp [Base.addr,hoff]
 simp only [Rvs] at hvs;obtain ⟨v,r1,rfl,⟨β',e',rfl⟩,v2,r2,rfl,rfl,rfl⟩:=hvs;rw [hβ] at e';cases e';rw [haddr];refine (i0Q β.blk _ _ s0 s w hheap (.inr rfl) (.inr ⟨β2.blk,β2.cap,cur0,rfl,hheap2,j1,j2,j3,by trivial⟩) (by grind [Value.ownBlock]) h0 hs).mono ?_;rintro e w' ⟨rfl,v',hb',⟨r,cap,cur,rfl,hr,hcs,hnc,hcm,htake,hr2⟩,hk⟩;have hr3:f0z g [(1,k0B 2 s0.size),(2,f0I s0)] r\/w.heap.size<=r:=by
  grind [Value.ownBlock]
 refine ⟨_,rfl,c1G hβ hcap hoff hB.es oM hu hb' hr hcs hnc hcm htake (by grind) ?_ hk ?_ hW hr3⟩
 .grind
 .all_goals simp_all [Value.ownBlock]
theorem e0P (s:BA) (h0:0<s.size):FC prog 3 53 [.ptr 1 0 0 0] [(1,k0B 2 s.size),(2,f0I s)] (a0g (.str s) [] 3):=by
 refine .inl ⟨c0G func53 (by rfl) (by rfl),fun g w vs hg hu hH hvs=> ?_⟩;have en1:Ent [(1,k0B 2 s.size),(2,f0I s)] 1 0 false (.obj (.bld 101 2 0 s.size)):=⟨_,rfl,⟨rfl,rfl⟩,rfl⟩;have en2:Ent [(1,k0B 2 s.size),(2,f0I s)] 2 0 false (.obj (.brow 5 s)):=⟨_,rfl,⟨rfl,rfl⟩,rfl⟩;obtain ⟨β,hβ,hB⟩:=hH.blk _ _ _ _ en1;obtain ⟨β2,hβ2,hB2⟩:=hH.blk _ _ _ _ en2;obtain ⟨hcap,hoff,β2',e2,hheap⟩:=hB.obj;rw [hβ2] at e2;cases e2;obtain ⟨hcap2,hoff2,cur0,hheap2,j1,j2,j3,j4⟩:=hB2.obj;have hW2:f0z g [(1,k0B 2 s.size),(2,f0I s)] β2.blk:=⟨2,0,_,β2,en2,hβ2,hcap2,rfl⟩;have haddr:β.addr 0 0=⟨β.blk,0,none⟩:=by simp [Base.addr,hoff]
 simp only [Rvs] at hvs;obtain ⟨v,r1,rfl,⟨β',e',rfl⟩,rfl⟩:=hvs;rw [hβ] at e';cases e';rw [haddr];refine (g1y β.blk β2.blk β2.cap _ cur0 s w hheap hheap2 j1 j2 j3 (by trivial) h0).mono ?_;rintro e w' ⟨rfl,k1,k2,k3,k4,k5⟩;refine ⟨_,rfl,.str s,[],3,g,rX,m0c _,hu,fun _ _ _=>rfl,by rfl,⟨?_,?_⟩,a0c,⟨k1,k2,k3,k4,fun k hk hn=>k5 k hk (fun e=>hn (e▸hW2))⟩,?_⟩
 .intro h q ro b he;obtain ⟨hb,e,_⟩:=he;trivial
 .intro h q h' q' b ro' b' β β' _ he;obtain ⟨hb,e,_⟩:=he;trivial
 .intro h q b β he;obtain ⟨hb,e,_⟩:=he;trivial
end
section
theorem d0J {α:Type} {l:List α} {n:Nat} (h:l.length=n):seg 0 n l=l:=by
 simp_all [seg,s1A]
theorem g1z (L:List Lp) (n:Nat) (hn:L.length=n) (h1:1<=n) (h2:n<=1000000):FC prog 2 353 [.sl 1 0 0 n] [(1,some (.one true (poB n L)))] (a0g (.sl 2 0 0 n) [(2,some (.one false (poB n L)))] 3):=by
 have k1:(L.map Lp.a).length=n:=by simp_all
 have k2:(L.map Lp.n).length=n:=by simp_all
 have k3:(L.map Lp.c).length=n:=by simp_all
 obtain ⟨m,rfl⟩:∃m,n=m+1:=⟨n-1,by omega⟩;refine fEx func353 ?_;repeat' (first|refine a0a ?_)
 all_goals (rw [i1z (m+1),d0J k1,d0J k2,d0J k3];exact rOx [0,1,3] (a0b a0c))
theorem k0y (id:BA) (d:Int) (L:List Lp) (n:Nat) (hn:L.length=n) (h1:1<=n) (h2:n<=1000000):FC prog 2 348 [.agg [.str id,.i d,.sl 1 0 0 n]] [(1,some (.one true (poB n L)))] (a0g (.agg [.str id,.i d,.sl 2 0 0 n]) [(2,some (.one false (poB n L)))] 3):=by
 have c:=g1z L n hn h1 h2;have c0:=c;let l:=[0,1];let R:=[0,1,4];exact Wx func348
theorem i0R (i:Int) (h1: -9223372036854775808<=i) (h2:i<=9223372036854775807):k0D prog glT 50 [.i i] (.str (b0i i)):=by
 have c:=g0h i h1 h2;have c2:k0D prog glT 96 [.i i] (.str (b0i i)):=by
  have c0:=c;exact Wx func96
 exact Wx func50
theorem lgz (x:UInt8):(ByteArray.mk #[x]).size=1:=rfl
theorem q1y:(⟨#[124]⟩:BA).size=1:=rfl
theorem r1l:(⟨#[47]⟩:BA).size=1:=rfl
def l1d (L:List Lp):Prop:=∀x∈L,x.a.size<=40/\x.c.size<=3
theorem u0R {L:List Lp} (h:l1d L) (k:Nat):(L.getD k lp0).a.size<=40/\(L.getD k lp0).c.size<=3:=by
 rcases i1B k L.length with hk|hk
 .rw [List.getD,m0b hk];exact h _ (k1j hk)
 .rw [List.getD,a1X hk];trivial
theorem g1A {p:Lp} (h1:p.a.size<=40) (h2:p.c.size<=3) (h3: -4503599627370496<=p.n/\p.n<=4503599627370496):(poT p).size<=70/\0<(poT p).size:=by
 have:=a0B p.n oM oM;unfold poT;simp only [k1o,q1y,r1l];omega
theorem w0Z {a c:BA} {n:Int} (h1:a.size<=40) (h2:c.size<=3) (h3: -4503599627370496<=n/\n<=4503599627370496):((⟨#[124]⟩:BA)++a++⟨#[47]⟩++b0i n++⟨#[47]⟩++c).size<=70/\0<((⟨#[124]⟩:BA)++a++⟨#[47]⟩++b0i n++⟨#[47]⟩++c).size:=by
 have:=a0B n oM oM;simp only [k1o,q1y,r1l];omega
theorem i1U (a c:BA) (n:Int):poT ⟨a,n,c⟩=(⟨#[124]⟩:BA)++a++⟨#[47]⟩++b0i n++⟨#[47]⟩++c:=rfl
theorem i0S {e:Le} (hi:e.id.size<=40) (hd:0<=e.date/\e.date<=99999) (hz:l1d e.ps) (hb:c1j e.ps):∀k,(leT e k).size<=70+70*k/\0<(leT e k).size
 |0=>by
  have:=a0B e.date oM oM;simp only [leT,k1o,q1y];omega
 |k+1=>by
  have ih:=i0S hi hd hz hb k;have h1:=u0R hz k;have h2:=g1A h1.1 h1.2 (c1B hb k);simp only [leT,k1o];omega
attribute [local irreducible] seq ByteArray.extract
set_option maxHeartbeats 1000000 in
theorem s0F (id:BA) (d:Int) (L:List Lp) (n:Nat) (hn:L.length=n) (h16:n<=16) (hi:id.size<=40) (hd:0<=d/\d<=99999) (hz:l1d L) (hb:c1j L):
  FC prog 2 360 [.agg [.str id,.i d,.sl 1 0 0 n]] [(0,some (GB glT)),(1,some (.one true (poB n L)))] (a0g (.str (leT ⟨id,d,L,n⟩ n)) [] 2):=by
 have c1:=i0R d (by omega) (by omega);have hds:=a0B d (by omega) (by omega);have hT:=i0S (e:=⟨id,d,L,n⟩) hi hd hz hb;have c2:=j0U (id++⟨#[124]⟩++b0i d) (hT 0).2 (n1r (hT 0).1 (by decide));unfold poB;refine fEx func360 ?_;repeat' ((conv=>whnf);first|refine cGx c1 ?_|refine cOx (l:= [0,3]) c2 ?_|(refine a0f ?_ ?_;(simp only [k1o,lgz,u0f,q1j];omega))|refine a0a ?_|(apply bRx<;>intro h<;>try exact aX))
 all_goals (conv=>whnf)
 refine a0h (fun k:Nat=>⟨[(1,.ptr 2 0 0 0),(3,.ptr 3 0 0 0),(15,.sl 1 0 0 n),(16,.i n),(17,.i k)],[(0,some (GB glT)),(1,some (.one true (poB n L))),(2,some (.one false (.cells [.str id,.i d,.sl 1 0 0 n]))),(3,k0B 4 (leT ⟨id,d,L,n⟩ k).size),(4,f0I (leT ⟨id,d,L,n⟩ k))],5⟩) (fun k=>k<=n) (fun k=>n-k) 0 [0,1,2,3,4] [] wHx (b1f _) ?_;intro k hk;unfold poB;have hTk:=hT k;have hTe:leT ⟨id,d,L,n⟩ (k+1)=leT ⟨id,d,L,n⟩ k++poT ⟨(L.map Lp.a).getD k ⟨#[]⟩,(L.map Lp.n).getD k 0,(L.map Lp.c).getD k ⟨#[]⟩⟩:=by rw [<-m0K];rfl
 have hTk1:=hT (k+1);by_cases hk2:k<n
 .have h1:=u0R hz k;have h2:=c1B hb k;rw [m0K] at h1 h2;dsimp only at h1 h2;have h3:=w0Z h1.1 h1.2 h2;rw [i1U] at hTe;have c3:=b0Y ((L.map Lp.n).getD k 0) (by omega) (by omega);have h4:=a0B ((L.map Lp.n).getD k 0) (by omega) (by omega);generalize hT1:leT ⟨id,d,L,n⟩ (k+1)=T1 at*;generalize hT0:leT ⟨id,d,L,n⟩ k=T at*;have c4:=o0O T _ h3.2 (n1r (Nat.add_le_add hTk.1 h3.1) (by omega));rw [<-hTe] at c4;repeat' ((conv=>whnf);first|refine cGx c3 ?_|refine cOx (l:= [0,3,4]) c4 ?_|(refine a0f ?_ ?_;(simp only [k1o,lgz,u0f,q1j];omega))|refine a0a ?_|(apply bRx<;>intro h<;>try exact aX)|(subst hT1;exact ⟨k+1,[0,1,2,3,6],[],hk2,(show n-(k+1)<n-k by omega),⟨rfl,⟨rfl,rfl,rfl,rfl,sI (a0j (by omega)),trivial⟩,⟨gwk rfl,rfl,rfl,rfl,rfl,trivial⟩⟩⟩)|exact aX)
 have ek:k=n:=by omega
 subst ek;have c5:=e0P (leT ⟨id,d,L,k⟩ k) hTk.2;generalize leT ⟨id,d,L,k⟩ k=T at*;let l:=[0,3,4];let R:=[0,1];exact Vx
end
section
abbrev lgF (a e p t b:Nat) (s:Lg):List SV:= [.map a 0,.sl e 0 0 s.ne,.map p 0,.map t 0,.map b 0,.int .u64 s.dig]
abbrev n0S (s:Lg):Blk:= .obj (.map false false s.na [.strs s.acc] [.sc (.bools (List.replicate s.na true))] (List.range s.na) s.na)
abbrev z0c (s:Lg):Blk:= .obj (.map false false s.ne [.strs (s.ent.map Le.id)] [.sc (.ints .i64 ((List.range s.ne).map Int.ofNat))] (List.range s.ne) s.ne)
theorem h0T (k:Nat):(k:Int).toNat+0=k:=rfl
theorem c1H (n i:Nat):(List.replicate n true).getD i false=decide (i<n):=by
 grind
theorem x0a (acc:List BA) (p:Lp) (L:List Lp):poE acc (p::L)=if inL p.a acc then (if f0k p.n p.c=0 then poE acc L else f0k p.n p.c) else 6:=rfl
theorem u0S {acc:List BA} (B:List Lp):∀A:List Lp,poE acc (A++B)=if poE acc A=0 then poE acc B else poE acc A
 | []=>by rfl
 |p::A=>by
  rw [k1p,x0a,x0a];by_cases h:inL p.a acc
  .rw [if_pos h,if_pos h];by_cases h2:f0k p.n p.c=0
   .rw [if_pos h2,if_pos h2];exact u0S B A
   omega
  omega
theorem g1B {acc:List BA} {L:List Lp} {k:Nat} (hk:k<L.length) (h:poE acc (L.take k)=0):poE acc (L.take (k+1))=if inL (L.getD k lp0).a acc then f0k (L.getD k lp0).n (L.getD k lp0).c else 6:=by
 rw [u0I hk,u0S,if_pos h];grind [poE]
theorem g1C {acc:List BA} {L:List Lp} (k:Nat) (h:poE acc (L.take k)≠0):poE acc L=poE acc (L.take k):=by
 have:=u0S (acc:=acc) (L.drop k) (L.take k);simp_all
def m1W (bal:BA->BA->Int) (x:Lp):Prop:= -4503599627370496<=bal x.a x.c+x.n/\bal x.a x.c+x.n<=4503599627370496
theorem o1c {bal:BA->BA->Int} {L:List Lp} {i:Nat} (hi:i<(chR L L.length).length) (h:¬m1W bal ((chR L L.length).getD i lp0)):u0M bal L=false:=by
 cases e:u0M bal L with
 |false=>rfl
 |true=>
  unfold u0M at e;rw [s1E] at e;refine absurd (of_decide_eq_true (e ((chR L L.length).getD i lp0) ?_)) h;simp_all
theorem l1e {bal:BA->BA->Int} {L:List Lp} (h:∀i,i<(chR L L.length).length->m1W bal ((chR L L.length).getD i lp0)):u0M bal L=true:=by
 unfold u0M;rw [s1E];intro x hx;obtain ⟨i,hi,rfl⟩:=s1B hx;have:=h i hi;rw [List.getD,m0b hi] at this;exact decide_eq_true this
attribute [local irreducible] seq ByteArray.extract poE u0M j0P lgE
abbrev ckH (s:Lg) (r:Nat) (R:List Lp) (n:Nat) (L:List Lp):a0k:= [(1,some (.one true (.cells (lgF 2 3 4 5 6 s)))),(2,some (.one true (n0S s))),(4,some (.one true (z0c s))),(6,some (.one true (y0Z r R))),(8,some (.one true (poB n L)))]
theorem g1D (s:Lg) (id:BA) (d:Int) (L:List Lp) (n:Nat) (r:Nat) (R:List Lp) (hs:LgOk s) (hr:R.length=r) (hRv:∀a c,lgV R a c=s.bal a c) (hn:L.length=n):
  FC prog 9 358 [.ptr 1 0 0 0,.agg [.str id,.i d,.sl 8 0 0 n]] (ckH s r R n L) (a0g (.i (lgE s ⟨id,d,L,n⟩)) [] 9):=by
 have c1:=o0M id;have hne:=hs.ne;have hna:=hs.na;have hidl:(s.ent.map Le.id).length=s.ne:=by rw [f1R,hne]
 unfold ckH lgF n0S z0c poB;by_cases g1:j0p id=false
 .have he:lgE s ⟨id,d,L,n⟩=5:=by unfold lgE;rw [if_pos g1]
  rw [he];rw [g1] at c1;let l:=xAb;exact Wx func358
 have g1':j0p id=true:=by simpa using g1
 rw [g1'] at c1;by_cases g2:d<0\/99999<d
 .have he:lgE s ⟨id,d,L,n⟩=14:=by unfold lgE;rw [if_neg g1,if_pos g2]
  rw [he];let l:=xAb;exact Wx func358
 by_cases g3:inL id s.ids
 .have he:lgE s ⟨id,d,L,n⟩=7:=by unfold lgE;rw [if_neg g1,if_neg g2,if_pos g3]
  rw [he];have g3':a0q (s.ent.map Le.id) id<s.ne:=by rw [<-hidl];exact g3
  let l:=xAb;exact Wx func358
 have g3':¬a0q (s.ent.map Le.id) id<s.ne:=by rw [<-hidl];exact g3
 by_cases g4:n<1\/16<n
 .have he:lgE s ⟨id,d,L,n⟩=4:=by unfold lgE;rw [if_neg g1,if_neg g2,if_neg g3,if_pos g4]
  rw [he];let l:=xAb;exact Wx func358
 have g5:poE s.acc L≠0->lgE s ⟨id,d,L,n⟩=poE s.acc L:=fun h=>by unfold lgE;rw [if_neg g1,if_neg g2,if_neg g3,if_neg g4,if_pos h]
 have g6:poE s.acc L=0->lgE s ⟨id,d,L,n⟩=if j0P L=false then 26 else if u0M s.bal L=false then 4 else if 512<=s.ne then 12 else 0:=fun h=>by unfold lgE;rw [if_neg g1,if_neg g2,if_neg g3,if_neg g4,if_neg (fun h'=>h' h)]
 generalize lgE s ⟨id,d,L,n⟩=E at*;refine fEx func358 ?_;repeat' ((conv=>whnf);first|refine cPx c1 ?_|refine a0a ?_|(apply bRx<;>intro h<;>try exact aX))
 all_goals (conv=>whnf)
 all_goals first
  |exact aX
  |skip
 refine a0h (fun k:Nat=>⟨[(0,.ptr 1 0 0 0),(3,.ptr 9 0 0 0),(47,.sl 8 0 0 n),(48,.i n),(49,.i k)],[(1,some (.one true (.cells (lgF 2 3 4 5 6 s)))),(2,some (.one true (n0S s))),(4,some (.one true (z0c s))),(6,some (.one true (y0Z r R))),(8,some (.one true (poB n L))),(9,some (.one false (.cells [.str id,.i d,.sl 8 0 0 n])))],10⟩) (fun k=>k<=n/\poE s.acc (L.take k)=0) (fun k=>n-k) 0 [0,1,2,3,4,5,6,7,8,9] [] wHx ⟨b1f _,by unfold poE;rfl⟩ ?_;rintro k ⟨hk,hz⟩;unfold lgF n0S z0c poB;by_cases hk2:k<n
 .have hnx:=g1B (acc:=s.acc) (L:=L) (k:=k) oM hz;have hst:=g1C (acc:=s.acc) (L:=L) (k+1);rw [m0K] at hnx;dsimp only at hnx;by_cases hin:inL ((L.map Lp.a).getD k ⟨#[]⟩) s.acc
  .have hin':a0q s.acc ((L.map Lp.a).getD k ⟨#[]⟩)<s.na:=by rw [<-hna];exact hin
   have hrep:=c1H s.na (a0q s.acc ((L.map Lp.a).getD k ⟨#[]⟩));rw [decide_eq_true hin'] at hrep;rw [if_pos hin] at hnx;have c2:=m0q ((L.map Lp.n).getD k 0) ((L.map Lp.c).getD k ⟨#[]⟩);by_cases hm:f0k ((L.map Lp.n).getD k 0) ((L.map Lp.c).getD k ⟨#[]⟩)=0
   .rw [hm] at c2 hnx;repeat' ((conv=>whnf);first|refine cPx c2 ?_|(simp only [h0T,hrep])|refine a0a ?_|(apply bRx<;>intro h<;>try exact aX)|exact ⟨k+1,xAc,[],⟨hk2,hnx⟩,(show n-(k+1)<n-k by omega),⟨rfl,⟨rfl,rfl,rfl,rfl,sI (a0j oM),trivial⟩,rX⟩⟩|exact aX)
   .have hE:=g5 (by rw [hst (by rw [hnx];exact hm),hnx];exact hm);rw [hst (by rw [hnx];exact hm),hnx] at hE;rw [hE];generalize f0k ((L.map Lp.n).getD k 0) ((L.map Lp.c).getD k ⟨#[]⟩)=M at*;repeat' ((conv=>whnf);first|refine cPx c2 ?_|(simp only [h0T,hrep])|refine a0a ?_|(apply bRx<;>intro h<;>try exact aX)|exact rOx xAb a0c|exact aX)
  .have hin':¬a0q s.acc ((L.map Lp.a).getD k ⟨#[]⟩)<s.na:=by rw [<-hna];exact hin
   have hrep:=c1H s.na (a0q s.acc ((L.map Lp.a).getD k ⟨#[]⟩));rw [decide_eq_false hin'] at hrep;rw [if_neg hin] at hnx;have hE:=g5 (by rw [hst (by rw [hnx];decide),hnx];decide);rw [hst (by rw [hnx];decide),hnx] at hE;rw [hE];repeat' ((conv=>whnf);first|(simp only [h0T,hrep])|refine a0a ?_|(apply bRx<;>intro h<;>try exact aX)|exact rOx xAb a0c|exact aX)
 have ek:k=n:=oM
 subst ek;rw [show L.take k=L by rw [<-hn,n1v]] at hz;have hE:=g6 hz;have hbd:=w0P hz;have c3:=u0Q L k hn oM hbd;have c4:=o0N L k hn oM hbd;unfold poB at c3 c4;by_cases g7:j0P L=false
 .rw [if_pos g7] at hE;rw [hE];rw [g7] at c3;let l:=[0,8];let R:=xAb;exact Vx
 have g7':j0P L=true:=by simpa using g7
 rw [if_neg g7] at hE;rw [g7'] at c3;have hno:=fun i hi h=>o1c (bal:=s.bal) (L:=L) (i:=i) hi h
 have hyes:=l1e (bal:=s.bal) (L:=L);have hcb:∀i,-4503599627370496*16<=((chR L L.length).getD i lp0).n/\((chR L L.length).getD i lp0).n<=4503599627370496*16:=by
  intro i;rcases i1B i (chR L L.length).length with hi|hi
  .have h1:=u0K (i0N L L.length) hi;rw [h0S _ _ _ (m0c _),n1v] at h1;have h2:=c1k hbd ((chR L L.length).getD i lp0).a ((chR L L.length).getD i lp0).c;rw [h1] at h2;omega
  .rw [List.getD,a1X hi];exact ⟨by decide,by decide⟩
 rw [hn] at hno hyes hcb;generalize chR L k=C at*;generalize hm:C.length=m at*;repeat' ((conv=>whnf);first|refine cOx (l:= [0,8]) c3 ?_|refine cOx (l:= [0,8]) c4 ?_|refine a0a ?_|(apply bRx<;>intro h<;>try exact aX))
 all_goals (conv=>whnf)
 all_goals first
  |exact aX
  |skip
 refine a0h (fun sn:List Nat=>⟨[(0,.ptr 1 0 0 0),(75,.ptr 11 0 0 0)],[(1,some (.one true (.cells (lgF 2 3 4 5 6 s)))),(6,some (.one true (y0Z r R))),(10,some (.one false (y0Z m C))),(11,some (.one false (.obj (.iter 10 0 (List.range m) m sn))))],12⟩) (fun sn=>sn.Nodup/\(∀i∈sn,i<m)/\∀i∈sn,m1W s.bal (C.getD i lp0)) (fun sn=>m-sn.length) [] [0,1,2,3,4,5,6,7,8,9,10,11] [] wHx ⟨s1Z,by simp,by simp⟩ ?_;rintro sn ⟨hd,hl,hz2⟩;unfold lgF;have key:∀x,i64.wrap ((R.map Lp.n).getD (c0B (R.map Lp.a) (R.map Lp.c) ((C.map Lp.a).getD x ⟨#[]⟩) ((C.map Lp.c).getD x ⟨#[]⟩)) 0+(C.map Lp.n).getD x 0)=s.bal (C.getD x lp0).a (C.getD x lp0).c+(C.getD x lp0).n:=by
  intro x;have h1:=hs.rng (C.getD x lp0).a (C.getD x lp0).c;have h2:=hcb x;rw [w0Y,hRv,p1U,k1O,g1m];exact a0l oM oM
 repeat' ((conv=>whnf);first|(refine ⟨⟨rfl,rfl⟩,fun x hx hnx=> ?_,fun hall=> ?_⟩)|(rw [key])|refine a0a ?_|(apply bRx<;>intro h<;>try exact aX))
 all_goals (conv=>whnf)
 .have hB:=hno x hx (fun hk=>by unfold m1W at hk;omega);rw [if_pos hB] at hE;rw [hE];exact rOx xAb a0c
 .have hB:=hno x hx (fun hk=>by unfold m1W at hk;omega);rw [if_pos hB] at hE;rw [hE];exact rOx xAb a0c
 .have:=c0O hd hl hx hnx;refine ⟨x::sn,xBa,[],⟨t1D.2 ⟨hnx,hd⟩,fun y hy=> ?_,fun y hy=> ?_⟩,by simp only [i1y];omega,⟨rfl,rX,rX⟩⟩
  .rcases f1I.1 hy with rfl|hy
   .exact hx
   .exact hl y hy
  .rcases f1I.1 hy with rfl|hy
   .unfold m1W;omega
   .exact hz2 y hy
 .have hB:=hyes fun i hi=>hz2 i (hall i hi)
  rw [if_neg (by rw [hB];decide),if_pos oM] at hE;rw [hE];exact rOx xAb a0c
 .have hB:=hyes fun i hi=>hz2 i (hall i hi)
  rw [if_neg (by rw [hB];decide),if_neg oM] at hE;rw [hE];exact rOx xAb a0c
end
section
abbrev n0T (f:Nat) (s:Lg):Blk:= .cols s.ne [.sc (.strs (s.ent.map Le.id)),.sc (.ints .i64 (s.ent.map Le.date)),.own f (s.ent.map Le.np)]
def enF (E:List Le) (q:Nat):Blk:=poB (E.getD q le0).np (E.getD q le0).ps
abbrev d0b (ro:Bool) (s:Lg):Option HB:=some (.fam ro (fun x=>x<s.ne) (enF s.ent))
def LgB (bal:BA->BA->Int) (m:Nat):e1U:=fun a c v=>∃R:List Lp,a=R.map Lp.a/\c=R.map Lp.c/\v=R.map Lp.n/\lgD R/\(∀a c,lgV R a c=bal a c)/\R.length<=16*m
theorem c1I {E:List Le} {e:Le}:∀q,q<E.length->enF (E++ [e]) q=enF E q:=by
 unfold enF;grind
theorem c1J {E:List Le} {e:Le}:enF (E++ [e]) E.length=poB e.np e.ps:=by
 unfold enF;simp
theorem i0T {H:a0k} {n a b g m k:Nat} {ns:List Nat} {c1 c2:Col} {dom:Nat->Prop} {f F:Nat->Blk} {bg:Blk} (hl:ns.length=m) (h1:c1.len=m+1) (h2:c2.len=m+1) (ha:a<n) (hta:a0w H a=some (.one false (.cols (m+1) [.sc c1,.sc c2,.svs (k0h b ns++ [.sl g 0 0 k])]))) (hb:a0w H b=some (.fam false dom f)) (hdom:∀q,q<m->dom q)
  (hg:a0w H g=some (.one false bg)) (hba:b≠a) (hga:g≠a) (hbg:b≠g) (hF:∀q,q<m->F q=f q) (hFm:F m=bg):
  Relab H n (gdR n m [⟨b,g,F⟩]) (fun _=>0) [(a,some (.one false (.cols (m+1) [.sc c1,.sc c2,.own n (ns++ [k])]))),(n+0,some (.fam false (fun x=>x<m+1) F))] [b,g] 1:=by
 have r0:∀q,q<m->gdR n m [⟨b,g,F⟩] n q=some (b,q):=fun q hq=>f0g (i:=0) (D:= [⟨b,g,F⟩]) rfl hq
 have s0:gdR n m [⟨b,g,F⟩] n m=some (g,0):=e0x (i:=0) (D:= [⟨b,g,F⟩]) rfl;refine g0P (n:=n) (m:=m) (th:=a) [⟨b,g,F⟩] ha hta (e0j ?_) ?_ ?_
 .refine ⟨⟨fun _=>h1,fun i hi=>a0O _⟩,⟨fun _=>h2,fun i hi=>a0O _⟩,⟨fun _=> ?_,b1Y hl (m0c _) r0 s0⟩,trivial⟩;show (ns++ [k]).length=m+1;simp_all
 .refine ⟨⟨hba,hga,⟨dom,f,hb,fun q hq=>⟨hdom q hq,.inl (hF q hq)⟩⟩,bg,hg,.inl hFm⟩,trivial⟩
 .show (!(Nat.beq g b||false)&&(!false&&true))=true;have:Nat.beq g b=false:=by
   cases e:Nat.beq g b with
   |false=>rfl
   |true=>simp_all
  simp_all
theorem s0G (f:Nat) (s:Lg) (e:Le):n0T f (lgP s e)= .cols (s.ne+1) [.sc (.strs (s.ent.map Le.id++ [e.id])),.sc (.ints .i64 (s.ent.map Le.date++ [e.date])),.own f (s.ent.map Le.np++ [e.np])]:=by
 unfold n0T lgP;simp
theorem g1E {s:Lg} {e:Le} {ix:Nat} (hix:ix=s.ne) (hl:s.ent.length=s.ne):
  (some (HB.one false (.obj (.map false false (if ix<s.ne then s.ne else s.ne+1) [.strs (b0j ix e.id (s.ent.map Le.id))] [.sc (.ints .i64 (b0j ix (s.ne:Int) ((List.range s.ne).map Int.ofNat)))] (if ix<s.ne then List.range s.ne else List.range s.ne++ [s.ne]) (if ix<s.ne then s.ne else s.ne+1)))):Option HB)=some (.one false (z0c (lgP s e))):=by
 subst hix;unfold z0c lgP;rw [if_neg oM,if_neg oM,c0z (by simp_all),c0z (by simp)];simp only [n1q,t1U];rfl
theorem i0U {c:BA} (h:e0c c=true):c.size<=3:=by
 grind [e0K]
theorem u0T {M:Int} (a c:BA):∀{L:List Lp},(∀x∈L,-M<=x.n/\x.n<=M)->0<=M->-(M*(L.length:Int))<=lgS L a c/\lgS L a c<=M*(L.length:Int)
 | [],_,h0=>by simp [lgS]
 |x::L,h,h0=>by
  have i1:=u0T a c (L:=L) (fun y hy=>h y (by grind)) h0;simp only [lgS,i1y];grind
attribute [local irreducible] seq ByteArray.extract poE u0M j0P lgE
abbrev psH (s:Lg) (n:Nat) (L:List Lp):a0k:= [(0,some (GB glT)),(1,some (.one false (.cells (lgF 2 3 4 5 6 s)))),(2,some (.one true (n0S s))),(3,some (.one false (n0T 7 s))),(4,some (.one false (z0c s))),(7,d0b false s),(8,some (.one true (poB n L)))]
abbrev psO (s:Lg):a0k:= [(1,some (.one false (.cells (lgF 2 9 4 5 6 s)))),(9,some (.one false (n0T 10 s))),(4,some (.one false (z0c s))),(10,d0b false s)]
set_option maxHeartbeats 2000000 in
theorem s0H (s:Lg) (id:BA) (d:Int) (L:List Lp) (n:Nat) (r:Nat) (R:List Lp) (hs:LgOk s) (hr:R.length=r) (hRv:∀a c,lgV R a c=s.bal a c) (hRd:lgD R) (hRn:r<=16*s.ne) (hn:L.length=n) (h0:lgE s ⟨id,d,L,n⟩=0):
  FC prog 9 352 [.ptr 1 0 0 0,.agg [.str id,.i d,.sl 8 0 0 n]] ((6,some (.one false (y0Z r R)))::psH s n L)
   (fun sv H1 n1=>∃x:BagX,LgB (lgP s ⟨id,d,L,n⟩).bal (s.ne+1) x.a x.c x.v/\a0g (.i 0) ((6,some (.one false x.blk))::psO (lgP s ⟨id,d,L,n⟩)) 11 sv H1 n1):=by
 have c1:=g1D s id d L n r R hs hr hRv hn;obtain ⟨hok,hni,hrg,hfu⟩:=k0S hn h0;rw [h0] at c1;have hid:=hok.id;have hdt:=hok.d;have hn1:=hok.n1;have hn16:=hok.n16;have hps:=hok.ps;dsimp only at hid hdt hn1 hn16 hps;have hbd:=w0P hps;have hsz:l1d L:=fun x hx=>by
  obtain ⟨h1,h2⟩:=e0m.1 hps x hx;exact ⟨(d0i (hs.lab _ h1)).2,(i0U (g0k h2).1)⟩
 have c2:=o0N L n hn hn16 hbd;have c3:=k0y id d L n hn hn1 (by omega);have c4:=s0F id d L n hn hn16 (d0i hid).2 hdt hsz hbd;have hTz:=(i0S (e:=⟨id,d,L,n⟩) (d0i hid).2 hdt hsz hbd n).1;have c5:=e0N s.dig (leT ⟨id,d,L,n⟩ n) (by omega);have hidl:(s.ent.map Le.id).length=s.ne:=by rw [f1R,hs.ne]
 have hix:a0q (s.ent.map Le.id) id=s.ne:=by
  have h1:=Go.Sy.sidx_le (s.ent.map Le.id) id;have h2:¬a0q (s.ent.map Le.id) id<s.ne:=fun h=>hni (sidx_lt.1 (by rw [hidl];exact h))
  omega
 have hpl:=g1E (s:=s) (e:=⟨id,d,L,n⟩) hix hs.ne;have hcb:∀i,-72057594037927936<=((chR L n).getD i lp0).n/\((chR L n).getD i lp0).n<=72057594037927936:=by
  intro i;rcases i1B i (chR L n).length with hi|hi
  .have h1:=u0K (i0N L n) hi;rw [h0S _ _ _ (by omega)] at h1;have h2:=c1k (m0E hbd n) ((chR L n).getD i lp0).a ((chR L n).getD i lp0).c;rw [h1,p1O,t1u (by omega)] at h2;omega
  .rw [List.getD,a1X hi];exact ⟨by decide,by decide⟩
 have hCd:=i0N L n;have hCn:=c1h L n;have hCv:∀a c,lgV (chR L n) a c=lgS L a c:=fun a c=>by rw [h0S a c n (by omega),<-hn,n1v]
 unfold psO;rw [s0G];generalize chR L n=C at*;generalize hm:C.length=m at*;refine fEx func352 ?_;repeat' ((conv=>whnf);first|refine cOx (l:= xAb) c1 ?_|refine cOx (l:= [0,8]) c2 ?_|refine a0a ?_|(apply bRx<;>intro h<;>try exact aX))
 all_goals (conv=>whnf)
 all_goals first
  |exact aX
  |skip
 refine a0h (fun sn:List Nat=>⟨[(0,.ptr 1 0 0 0),(3,.ptr 9 0 0 0),(19,.ptr 11 0 0 0)],[(0,some (GB glT)),(1,some (.one false (.cells (lgF 2 3 4 5 6 s)))),(3,some (.one false (n0T 7 s))),(4,some (.one false (z0c s))),(6,some (.one false (y0Z (vsR R C sn).length (vsR R C sn)))),(7,d0b false s),(8,some (.one true (poB n L))),(9,some (.one false (.cells [.str id,.i d,.sl 8 0 0 n]))),(10,some (.one false (y0Z m C))),(11,some (.one false (.obj (.iter 10 0 (List.range m) m sn))))],12⟩) (fun sn=>sn.Nodup/\(∀i∈sn,i<m)) (fun sn=>m-sn.length) [] [0,1,2,3,4,5,6,7,8,9,10,11] [] ⟨rfl,⟨rfl,rfl,rfl,trivial⟩,⟨gwk rfl,rfl,rfl,rfl,by rw [<-hr];rfl,rfl,rfl,rfl,rfl,rfl,trivial⟩⟩ ⟨s1Z,by simp⟩ ?_;rintro sn ⟨hd,hl⟩;have hsl:=f0X m sn hd hl;have key:∀x,i64.wrap (((vsR R C sn).map Lp.n).getD (c0B ((vsR R C sn).map Lp.a) ((vsR R C sn).map Lp.c) ((C.map Lp.a).getD x ⟨#[]⟩) ((C.map Lp.c).getD x ⟨#[]⟩)) 0+(C.map Lp.n).getD x 0)=lgV (vsR R C sn) ((C.map Lp.a).getD x ⟨#[]⟩) ((C.map Lp.c).getD x ⟨#[]⟩)+(C.map Lp.n).getD x 0:=by
  intro x;have h1:=hs.rng ((C.map Lp.a).getD x ⟨#[]⟩) ((C.map Lp.c).getD x ⟨#[]⟩);have h2:=hcb x;have h3:=u0T (M:=72057594037927936) ((C.map Lp.a).getD x ⟨#[]⟩) ((C.map Lp.c).getD x ⟨#[]⟩) (L:=sn.map (fun i=>C.getD i lp0)) (fun y hy=>by obtain ⟨i,_,rfl⟩:=r1U.1 hy;exact hcb i) (by decide);rw [f1R] at h3;rw [w0Y,u0J,hRv,g1m];exact a0l (by omega) (by omega)
 have hrow:∀x,_:=fun x=>n1Z (R:=vsR R C sn) rfl (key x) rfl
 have hli:∀x,c0B ((vsR R C sn).map Lp.a) ((vsR R C sn).map Lp.c) ((C.map Lp.a).getD x ⟨#[]⟩) ((C.map Lp.c).getD x ⟨#[]⟩)<=(vsR R C sn).length:=fun x=>w0L _ _ _
 have hnxt:∀x,vsR R C (x::sn)=g0j (vsR R C sn) ⟨(C.map Lp.a).getD x ⟨#[]⟩,(C.map Lp.n).getD x 0,(C.map Lp.c).getD x ⟨#[]⟩⟩:=fun x=>by rw [<-m0K];rfl
 have hfin:(∀i,i<m->i∈sn)->LgB (lgP s ⟨id,d,L,n⟩).bal (s.ne+1) ((vsR R C sn).map Lp.a) ((vsR R C sn).map Lp.c) ((vsR R C sn).map Lp.n):=fun hall=>by
  have h3:=c1i R C sn;refine ⟨vsR R C sn,rfl,rfl,rfl,w0N hRd sn,fun a c=> ?_,by omega⟩;rw [k1P hCd hd (by rw [hm];exact hl) (by rw [hm];exact hall),hRv,hCv];rfl
 generalize hV:vsR R C sn=V at*;repeat' ((conv=>whnf);first|(refine ⟨⟨rfl,rfl⟩,fun x hx hnx=> ?_,fun hall=> ?_⟩)|refine cOx (l:= [0,8]) c3 ?_|refine cOx (l:= [0,12]) c4 ?_|refine cPx c5 ?_|(refine ⟨c1A (hli _),?_⟩)|refine a0a ?_|(apply bRx<;>intro h<;>try exact aX))
 all_goals (conv=>whnf)
 .have:=c0O hd hl hx hnx;refine ⟨x::sn,xBa,[],⟨t1D.2 ⟨hnx,hd⟩,fun y hy=> ?_⟩,by simp only [i1y];omega,⟨rfl,⟨rfl,rfl,rfl,trivial⟩,⟨gwk rfl,rfl,rfl,rfl,?_,rfl,rfl,rfl,rfl,rfl,trivial⟩⟩⟩
  .rcases f1I.1 hy with rfl|hy
   .exact hx
   .exact hl y hy
  .rw [hnxt x];exact hrow x
 .have hb:=hfin hall;refine c0y (fun _ _ _ h=>⟨⟨V.map Lp.a,V.map Lp.c,V.map Lp.n,V.length⟩,hb,h⟩) (b0K (l:= [0,1,2,3,4,5,6,7,8,14,15]) [.relab (gdR 15 s.ne [⟨7,12,enF (s.ent++ [⟨id,d,L,n⟩])⟩]) (fun _=>0) [(14,some (.one false (.cols (s.ne+1) [.sc (.strs (s.ent.map Le.id++ [id])),.sc (.ints .i64 (s.ent.map Le.date++ [d])),.own 15 (s.ent.map Le.np++ [n])]))),(15+0,some (.fam false (fun x=>x<s.ne+1) (enF (s.ent++ [⟨id,d,L,n⟩]))))] [7,12] 1] ?_ (a0b (a0b (a0b (a0b (a0r a0c))))));exact ⟨i0T (by rw [f1R];exact hs.ne) (by show (s.ent.map Le.id++ [id]).length=s.ne+1;simp [hs.ne]) (by show (s.ent.map Le.date++ [d]).length=s.ne+1;simp [hs.ne]) (by omega) rfl rfl (fun q hq=>hq) rfl (by decide) (by decide) (by decide) (fun q hq=>c1I q (by rw [hs.ne];exact hq)) (by rw [<-hs.ne];exact c1J),rfl,rfl,rfl,rfl,rfl,hpl,rfl,trivial⟩
end
section
abbrev i1V (ro:Bool) (s:Lg):Option HB:=some (.one ro (.obj (.bag (LgB s.bal s.ne))))
theorem x0b {s:Lg} {x:BagX} (h:x.ok (LgB s.bal s.ne)):∃R:List Lp,R.length=x.n/\x.blk=y0Z x.n R/\lgD R/\(∀a c,lgV R a c=s.bal a c)/\R.length<=16*s.ne:=by
 obtain ⟨⟨R,e1,e2,e3,h1,h2,h3⟩,k1,k2,k3⟩:=h;grind
theorem z0d (s:Lg) (id:BA) (d:Int) (L:List Lp) (n:Nat) (hs:LgOk s) (hn:L.length=n) (h0:lgE s ⟨id,d,L,n⟩=0):
  FC prog 9 352 [.ptr 1 0 0 0,.agg [.str id,.i d,.sl 8 0 0 n]] ((6,i1V false s)::psH s n L) (a0g (.i 0) ((6,i1V false (lgP s ⟨id,d,L,n⟩))::psO (lgP s ⟨id,d,L,n⟩)) 11):=by
 refine n1J fun x hx=> ?_
 obtain ⟨R,h1,h2,h3,h4,h5⟩:=x0b hx;rw [h2];exact s0H s id d L n x.n R hs h1 h4 h3 oM hn h0
theorem m0M (s:Lg) (a c:BA) (r:Nat) (R:List Lp) (hR:R.length=r) (h:∀a c,lgV R a c=s.bal a c):FC prog 7 67 [.ptr 1 0 0 0,.str a,.str c] [(6,some (.one true (y0Z r R))),(1,some (.one true (.cells (lgF 2 3 4 5 6 s))))] (a0g (.i (s.bal a c)) [] 7):=by
 have hv:(R.map Lp.n).getD (c0B (R.map Lp.a) (R.map Lp.c) a c) 0=s.bal a c:=(w0Y R a c).trans (h a c);rw [<-hv];let l:=xAg;exact Wx func67
theorem z0e (s:Lg) (a c:BA):FC prog 7 67 [.ptr 1 0 0 0,.str a,.str c] [(6,i1V true s),(1,some (.one true (.cells (lgF 2 3 4 5 6 s))))] (a0g (.i (s.bal a c)) [] 7):=by
 refine b1X fun x hx=> ?_
 obtain ⟨R,h1,h2,h3,h4,h5⟩:=x0b hx;rw [h2];exact m0M s a c x.n R h1 h4
theorem c1K (s:Lg):FC prog 7 52 [.ptr 1 0 0 0] [(1,some (.one true (.cells (lgF 2 3 4 5 6 s))))] (a0g (.int .u64 s.dig) [] 7):=by
 let l:=xAg;exact Wx func52
theorem g1F (dom:Nat->Prop) (F:Nat->Blk) (i:Nat) (id:BA) (d:Int) (L:List Lp) (n:Nat) (hi:dom i) (hF:F i=poB n L) (hn:L.length=n) (h1:1<=n) (h2:n<=1000000):
  FC prog 2 348 [.agg [.str id,.i d,.sl 1 i 0 n]] [(1,some (.fam true dom F))] (a0g (.agg [.str id,.i d,.sl 2 0 0 n]) [(2,some (.one false (poB n L)))] 3):=by
 have c0:=k0s [(1,⟨i,dom,F⟩)] (by exact ⟨⟨by simp,by simp,_,_,rfl,hi,hF,.inl rfl⟩,trivial⟩) (by trivial) (by trivial) (a0b a0c) (k0y id d L n hn h1 h2);have e:SV.mems (fmu [(1,⟨i,dom,F⟩)]) [.agg [.str id,.i d,.sl 1 0 0 n]]= [.agg [.str id,.i d,.sl 1 i 0 n]]:=by
  show [SV.agg [.str id,.i d,.sl 1 (0+i) 0 n]]=_;simp
 rw [e] at c0;exact c0
abbrev o1d (s:Lg):Blk:= .obj (.map false false s.ns [.strs s.st] [.sc (.bools (List.replicate s.ns true))] (List.range s.ns) s.ns)
attribute [local irreducible] seq ByteArray.extract lgE
theorem z0f {n ix:Nat} (h:ix<n):((List.range n).map Int.ofNat).getD ix 0=(ix:Int):=by
 simp_all
end
section
attribute [local irreducible] sortI
abbrev p1V (ro:Bool) (a:Nat) (s:Bks):Option HB:=some (.one ro (.cells [.str s.cur,.i s.days,.sl a 0 0 s.na,.map 3 0,.ptr 4 0 0 0,.i s.lg.ne,.ptr 11 0 0 0,.i s.last]))
abbrev x0c (n:Nat) (ids:List BA):Option HB:=some (.one false (.obj (.map false false n [.strs ids] [.sc (.ints .i64 ((List.range n).map Int.ofNat))] (List.range n) n)))
abbrev q1z (a e f h7 h8 h9:Nat) (s:Bks):a0k:=
 (1,p1V false a s)::(a,some (.one false (auB s.na s.au)))::(3,x0c s.na s.aid)::
 (9,i1V false s.lg)::(4,some (.one false (.cells (lgF 5 e 7 8 9 s.lg))))::(5,some (.one false (n0S s.lg)))::(e,some (.one false (n0T f s.lg)))::(7,some (.one false (z0c s.lg)))::(8,some (.one false (o1d s.lg)))::(f,d0b false s.lg)::
 (11,cyC false 12 14 15 16 s.np s.cut)::(12,b1D false 13)::(13,tmM false s.hn s.hs)::(14,cyP false s.np s.pr)::(16,tmM false s.nc s.cd)::c1a 15 h7 h8 h9 s.np s.m s.ds s.B (sortS s.pr)
abbrev i0V (s:Bks):a0k:=(0,some (GB glT))::q1z 2 6 10 17 18 19 s
abbrev i0W (s:Bks):a0k:=q1z 20 21 22 23 24 25 s
theorem a0G {a e f h7 h8 h9:Nat} {s:Bks}:c0x (q1z a e f h7 h8 h9 s):=
 a0b (a0b (a0b (a0b (a0b (a0b (a0b (a0b (a0b (a0r (a0b (a0b (a0b (a0b (a0b m0C))))))))))))))
theorem f0p (k:Int) (hk:¬(k<1\/8<k)):a0K prog 64 [.i k] (.iface (if k=1 then 202 else if k=8 then 204 else if k=4\/k=5\/k=6 then 205 else 203) (.agg [])):=by
 rcases f0j hk with rfl|rfl|rfl|rfl|rfl|rfl|rfl|rfl
 all_goals
  simp only [Int.reduceEq,if_true,if_false,or_true,true_or,or_false,false_or];exact Wx func64
theorem g0n (p:BA) (h:p.size<=1000):a0K prog 61 [.str p] (.str (e0n p)):=by
 have hz:a1c.size+p.size<=9223372036854775807:=by have:a1c.size=6:=rfl;omega
 refine fEx func61 ?_;repeat' (first|refine a0a ?_|exact a0e rfl)
theorem q0z (s:Bks) (n:Int):FC prog 20 350 [.ptr 1 0 0 0,.i n] [(1,p1V true 2 s)] (a0g (.agg [.i n,.str s.cur]) [] 20):=by
 let l:=xAd;exact Wx func350
theorem x0d (s:Bks) (t:Int) (hd:1<=s.days/\s.days<=1000) (ht:0<=t/\t<=1099511627776):FC prog 20 318 [.ptr 1 0 0 0,.i t] [(1,p1V true 2 s)] (a0g (.i (n0G s t)) [] 20):=by
 have e:i64.wrap (t+i64.wrap (s.days*86400))=n0G s t:=by
  grind [n0G,a0l]
 rw [<-e];let l:=xAd;exact Wx func318
theorem g0Y (s:Lg) (id:BA) (hs:LgOk s):FC prog 8 345 [.ptr 1 0 0 0,.str id] [(1,some (.one true (.cells (lgF 2 3 4 5 6 s)))),(3,some (.one true (n0T 7 s))),(4,some (.one true (z0c s))),(7,d0b true s)]
  (if inL id s.ids then a0g (.tup [.agg [.str ((s.ent.map Le.id).getD (a0q s.ids id) ⟨#[]⟩),.i ((s.ent.map Le.date).getD (a0q s.ids id) 0),.sl 8 0 0 ((s.ent.map Le.np).getD (a0q s.ids id) 0)],.bool true]) [(8,some (.one false (poB ((s.ent.map Le.np).getD (a0q s.ids id) 0) (s.ent.getD (a0q s.ids id) le0).ps)))] 9
   else a0g (.tup [.agg [.str ⟨#[]⟩,.i 0,.nsl],.bool false]) [] 8):=by
 have hidl:(s.ent.map Le.id).length=s.ne:=by rw [f1R,hs.ne]
 by_cases h:inL id s.ids
 .rw [if_pos h];have h':a0q (s.ent.map Le.id) id<s.ne:=by rw [<-hidl];exact h
  have hm:=(n1U hs (h0z.1 h)).1;have hok:=hs.ent _ hm;have hNP:=k1T s.ent (a0q s.ids id);have c1:=g1F (fun x=>x<s.ne) (enF s.ent) (a0q s.ids id) ((s.ent.map Le.id).getD (a0q s.ids id) ⟨#[]⟩) ((s.ent.map Le.date).getD (a0q s.ids id) 0) (s.ent.getD (a0q s.ids id) le0).ps ((s.ent.map Le.np).getD (a0q s.ids id) 0) h' (by rw [hNP];rfl) (by rw [hNP];exact hok.n) (by rw [hNP];exact hok.n1) (by rw [hNP];have:=hok.n16;omega);have hpl:=z0f h';have hb:decide (a0q (s.ent.map Le.id) id<s.ne)=true:=decide_eq_true h';have hc:0<=((List.range s.ne).map Int.ofNat).getD (a0q (s.ent.map Le.id) id) 0/\((List.range s.ne).map Int.ofNat).getD (a0q (s.ent.map Le.id) id) 0<(s.ne:Int):=by rw [hpl];omega
  refine fEx func345 ?_;repeat' ((conv=>whnf);first|(rw [hb])|(simp only [hpl,h0T])|refine cOx (l:= [0,7]) c1 ?_|refine a0a ?_|(apply bRx<;>intro h<;>try exact aX)|exact rOx xBd (a0b a0c)|exact rOx xBe (a0b a0c)|exact aX)
 .rw [if_neg h];have h':¬a0q (s.ent.map Le.id) id<s.ne:=by rw [<-hidl];exact h
  have hb:decide (a0q (s.ent.map Le.id) id<s.ne)=false:=decide_eq_false h';let l:=xAl;have q0:=hb;exact Wx func345
attribute [local irreducible] seq ByteArray.extract lgE
theorem g1G {n ix:Nat} {ids:List BA} {id:BA} (hix:ix=n) (hl:ids.length=n):
  (some (HB.one false (.obj (.map false false (if ix<n then n else n+1) [.strs (b0j ix id ids)] [.sc (.ints .i64 (b0j ix (n:Int) ((List.range n).map Int.ofNat)))] (if ix<n then List.range n else List.range n++ [n]) (if ix<n then n else n+1)))):Option HB)=x0c (n+1) (ids++ [id]):=by
 subst hix;rw [if_neg oM,if_neg oM,c0z hl,c0z (by simp)];unfold x0c;rw [t1U,n1q];rfl
theorem k0T (L:List Au) (i:Nat) (a:Au) (h:a.id=(b0S L i).id):(L.set i a).map Au.id=L.map Au.id:=by
 rw [List.map_set];refine u1F (s1a ..) fun j h1 h2=> ?_
 rw [List.getElem_set];split
 .rw [h];show (L.map Au.id).getD i ⟨#[]⟩=_;simp_all
 .rfl
theorem c1L {a:Au} {n u:Int} (h:(e0k a n u).2=0):(e0k a n u).1.id=a.id:=by
 unfold e0k at h⊢;grind
theorem u0U {a:Au} {n:Int} (h:(b0v a n).2.2=0):(b0v a n).1.id=a.id:=by
 unfold b0v at h⊢;grind
theorem z0g {a:Au} {n:Int} (h:(c0p a n).2.2=0):(c0p a n).1.id=a.id:=by
 unfold c0p at h⊢;grind
theorem c1M {a:Au} {n:Int} {b:Bool} (h:(g0d a n b).2.2.2=0):(g0d a n b).1.id=a.id:=by
 unfold g0d at h⊢;grind
set_option maxHeartbeats 2000000 in
theorem z0h (s:Bks) (o:Bop) (h:BkOk s) (hc:CkOk o):FC prog 20 316 [.agg [],.ptr 1 0 0 0,o.s] (i0V s) (a0g (.i (c1u s o)) (i0W (if c1u s o=0 then i1R s o else s)) 26):=by
 have c1:=x0d s o.t h.days hc.t;have c2:=g1v o.au s.cur o.am o.t (n0G s o.t);have hal:s.aid.length=s.na:=by unfold Bks.aid;rw [f1R,h.na]
 have h256:=h.n256;unfold c1u i1R;by_cases hk:s.pl o.au<s.na
 .rw [if_pos hk,if_neg (by decide)];have hb:decide (a0q s.aid o.au<s.na)=true:=decide_eq_true hk;let l:=xAe;have w:=@a0G;have q0:=hb;exact Wx func316
 rw [if_neg hk];have hb:decide (a0q s.aid o.au<s.na)=false:=decide_eq_false hk;by_cases hn:256<=s.na
 .rw [if_pos hn,if_neg (by decide)];let l:=xAe;have w:=@a0G;have q1:=hb;exact Wx func316
 rw [if_neg hn];have hnid:=k1x o.au s.cur o.am o.t (n0G s o.t);generalize b1u o.au s.cur o.am o.t (n0G s o.t)=N at*;obtain ⟨a,e⟩:=N;dsimp only at c2 hnid⊢;by_cases he:e=0
 .rw [if_pos he];subst he;have hid:a.id=o.au:=hnid rfl;have hix:a0q s.aid o.au=s.na:=by
   have h1:=Go.Sy.sidx_le s.aid o.au;have h2:¬a0q s.aid o.au<s.na:=hk;omega
  have hpl:=g1G (n:=s.na) (ids:=s.aid) (id:=o.au) hix hal;have hap:=c1t (s.na+1) s.au a;have e3:x0c (s.na+1) (s.aid++ [o.au])=x0c (s.na+1) ((s.au++ [a]).map Au.id):=by rw [n1q,<-hid];rfl
  refine fEx func316 ?_;repeat' ((conv=>whnf);first|(rw [hb])|refine cOx (l:= xAd) c1 ?_|refine cPx c2 ?_|refine a0a ?_|(apply bRx<;>intro h<;>try exact aX)|exact aX|(exfalso;exact h rfl)|exact a0A (l:= [0,1,2,3,4,5,6,7,8,9,10,11,12,13,14,15,16,17,18,19,24,6,10,17,18,19]) rfl rfl ⟨rfl,congrArg (fun z=>some (HB.one false z)) hap,hpl.trans e3,rfl,rfl,rfl,rfl,rfl,rfl,rfl,rfl,rfl,rfl,rfl,rfl,rfl,rfl,rfl,rfl,trivial⟩ a0G)
 .rw [if_neg he];let l:=xAd;let R:=xAe;have w:=@a0G;have q2:=hb;exact Wx func316
set_option maxHeartbeats 2000000 in
theorem z0i (s:Bks) (o:Bop) (h:BkOk s) (hc:CkOk o) (hk:o.k=2):FC prog 20 319 [.agg [],.ptr 1 0 0 0,o.s] (i0V s) (a0g (.i (e0d s o)) (i0W (if e0d s o=0 then h0s s o else s)) 26):=by
 have c1:=x0d s o.t h.days hc.t;have c2:=y0X (b0S s.au (s.pl o.au)) o.am (max (b0S s.au (s.pl o.au)).unt (n0G s o.t));have hA:w0R s o=e0k (b0S s.au (s.pl o.au)) o.am (max (b0S s.au (s.pl o.au)).unt (n0G s o.t)):=by unfold w0R;rw [if_pos hk]
 have hd2:decide (o.k=2)=true:=decide_eq_true hk;unfold e0d h0s;by_cases hp:s.pl o.au<s.na
 .have hb:decide (a0q s.aid o.au<s.na)=true:=decide_eq_true hp;have hpl:=z0f hp;have hcn:0<=((List.range s.na).map Int.ofNat).getD (s.pl o.au) 0/\((List.range s.na).map Int.ofNat).getD (s.pl o.au) 0<(s.na:Int):=by rw [hpl];omega
  rw [if_pos hp,hA];have hidk:=c1L (a:=b0S s.au (s.pl o.au)) (n:=o.am) (u:=max (b0S s.au (s.pl o.au)).unt (n0G s o.t));unfold b0S at c2;try dsimp only at c2
  generalize hN:e0k (b0S s.au (s.pl o.au)) o.am (max (b0S s.au (s.pl o.au)).unt (n0G s o.t))=N at*;unfold b0S at hN;rw [hN] at c2;obtain ⟨a,e⟩:=N;dsimp only at c2 hidk⊢;by_cases he:e=0
  .rw [if_pos he];subst he;have hap:=g0l s.na s.au (s.pl o.au) a;have r3:x0c s.na s.aid=x0c s.na ((s.au.set (s.pl o.au) a).map Au.id):=by rw [k0T _ _ _ (hidk rfl)]
   refine fEx func319 ?_;repeat' ((conv=>whnf);first|(rw [hb])|(rw [hd2];dsimp only [b0k,b0s])|(simp only [hpl,h0T])|refine cOx (l:= xAd) c1 ?_|refine cPx c2 ?_|refine a0a ?_|(apply bRx<;>intro h<;>try exact aX)|exact aX|(exfalso;exact h rfl)|exact a0A (l:= xAe) rfl rfl ⟨rfl,congrArg (fun z=>some (HB.one false z)) hap,r3,rfl,rfl,rfl,rfl,rfl,rfl,rfl,rfl,rfl,rfl,rfl,rfl,rfl,rfl,rfl,rfl,trivial⟩ a0G)
  .rw [if_neg he];refine fEx func319 ?_;repeat' ((conv=>whnf);first|(rw [hb])|(rw [hd2];dsimp only [b0k,b0s])|(simp only [hpl,h0T])|refine cOx (l:= xAd) c1 ?_|refine cPx c2 ?_|refine a0a ?_|(apply bRx<;>intro h<;>try exact aX)|exact rOx xAe a0G|exact aX|(exfalso;exact he h))
 .have hb:decide (a0q s.aid o.au<s.na)=false:=decide_eq_false hp;rw [if_neg hp,if_neg (by decide)];let l:=xAe;have w:=@a0G;have q0:=hb;exact Wx func319
set_option maxHeartbeats 2000000 in
theorem z0j (s:Bks) (o:Bop) (h:BkOk s) (hc:CkOk o) (hk:o.k=3):FC prog 20 319 [.agg [],.ptr 1 0 0 0,o.s] (i0V s) (a0g (.i (e0d s o)) (i0W (if e0d s o=0 then h0s s o else s)) 26):=by
 have c1:=x0d s o.t h.days hc.t;have c2:=s0D (b0S s.au (s.pl o.au)) o.am;have hA:w0R s o=((b0v (b0S s.au (s.pl o.au)) o.am).1,(b0v (b0S s.au (s.pl o.au)) o.am).2.2):=by unfold w0R;rw [if_neg (by omega),if_pos hk]
 have hd2:decide (o.k=2)=false:=decide_eq_false (by omega);have hd3:decide (o.k=3)=true:=decide_eq_true hk;unfold e0d h0s;by_cases hp:s.pl o.au<s.na
 .have hb:decide (a0q s.aid o.au<s.na)=true:=decide_eq_true hp;have hpl:=z0f hp;have hcn:0<=((List.range s.na).map Int.ofNat).getD (s.pl o.au) 0/\((List.range s.na).map Int.ofNat).getD (s.pl o.au) 0<(s.na:Int):=by rw [hpl];omega
  rw [if_pos hp,hA];have hidk:=u0U (a:=b0S s.au (s.pl o.au)) (n:=o.am);unfold b0S at c2;try dsimp only at c2
  generalize hN:b0v (b0S s.au (s.pl o.au)) o.am=N at*;unfold b0S at hN;rw [hN] at c2;obtain ⟨a,r,e⟩:=N;dsimp only at c2 hidk⊢;by_cases he:e=0
  .rw [if_pos he];subst he;have hap:=g0l s.na s.au (s.pl o.au) a;have r3:x0c s.na s.aid=x0c s.na ((s.au.set (s.pl o.au) a).map Au.id):=by rw [k0T _ _ _ (hidk rfl)]
   refine fEx func319 ?_;repeat' ((conv=>whnf);first|(rw [hb])|(rw [hd2];dsimp only [b0k,b0s])|(rw [hd3];try dsimp only [b0k,b0s])|(simp only [hpl,h0T])|refine cOx (l:= xAd) c1 ?_|refine cPx c2 ?_|refine a0a ?_|(apply bRx<;>intro h<;>try exact aX)|exact aX|(exfalso;exact h rfl)|exact a0A (l:= xAe) rfl rfl ⟨rfl,congrArg (fun z=>some (HB.one false z)) hap,r3,rfl,rfl,rfl,rfl,rfl,rfl,rfl,rfl,rfl,rfl,rfl,rfl,rfl,rfl,rfl,rfl,trivial⟩ a0G)
  .rw [if_neg he];refine fEx func319 ?_;repeat' ((conv=>whnf);first|(rw [hb])|(rw [hd2];dsimp only [b0k,b0s])|(rw [hd3];try dsimp only [b0k,b0s])|(simp only [hpl,h0T])|refine cOx (l:= xAd) c1 ?_|refine cPx c2 ?_|refine a0a ?_|(apply bRx<;>intro h<;>try exact aX)|exact rOx xAe a0G|exact aX|(exfalso;exact he h))
 .have hb:decide (a0q s.aid o.au<s.na)=false:=decide_eq_false hp;rw [if_neg hp,if_neg (by decide)];let l:=xAe;have w:=@a0G;have q0:=hb;exact Wx func319
set_option maxHeartbeats 2000000 in
theorem z0k (s:Bks) (o:Bop) (h:BkOk s) (hc:CkOk o) (hk:o.k=7):FC prog 20 319 [.agg [],.ptr 1 0 0 0,o.s] (i0V s) (a0g (.i (e0d s o)) (i0W (if e0d s o=0 then h0s s o else s)) 26):=by
 have c1:=x0d s o.t h.days hc.t;have c2:=u0P (b0S s.au (s.pl o.au)) o.t;have hA:w0R s o=((c0p (b0S s.au (s.pl o.au)) o.t).1,(c0p (b0S s.au (s.pl o.au)) o.t).2.2):=by unfold w0R;rw [if_neg (by omega),if_neg (by omega)]
 have hd2:decide (o.k=2)=false:=decide_eq_false (by omega);have hd3:decide (o.k=3)=false:=decide_eq_false (by omega);unfold e0d h0s;by_cases hp:s.pl o.au<s.na
 .have hb:decide (a0q s.aid o.au<s.na)=true:=decide_eq_true hp;have hpl:=z0f hp;have hcn:0<=((List.range s.na).map Int.ofNat).getD (s.pl o.au) 0/\((List.range s.na).map Int.ofNat).getD (s.pl o.au) 0<(s.na:Int):=by rw [hpl];omega
  rw [if_pos hp,hA];have hidk:=z0g (a:=b0S s.au (s.pl o.au)) (n:=o.t);unfold b0S at c2;try dsimp only at c2
  generalize hN:c0p (b0S s.au (s.pl o.au)) o.t=N at*;unfold b0S at hN;rw [hN] at c2;obtain ⟨a,r,e⟩:=N;dsimp only at c2 hidk⊢;by_cases he:e=0
  .rw [if_pos he];subst he;have hap:=g0l s.na s.au (s.pl o.au) a;have r3:x0c s.na s.aid=x0c s.na ((s.au.set (s.pl o.au) a).map Au.id):=by rw [k0T _ _ _ (hidk rfl)]
   refine fEx func319 ?_;repeat' ((conv=>whnf);first|(rw [hb])|(rw [hd2];dsimp only [b0k,b0s])|(rw [hd3];try dsimp only [b0k,b0s])|(simp only [hpl,h0T])|refine cOx (l:= xAd) c1 ?_|refine cPx c2 ?_|refine a0a ?_|(apply bRx<;>intro h<;>try exact aX)|exact aX|(exfalso;exact h rfl)|exact a0A (l:= xAe) rfl rfl ⟨rfl,congrArg (fun z=>some (HB.one false z)) hap,r3,rfl,rfl,rfl,rfl,rfl,rfl,rfl,rfl,rfl,rfl,rfl,rfl,rfl,rfl,rfl,rfl,trivial⟩ a0G)
  .rw [if_neg he];refine fEx func319 ?_;repeat' ((conv=>whnf);first|(rw [hb])|(rw [hd2];dsimp only [b0k,b0s])|(rw [hd3];try dsimp only [b0k,b0s])|(simp only [hpl,h0T])|refine cOx (l:= xAd) c1 ?_|refine cPx c2 ?_|refine a0a ?_|(apply bRx<;>intro h<;>try exact aX)|exact rOx xAe a0G|exact aX|(exfalso;exact he h))
 .have hb:decide (a0q s.aid o.au<s.na)=false:=decide_eq_false hp;rw [if_neg hp,if_neg (by decide)];let l:=xAe;have w:=@a0G;have q0:=hb;exact Wx func319
end
section
attribute [local irreducible] sortI
attribute [local irreducible] seq ByteArray.extract lgE
theorem g0o {s:BA} (h:nmB s=true):s.size<=16:=by
 simp_all [nmB]
theorem c1N (s:Bks) (o:Bop) (f g:BA) (n:Int) (h:BkOk s) (hx:owX s o.t f g n≠0):FC prog 20 346 [.ptr 1 0 0 0,o.s,.str f,.str g,.i n] (i0V s) (a0g (.i (owX s o.t f g n)) (i0W s) 26):=by
 have c1:=q0z s n;have c2:=c1g h.bks h.hn h.nc h.np h.err s.cut o.t f g s.cur n;unfold mvO at c2;rw [if_neg (show¬mvX s.hs s.ds s.cd s.B s.pr (mvD s.hs s.cd (ofI s.hs s.cut o.t)) f g s.cur n=0 from hx)] at c2;unfold owX bkD at hx⊢;generalize mvX s.hs s.ds s.cd s.B s.pr (mvD s.hs s.cd (ofI s.hs s.cut o.t)) f g s.cur n=E at*;let l2:=xAo;let l:=xAd;let R:=xAe;have w:=@a0G;exact Wx func346
theorem c1O (s:Bks) (o:Bop) (h:BkOk s) (hc:CkOk o) (hk:o.k=4\/o.k=5\/o.k=6) (hi:¬inL o.id s.lg.ids) (hf:¬512<=s.lg.ne) (hx:owX s o.t (mtF o) (mtG o) (mtN o)=0):
  FC prog 20 346 [.ptr 1 0 0 0,o.s,.str (mtF o),.str (mtG o),.i (mtN o)] (i0V s) (a0g (.i 0) (i0W (owS s o)) 26):=by
 obtain ⟨hp,hne⟩:=k1W h hc hk hi hf hx;obtain ⟨b1,b2,b3⟩:=w0S h.bks h.np h.err (bkD s o.t);obtain ⟨m1,m2,m3,m4,m5,m6⟩:=q0y hx b3 b1.psl;have hb:=m0I hc hk;obtain ⟨w1,w2,w3⟩:=i0L h.err;have z1:=g0o (w3 _ m3);have z2:=g0o (w3 _ m4);have c1:=q0z s (mtN o);have c1':=q0z s (-mtN o);have c2:=c1g h.bks h.hn h.nc h.np h.err s.cut o.t (mtF o) (mtG o) s.cur (mtN o);unfold mvO at c2;rw [if_pos (show mvX s.hs s.ds s.cd s.B s.pr (mvD s.hs s.cd (ofI s.hs s.cut o.t)) (mtF o) (mtG o) s.cur (mtN o)=0 from hx)] at c2;have c3:=b1C o.t;have c4:=g0n (mtF o) oM;have c4':=g0n (mtG o) oM;have c5:=z0d s.lg o.id (h0R o.t) (enB s o).ps 2 h.lg rfl hp;change FC _ _ _ _ _ (a0g _ ((6,i1V false (lgP s.lg (enB s o)))::psO (lgP s.lg (enB s o))) _) at c5;have hneg:i64.wrap (0-mtN o)= -mtN o:=by rw [a0l oM oM];omega
 have hne1:i64.wrap ((s.lg.ne:Int)+1)=((lgP s.lg (enB s o)).ne:Int):=a0j oM;have ha:n0S s.lg=n0S (lgP s.lg (enB s o)):=rfl;have hst:o1d s.lg=o1d (lgP s.lg (enB s o)):=rfl;unfold owS;unfold enB at c5;dsimp only at c5;change FC _ _ _ _ _ (a0g _ ((6,i1V false (lgP s.lg (enB s o)))::psO (lgP s.lg (enB s o))) _) at c5;generalize lgP s.lg (enB s o)=S' at*;unfold bkD;generalize mvD s.hs s.cd (ofI s.hs s.cut o.t)=D at*;generalize mtF o=F at*;generalize mtG o=G at*;generalize mtN o=N at*;generalize h0R o.t=dd at*;generalize b1B o.t=ds at*;have r1:(some (HB.one false (.cells [.str s.cur,.i s.days,.sl 2 0 0 s.na,.map 3 0,.ptr 4 0 0 0,.i (i64.wrap ((s.lg.ne:Int)+1)),.ptr 11 0 0 0,.i s.last])):Option HB)=some (.one false (.cells [.str s.cur,.i s.days,.sl 2 0 0 s.na,.map 3 0,.ptr 4 0 0 0,.i S'.ne,.ptr 11 0 0 0,.i s.last])):=by rw [hne1]
 have r5:=congrArg (fun z=>some (HB.one false z)) ha;have r8:=congrArg (fun z=>some (HB.one false z)) hst;refine fEx func346 ?_;repeat' ((conv=>whnf);first|refine cOx (l:= xAd) c1 ?_|refine cOx (l:= xAd) c1' ?_|refine cOx (l:= xAo) c2 ?_|refine cPx c3 ?_|refine cPx c4 ?_|refine cPx c4' ?_|(rw [hneg])|refine cOx (l:= [0,4,5,6,7,8,9,10,24]) c5 ?_|refine a0a ?_|(apply bRx<;>intro h<;>try exact aX)|exact aX|(exfalso;exact h rfl)|exact a0A (l:= [0,1,2,3,4,5,6,7,8,9,10,11,12,13,14,15,16,17,18,19,2,25,26,21,22,23]) rfl rfl ⟨r1,rfl,rfl,rfl,rfl,r5,rfl,rfl,r8,rX⟩ a0G)
end
section
attribute [local irreducible] sortI
theorem q0A {s:BA} {u:Bool} {p:BA->Bool} (h:fiB s u p=true) (hp:p s=true->s.size<=16):s.size<=16:=by
 unfold fiB at h;cases u with
 |true=>simp_all
 |false=>have e:s=⟨#[]⟩:=of_decide_eq_true h;rw [e];decide
theorem x0e {s:BA} (h:auI s=true):s.size<=16:=by
 simp_all [auI]
def c1P (o:Bop):List BA:= [b0i o.k,b0i o.t,o.id,o.au,o.is,o.ac,b0i o.am,b0i o.fe,if o.fi=true then ⟨#[49]⟩ else ⟨#[48]⟩]
def b0Z (o:Bop):BA:=c0D (c1P o) ⟨#[124]⟩
structure BopSz (o:Bop):Prop where
 k: -9223372036854775808<=o.k/\o.k<=9223372036854775807
 t: -9223372036854775808<=o.t/\o.t<=9223372036854775807
 am: -9223372036854775808<=o.am/\o.am<=9223372036854775807
 fe: -9223372036854775808<=o.fe/\o.fe<=9223372036854775807
 id:o.id.size<=16
 au:o.au.size<=16
 is:o.is.size<=16
 ac:o.ac.size<=16
theorem c1Q {o:Bop} (h:CkOk o):BopSz o:=by
 have hn:=h.n;unfold bkN at hn;simp only [n0M] at hn;have ha:=h.a;have hk:=h.k;have ht:=h.t;have hf:=h.f;have hb: -999999999999<=o.am/\o.am<=999999999999:=by
  grind [pmB]
 exact ⟨by omega,by omega,by omega,by omega,q0A hn.1 x0e,q0A hn.2.1 x0e,q0A hn.2.2.1 g0o,q0A hn.2.2.2 g0o⟩
theorem x0f {o:Bop} (h:BopSz o):(c0D (c1P o) ⟨#[124]⟩).size<=1000:=by
 have h1:=a0B o.k h.k.1 h.k.2;have h2:=a0B o.t h.t.1 h.t.2;have h3:=a0B o.am h.am.1 h.am.2;have h4:=a0B o.fe h.fe.1 h.fe.2;have h5:o.id.data.size<=16:=h.id;have h6:o.au.data.size<=16:=h.au;have h7:o.is.data.size<=16:=h.is;have h8:o.ac.data.size<=16:=h.ac;have h9:(if o.fi=true then (⟨#[49]⟩:BA) else ⟨#[48]⟩).size<=1:=by split<;>decide
 unfold c0D c1P;show (Lib.join _ _).toArray.size<=1000;rw [t1k,n1w,u1b,s0c,Lib.joinTail_length];generalize (if o.fi=true then (⟨#[49]⟩:BA) else ⟨#[48]⟩)=z at*;simp only [Lib.lens,n1w,s1Y,List.sum_cons,List.sum_nil,i1y,s1M,r1W];simp only [ByteArray.size] at h1 h2 h3 h4 h9;omega
theorem x0g (n:Nat) (L:List BA) (sep:BA) (h0:0<n) (hN:n<=1000000) (hlen:(c0D L sep).size<=140737488355328):
  FC prog 2 65 [.sl 1 0 0 n,.str sep] [(1,some (.one true (.cols n [.sc (.strs L)])))] (a0g (.str (c0D L sep)) [] 2):=
 k1J (fun bk o c xs sep w h1 h2 h3 h4 h5=>Tryz.strings_Join bk o c xs sep w h1 h2 h3 h4 h5) (f0W func65 (by rfl) (by rfl)) n L sep h0 hN hlen
theorem g0p (o:Bop) (hc:ckE o=0):k0D prog glT 28 [o.s] (.tup [.str (b0Z o),.i 0]):=by
 have c1:=e0o o;rw [hc] at c1;have hs:=c1Q (u0u hc);have hj:=x0f hs;have g1:=i0R o.k hs.k.1 hs.k.2;have g2:=i0R o.t hs.t.1 hs.t.2;have g3:=b0Y o.am hs.am.1 hs.am.2;have g4:=b0Y o.fe hs.fe.1 hs.fe.2;have c2:=x0g 9 (c1P o) ⟨#[124]⟩ dC dC oM;unfold b0Z;unfold c1P at c2⊢;obtain ⟨k,t,id,au,is,ac,am,fe,fi⟩:=o;cases fi with
 |true=>
  rw [if_pos rfl] at c2;rw [if_pos rfl];have c0:=g1;have c3:=g2;have c4:=g3;have c5:=g4;let l:=[0,2];exact Wx func28
 |false=>
  rw [if_neg (fun e=>Bool.noConfusion e)] at c2;rw [if_neg (fun e=>Bool.noConfusion e)];have c6:=g1;have c7:=g2;have c8:=g3;have c9:=g4;let l:=[0,2];exact Wx func28
end
section
theorem i1W (c:UInt8) (r:List UInt8):∀{x:List UInt8},c∉x->Lib.indexByte (x++c::r) c=(x.length:Int)
 | [],_=>by
   simp [Lib.indexByte]
 |b::x,h=>by
  have h1:b≠c:=fun e=>h (by simp_all)
  have h2:=i1W c r (x:=x) (fun e=>h (s1n _ e));simp_all [Lib.indexByte]
theorem o0P (c:UInt8):∀(L:List (List UInt8)) (x:List UInt8),c∉x->(∀y∈L,c∉y)->Lib.splitK [c] 0 L.length (x++Lib.joinTail [c] L)=x::L
 | [],x,hx,_=>by simp [Lib.joinTail,Lib.splitK]
 |y::L,x,hx,hL=>by
  have e:x++Lib.joinTail [c] (y::L)=x++c::(y++Lib.joinTail [c] L):=by rfl
  rw [e,i1y];unfold Lib.splitK;rw [Lib.index_one,i1W c _ hx,if_neg (by
   simp)]
  have ih:=o0P c L y (hL y (t1H ..)) (fun z hz=>hL z (s1n _ hz));simp_all
theorem o0Q (c:UInt8):∀(L:List (List UInt8)),(∀y∈L,c∉y)->(Lib.joinTail [c] L).count c=L.length
 | [],_=>by rfl
 |y::L,hL=>by
  have e:Lib.joinTail [c] (y::L)=c::(y++Lib.joinTail [c] L):=by rfl
  rw [e,List.count_cons_self,List.count_append,List.count_eq_zero.2 (hL y (t1H ..)),o0Q c L (fun z hz=>hL z (s1n _ hz)),i1y];omega
theorem o0R (c:UInt8) (x:BA) (L:List BA) (hx:c∉x.data.toList) (hL:∀y∈L,c∉y.data.toList):
  Lib.countB (c0D (x::L) ⟨#[c]⟩) ⟨#[c]⟩=L.length/\Lib.splitB ⟨#[c]⟩ 0 L.length (c0D (x::L) ⟨#[c]⟩)=x::L:=by
 have hL2:∀y∈L.map (·.data.toList),c∉y:=fun y hy=>by
  grind
 have e:(c0D (x::L) ⟨#[c]⟩).data.toList=x.data.toList++Lib.joinTail [c] (L.map (·.data.toList)):=by
  unfold c0D;simp [u1b]
 constructor
 .show Lib.count _ [c]=_;rw [e,Lib.count_one,List.count_append,List.count_eq_zero.2 hx,o0Q c _ hL2,f1R,i1z]
 .have h:=Lib.splitB_data ⟨#[c]⟩ 0 L.length (c0D (x::L) ⟨#[c]⟩);rw [e] at h;have h2:=o0P c (L.map (·.data.toList)) x.data.toList hx hL2;rw [f1R] at h2;rw [show (⟨#[c]⟩:BA).data.toList= [c] from rfl,h2,<-n1w (f:=fun b:BA=>b.data.toList)] at h;refine List.map_inj_right (f:=fun b:BA=>b.data.toList) (fun a b hab=> ?_)|>.1 h
  cases a;simp_all
end
section
theorem g0q {H:a0k} {n a:Nat} {F:Nat->Blk} (ha:a<n) (hta:a0w H a=some (.one false (.cols 0 [.sc (.strs []),.sc (.ints .i64 []),.svs []]))):
  Relab H n (fun _ _=>none) (fun _=>0) [(a,some (.one false (.cols 0 [.sc (.strs []),.sc (.ints .i64 []),.own n []]))),(n+0,some (.fam false (fun x=>x<0) F))] [] 1:=by
 refine g0Q (n:=n) (th:=a) [⟨0,0,F⟩] ha hta (e0j ⟨⟨fun _=>rfl,fun i hi=>a0O _⟩,⟨fun _=>rfl,fun i hi=>a0O _⟩,⟨fun _=>rfl,fun i hi=>absurd hi (p1R _)⟩,trivial⟩)
def nmE (A:List BA):List BA->Int
 | []=>0
 |a::L=>if j0p a=false then 5 else if inL a A then 7 else nmE (A++ [a]) L
def a1d (L:List BA):Int:=if 512<L.length then 3 else nmE [] L
def lg0 (L:List BA):Lg:=⟨L.length,L,0,[],0,[],fun _ _=>0,0⟩
theorem c1R:∀(L A:List BA),nmE A L=0->A.Nodup->(A++L).Nodup/\∀a∈L,j0p a=true
 | [],A,_,hA=>⟨by simp_all,by simp⟩
 |a::L,A,h,hA=>by
  simp only [nmE] at h;split at h
  .omega
  .split at h
   .omega
   .rename_i h2;have h2':a∉A:=fun hm=>h2 (h0z.2 hm)
    have hA2:(A++ [a]).Nodup:=s1p.2 ⟨hA,by simp,fun x hx y hy e=>by simp_all⟩;obtain ⟨i1,i2⟩:=c1R L (A++ [a]) h hA2;simp_all
theorem o1e {L:List BA} (h:a1d L=0):LgOk (lg0 L):=by
 unfold a1d at h;split at h
 .omega
 obtain ⟨i1,i2⟩:=c1R L [] h s1Z;exact ⟨rfl,by show L.length<=512;omega,(by trivial),i2,rfl,by show (0:Nat)<=512;omega,s1Z,(fun e he=>absurd he (s1O)),rfl,m0c _,(fun x hx=>absurd hx (s1O)),fun a c=>rfl,fun a c=>by show (-4503599627370496:Int)<=0/\(0:Int)<=4503599627370496;omega,by show (0:Int)<=0/\(0:Int)<18446744073709551616;omega⟩
theorem l1f {L:List BA} {k:Nat} (hk:k<L.length):nmE (L.take k) (L.drop k)=if j0p (L.getD k ⟨#[]⟩)=false then 5 else if inL (L.getD k ⟨#[]⟩) (L.take k) then 7 else nmE (L.take (k+1)) (L.drop (k+1)):=by
 rw [t1F hk];simp only [nmE];simp_all
theorem l1g {L:List BA} {k:Nat} (hk:k<L.length) (hix:a0q (L.take k) (L.getD k ⟨#[]⟩)=k):
  (some (HB.one false (.obj (.map false false (if a0q (L.take k) (L.getD k ⟨#[]⟩)<k then k else k+1) [.strs (b0j (a0q (L.take k) (L.getD k ⟨#[]⟩)) (L.getD k ⟨#[]⟩) (L.take k))] [.sc (.bools (b0j (a0q (L.take k) (L.getD k ⟨#[]⟩)) true (List.replicate k true)))] (if a0q (L.take k) (L.getD k ⟨#[]⟩)<k then List.range k else List.range k++ [k]) (if a0q (L.take k) (L.getD k ⟨#[]⟩)<k then k else k+1)))):Option HB)
   =some (.one false (.obj (.map false false (k+1) [.strs (L.take (k+1))] [.sc (.bools (List.replicate (k+1) true))] (List.range (k+1)) (k+1)))):=by
 rw [hix];simp only [s1w];rw [c0z (l:=L.take k) (by grind),c0z (l:=List.replicate k true) (by simp),t1U,List.replicate_succ',s1c,List.getD,m0b hk];rfl
attribute [local irreducible] seq ByteArray.extract nmE
abbrev nwH (n k:Nat) (L:List BA):a0k:= [(1,some (.one true (.cols n [.sc (.strs L)]))),(2,some (.one false (.obj (.map false false k [.strs (L.take k)] [.sc (.bools (List.replicate k true))] (List.range k) k)))),(3,some (.one false (.obj (.map false false 0 [.strs []] [.sc (.ints .i64 [])] [] 0)))),(4,some (.one false (.obj (.map false false 0 [.strs []] [.sc (.bools [])] [] 0)))),(5,some (.one false (.obj (.map true false 0 [.strs [],.strs []] [.sc (.ints .i64 [])] [] 0)))),(6,some (.one false (.cells [.map 2 0,.nsl,.map 3 0,.map 4 0,.map 5 0,.int .u64 0])))]
theorem c1S (L:List BA) (n:Nat) (hn:L.length=n) (h:a1d L=0):FC prog 2 62 [.sl 1 0 0 n] [(1,some (.one true (.cols n [.sc (.strs L)])))]
  (a0g (.tup [.ptr 2 0 0 0,.i 0]) [(7,i1V false (lg0 L)),(2,some (.one false (.cells (lgF 3 4 5 6 7 (lg0 L))))),(3,some (.one false (n0S (lg0 L)))),(4,some (.one false (n0T 8 (lg0 L)))),(5,some (.one false (z0c (lg0 L)))),(6,some (.one false (o1d (lg0 L)))),(8,d0b false (lg0 L))] 9):=by
 have h512:n<=512:=by
  unfold a1d at h;split at h
  .cases h
  .omega
 have e:a1d L=nmE [] L:=by unfold a1d;rw [if_neg oM]
 rw [e] at h;refine y0U (x:=⟨[],[],[],0⟩) ⟨[],rfl,rfl,rfl,List.Pairwise.nil,fun a c=>rfl,b1f _⟩ ?_;unfold lg0;rw [hn];refine fEx func62 ?_;repeat' ((conv=>whnf);first|refine a0a ?_|(apply bRx<;>intro h<;>try exact aX))
 all_goals (conv=>whnf)
 all_goals first
  |exact aX
  |skip
 refine a0h (fun k:Nat=>⟨[(4,.ptr 6 0 0 0),(16,.sl 1 0 0 n),(17,.i n),(18,.i k)],nwH n k L,7⟩) (fun k=>k<=n/\nmE [] L=nmE (L.take k) (L.drop k)) (fun k=>n-k) 0 [0,1,2,3,4,5,6] [] wHx ⟨b1f _,by simp⟩ ?_;rintro k ⟨hk,hE⟩;unfold nwH;by_cases hk2:k<n
 .rw [l1f oM] at hE;have c1:=o0M (L.getD k ⟨#[]⟩);have hrep:=c1H k (a0q (L.take k) (L.getD k ⟨#[]⟩));have hle:=Go.Sy.sidx_le (L.take k) (L.getD k ⟨#[]⟩);have hlk:(L.take k).length=k:=by rw [p1O];omega
  by_cases g1:j0p (L.getD k ⟨#[]⟩)=false
  .rw [if_pos g1] at hE;omega
  rw [if_neg g1] at hE;have g1':j0p (L.getD k ⟨#[]⟩)=true:=by simpa using g1
  rw [g1'] at c1;by_cases g2:inL (L.getD k ⟨#[]⟩) (L.take k)
  .rw [if_pos g2] at hE;omega
  rw [if_neg g2] at hE;unfold inL at g2;rw [decide_eq_false oM] at hrep;have hrow:=l1g (L:=L) (k:=k) oM oM;repeat' ((conv=>whnf);first|refine cPx c1 ?_|(simp only [h0T,hrep])|refine a0a ?_|(apply bRx<;>intro h<;>try exact aX)|exact ⟨k+1,xAg,[],⟨hk2,hE⟩,(show n-(k+1)<n-k by omega),⟨rfl,⟨rfl,rfl,rfl,sI (a0j oM),trivial⟩,⟨rfl,hrow,rX⟩⟩⟩|exact aX)
 have ek:k=n:=oM
 subst ek;rw [show L.take k=L by rw [<-hn,n1v]];repeat' ((conv=>whnf);first|refine a0a ?_|(apply bRx<;>intro h<;>try exact aX)|exact aX|exact b0K (l:= [0,1,6,2,7,3,4,5,8]) [.cell 6 1 [.sc (.strs []),.sc (.ints .i64 []),.svs []],.relab (fun _ _=>none) (fun _=>0) [(7,some (.one false (.cols 0 [.sc (.strs []),.sc (.ints .i64 []),.own 8 []]))),(8+0,some (.fam false (fun x=>x<0) (enF [])))] [] 1] ⟨g0q (n:=8) (a:=7) dC rfl,rfl,rfl,rfl,rfl,rfl,rfl,rfl,rfl,rfl,trivial⟩ (a0b (a0b (a0b (a0b (a0b (a0b (a0r a0c))))))))
end
section
attribute [local irreducible] sortI
theorem q0B {s:BA}:∀{n:Nat},o0F s n=true->∀k,k<n->wdP (a0d s (k:Int))
 |0,_,k,hk=>absurd hk (p1R _)
 |n+1,h,k,hk=>by
  simp only [o0F,n0M] at h;rcases Nat.lt_succ_iff_lt_or_eq.1 hk with h1|h1
  .exact q0B h.1 k h1
  simp_all
theorem l1h {p:BA} (h:nmB p=true):j0p (e0n p)=true:=by
 unfold nmB at h;simp only [n0M,decide_eq_true_eq] at h;have hz:(e0n p).size=6+p.size:=by unfold e0n;rw [k1o];rfl
 unfold j0p;rw [n0M,hz];refine ⟨decide_eq_true oM,?_⟩;rw [s1E];intro i hi;unfold n1Q;by_cases hi6:i<6
 .unfold e0n;rw [m0F (a:=a1c) (b:=p) (by trivial)];rcases (show i=0\/i=1\/i=2\/i=3\/i=4\/i=5 by omega) with rfl|rfl|rfl|rfl|rfl|rfl<;>decide
 .have e:=m0G (a:=a1c) (b:=p) (i:=i-6);grind [wdP,ltP,e0n,q0B]
theorem x0h:∀(L A:List BA),(A++L).Nodup->(∀a∈L,j0p a=true)->nmE A L=0
 | [],A,_,_=>rfl
 |a::L,A,h,hl=>by
  simp only [nmE];rw [if_neg (by simp_all)];have h1:a∉A:=fun hm=>by
   grind
  rw [if_neg (fun hi=>h1 (h0z.1 hi))];exact x0h L (A++ [a]) (by simp_all) (fun x hx=>hl x (s1n _ hx))
theorem u0V {L:List BA} (h:c0u L=0):a1d (L.map e0n)=0:=by
 obtain ⟨h1,h2,h3⟩:=i0L h;unfold a1d;rw [f1R,if_neg oM];refine x0h _ _ ?_ ?_
 .exact (List.Pairwise.map e0n (R:=fun a b=>a≠b) (S:=fun a b=>a≠b) (fun a b hab e=>hab (w0T e)) h2)
 .intro a ha;obtain ⟨p,hp,rfl⟩:=r1U.1 ha;exact l1h (h3 p hp)
def bkE (cur:BA) (days:Int) (H:List Int) (m:Nat) (cut:Int) (L:List BA):Int:=
 if days<1\/1000<days then 4 else if e0c cur=false then 11 else if s0s H m≠0 then s0s H m else cnE cut L
def bk1 (cur:BA) (days:Int) (H:List Int) (cut:Int) (L:List BA):Bks:=
 ⟨cur,days,0,[],cut,(ddS H).length,ddS H,L.length,L,0,[],[],0,[],lg0 (L.map e0n),0⟩
theorem o0S {cur:BA} {days:Int} {H:List Int} {m:Nat} {cut:Int} {L:List BA} (h:bkE cur days H m cut L=0):BkOk (bk1 cur days H cut L):=by
 unfold bkE at h;by_cases h1:days<1\/1000<days
 .omega
 rw [if_neg h1] at h;by_cases h2:e0c cur=false
 .simp_all
 rw [if_neg h2] at h;by_cases h3:s0s H m≠0
 .omega
 rw [if_neg h3] at h;unfold cnE at h;by_cases h4:cut<0\/86400<cut
 .omega
 rw [if_neg h4] at h;have hE:=u0V h;exact ⟨o1e hE,rfl,fun a c=>by show-(999999999999*((0:Nat):Int))<=0/\(0:Int)<=999999999999*((0:Nat):Int);omega,rfl,rfl,h,
  ⟨rfl,rfl,s1Z,fun i hi=>absurd hi (p1R _)⟩,rfl,rfl,b1f _,by show 1<=days/\days<=1000;omega,by show e0c cur=true;simp_all,by show (0:Int)<=0/\(0:Int)<=1099511627776;omega,m0c _,fun i hi=>absurd hi (p1R _)⟩
end
section
abbrev u8L (l:List Int):List UInt8:=l.map (fun x=>UInt8.ofNat x.toNat)
theorem c0I (l:List Int):(a0m l).data.toList=u8L l:=by rfl
theorem o1f {A B:BA} (h:A.data.toList=B.data.toList):A=B:=by
 cases A;simp_all
theorem c1T (k:Nat) (h:k<10):(UInt8.ofNat (((48+k:Nat):Int)).toNat).toNat=48+k:=by
 rw [show (((48+k:Nat):Int)).toNat=48+k from rfl,UInt8.toNat_ofNat'];omega
theorem u0W:∀(n u:Nat),u<10^n->∀(acc:Nat) (rest:List UInt8),acc*10^n+u<18446744073709551616->Lib.parseUint10 acc (u8L (c0P n u)++rest)=Lib.parseUint10 (acc*10^n+u) rest
 |0,u,h,acc,rest,_=>by
  simp_all [c0P]
 |n+1,u,h,acc,rest,hb=>by
  rw [t1T] at h hb;have e:acc*(10^n*10)=acc*10^n*10:=by grind
  have ih:=u0W n (u/10) oM acc (UInt8.ofNat (((48+u%10:Nat):Int)).toNat::rest) oM;simp only [c0P,n1q,n1w,s1Y,s1T,List.singleton_append] at ih⊢;rw [ih];have hd:=c1T (u%10) oM;simp only [Lib.parseUint10];grind
theorem i0X:∀(n u:Nat) (x:UInt8),x∈u8L (c0P n u)->48<=x.toNat/\x.toNat<=57
 |0,_,x,h=>by trivial
 |n+1,u,x,h=>by
  simp only [c0P,n1q,n1w,s1Y,k1q,b1h] at h;rcases h with h|rfl
  .exact i0X n _ x h
  .rw [c1T (u%10) oM];omega
theorem o1g (n:Nat) (h:n<9223372036854775808):Lib.parseIntB 64 (dec n).data.toList= .ok (n:Int):=by
 rw [Lib.parseIntB_64];unfold dec;rw [c0I];have hp:=u0W (b0z n) n (g0b n) 0 [] oM;have hl:(u8L (c0P (b0z n) n)).length=b0z n:=by rw [f1R,a0H]
 have h0:=f0h n;generalize u8L (c0P (b0z n) n)=l at*;cases l with
 |nil=>simp_all
 |cons c r=>
  grind [Lib.atoiAll,Lib.parseMag,Lib.parseUint10]
theorem o1h (n:Nat) (h:n<=9223372036854775808):Lib.parseIntB 64 (a0m (45::c0P (b0z n) n)).data.toList= .ok (-(n:Int)):=by
 rw [Lib.parseIntB_64,c0I];have hp:=u0W (b0z n) n (g0b n) 0 [] oM;rw [s1s,t1e,i1z] at hp;have hl:(u8L (c0P (b0z n) n)).length=b0z n:=by rw [f1R,a0H]
 have h0:=f0h n;have e:u8L (45::c0P (b0z n) n)=45::u8L (c0P (b0z n) n):=rfl;rw [e];generalize u8L (c0P (b0z n) n)=l at*;have hne:l≠[]:=fun q=>by simp_all
 simp only [Lib.atoiAll,Lib.parseMag];rw [if_pos (show (45:UInt8).toNat=43\/(45:UInt8).toNat=45 from .inr rfl),if_neg hne,hp];simp only [Lib.parseUint10];simp_all
theorem l1i {n:Int} (h1: -9223372036854775808<=n) (h2:n<=9223372036854775807):Lib.parseIntB 64 (b0i n).data.toList= .ok n:=by
 unfold b0i;split
 .have:=o1h n.natAbs oM;grind
 .rw [o1g n.toNat oM];grind
theorem c1U {s:BA} {c:UInt8} (h:∀k,k<s.size->a0d s (k:Int)≠(c.toNat:Int)):c∉s.data.toList:=by
 intro hm;obtain ⟨k,hk,e⟩:=t1K.1 hm;have hk2:k<s.size:=by trivial
 refine h k hk2 ?_;unfold a0d;simp_all
theorem o1i {s:BA} (h:auI s=true):(124:UInt8)∉s.data.toList:=by
 unfold auI at h;rw [n0M,s1E] at h;refine c1U fun k hk=> ?_
 grind [auC]
theorem o1j {s:BA} (h:nmB s=true):(124:UInt8)∉s.data.toList:=by
 unfold nmB at h;grind [wdP,ltP,c1U,q0B]
theorem g1H {s:BA} {u:Bool} {p:BA->Bool} (h:fiB s u p=true) (hp:p s=true->(124:UInt8)∉s.data.toList):(124:UInt8)∉s.data.toList:=by
 unfold fiB at h;cases u with
 |true=>simp_all
 |false=>have e:s=⟨#[]⟩:=of_decide_eq_true h;simp_all
theorem g1I (n:Int):(124:UInt8)∉(b0i n).data.toList:=by
 unfold b0i dec;split
 .intro hm;rcases f1I.1 (show (124:UInt8)∈(45:UInt8)::u8L (c0P (b0z n.natAbs) n.natAbs) from hm) with h|h
  .trivial
  .have:=i0X _ _ _ h;trivial
 .intro hm;have:=i0X _ _ _ hm;revert this;decide
theorem c1V {o:Bop} (h:CkOk o):Lib.countB (b0Z o) ⟨#[124]⟩=8/\Lib.splitB ⟨#[124]⟩ 0 8 (b0Z o)=c1P o:=by
 have hn:=h.n;unfold bkN at hn;refine o0R 124 (b0i o.k) [b0i o.t,o.id,o.au,o.is,o.ac,b0i o.am,b0i o.fe,if o.fi=true then ⟨#[49]⟩ else ⟨#[48]⟩] (g1I _) ?_;intro y hy;simp only [f1I] at hy;all_goals grind [g1I,g1H,o1i,o1j]
theorem f0q {P:Program} {l:n0K} {f:FuncId} {args:List SV} {vals:List Value} {r:SV} (hbd:d0C P f) (hv:∀g vs,Rvs g args vs->vs=vals) (hc:∀(g:G) w,g.glob->Holds g [(0,some (GB l))] w->Calls P f vals.toArray w (fun e w'=>∃v,e= .returned v/\(∀g',Rv g' r v)/\Below w.heap.size w w')):k0D P l f args r:=by
 refine Or.inl ⟨hbd,fun g w vs hg hu hH hvs=> ?_⟩;rw [hv g vs hvs];refine (hc g w hg hH).mono ?_;rintro e w' ⟨v,rfl,hr,hb⟩;refine ⟨v,rfl,r,[],1,g,rX,m0c _,hu,fun _ _ _=>rfl,hr g,⟨?_,?_⟩,a0c,⟨hb.os,hb.tape,hb.output,hb.size,fun k hk _=>hb.block k hk⟩,?_⟩
 .intro h q ro b he;obtain ⟨hb,e,_⟩:=he;trivial
 .intro h q h' q' b ro' b' β β' _ he;obtain ⟨hb,e,_⟩:=he;trivial
 .intro h q b β he;obtain ⟨hb,e,_⟩:=he;trivial
theorem c1W {l:n0K} {g:G} {w:World} {q t:Nat} (hg:g.glob) (hH:Holds g [(0,some (GB l))] w) (hq:a0M l q=some (0,[.ints .i64 [(t:Int)]])):∃u,w.cell? ⟨q,0,none⟩=some (.iface t u):=by
 have hb:r0g l q= .cells [.iface t .unk]:=by
  unfold r0g;rw [hq];rfl
 obtain ⟨β,hβ,hB⟩:=hH.blk 0 q true (r0g l q) ⟨GB l,rfl,⟨(by simp_all),rfl⟩,rfl⟩;rw [hb] at hB;obtain ⟨es,cap,he⟩:=hg q;rw [he] at hβ;cases hβ;obtain ⟨v,hv,hr⟩:=hB.cell 0 0 (.iface t .unk) rfl rfl;simp only [Rv] at hr;simp_all [Base.addr]
def piR (s:BA):SV:=match Lib.parseIntB 64 s.data.toList with
 | .ok v=> .tup [.int .i64 v,.nif]
 | .range=> .tup [.int .i64 (Lib.intSat 64 s.data.toList),.iface 360 .unk]
 |_=> .tup [.int .i64 0,.iface 360 .unk]
theorem q1A {g:G} {s:BA} {a b:Int} {vs:List Value} (h:Rvs g [.str s,.int .i64 a,.int .i64 b] vs):vs= [.string s,.int .i64 a,.int .i64 b]:=by
 simp only [Rvs,Rv] at h;simp_all
theorem q0C (s:BA) (hs:s.size<=100000):k0D prog glT 212 [.str s,.int .i64 10,.int .i64 64] (piR s):=by
 unfold piR;rcases h:Lib.parseIntB 64 s.data.toList with v|_|_
 .refine f0q (vals:= [.string s,.int .i64 10,.int .i64 64]) (c0G func212 (by rfl) (by rfl)) (fun g vs h=>q1A h) fun g w hg hH=>(Tryz.strconv_ParseInt_10_at64_ok s oM v h w).mono ?_
  rintro e w' ⟨rfl,hw⟩;refine ⟨_,rfl,fun g=>by simp [Rv,Rvs],?_⟩;rcases hw with rfl|⟨t,rfl⟩
  all_goals simp_all [Below.refl,Lib.bytesWorld_below]
 .refine f0q (vals:= [.string s,.int .i64 10,.int .i64 64]) (c0G func212 (by rfl) (by rfl)) (fun g vs h=>q1A h) fun g w hg hH=> ?_
  obtain ⟨u,hu⟩:=c1W (t:=380) hg hH (q:=4) rfl;refine (Tryz.strconv_ParseInt_10_at64_syntax s oM h _ w hu (.inr ⟨_,_,rfl⟩)).mono ?_;rintro e w' ⟨N,rfl,_,_,hb⟩;exact ⟨_,rfl,fun g=>by simp only [Rv,Rvs];grind,hb⟩
 .refine f0q (vals:= [.string s,.int .i64 10,.int .i64 64]) (c0G func212 (by rfl) (by rfl)) (fun g vs h=>q1A h) fun g w hg hH=> ?_
  obtain ⟨u,hu⟩:=c1W (t:=380) hg hH (q:=5) rfl;refine (Tryz.strconv_ParseInt_10_at64_range s oM h _ w hu (.inr ⟨_,_,rfl⟩)).mono ?_;rintro e w' ⟨N,rfl,_,_,hb⟩;exact ⟨_,rfl,fun g=>by simp only [Rv,Rvs];grind,hb⟩
def x0i:Bop:=⟨0,0,⟨#[]⟩,⟨#[]⟩,⟨#[]⟩,⟨#[]⟩,0,0,false⟩
def a0y (s0:Bks) (A:List Bop):Bks:=A.foldl doS s0
structure Ran (s0:Bks) (A:List Bop):Prop where
 ok:∀k,k<A.length->doE (a0y s0 (A.take k)) (A.getD k x0i)=0
theorem l1j (s0:Bks):Ran s0 []:=⟨fun k h=>absurd h (p1R _)⟩
theorem m0N (s0:Bks) (A:List Bop) (o:Bop):a0y s0 (A++ [o])=doS (a0y s0 A) o:=by
 unfold a0y;simp
theorem g1J {s0:Bks} {A:List Bop} {o:Bop} (h:Ran s0 A) (ho:doE (a0y s0 A) o=0):Ran s0 (A++ [o]):=by
 refine ⟨fun k hk=> ?_⟩;rw [s0c,m1T] at hk;by_cases e:k=A.length
 .simp_all
 .rw [t1x oM,List.getD,e1S oM];exact h.ok k oM
theorem u0X {s0:Bks} (h:BkOk s0):∀A,BkOk (a0y s0 A):=by
 intro A;unfold a0y;induction A generalizing s0 with
 |nil=>grind
 |cons o A ih=>exact ih (g1u h o)
theorem q1B {s:Bks} {o:Bop} (h:doE s o≠0):doS s o=s:=if_neg h
theorem z0l {s:Bks} {o:Bop} (h:doE s o=0):ckE o=0:=by
 grind [doE]
def dnO (s:BA):Option Int:=match Lib.parseIntB 64 s.data.toList with
 | .ok v=>if b0i v=s then some v else none
 |_=>none
def dnB (s:BA):Bool:=(dnO s).isSome
def dnV (s:BA):Int:=(dnO s).getD 0
theorem m0O {v:Int} (h1: -9223372036854775808<=v) (h2:v<=9223372036854775807):dnO (b0i v)=some v:=by
 unfold dnO;rw [l1i h1 h2];simp
theorem q0D {s:BA} {v:Int} (h:dnO s=some v):s=b0i v/\-9223372036854775808<=v/\v<=9223372036854775807:=by
 unfold dnO at h;split at h
 .rename_i u e;split at h
  .have hb:=Lib.parseIntB_bounds e;grind
  grind
 grind
theorem x0j (s:BA): -9223372036854775808<=dnV s/\dnV s<=9223372036854775807:=by
 grind [dnV,dnO,q0D]
def ptL (s:BA):List BA:=Lib.splitB ⟨#[124]⟩ 0 (Lib.countB s ⟨#[124]⟩) s
theorem x0k (c:BA):∀(k:Nat) (s:BA),∀x∈Lib.splitB c 0 k s,x.size<=s.size
 |0,s,x,h=>by
  simp_all [Lib.splitB_zero]
 |k+1,s,x,h=>by
  unfold Lib.splitB at h;split at h
  .simp_all
  .rcases f1I.1 h with rfl|h
   .rw [r1V];omega
   .have:=x0k c k _ x h;rw [r1V] at this;omega
theorem c1X (s:BA) (k:Nat):((ptL s).getD k ⟨#[]⟩).size<=s.size:=by
 by_cases h:k<(ptL s).length
 .rw [List.getD,m0b h];exact x0k _ _ _ _ (k1j h)
 .rw [List.getD,a1X oM];exact b1f _
def deP (X:List BA):Bop:=⟨dnV (X.getD 0 ⟨#[]⟩),dnV (X.getD 1 ⟨#[]⟩),X.getD 2 ⟨#[]⟩,X.getD 3 ⟨#[]⟩,X.getD 4 ⟨#[]⟩,X.getD 5 ⟨#[]⟩,dnV (X.getD 6 ⟨#[]⟩),dnV (X.getD 7 ⟨#[]⟩),seq (X.getD 8 ⟨#[]⟩) ⟨#[49]⟩⟩
def deF (X:List BA):Bool:=dnB (X.getD 0 ⟨#[]⟩)&&(dnB (X.getD 1 ⟨#[]⟩)&&(dnB (X.getD 6 ⟨#[]⟩)&&(dnB (X.getD 7 ⟨#[]⟩)&&(seq (X.getD 8 ⟨#[]⟩) ⟨#[48]⟩||seq (X.getD 8 ⟨#[]⟩) ⟨#[49]⟩))))
def deE (s:BA):Int:=if Lib.countB s ⟨#[124]⟩≠8 then 2 else if deF (ptL s)=false then 2 else ckE (deP (ptL s))
def deO (s:BA):Bop:=if deE s=0 then deP (ptL s) else x0i
theorem i1X {o:Bop} (h:ckE o=0):deE (b0Z o)=0/\deO (b0Z o)=o:=by
 have hO:=u0u h;obtain ⟨s1,s2⟩:=c1V hO;have hp:ptL (b0Z o)=c1P o:=by unfold ptL;simp_all
 have hk:=hO.k;have ht:=hO.t;have hf:=hO.f;have ha: -9223372036854775808<=o.am/\o.am<=9223372036854775807:=by
  have:=hO.a;grind [pmB]
 have n1:=m0O (v:=o.k) oM oM;have n2:=m0O (v:=o.t) oM oM;have n3:=m0O ha.1 ha.2;have n4:=m0O (v:=o.fe) oM oM;have q1:seq (if o.fi=true then (⟨#[49]⟩:BA) else ⟨#[48]⟩) ⟨#[49]⟩=o.fi:=by all_goals grind [seq]
 have q2:(seq (if o.fi=true then (⟨#[49]⟩:BA) else ⟨#[48]⟩) ⟨#[48]⟩||o.fi)=true:=by all_goals grind [seq]
 have hP:deP (c1P o)=o:=by
  show Bop.mk (dnV (b0i o.k)) (dnV (b0i o.t)) o.id o.au o.is o.ac (dnV (b0i o.am)) (dnV (b0i o.fe)) (seq (if o.fi=true then (⟨#[49]⟩:BA) else ⟨#[48]⟩) ⟨#[49]⟩)=o;unfold dnV;simp_all
 have hF:deF (c1P o)=true:=by
  show (dnB (b0i o.k)&&(dnB (b0i o.t)&&(dnB (b0i o.am)&&(dnB (b0i o.fe)&&(seq (if o.fi=true then (⟨#[49]⟩:BA) else ⟨#[48]⟩) ⟨#[48]⟩||seq (if o.fi=true then (⟨#[49]⟩:BA) else ⟨#[48]⟩) ⟨#[49]⟩)))))=true;unfold dnB;simp_all
 simp_all [deE,deO]
structure Rx (A:List Bop) (X:List BA):Prop where
 m:X.map deO=A
 e:∀t∈X,deE t=0
theorem Rx.len {A:List Bop} {X:List BA} (h:Rx A X):X.length=A.length:=by rw [<-h.m,f1R]
theorem Rx.at {A:List Bop} {X:List BA} (h:Rx A X) {k:Nat} (hk:k<A.length):deE (X.getD k ⟨#[]⟩)=0/\deO (X.getD k ⟨#[]⟩)=A.getD k x0i:=by
 have hl:=h.len;have hg:X[k]? =some (X.getD k ⟨#[]⟩):=by simp_all
 refine ⟨h.e _ (s1d hg),?_⟩;rw [<-h.m,List.getD,List.getD,f1Q];simp_all
theorem o1k:Rx [] []:=⟨rfl,fun t h=>absurd h s1O⟩
theorem Rx.app {A:List Bop} {X:List BA} (h:Rx A X) {B:List Bop} (hB:∀o∈B,ckE o=0):Rx (A++B) (X++B.map b0Z):=by
 refine ⟨?_,fun t ht=> ?_⟩
 .rw [n1q,h.m,u1S];congr 1;refine (u1n fun o ho=> ?_).trans (List.map_id _);exact (i1X (hB o ho)).2
 .rcases k1q.1 ht with q|q
  .exact h.e t q
  .obtain ⟨o,ho,rfl⟩:=r1U.1 q;exact (i1X (hB o ho)).1
def rpE (s:Bks):List BA->Int
 | []=>0
 |t::X=>if deE t≠0 then deE t else if doE s (deO t)≠0 then doE s (deO t) else rpE (doS s (deO t)) X
theorem o1l:∀(X:List BA) (s:Bks),rpE s X=0->Rx (X.map deO) X/\Ran s (X.map deO)
 | [],s,_=>⟨o1k,l1j s⟩
 |t::X,s,h=>by
  simp only [rpE] at h;split at h
  .omega
  split at h
  .omega
  rename_i h2;have h2:=t1C.1 h2;obtain ⟨a,b⟩:=o1l X _ h;refine ⟨⟨rfl,fun x hx=> ?_⟩,⟨fun k hk=> ?_⟩⟩
  .rcases f1I.1 hx with rfl|hx
   .omega
   .exact a.e x hx
  .cases k with
   |zero=>exact h2
   |succ k=>exact b.ok k (by simp_all)
theorem c1Y:∀(X:List BA) (s:Bks) (k:Nat),(∀j,j<k->deE (X.getD j ⟨#[]⟩)=0/\doE (a0y s ((X.take j).map deO)) (deO (X.getD j ⟨#[]⟩))=0)->k<X.length->
  rpE s X=rpE (a0y s ((X.take k).map deO)) (X.drop k)
 |X,s,0,_,_=>rfl
 | [],s,k+1,_,hk=>absurd hk (p1R _)
 |t::X,s,k+1,h,hk=>by
  obtain ⟨h1,h2⟩:=h 0 (Nat.succ_pos _);have e:rpE s (t::X)=rpE (doS s (deO t)) X:=by simp only [rpE];rw [if_neg (fun q=>q h1),if_neg (fun q=>q h2)]
  rw [e];exact c1Y X _ k (fun j hj=>h (j+1) oM) (by simpa using hk)
theorem c1Z (X:List BA) (s:Bks) (h:∀j,j<X.length->deE (X.getD j ⟨#[]⟩)=0/\doE (a0y s ((X.take j).map deO)) (deO (X.getD j ⟨#[]⟩))=0):rpE s X=0:=by
 induction X generalizing s with
 |nil=>rfl
 |cons t X ih=>
  obtain ⟨h1,h2⟩:=h 0 (Nat.succ_pos _);simp only [rpE];rw [if_neg (fun q=>q h1),if_neg (fun q=>q h2)];exact ih _ (fun j hj=>h (j+1) (by simp_all))
theorem o1m (X:List BA) (s:Bks) {k:Nat} (hk:k<X.length) (h:∀j,j<k->deE (X.getD j ⟨#[]⟩)=0/\doE (a0y s ((X.take j).map deO)) (deO (X.getD j ⟨#[]⟩))=0):
  rpE s X=if deE (X.getD k ⟨#[]⟩)≠0 then deE (X.getD k ⟨#[]⟩) else if doE (a0y s ((X.take k).map deO)) (deO (X.getD k ⟨#[]⟩))≠0 then doE (a0y s ((X.take k).map deO)) (deO (X.getD k ⟨#[]⟩)) else rpE (a0y s ((X.take (k+1)).map deO)) (X.drop (k+1)):=by
 rw [c1Y X s k h hk];have e:X.drop k=X.getD k ⟨#[]⟩::X.drop (k+1):=by
  simp_all
 have e2:doS (a0y s ((X.take k).map deO)) (deO (X.getD k ⟨#[]⟩))=a0y s ((X.take (k+1)).map deO):=by
  rw [<-m0N,s1c,m0b hk,List.getD,m0b hk,n1q];rfl
 grind [rpE]
end
section
attribute [local irreducible] sortI
theorem s0I (s:BA) (c:UInt8) (k:Nat) (hs:s.size<=100000) (hk:Lib.countB s ⟨#[c]⟩=k):
  FC prog 1 211 [.str s,.str ⟨#[c]⟩,.int .i64 0,.int .i64 (-1)] [] (a0g (.sl 1 0 0 (k+1)) [(1,some (.one false (.cols (k+1) [.sc (.strs (Lib.splitB ⟨#[c]⟩ 0 k s))])))] 2):=by
 have hle:=Lib.countB_le ⟨#[c]⟩ (m0c 1) s.size s (m0c _);have hlen:(Lib.splitB ⟨#[c]⟩ 0 k s).length=k+1:=Lib.splitB_all ⟨#[c]⟩ (m0c 1) 0 _ s hk;have key:=g1j (P:=prog) (f:=211) (args:= [.str s,.str ⟨#[c]⟩,.int .i64 0,.int .i64 (-1)]) (vals:= [.string s,.string ⟨#[c]⟩,.int .i64 0,.int .i64 (-1)]) (Lib.splitB ⟨#[c]⟩ 0 k s) (Tryz.lays146_ren.t 9)
  (c0G func211 (by rfl) (by rfl)) (fun g vs h=>by
   simp only [Rvs,Rv] at h;simp_all) (fun w=>by
   have h:=Any.strings_genSplit_core { Tryz.lays146 with} (by rfl) s ⟨#[c]⟩ 0 (-1) (k+1) w oM (m0c 1) (b1f _)
    (fun x cs hx=>by
     refine (Any.strings_Index_one { Tryz.lays146 with} x c _).mono ?_;grind [Lib.index_one])
    (by
     refine (Any.strings_Count_one { Tryz.lays146 with} s c w).mono ?_;rintro e w' ⟨rfl,rfl⟩;refine ⟨?_,rfl⟩;show _=Ending.returned (Value.int .i64 ((Lib.count s.data.toList [c]:Nat):Int));rw [Lib.count_one];rfl)
    (by simp) (by simp) oM
   refine h.mono ?_;simp_all [Lib.cellsOf])
 rw [hlen] at key;exact key
theorem s0J (s:BA) (c:UInt8) (k:Nat) (hs:s.size<=100000) (hk:Lib.countB s ⟨#[c]⟩=k):
  FC prog 1 170 [.str s,.str ⟨#[c]⟩] [] (a0g (.sl 1 0 0 (k+1)) [(1,some (.one false (.cols (k+1) [.sc (.strs (Lib.splitB ⟨#[c]⟩ 0 k s))])))] 2):=by
 have c1:=s0I s c k hs hk;let l:=[0];let R:=[0,1];exact Wx func170
end
end Go.Proofs.YtmnjebhdclmcfaaGreatDoor
