/- Several texts in one: Bp4 BooksPlaysC. -/
import Derived.Test.YtpkaeknigknbgaaGreatDoorP7
set_option linter.unusedVariables false
set_option linter.unusedSimpArgs false
set_option maxRecDepth 100000
namespace Go.Sy
abbrev j1I:=@ByteArray.append_assoc
end Go.Sy
namespace Go.Proofs.YtpkaeknigknbgaaGreatDoor
open Go.RowKit Go.Sy
section
attribute [local irreducible] a0q a0r a0j a0R sortI
attribute [local irreducible] seq ByteArray.extract
abbrev rbC (ro:Bool) (a m:Nat) (s:Bks):Option HB:=some (.one ro (.cells [.sl 2 0 0 s.np,.str s.cur,.sl 3 0 0 m,.int .i64 s.cut,.int .i64 s.days,.sl a 0 0 s.na,.ptr 5 0 0 0,.ptr 9 0 0 0,.int .i64 s.last]))
abbrev f1J (e f:Nat) (lg:Lg):a0h:= [(5,rlC false 6 e lg),(e,rlE false f lg),(f,c0n false lg)]
abbrev f1m (h1 h2 h3 h4 np:Nat) (cut:Int) (L:List Rc):a0h:= [(9,d1M false 10 11 h1 np L.length cut),(h1,rgP false h2 L.length),(h2,fmB false L.length (g6 L h3)),(h3,fmB false L.length (g7q 11 L h4 np)),(h4,fmB false L.length (g8 L))]
abbrev g1l (a e f h1 h2 h3 h4 m:Nat) (s:Bks) (L:List Rc):a0h:=
 (1,rbC false a m s)::(a,some (.one false (auB s.na s.au)))::(6,rlA false s.lg)::(10,rcC false 3 m)::(11,cyP false s.np s.pr)::(f1J e f s.lg++f1m h1 h2 h3 h4 s.np s.cut L)
abbrev x0t (m:Nat) (H:List Int) (s:Bks) (L:List Rc):a0h:=(3,inB m H)::g1l 4 7 8 12 13 14 15 m s L
abbrev x0u (m:Nat) (s:Bks) (L:List Rc):a0h:=g1l 16 17 18 19 20 21 22 m s L
theorem d1s {h1 h2 h3 h4 np:Nat} {cut:Int} {L:List Rc}:d0A (f1m h1 h2 h3 h4 np cut L):=a0c (a0c (a0u (a0u (a0u a0b))))
theorem q0J {e f h1 h2 h3 h4 np:Nat} {cut:Int} {lg:Lg} {L:List Rc}:d0A (f1J e f lg++f1m h1 h2 h3 h4 np cut L):=a0c (a0c (a0u d1s))
theorem a0L {a e f h1 h2 h3 h4 m:Nat} {s:Bks} {L:List Rc}:d0A (g1l a e f h1 h2 h3 h4 m s L):=a0c (a0c (a0c (a0c (a0c q0J))))
structure RbI (m:Nat) (H:List Int) (s:Bks) (L:List Rc) (k:Nat):Prop where
 ok:BkOk s
 hm:H.length=m
 m4:m<=100000
 hs:s.hs=ddS H
 ci:Cpi s.pr s.ds s.cd s.B L k
 po:∀e∈s.lg.ent,poM e.ps
 dg:s.lg.dig=w0n s.lg.ent
theorem q0K (s:Lg):FC Tryz.prog 5 98 [.ptr 1 0 0 0] [(1,rlC true 2 3 s)] (a0f (.sl 3 0 0 s.ne) [] 5):=by
 refine fEx Tryz.func98 ?_;repeat' ((conv=>whnf);first|refine a0a ?_|(apply bRx<;>intro h<;>try (exfalso;(try dsimp only at h);omega)))
 all_goals (conv=>whnf)
 all_goals first
  |exact rOx [0,1,2,3,4] a0b
  |trace_state
theorem f0I (m:Nat) (s:Bks) (h:BkOk s) (id:ByteArray):FC Tryz.prog 16 33 [.ptr 1 0 0 0,.str id] [(1,rbC true 4 m s),(4,some (.one true (auB s.na s.au)))] (a0f (.int .i64 (if s.pl id<s.na then (s.pl id:Int) else-1)) [] 16):=by
 have hna:=h.na;have h256:=h.n256;have hl:s.aid.length=s.na:=by show (s.au.map Au.id).length=_;rw [b1M,hna]
 refine fEx Tryz.func33 ?_;repeat' ((conv=>whnf);first|refine a0a ?_|(apply bRx<;>intro h<;>try (exfalso;(try dsimp only at h);omega)))
 all_goals (conv=>whnf)
 refine a0o (fun k:Nat=>⟨[(0,.ptr 1 0 0 0),(1,.str id),(5,.int .i64 k)],[(1,rbC true 4 m s),(4,some (.one true (auB s.na s.au)))],16⟩) (fun k=>k<=s.na/\∀j,j<k->¬s.aid.getD j ⟨#[]⟩=id) (fun k=>s.na-k) 0 [0,1,2,3,4,5,6,7,8,9,10,11,12,13,14,15] [] wHx ⟨z0h _,fun j hj=>absurd hj (h1E _)⟩ ?_;rintro k ⟨hk,hlo⟩;by_cases hk2:k<s.na
 .by_cases he:s.aid.getD k ⟨#[]⟩=id
  .have e:s.pl id=k:=f0Z (k:=k) (by omega) he hlo;rw [e,if_pos hk2];have he':(s.au.map Au.id).getD ((k:Int).toNat+0) ⟨#[]⟩=id:=he;repeat' ((conv=>whnf);first|refine a0a ?_|(apply bRx<;>intro h<;>try (exfalso;(try dsimp only at h);omega)))
   all_goals (conv=>whnf)
   all_goals first
    |(exfalso;omega)
    |(exfalso;exact h he)
    |exact rOx [0,1,2,3,4,5,6,7,8,9,10,11,12,13,14,15] a0b
    |trace_state
  .have he':¬(s.au.map Au.id).getD ((k:Int).toNat+0) ⟨#[]⟩=id:=he;repeat' ((conv=>whnf);first|refine a0a ?_|(apply bRx<;>intro h<;>try (exfalso;(try dsimp only at h);omega)))
   all_goals (conv=>whnf)
   all_goals first
    |(exfalso;omega)
    |(exfalso;exact he h)
    |exact ⟨k+1,[0,1,2,3,4,5,6,7,8,9,10,11,12,13,14,15],[],⟨hk2,fun j hj=>by
      by_cases q:j=k
      .rw [q];exact he
      .exact hlo j (by omega)⟩,(show s.na-(k+1)<s.na-k by omega),⟨rfl,⟨rfl,rfl,congrArg (fun z=>some (SV.int .i64 z)) (a0i (by omega)),trivial⟩,⟨rfl,rfl,trivial⟩⟩⟩
    |trace_state
 .have e:k=s.na:=by omega
  have hin:¬s.pl id<s.na:=fun q=>hlo (s.pl id) (by omega) (d0f s.aid (by rw [hl];exact q))
  rw [if_neg hin];repeat' ((conv=>whnf);first|refine a0a ?_|(apply bRx<;>intro h<;>try (exfalso;(try dsimp only at h);omega)))
  all_goals (conv=>whnf)
  all_goals first
   |(exfalso;omega)
   |exact rOx [0,1,2,3,4,5,6,7,8,9,10,11,12,13,14,15] a0b
   |trace_state
def roE (s:Bks) (id:ByteArray):Int:=if inL id s.lg.ids then 15 else if 512<=s.lg.ne then 12 else 0
theorem n0g (m:Nat) (s:Bks) (h:BkOk s) (id:ByteArray):FC Tryz.prog 16 69 [.ptr 1 0 0 0,.str id] [(1,rbC true 4 m s),(5,rlC true 6 7 s.lg),(7,rlE true 8 s.lg)] (a0f (.int .i64 (roE s id)) [] 16):=by
 have c1:=o0F s.lg h.lg id;have c2:=q0K s.lg;unfold roE;by_cases hi:inL id s.lg.ids
 .rw [if_pos hi,decide_eq_true hi] at c1;rw [if_pos hi];refine fEx Tryz.func69 ?_;repeat' ((conv=>whnf);first|refine cOx (l:= [0,5,6,7,8]) c1 ?_|refine cOx (l:= [0,5,6,7,8]) c2 ?_|refine a0a ?_|(apply bRx<;>intro h<;>try (exfalso;(try dsimp only at h);omega)))
  all_goals (conv=>whnf)
  all_goals first
   |exact rOx [0,1,2,3,4,5,6,7,8,9,10,11,12,13,14,15] a0b
   |trace_state
 .rw [if_neg hi,decide_eq_false hi] at c1;rw [if_neg hi];by_cases h5:512<=s.lg.ne
  .rw [if_pos h5];refine fEx Tryz.func69 ?_;repeat' ((conv=>whnf);first|refine cOx (l:= [0,5,6,7,8]) c1 ?_|refine cOx (l:= [0,5,6,7,8]) c2 ?_|refine a0a ?_|(apply bRx<;>intro h<;>try (exfalso;(try dsimp only at h);omega)))
   all_goals (conv=>whnf)
   all_goals first
    |(exfalso;omega)
    |exact rOx [0,1,2,3,4,5,6,7,8,9,10,11,12,13,14,15] a0b
    |trace_state
  .rw [if_neg h5];refine fEx Tryz.func69 ?_;repeat' ((conv=>whnf);first|refine cOx (l:= [0,5,6,7,8]) c1 ?_|refine cOx (l:= [0,5,6,7,8]) c2 ?_|refine a0a ?_|(apply bRx<;>intro h<;>try (exfalso;(try dsimp only at h);omega)))
   all_goals (conv=>whnf)
   all_goals first
    |(exfalso;omega)
    |exact rOx [0,1,2,3,4,5,6,7,8,9,10,11,12,13,14,15] a0b
    |trace_state
end
section
attribute [local irreducible] a0q a0r a0j a0R sortI
attribute [local irreducible] seq ByteArray.extract
abbrev owH (m:Nat) (H:List Int) (s:Bks) (L:List Rc):a0h:=(1,rbC true 4 m s)::(3,inB m H)::(6,rlA true s.lg)::(10,rcC true 3 m)::(11,cyP true s.np s.pr)::(f1J 7 8 s.lg++f1m 12 13 14 15 s.np s.cut L)
abbrev g1H (lg:Lg) (np:Nat) (cut:Int) (L:List Rc):a0h:=f1J 16 17 lg++f1m 18 19 20 21 np cut L
section
variable (m:Nat) (H:List Int) (s:Bks) (L:List Rc) (k:Nat) (h:RbI m H s L k) (hk:k<=60) (o:Bop)
include h hk
theorem b1j (t:Int) (f g:ByteArray) (n:Int):Cpi s.pr s.ds s.cd s.B L k/\FC Tryz.prog 9 99 [.ptr 1 0 0 0,.int .i64 t,.str f,.str g,.agg [.int .i64 n,.str s.cur]] (f1H s.np L.length m s.cut H L s.pr) (a0f (.tup [.int .i64 (if owX s t f g n=0 then bkD s t else 0),.int .i64 (owX s t f g n)]) (rgH 9 10 11 12 s.np (p0k L s.pr s.np (bkD s t) f g s.cur n).length s.cut (p0k L s.pr s.np (bkD s t) f g s.cur n)) 13):=by
 have hci:=h.ci;have hlen:=hci.r.len;have he:=h.ok.err;have hnp:=(h0k he).1;have hp:=h.ok.np;have hsz2:∀k,(s.pr.getD k ⟨#[]⟩).size<=9223372036854775807:=fun k=>by
  by_cases hk:k<s.pr.length
  .have hm:s.pr.getD k ⟨#[]⟩∈s.pr:=by rw [List.getD,j0I hk];exact b1P hk
   have:=f0m ((h0k he).2.2 _ hm);omega
  .rw [List.getD,p0J (by omega)];exact (by decide:(0:Nat)<=9223372036854775807)
 have c2:=z0S (np:=s.np) (rfl:L.length=L.length) (by omega) hci.r.nd h.hm h.m4 hp he hsz2 (by omega) (fun d=>by have:=hci.r.rl d;omega) (fun d=>hci.net he d) s.cut t f g s.cur n;rw [hci.D] at c2;have hD:mvD H s.cd (ofI H s.cut t)=bkD s t:=by
  unfold bkD;rw [h.hs,e1S,f1h]
 rw [hD] at c2;have hX:=hci.X he s.hs (bkD s t) f g s.cur n;rw [hp] at hX;unfold f1b at c2;rw [hX] at c2;exact ⟨hci,c2⟩
theorem h0Y (f g:ByteArray) (n:Int) (hx:owX s o.t f g n≠0):∃L',Cpi s.pr s.ds s.cd s.B L' (k+1)/\FC Tryz.prog 16 70 [.ptr 1 0 0 0,o.s,.str f,.str g,.int .i64 n] (owH m H s L) (a0f (.int .i64 (owX s o.t f g n)) (g1H s.lg s.np s.cut L') 22):=by
 obtain ⟨hci,c1⟩:=b1j m H s L k h hk o.t f g n;have hN:=hci.move_no h.ok.err s.hs (bkD s o.t) f g s.cur n hx;rw [h.ok.np] at hN;refine ⟨_,hN,?_⟩;clear hN hci;generalize p0k L s.pr s.np (bkD s o.t) f g s.cur n=L2 at*;rw [if_neg hx] at c1;generalize owX s o.t f g n=E at*;refine fEx Tryz.func70 ?_;repeat' ((conv=>whnf);first|refine cOx (l:= [0,9,10,3,11,12,13,14,15]) c1 ?_|refine a0a ?_|(apply bRx<;>intro h<;>try (exfalso;(try dsimp only at h);omega)))
 all_goals (conv=>whnf)
 all_goals first
  |exact rOx [0,1,2,3,4,5,6,7,8,9,10,11,12,13,14,15,7,8,18,19,20,21] q0J
  |(exfalso;omega)
  |(exfalso;exact hx h)
  |trace_state
theorem h0Z (hc:CkOk o) (hk4:o.k=4\/o.k=5\/o.k=6) (hi:¬inL o.id s.lg.ids) (hf:¬512<=s.lg.ne) (hx:owX s o.t (mtF o) (mtG o) (mtN o)=0):
  ∃L',RbI m H (owS s o) L' (k+1)/\FC Tryz.prog 16 70 [.ptr 1 0 0 0,o.s,.str (mtF o),.str (mtG o),.int .i64 (mtN o)] (owH m H s L) (a0f (.int .i64 0) (g1H (lgP s.lg (enB s o)) s.np s.cut L') 22):=by
 obtain ⟨hci,c1⟩:=b1j m H s L k h hk o.t (mtF o) (mtG o) (mtN o);have hN:=hci.move h.ok.err (by omega) s.hs (bkD s o.t) (mtF o) (mtG o) s.cur (mtN o) hx;rw [h.ok.np] at hN;obtain ⟨hp,hne⟩:=d1j h.ok hc hk4 hi hf hx;obtain ⟨b1,b2,b3⟩:=s0r h.ok.bks h.ok.np h.ok.err (bkD s o.t);obtain ⟨m1,m2,m3,m4,m5,m6⟩:=n0e hx b3 b1.psl;have hb:=k0A hc hk4;obtain ⟨w1,w2,w3⟩:=h0k h.ok.err;have z1:=f0m (w3 _ m3);have z2:=f0m (w3 _ m4);have hpm:poM (enB s o).ps:=by
  intro x hx;simp only [enB,v0e,h1l,or_false] at hx;rcases hx with rfl|rfl<;>dsimp only<;>omega
 refine ⟨_,⟨f1l h.ok hc hk4 hi hf hx,h.hm,h.m4,h.hs,hN,?_,?_⟩,?_⟩
 .intro e he;rcases e1n.1 (show e∈s.lg.ent++ [enB s o] from he) with he|he
  .exact h.po e he
  .rw [y0E.1 he];exact hpm
 .show chI s.lg.dig (leT (enB s o) (enB s o).np)=w0n (s.lg.ent++ [enB s o]);rw [s0b,h.dg]
 have c3:=w0R o.t;have c5:=z0s s.lg h.ok.lg h.po o.id (g0m o.t) (enB s o).ps 2 rfl hp hpm;have hneg:IntKind.i64.wrap (0-mtN o)= -mtN o:=by rw [a0m (by omega) (by omega)];omega
 have hz1:p0c.size+(mtF o).size<=9223372036854775807:=by have:p0c.size=6:=rfl;omega
 have hz2:p0c.size+(mtG o).size<=9223372036854775807:=by have:p0c.size=6:=rfl;omega
 change FC _ _ _ _ _ (a0f _ [(1,rlC false 2 6 (lgP s.lg (enB s o))),(6,rlE false 7 (lgP s.lg (enB s o))),(7,c0n false (lgP s.lg (enB s o)))] _) at c5;unfold enB at c5;dsimp only at c5;change FC _ _ _ _ _ (a0f _ [(1,rlC false 2 6 (lgP s.lg (enB s o))),(6,rlE false 7 (lgP s.lg (enB s o))),(7,c0n false (lgP s.lg (enB s o)))] _) at c5;rw [if_pos hx,hx] at c1;clear hN hci hx m1 m2 m3 m4 m5 m6;generalize lgP s.lg (enB s o)=S' at*;generalize p0k L s.pr s.np (bkD s o.t) (mtF o) (mtG o) s.cur (mtN o)=L2 at*;generalize bkD s o.t=D at*;generalize mtF o=F at*;generalize mtG o=G at*;generalize mtN o=N at*;generalize g0m o.t=dd at*;generalize w0p o.t=ds at*;refine fEx Tryz.func70 ?_;repeat' ((conv=>whnf);first|refine cOx (l:= [0,9,10,3,11,12,13,14,15]) c1 ?_|refine cPx c3 ?_|(rw [hneg])|(refine a0g hz1 ?_)|(refine a0g hz2 ?_)|refine cOx (l:= [0,5,6,7,8,22]) c5 ?_|refine a0a ?_|(apply bRx<;>intro h<;>try (exfalso;(try dsimp only at h);omega)))
 all_goals (conv=>whnf)
 all_goals first
  |(exfalso;omega)
  |(exfalso;exact h rfl)
  |exact rOx [0,1,2,3,4,5,6,7,8,9,10,11,12,13,14,15,23,24,18,19,20,21] q0J
  |trace_state
end
end
section
attribute [local irreducible] a0q a0r a0j a0R sortI
attribute [local irreducible] seq ByteArray.extract lgE
theorem x0v {s:Bks} {o:Bop} (h:BkOk s) (hc:CkOk o):IntKind.i64.wrap (o.t+IntKind.i64.wrap (86400*s.days))=k0E s o.t:=by
 have h1:=h.days;have h2:=hc.t;unfold k0E;rw [a0m (n:=86400*s.days) (by omega) (by omega),a0m (by omega) (by omega)];omega
theorem q0L (m:Nat) (s:Bks) (o:Bop) (h:BkOk s) (hc:CkOk o) (hk:o.k=2):FC Tryz.prog 16 72 [.ptr 1 0 0 0,o.s] [(1,rbC true 4 m s),(4,some (.one false (auB s.na s.au)))] (a0f (.int .i64 (d0l s o)) [(4,some (.one false (auB s.na (if d0l s o=0 then (f0L s o).au else s.au))))] 16):=by
 have c0:=f0I m s h o.au;have c2:=v0A (b0j s.au (s.pl o.au)) o.am (max (b0j s.au (s.pl o.au)).unt (k0E s o.t));have hA:s0q s o=d0r (b0j s.au (s.pl o.au)) o.am (max (b0j s.au (s.pl o.au)).unt (k0E s o.t)):=by unfold s0q;rw [if_pos hk]
 have he1:IntKind.i64.wrap (o.t+IntKind.i64.wrap (86400*s.days))=k0E s o.t:=x0v h hc;unfold d0l f0L;by_cases hp:s.pl o.au<s.na
 .rw [if_pos hp] at c0;rw [if_pos hp,hA];unfold b0j at c2;try dsimp only at c2
  generalize hN:d0r (b0j s.au (s.pl o.au)) o.am (max (b0j s.au (s.pl o.au)).unt (k0E s o.t))=N at*;unfold b0j at hN;rw [hN] at c2;obtain ⟨a,e⟩:=N;dsimp only at c2⊢;by_cases he:e=0
  .rw [if_pos he];subst he;have hap:=f0k s.na s.au (s.pl o.au) a;refine fEx Tryz.func72 ?_;repeat' ((conv=>whnf);first|(rw [he1])|refine cOx (l:= [0,1,2,3,4,5,6,7,8,9,10,11,12,13,14,15]) c0 ?_|refine cPx c2 ?_|refine a0a ?_|(apply bRx<;>intro h<;>try (exfalso;(try dsimp only at h);omega)))
   all_goals (conv=>whnf)
   all_goals first
    |(exfalso;omega)
    |(exfalso;exact h rfl)
    |exact a0H (l:= [0,1,2,3,4,5,6,7,8,9,10,11,12,13,14,15]) rfl rfl ⟨congrArg (fun z=>some (HB.one false z)) hap,trivial⟩ (a0c a0b)
    |trace_state
  .rw [if_neg he];refine fEx Tryz.func72 ?_;repeat' ((conv=>whnf);first|(rw [he1])|refine cOx (l:= [0,1,2,3,4,5,6,7,8,9,10,11,12,13,14,15]) c0 ?_|refine cPx c2 ?_|refine a0a ?_|(apply bRx<;>intro h<;>try (exfalso;(try dsimp only at h);omega)))
   all_goals (conv=>whnf)
   all_goals first
    |exact rOx [0,1,2,3,4,5,6,7,8,9,10,11,12,13,14,15] (a0c a0b)
    |(exfalso;omega)
    |(exfalso;exact he h)
    |trace_state
 .rw [if_neg hp] at c0;rw [if_neg hp,if_neg (by decide)];refine fEx Tryz.func72 ?_;repeat' ((conv=>whnf);first|refine cOx (l:= [0,1,2,3,4,5,6,7,8,9,10,11,12,13,14,15]) c0 ?_|refine a0a ?_|(apply bRx<;>intro h<;>try (exfalso;(try dsimp only at h);omega)))
  all_goals (conv=>whnf)
  all_goals first
   |exact rOx [0,1,2,3,4,5,6,7,8,9,10,11,12,13,14,15] (a0c a0b)
   |(exfalso;omega)
   |trace_state
theorem q0M (m:Nat) (s:Bks) (o:Bop) (h:BkOk s) (hc:CkOk o) (hk:o.k=3):FC Tryz.prog 16 72 [.ptr 1 0 0 0,o.s] [(1,rbC true 4 m s),(4,some (.one false (auB s.na s.au)))] (a0f (.int .i64 (d0l s o)) [(4,some (.one false (auB s.na (if d0l s o=0 then (f0L s o).au else s.au))))] 16):=by
 have c0:=f0I m s h o.au;have c2:=p0X (b0j s.au (s.pl o.au)) o.am;have hA:s0q s o=((b0g (b0j s.au (s.pl o.au)) o.am).1,(b0g (b0j s.au (s.pl o.au)) o.am).2.2):=by unfold s0q;rw [if_neg (by omega),if_pos hk]
 unfold d0l f0L;by_cases hp:s.pl o.au<s.na
 .rw [if_pos hp] at c0;rw [if_pos hp,hA];unfold b0j at c2;try dsimp only at c2
  generalize hN:b0g (b0j s.au (s.pl o.au)) o.am=N at*;unfold b0j at hN;rw [hN] at c2;obtain ⟨a,r,e⟩:=N;dsimp only at c2⊢;by_cases he:e=0
  .rw [if_pos he];subst he;have hap:=f0k s.na s.au (s.pl o.au) a;refine fEx Tryz.func72 ?_;repeat' ((conv=>whnf);first|refine cOx (l:= [0,1,2,3,4,5,6,7,8,9,10,11,12,13,14,15]) c0 ?_|refine cPx c2 ?_|refine a0a ?_|(apply bRx<;>intro h<;>try (exfalso;(try dsimp only at h);omega)))
   all_goals (conv=>whnf)
   all_goals first
    |(exfalso;omega)
    |(exfalso;exact h rfl)
    |exact a0H (l:= [0,1,2,3,4,5,6,7,8,9,10,11,12,13,14,15]) rfl rfl ⟨congrArg (fun z=>some (HB.one false z)) hap,trivial⟩ (a0c a0b)
    |trace_state
  .rw [if_neg he];refine fEx Tryz.func72 ?_;repeat' ((conv=>whnf);first|refine cOx (l:= [0,1,2,3,4,5,6,7,8,9,10,11,12,13,14,15]) c0 ?_|refine cPx c2 ?_|refine a0a ?_|(apply bRx<;>intro h<;>try (exfalso;(try dsimp only at h);omega)))
   all_goals (conv=>whnf)
   all_goals first
    |exact rOx [0,1,2,3,4,5,6,7,8,9,10,11,12,13,14,15] (a0c a0b)
    |(exfalso;omega)
    |(exfalso;exact he h)
    |trace_state
 .rw [if_neg hp] at c0;rw [if_neg hp,if_neg (by decide)];refine fEx Tryz.func72 ?_;repeat' ((conv=>whnf);first|refine cOx (l:= [0,1,2,3,4,5,6,7,8,9,10,11,12,13,14,15]) c0 ?_|refine a0a ?_|(apply bRx<;>intro h<;>try (exfalso;(try dsimp only at h);omega)))
  all_goals (conv=>whnf)
  all_goals first
   |exact rOx [0,1,2,3,4,5,6,7,8,9,10,11,12,13,14,15] (a0c a0b)
   |(exfalso;omega)
   |trace_state
theorem q0N (m:Nat) (s:Bks) (o:Bop) (h:BkOk s) (hc:CkOk o) (hk:o.k=7):FC Tryz.prog 16 72 [.ptr 1 0 0 0,o.s] [(1,rbC true 4 m s),(4,some (.one false (auB s.na s.au)))] (a0f (.int .i64 (d0l s o)) [(4,some (.one false (auB s.na (if d0l s o=0 then (f0L s o).au else s.au))))] 16):=by
 have c0:=f0I m s h o.au;have c2:=t0v (b0j s.au (s.pl o.au)) o.t;have hA:s0q s o=((b0M (b0j s.au (s.pl o.au)) o.t).1,(b0M (b0j s.au (s.pl o.au)) o.t).2.2):=by unfold s0q;rw [if_neg (by omega),if_neg (by omega)]
 unfold d0l f0L;by_cases hp:s.pl o.au<s.na
 .rw [if_pos hp] at c0;rw [if_pos hp,hA];unfold b0j at c2;try dsimp only at c2
  generalize hN:b0M (b0j s.au (s.pl o.au)) o.t=N at*;unfold b0j at hN;rw [hN] at c2;obtain ⟨a,r,e⟩:=N;dsimp only at c2⊢;by_cases he:e=0
  .rw [if_pos he];subst he;have hap:=f0k s.na s.au (s.pl o.au) a;refine fEx Tryz.func72 ?_;repeat' ((conv=>whnf);first|refine cOx (l:= [0,1,2,3,4,5,6,7,8,9,10,11,12,13,14,15]) c0 ?_|refine cPx c2 ?_|refine a0a ?_|(apply bRx<;>intro h<;>try (exfalso;(try dsimp only at h);omega)))
   all_goals (conv=>whnf)
   all_goals first
    |(exfalso;omega)
    |(exfalso;exact h rfl)
    |exact a0H (l:= [0,1,2,3,4,5,6,7,8,9,10,11,12,13,14,15]) rfl rfl ⟨congrArg (fun z=>some (HB.one false z)) hap,trivial⟩ (a0c a0b)
    |trace_state
  .rw [if_neg he];refine fEx Tryz.func72 ?_;repeat' ((conv=>whnf);first|refine cOx (l:= [0,1,2,3,4,5,6,7,8,9,10,11,12,13,14,15]) c0 ?_|refine cPx c2 ?_|refine a0a ?_|(apply bRx<;>intro h<;>try (exfalso;(try dsimp only at h);omega)))
   all_goals (conv=>whnf)
   all_goals first
    |exact rOx [0,1,2,3,4,5,6,7,8,9,10,11,12,13,14,15] (a0c a0b)
    |(exfalso;omega)
    |(exfalso;exact he h)
    |trace_state
 .rw [if_neg hp] at c0;rw [if_neg hp,if_neg (by decide)];refine fEx Tryz.func72 ?_;repeat' ((conv=>whnf);first|refine cOx (l:= [0,1,2,3,4,5,6,7,8,9,10,11,12,13,14,15]) c0 ?_|refine a0a ?_|(apply bRx<;>intro h<;>try (exfalso;(try dsimp only at h);omega)))
  all_goals (conv=>whnf)
  all_goals first
   |exact rOx [0,1,2,3,4,5,6,7,8,9,10,11,12,13,14,15] (a0c a0b)
   |(exfalso;omega)
   |trace_state
theorem x0w (m:Nat) (H:List Int) (s:Bks) (L:List Rc) (k:Nat) (h:RbI m H s L k) (hk:k<=60) (o:Bop) (hc:CkOk o) (h4:o.k=4):
  ∃L',RbI m H (if mmE s o=0 then mmS s o else s) L' (k+1)/\FC Tryz.prog 16 68 [.ptr 1 0 0 0,o.s] (x0t m H s L) (a0f (.int .i64 (mmE s o)) (x0u m (if mmE s o=0 then mmS s o else s) L') 23):=by
 have c0:=f0I m s h.ok o.au;have c1:=n0g m s h.ok o.id;have hup:RbI m H s L (k+1):=⟨h.ok,h.hm,h.m4,h.hs,h.ci.up (h1O _),h.po,h.dg⟩;unfold mmE;unfold roE at c1;by_cases hi:inL o.id s.lg.ids
 .rw [if_pos hi] at c1;rw [if_pos hi,if_neg (by decide)];refine ⟨L,hup,?_⟩;refine fEx Tryz.func68 ?_;repeat' ((conv=>whnf);first|refine cOx (l:= [0,1,2,3,4,5,6,7,8,9,10,11,12,13,14,15]) c1 ?_|refine a0a ?_|(apply bRx<;>intro h<;>try (exfalso;(try dsimp only at h);omega)))
  all_goals (conv=>whnf)
  all_goals first
   |exact rOx [0,1,2,3,4,5,6,7,8,9,10,11,12,13,14,15,4,7,8,12,13,14,15] a0L
   |trace_state
 rw [if_neg hi] at c1⊢;by_cases hf:512<=s.lg.ne
 .rw [if_pos hf] at c1;rw [if_pos hf,if_neg (by decide)];refine ⟨L,hup,?_⟩;refine fEx Tryz.func68 ?_;repeat' ((conv=>whnf);first|refine cOx (l:= [0,1,2,3,4,5,6,7,8,9,10,11,12,13,14,15]) c1 ?_|refine a0a ?_|(apply bRx<;>intro h<;>try (exfalso;(try dsimp only at h);omega)))
  all_goals (conv=>whnf)
  all_goals first
   |exact rOx [0,1,2,3,4,5,6,7,8,9,10,11,12,13,14,15,4,7,8,12,13,14,15] a0L
   |trace_state
 rw [if_neg hf] at c1⊢;rw [if_pos h4];by_cases hp:s.pl o.au<s.na
 case neg=>
  rw [if_neg hp] at c0;rw [if_neg hp,if_neg (by decide)];refine ⟨L,hup,?_⟩;refine fEx Tryz.func68 ?_;repeat' ((conv=>whnf);first|refine cOx (l:= [0,1,2,3,4,5,6,7,8,9,10,11,12,13,14,15]) c1 ?_|refine cOx (l:= [0,1,2,3,4,5,6,7,8,9,10,11,12,13,14,15]) c0 ?_|refine a0a ?_|(apply bRx<;>intro h<;>try (exfalso;(try dsimp only at h);omega)))
  all_goals (conv=>whnf)
  all_goals first
   |exact rOx [0,1,2,3,4,5,6,7,8,9,10,11,12,13,14,15,4,7,8,12,13,14,15] a0L
   |(exfalso;omega)
   |trace_state
 rw [if_pos hp] at c0⊢;have c2:=v0B (b0j s.au (s.pl o.au)) o.am o.fi;change a0V _ _ _ (t4 (clA s o)) at c2;by_cases hA:(clA s o).2.2.2=0
 case neg=>
  rw [if_pos hA,if_neg hA];refine ⟨L,hup,?_⟩;unfold b0j at c2;try dsimp only at c2
  generalize clA s o=N at*;obtain ⟨a,r,q,e⟩:=N;dsimp only at c2 hA⊢;refine fEx Tryz.func68 ?_;repeat' ((conv=>whnf);first|refine cOx (l:= [0,1,2,3,4,5,6,7,8,9,10,11,12,13,14,15]) c1 ?_|refine cOx (l:= [0,1,2,3,4,5,6,7,8,9,10,11,12,13,14,15]) c0 ?_|refine cPx c2 ?_|refine a0a ?_|(apply bRx<;>intro h<;>try (exfalso;(try dsimp only at h);omega)))
  all_goals (conv=>whnf)
  all_goals first
   |exact rOx [0,1,2,3,4,5,6,7,8,9,10,11,12,13,14,15,4,7,8,12,13,14,15] a0L
   |(exfalso;omega)
   |(exfalso;exact hA h)
   |trace_state
 have eA:(if (clA s o).2.2.2≠0 then (clA s o).2.2.2 else owX s o.t (mtF o) (mtG o) (mtN o))=owX s o.t (mtF o) (mtG o) (mtN o):=if_neg (fun e=>e hA);rw [eA];have eF:mtF o=o.is:=by unfold mtF;rw [if_neg (by omega),if_neg (by omega)]
 have eG:mtG o=o.ac:=by unfold mtG;rw [if_neg (by omega),if_neg (by omega)]
 have eN:mtN o=o.am-o.fe:=by unfold mtN;rw [if_neg (by omega)]
 have hN:IntKind.i64.wrap (o.am-o.fe)=mtN o:=by
  have:=k0A hc (Or.inl h4);rw [eN] at this⊢;exact a0m (by omega) (by omega)
 by_cases hx:owX s o.t (mtF o) (mtG o) (mtN o)=0
 .rw [if_pos hx,hx];obtain ⟨L',hR,c3⟩:=h0Z m H s L k h hk o hc (Or.inl h4) hi hf hx;refine ⟨L',?_,?_⟩
  .unfold mmS;rw [if_pos h4];exact ⟨e0a hR.ok _ _,hR.hm,hR.m4,hR.hs,hR.ci,hR.po,hR.dg⟩
  have eS:mmS s o= { owS s o with au:=s.au.set (s.pl o.au) (clA s o).1}:=by unfold mmS;rw [if_pos h4]
  rw [eS];rw [eF,eG] at c3;unfold b0j at c2;try dsimp only at c2
  generalize clA s o=N at*;obtain ⟨a,r,q,e⟩:=N;dsimp only at c2 hA⊢;subst hA;have hap:=f0k s.na s.au (s.pl o.au) a;unfold owS;dsimp only;have ha:rlA false s.lg=rlA false (lgP s.lg (enB s o)):=rfl;generalize lgP s.lg (enB s o)=S' at*;clear hR hx;generalize mtN o=N at*;refine fEx Tryz.func68 ?_;repeat' ((conv=>whnf);first|refine cOx (l:= [0,1,2,3,4,5,6,7,8,9,10,11,12,13,14,15]) c1 ?_|refine cOx (l:= [0,1,2,3,4,5,6,7,8,9,10,11,12,13,14,15]) c0 ?_|refine cPx c2 ?_|(rw [hN])|refine cOx (l:= [0,1,2,3,4,5,6,7,8,9,10,11,12,13,14,15]) c3 ?_|refine a0a ?_|(apply bRx<;>intro h<;>try (exfalso;(try dsimp only at h);omega)))
  all_goals (conv=>whnf)
  all_goals first
   |(exfalso;omega)
   |(exfalso;exact h rfl)
   |exact a0H (l:= [0,1,2,3,4,5,6,7,8,9,10,11,12,13,14,15,4,18,19,20,21,22,23]) rfl rfl ⟨rfl,congrArg (fun z=>some (HB.one false z)) hap,ha,rfl,rfl,rfl,rfl,rfl,rfl,rfl,rfl,rfl,rfl,trivial⟩ a0L
   |trace_state
 .rw [if_neg hx];obtain ⟨L',hR,c3⟩:=h0Y m H s L k h hk o (mtF o) (mtG o) (mtN o) hx;refine ⟨L',⟨h.ok,h.hm,h.m4,h.hs,hR,h.po,h.dg⟩,?_⟩;rw [eF,eG] at c3 hx⊢;unfold b0j at c2;try dsimp only at c2
  generalize clA s o=N at*;obtain ⟨a,r,q,e⟩:=N;dsimp only at c2 hA⊢;subst hA;clear hR;generalize owX s o.t o.is o.ac (mtN o)=E at*;generalize mtN o=N at*;refine fEx Tryz.func68 ?_;repeat' ((conv=>whnf);first|refine cOx (l:= [0,1,2,3,4,5,6,7,8,9,10,11,12,13,14,15]) c1 ?_|refine cOx (l:= [0,1,2,3,4,5,6,7,8,9,10,11,12,13,14,15]) c0 ?_|refine cPx c2 ?_|(rw [hN])|refine cOx (l:= [0,1,2,3,4,5,6,7,8,9,10,11,12,13,14,15]) c3 ?_|refine a0a ?_|(apply bRx<;>intro h<;>try (exfalso;(try dsimp only at h);omega)))
  all_goals (conv=>whnf)
  all_goals first
   |(exfalso;omega)
   |(exfalso;exact h rfl)
   |(exfalso;exact hx h)
   |exact rOx [0,1,2,3,4,5,6,7,8,9,10,11,12,13,14,15,4,18,19,20,21,22,23] a0L
   |trace_state
end
section
attribute [local irreducible] a0q a0r a0j a0R sortI
attribute [local irreducible] seq ByteArray.extract lgE
theorem a1b (m:Nat) (H:List Int) (s:Bks) (L:List Rc) (k:Nat) (h:RbI m H s L k) (hk:k<=60) (o:Bop) (hc:CkOk o) (h1:o.k=1):
  ∃L',RbI m H (if x0m s o=0 then b1i s o else s) L' (k+1)/\FC Tryz.prog 16 32 [.ptr 1 0 0 0,o.s] (x0t m H s L) (a0f (.int .i64 (x0m s o)) (x0u m (if x0m s o=0 then b1i s o else s) L') 23):=by
 have hup:RbI m H s L (k+1):=⟨h.ok,h.hm,h.m4,h.hs,h.ci.up (h1O _),h.po,h.dg⟩;have c0:=f0I m s h.ok o.au;have c2:=c1c o.au s.cur o.am o.t (k0E s o.t);have he1:IntKind.i64.wrap (o.t+IntKind.i64.wrap (86400*s.days))=k0E s o.t:=x0v h.ok hc;have h256:=h.ok.n256;have hna:=h.ok.na;have hok:=fun e=>d1l h.ok hc (o:=o) e
 unfold pfE pfS at hok;rw [if_pos h1,if_pos h1] at hok;unfold x0m b1i at*;by_cases hp:s.pl o.au<s.na
 .rw [if_pos hp] at c0;rw [if_pos hp,if_neg (by decide)];refine ⟨L,hup,?_⟩;refine fEx Tryz.func32 ?_;repeat' ((conv=>whnf);first|refine cOx (l:= [0,1,2,3,4,5,6,7,8,9,10,11,12,13,14,15]) c0 ?_|refine a0a ?_|(apply bRx<;>intro h<;>try (exfalso;(try dsimp only at h);omega)))
  all_goals (conv=>whnf)
  all_goals first
   |exact rOx [0,1,2,3,4,5,6,7,8,9,10,11,12,13,14,15,4,7,8,12,13,14,15] a0L
   |(exfalso;omega)
   |trace_state
 rw [if_neg hp] at c0 hok⊢;by_cases hn:256<=s.na
 .rw [if_pos hn,if_neg (by decide)];refine ⟨L,hup,?_⟩;refine fEx Tryz.func32 ?_;repeat' ((conv=>whnf);first|refine cOx (l:= [0,1,2,3,4,5,6,7,8,9,10,11,12,13,14,15]) c0 ?_|refine a0a ?_|(apply bRx<;>intro h<;>try (exfalso;(try dsimp only at h);omega)))
  all_goals (conv=>whnf)
  all_goals first
   |exact rOx [0,1,2,3,4,5,6,7,8,9,10,11,12,13,14,15,4,7,8,12,13,14,15] a0L
   |(exfalso;omega)
   |trace_state
 rw [if_neg hn] at hok⊢;generalize v0s o.au s.cur o.am o.t (k0E s o.t)=N at*;obtain ⟨a,e⟩:=N;dsimp only at c2 hok⊢;by_cases he:e=0
 .rw [if_pos he];subst he;have hok:=hok rfl;refine ⟨L,⟨hok,h.hm,h.m4,h.hs,h.ci.up (h1O _),h.po,h.dg⟩,?_⟩;have hap:=x0l (s.na+1) s.au a;refine fEx Tryz.func32 ?_;repeat' ((conv=>whnf);first|(rw [he1])|refine cOx (l:= [0,1,2,3,4,5,6,7,8,9,10,11,12,13,14,15]) c0 ?_|refine cPx c2 ?_|refine a0a ?_|(apply bRx<;>intro h<;>try (exfalso;(try dsimp only at h);omega)))
  all_goals (conv=>whnf)
  all_goals first
   |(exfalso;omega)
   |(exfalso;exact h rfl)
   |exact a0H (l:= [0,1,2,3,4,5,6,7,8,9,10,11,12,13,14,15,19,7,8,12,13,14,15]) rfl rfl ⟨rfl,congrArg (fun z=>some (HB.one false z)) hap,rfl,rfl,rfl,rfl,rfl,rfl,rfl,rfl,rfl,rfl,rfl,trivial⟩ a0L
   |trace_state
 .rw [if_neg he];refine ⟨L,hup,?_⟩;refine fEx Tryz.func32 ?_;repeat' ((conv=>whnf);first|(rw [he1])|refine cOx (l:= [0,1,2,3,4,5,6,7,8,9,10,11,12,13,14,15]) c0 ?_|refine cPx c2 ?_|refine a0a ?_|(apply bRx<;>intro h<;>try (exfalso;(try dsimp only at h);omega)))
  all_goals (conv=>whnf)
  all_goals first
   |exact rOx [0,1,2,3,4,5,6,7,8,9,10,11,12,13,14,15,4,7,8,12,13,14,15] a0L
   |(exfalso;omega)
   |(exfalso;exact he h)
   |trace_state
theorem a1c (m:Nat) (H:List Int) (s:Bks) (L:List Rc) (k:Nat) (h:RbI m H s L k) (hk:k<=60) (o:Bop) (hc:CkOk o) (h4:o.k=4):
  ∃L',RbI m H (if mmE s o=0 then mmS s o else s) L' (k+1)/\FC Tryz.prog 16 32 [.ptr 1 0 0 0,o.s] (x0t m H s L) (a0f (.int .i64 (mmE s o)) (x0u m (if mmE s o=0 then mmS s o else s) L') 23):=by
 obtain ⟨L',hR,c1⟩:=x0w m H s L k h hk o hc h4;refine ⟨L',hR,?_⟩;generalize (if mmE s o=0 then mmS s o else s)=S' at*;generalize mmE s o=E at*;refine fEx Tryz.func32 ?_;repeat' ((conv=>whnf);first|refine cOx (l:= [0,1,2,3,4,5,6,7,8,9,10,11,12,13,14,15]) c1 ?_|refine a0a ?_|(apply bRx<;>intro h<;>try (exfalso;(try dsimp only at h);omega)))
 all_goals (conv=>whnf)
 all_goals first
  |(exfalso;omega)
  |exact rOx [0,1,2,3,4,5,6,7,8,9,10,11,12,13,14,15,17,18,19,20,21,22,23] a0L
  |trace_state
theorem x0x (m:Nat) (H:List Int) (s:Bks) (L:List Rc) (k:Nat) (h:RbI m H s L k) (hk:k<=60) (o:Bop) (hc:CkOk o) (h5:o.k=5\/o.k=6) (hs:o.am<0):
  ∃L',RbI m H (if mmE s o=0 then mmS s o else s) L' (k+1)/\FC Tryz.prog 16 32 [.ptr 1 0 0 0,o.s] (x0t m H s L) (a0f (.int .i64 (mmE s o)) (x0u m (if mmE s o=0 then mmS s o else s) L') 23):=by
 have hup:RbI m H s L (k+1):=⟨h.ok,h.hm,h.m4,h.hs,h.ci.up (h1O _),h.po,h.dg⟩;have c1:=n0g m s h.ok o.id;have h46:o.k=4\/o.k=5\/o.k=6:=by omega
 have hmb:=k0A hc h46;have h4:¬o.k=4:=by omega
 have h6:o.k=6:=by
  rcases h5 with e|e
  .exfalso;have ha:=hc.a;unfold pmB at ha;rw [e] at ha;simp at ha;omega
  .exact e
 have eF:mtF o=o.is:=by unfold mtF;rw [if_neg (by omega),if_neg (by omega)]
 have eG:mtG o=o.ac:=by unfold mtG;rw [if_neg (by omega),if_neg (by omega)]
 have eN:mtN o= -o.am:=by unfold mtN;rw [if_pos h6,if_pos hs]
 have hN:IntKind.i64.wrap (0-o.am)=mtN o:=by rw [a0m (by omega) (by omega)];omega
 unfold mmE;unfold roE at c1;by_cases hi:inL o.id s.lg.ids
 .rw [if_pos hi] at c1;rw [if_pos hi,if_neg (by decide)];refine ⟨L,hup,?_⟩;refine fEx Tryz.func32 ?_;repeat' ((conv=>whnf);first|refine cOx (l:= [0,1,2,3,4,5,6,7,8,9,10,11,12,13,14,15]) c1 ?_|refine a0a ?_|(apply bRx<;>intro h<;>try (exfalso;(try dsimp only at h);omega)))
  all_goals (conv=>whnf)
  all_goals first
   |exact rOx [0,1,2,3,4,5,6,7,8,9,10,11,12,13,14,15,4,7,8,12,13,14,15] a0L
   |(exfalso;omega)
   |trace_state
 rw [if_neg hi] at c1⊢;by_cases hf:512<=s.lg.ne
 .rw [if_pos hf] at c1;rw [if_pos hf,if_neg (by decide)];refine ⟨L,hup,?_⟩;refine fEx Tryz.func32 ?_;repeat' ((conv=>whnf);first|refine cOx (l:= [0,1,2,3,4,5,6,7,8,9,10,11,12,13,14,15]) c1 ?_|refine a0a ?_|(apply bRx<;>intro h<;>try (exfalso;(try dsimp only at h);omega)))
  all_goals (conv=>whnf)
  all_goals first
   |exact rOx [0,1,2,3,4,5,6,7,8,9,10,11,12,13,14,15,4,7,8,12,13,14,15] a0L
   |(exfalso;omega)
   |trace_state
 rw [if_neg hf] at c1⊢;rw [if_neg h4];by_cases hx:owX s o.t (mtF o) (mtG o) (mtN o)=0
 .rw [if_pos hx,hx];obtain ⟨L',hR,c3⟩:=h0Z m H s L k h hk o hc h46 hi hf hx;have eS:mmS s o=owS s o:=by unfold mmS;rw [if_neg h4]
  rw [eS];refine ⟨L',hR,?_⟩;rw [eF,eG] at c3;unfold owS;have ha:rlA false s.lg=rlA false (lgP s.lg (enB s o)):=rfl;generalize lgP s.lg (enB s o)=S' at*;clear hR hx;clear eN hmb;generalize mtN o=N at*;refine fEx Tryz.func32 ?_;repeat' ((conv=>whnf);first|refine cOx (l:= [0,1,2,3,4,5,6,7,8,9,10,11,12,13,14,15]) c1 ?_|(rw [hN])|refine cOx (l:= [0,1,2,3,4,5,6,7,8,9,10,11,12,13,14,15]) c3 ?_|refine a0a ?_|(apply bRx<;>intro h<;>try (exfalso;(try dsimp only at h);omega)))
  all_goals (conv=>whnf)
  all_goals first
   |(exfalso;omega)
   |(exfalso;exact h rfl)
   |exact a0H (l:= [0,1,2,3,4,5,6,7,8,9,10,11,12,13,14,15,4,17,18,19,20,21,22]) rfl rfl ⟨rfl,rfl,ha,rfl,rfl,rfl,rfl,rfl,rfl,rfl,rfl,rfl,rfl,trivial⟩ a0L
   |trace_state
 .rw [if_neg hx];obtain ⟨L',hR,c3⟩:=h0Y m H s L k h hk o (mtF o) (mtG o) (mtN o) hx;refine ⟨L',⟨h.ok,h.hm,h.m4,h.hs,hR,h.po,h.dg⟩,?_⟩;rw [eF,eG] at c3 hx⊢;clear hR;generalize owX s o.t o.is o.ac (mtN o)=E at*;clear eN hmb;generalize mtN o=N at*;refine fEx Tryz.func32 ?_;repeat' ((conv=>whnf);first|refine cOx (l:= [0,1,2,3,4,5,6,7,8,9,10,11,12,13,14,15]) c1 ?_|(rw [hN])|refine cOx (l:= [0,1,2,3,4,5,6,7,8,9,10,11,12,13,14,15]) c3 ?_|refine a0a ?_|(apply bRx<;>intro h<;>try (exfalso;(try dsimp only at h);omega)))
  all_goals (conv=>whnf)
  all_goals first
   |(exfalso;omega)
   |(exfalso;exact h rfl)
   |(exfalso;exact hx h)
   |exact rOx [0,1,2,3,4,5,6,7,8,9,10,11,12,13,14,15,4,17,18,19,20,21,22] a0L
   |trace_state
theorem a1d (m:Nat) (H:List Int) (s:Bks) (L:List Rc) (k:Nat) (h:RbI m H s L k) (hk:k<=60) (o:Bop) (hc:CkOk o) (h5:o.k=5\/o.k=6) (hs:¬o.am<0):
  ∃L',RbI m H (if mmE s o=0 then mmS s o else s) L' (k+1)/\FC Tryz.prog 16 32 [.ptr 1 0 0 0,o.s] (x0t m H s L) (a0f (.int .i64 (mmE s o)) (x0u m (if mmE s o=0 then mmS s o else s) L') 23):=by
 have hup:RbI m H s L (k+1):=⟨h.ok,h.hm,h.m4,h.hs,h.ci.up (h1O _),h.po,h.dg⟩;have c1:=n0g m s h.ok o.id;have h46:o.k=4\/o.k=5\/o.k=6:=by omega
 have hmb:=k0A hc h46;have h4:¬o.k=4:=by omega
 have hf:=hc.f;have eF:mtF o=o.ac:=by
  unfold mtF;split
  .rfl
  .rw [if_pos (by omega)]
 have eG:mtG o=o.is:=by
  unfold mtG;split
  .rfl
  .rw [if_pos (by omega)]
 have eN:mtN o=o.am-o.fe:=by
  unfold mtN;split
  .rename_i e;rw [if_neg (by omega)] at hf;omega
  .rfl
 have hN:IntKind.i64.wrap (o.am-o.fe)=mtN o:=by rw [a0m (by omega) (by omega)];omega
 unfold mmE;unfold roE at c1;by_cases hi:inL o.id s.lg.ids
 .rw [if_pos hi] at c1;rw [if_pos hi,if_neg (by decide)];refine ⟨L,hup,?_⟩;refine fEx Tryz.func32 ?_;repeat' ((conv=>whnf);first|refine cOx (l:= [0,1,2,3,4,5,6,7,8,9,10,11,12,13,14,15]) c1 ?_|refine a0a ?_|(apply bRx<;>intro h<;>try (exfalso;(try dsimp only at h);omega)))
  all_goals (conv=>whnf)
  all_goals first
   |exact rOx [0,1,2,3,4,5,6,7,8,9,10,11,12,13,14,15,4,7,8,12,13,14,15] a0L
   |(exfalso;omega)
   |trace_state
 rw [if_neg hi] at c1⊢;by_cases hf:512<=s.lg.ne
 .rw [if_pos hf] at c1;rw [if_pos hf,if_neg (by decide)];refine ⟨L,hup,?_⟩;refine fEx Tryz.func32 ?_;repeat' ((conv=>whnf);first|refine cOx (l:= [0,1,2,3,4,5,6,7,8,9,10,11,12,13,14,15]) c1 ?_|refine a0a ?_|(apply bRx<;>intro h<;>try (exfalso;(try dsimp only at h);omega)))
  all_goals (conv=>whnf)
  all_goals first
   |exact rOx [0,1,2,3,4,5,6,7,8,9,10,11,12,13,14,15,4,7,8,12,13,14,15] a0L
   |(exfalso;omega)
   |trace_state
 rw [if_neg hf] at c1⊢;rw [if_neg h4];by_cases hx:owX s o.t (mtF o) (mtG o) (mtN o)=0
 .rw [if_pos hx,hx];obtain ⟨L',hR,c3⟩:=h0Z m H s L k h hk o hc h46 hi hf hx;have eS:mmS s o=owS s o:=by unfold mmS;rw [if_neg h4]
  rw [eS];refine ⟨L',hR,?_⟩;rw [eF,eG] at c3;unfold owS;have ha:rlA false s.lg=rlA false (lgP s.lg (enB s o)):=rfl;generalize lgP s.lg (enB s o)=S' at*;clear hR hx;clear eN hmb;generalize mtN o=N at*;refine fEx Tryz.func32 ?_;repeat' ((conv=>whnf);first|refine cOx (l:= [0,1,2,3,4,5,6,7,8,9,10,11,12,13,14,15]) c1 ?_|(rw [hN])|refine cOx (l:= [0,1,2,3,4,5,6,7,8,9,10,11,12,13,14,15]) c3 ?_|refine a0a ?_|(apply bRx<;>intro h<;>try (exfalso;(try dsimp only at h);omega)))
  all_goals (conv=>whnf)
  all_goals first
   |(exfalso;omega)
   |(exfalso;exact h rfl)
   |exact a0H (l:= [0,1,2,3,4,5,6,7,8,9,10,11,12,13,14,15,4,17,18,19,20,21,22]) rfl rfl ⟨rfl,rfl,ha,rfl,rfl,rfl,rfl,rfl,rfl,rfl,rfl,rfl,rfl,trivial⟩ a0L
   |trace_state
 .rw [if_neg hx];obtain ⟨L',hR,c3⟩:=h0Y m H s L k h hk o (mtF o) (mtG o) (mtN o) hx;refine ⟨L',⟨h.ok,h.hm,h.m4,h.hs,hR,h.po,h.dg⟩,?_⟩;rw [eF,eG] at c3 hx⊢;clear hR;generalize owX s o.t o.ac o.is (mtN o)=E at*;clear eN hmb;generalize mtN o=N at*;refine fEx Tryz.func32 ?_;repeat' ((conv=>whnf);first|refine cOx (l:= [0,1,2,3,4,5,6,7,8,9,10,11,12,13,14,15]) c1 ?_|(rw [hN])|refine cOx (l:= [0,1,2,3,4,5,6,7,8,9,10,11,12,13,14,15]) c3 ?_|refine a0a ?_|(apply bRx<;>intro h<;>try (exfalso;(try dsimp only at h);omega)))
  all_goals (conv=>whnf)
  all_goals first
   |(exfalso;omega)
   |(exfalso;exact h rfl)
   |(exfalso;exact hx h)
   |exact rOx [0,1,2,3,4,5,6,7,8,9,10,11,12,13,14,15,4,17,18,19,20,21,22] a0L
   |trace_state
theorem a1e (m:Nat) (H:List Int) (s:Bks) (L:List Rc) (k:Nat) (h:RbI m H s L k) (hk:k<=60) (o:Bop) (hc:CkOk o) (hn:o.k=2):
  ∃L',RbI m H (if d0l s o=0 then f0L s o else s) L' (k+1)/\FC Tryz.prog 16 32 [.ptr 1 0 0 0,o.s] (x0t m H s L) (a0f (.int .i64 (d0l s o)) (x0u m (if d0l s o=0 then f0L s o else s) L') 23):=by
 have c1:=q0L m s o h.ok hc hn;have hR:RbI m H (if d0l s o=0 then f0L s o else s) L (k+1):=by
  split
  .exact ⟨e0a h.ok _ _,h.hm,h.m4,h.hs,h.ci.up (h1O _),h.po,h.dg⟩
  .exact ⟨h.ok,h.hm,h.m4,h.hs,h.ci.up (h1O _),h.po,h.dg⟩
 refine ⟨L,hR,?_⟩;have e:(if d0l s o=0 then f0L s o else s)= { s with au:=if d0l s o=0 then (f0L s o).au else s.au}:=by
  split<;>rfl
 rw [e];clear hR e;generalize (if d0l s o=0 then (f0L s o).au else s.au)=A' at*;generalize d0l s o=E at*;refine fEx Tryz.func32 ?_;repeat' ((conv=>whnf);first|refine cOx (l:= [0,1,2,3,4,5,6,7,8,9,10,11,12,13,14,15]) c1 ?_|refine a0a ?_|(apply bRx<;>intro h<;>try (exfalso;(try dsimp only at h);omega)))
 all_goals (conv=>whnf)
 all_goals first
  |(exfalso;omega)
  |exact rOx [0,1,2,3,4,5,6,7,8,9,10,11,12,13,14,15,4,7,8,12,13,14,15] a0L
  |trace_state
theorem a1f (m:Nat) (H:List Int) (s:Bks) (L:List Rc) (k:Nat) (h:RbI m H s L k) (hk:k<=60) (o:Bop) (hc:CkOk o) (hn:o.k=3):
  ∃L',RbI m H (if d0l s o=0 then f0L s o else s) L' (k+1)/\FC Tryz.prog 16 32 [.ptr 1 0 0 0,o.s] (x0t m H s L) (a0f (.int .i64 (d0l s o)) (x0u m (if d0l s o=0 then f0L s o else s) L') 23):=by
 have c1:=q0M m s o h.ok hc hn;have hR:RbI m H (if d0l s o=0 then f0L s o else s) L (k+1):=by
  split
  .exact ⟨e0a h.ok _ _,h.hm,h.m4,h.hs,h.ci.up (h1O _),h.po,h.dg⟩
  .exact ⟨h.ok,h.hm,h.m4,h.hs,h.ci.up (h1O _),h.po,h.dg⟩
 refine ⟨L,hR,?_⟩;have e:(if d0l s o=0 then f0L s o else s)= { s with au:=if d0l s o=0 then (f0L s o).au else s.au}:=by
  split<;>rfl
 rw [e];clear hR e;generalize (if d0l s o=0 then (f0L s o).au else s.au)=A' at*;generalize d0l s o=E at*;refine fEx Tryz.func32 ?_;repeat' ((conv=>whnf);first|refine cOx (l:= [0,1,2,3,4,5,6,7,8,9,10,11,12,13,14,15]) c1 ?_|refine a0a ?_|(apply bRx<;>intro h<;>try (exfalso;(try dsimp only at h);omega)))
 all_goals (conv=>whnf)
 all_goals first
  |(exfalso;omega)
  |exact rOx [0,1,2,3,4,5,6,7,8,9,10,11,12,13,14,15,4,7,8,12,13,14,15] a0L
  |trace_state
theorem a1g (m:Nat) (H:List Int) (s:Bks) (L:List Rc) (k:Nat) (h:RbI m H s L k) (hk:k<=60) (o:Bop) (hc:CkOk o) (hn:o.k=7):
  ∃L',RbI m H (if d0l s o=0 then f0L s o else s) L' (k+1)/\FC Tryz.prog 16 32 [.ptr 1 0 0 0,o.s] (x0t m H s L) (a0f (.int .i64 (d0l s o)) (x0u m (if d0l s o=0 then f0L s o else s) L') 23):=by
 have c1:=q0N m s o h.ok hc hn;have hR:RbI m H (if d0l s o=0 then f0L s o else s) L (k+1):=by
  split
  .exact ⟨e0a h.ok _ _,h.hm,h.m4,h.hs,h.ci.up (h1O _),h.po,h.dg⟩
  .exact ⟨h.ok,h.hm,h.m4,h.hs,h.ci.up (h1O _),h.po,h.dg⟩
 refine ⟨L,hR,?_⟩;have e:(if d0l s o=0 then f0L s o else s)= { s with au:=if d0l s o=0 then (f0L s o).au else s.au}:=by
  split<;>rfl
 rw [e];clear hR e;generalize (if d0l s o=0 then (f0L s o).au else s.au)=A' at*;generalize d0l s o=E at*;refine fEx Tryz.func32 ?_;repeat' ((conv=>whnf);first|refine cOx (l:= [0,1,2,3,4,5,6,7,8,9,10,11,12,13,14,15]) c1 ?_|refine a0a ?_|(apply bRx<;>intro h<;>try (exfalso;(try dsimp only at h);omega)))
 all_goals (conv=>whnf)
 all_goals first
  |(exfalso;omega)
  |exact rOx [0,1,2,3,4,5,6,7,8,9,10,11,12,13,14,15,4,7,8,12,13,14,15] a0L
  |trace_state
theorem a1h (m:Nat) (H:List Int) (s:Bks) (L:List Rc) (k:Nat) (h:RbI m H s L k) (hk:k<=60) (o:Bop) (hc:CkOk o) (h8:o.k=8):
  ∃L',RbI m H (if clE s.hs s.ds s.cd o.am=0 then clS s o else s) L' (k+1)/\FC Tryz.prog 16 32 [.ptr 1 0 0 0,o.s] (x0t m H s L) (a0f (.int .i64 (clE s.hs s.ds s.cd o.am)) (x0u m (if clE s.hs s.ds s.cd o.am=0 then clS s o else s) L') 23):=by
 have hup:RbI m H s L (k+1):=⟨h.ok,h.hm,h.m4,h.hs,h.ci.up (h1O _),h.po,h.dg⟩;have he:=h.ok.err;have hp:=h.ok.np;have hlen:=h.ci.r.len;have hnp:=(h0k he).1;have hrl:=h.ci.r.rl o.am;have hsz2:∀k,(s.pr.getD k ⟨#[]⟩).size<=9223372036854775807:=fun k=>by
  by_cases hk:k<s.pr.length
  .have hm:s.pr.getD k ⟨#[]⟩∈s.pr:=by rw [List.getD,j0I hk];exact b1P hk
   have:=f0m ((h0k he).2.2 _ hm);omega
  .rw [List.getD,p0J (by omega)];exact (by decide:(0:Nat)<=9223372036854775807)
 have c1:=x0h (np:=s.np) (rfl:L.length=L.length) (by omega) h.ci.r.nd h.hm h.m4 hp he hsz2 s.cut o.am (by omega) (h.ci.r.bk o.am).d;unfold g1h at c1;have hE:=h.ci.E H o.am;rw [<-h.hs] at hE;rw [hE] at c1;by_cases h0:clE s.hs s.ds s.cd o.am=0
 .rw [if_pos h0] at c1;rw [if_pos h0,h0];have hok:=d1l h.ok hc (o:=o) (by unfold pfE;rw [if_neg (by omega),if_pos h8];exact h0);have eS:pfS s o=clS s o:=by unfold pfS;rw [if_neg (by omega),if_pos h8]
  rw [eS] at hok;refine ⟨t0P L o.am,⟨hok,h.hm,h.m4,h.hs,h.ci.close o.am,h.po,h.dg⟩,?_⟩;clear hE hok hrl hlen;generalize t0P L o.am=L2 at*;generalize rpL L o.am=R2 at*;refine fEx Tryz.func32 ?_;repeat' ((conv=>whnf);first|refine cOx (l:= [0,9,10,3,11,12,13,14,15]) c1 ?_|refine a0a ?_|(apply bRx<;>intro h<;>try (exfalso;(try dsimp only at h);omega)))
  all_goals (conv=>whnf)
  all_goals first
   |(exfalso;omega)
   |exact rOx [0,1,2,3,4,5,6,7,8,9,10,11,12,13,14,15,4,7,8,17,18,19,20] a0L
   |trace_state
 .rw [if_neg h0] at c1;rw [if_neg h0];refine ⟨L,hup,?_⟩;clear hE hrl hlen;generalize clE s.hs s.ds s.cd o.am=E at*;refine fEx Tryz.func32 ?_;repeat' ((conv=>whnf);first|refine cOx (l:= [0,9,10,3,11,12,13,14,15]) c1 ?_|refine a0a ?_|(apply bRx<;>intro h<;>try (exfalso;(try dsimp only at h);omega)))
  all_goals (conv=>whnf)
  all_goals first
   |(exfalso;omega)
   |exact rOx [0,1,2,3,4,5,6,7,8,9,10,11,12,13,14,15,4,7,8,17,18,19,20] a0L
   |trace_state
end
section
attribute [local irreducible] a0q a0r a0j a0R sortI
theorem n0h {s:ByteArray} {u:Bool} {p:ByteArray->Bool} (h:fiB s u p=true) (hp:p s=true->s.size<=16):s.size<=16:=by
 unfold fiB at h;cases u with
 |true=>exact hp h
 |false=>have e:s=⟨#[]⟩:=of_decide_eq_true h;rw [e];decide
theorem s0x {s:ByteArray} (h:auI s=true):s.size<=16:=by
 unfold auI at h;rw [k0P] at h;have:=of_decide_eq_true h.1;omega
def f1n (o:Bop):List ByteArray:= [b0S o.k,b0S o.t,o.id,o.au,o.is,o.ac,b0S o.am,b0S o.fe,if o.fi=true then ⟨#[49]⟩ else ⟨#[48]⟩]
def g1m (o:Bop):ByteArray:=e0w (f1n o) ⟨#[124]⟩
structure BopSz (o:Bop):Prop where
 k: -9223372036854775808<=o.k/\o.k<=9223372036854775807
 t: -9223372036854775808<=o.t/\o.t<=9223372036854775807
 am: -9223372036854775808<=o.am/\o.am<=9223372036854775807
 fe: -9223372036854775808<=o.fe/\o.fe<=9223372036854775807
 id:o.id.size<=16
 au:o.au.size<=16
 is:o.is.size<=16
 ac:o.ac.size<=16
theorem f1o {o:Bop} (h:CkOk o):BopSz o:=by
 have hn:=h.n;unfold bkN at hn;simp only [k0P] at hn;have ha:=h.a;have hk:=h.k;have ht:=h.t;have hf:=h.f;have hb: -999999999999<=o.am/\o.am<=999999999999:=by
  unfold pmB at ha;repeat' split at ha
  all_goals (have ha:=of_decide_eq_true ha;omega)
 have hfe:o.fe<=999999999999:=by
  have:=hf.2;split at this<;>omega
 exact ⟨by omega,by omega,by omega,by omega,n0h hn.1 s0x,n0h hn.2.1 s0x,n0h hn.2.2.1 f0m,n0h hn.2.2.2 f0m⟩
theorem a1i {o:Bop} (h:BopSz o):(e0w (f1n o) ⟨#[124]⟩).size<=1000:=by
 have h1:=a0A o.k h.k.1 h.k.2;have h2:=a0A o.t h.t.1 h.t.2;have h3:=a0A o.am h.am.1 h.am.2;have h4:=a0A o.fe h.fe.1 h.fe.2;have h5:o.id.data.size<=16:=h.id;have h6:o.au.data.size<=16:=h.au;have h7:o.is.data.size<=16:=h.is;have h8:o.ac.data.size<=16:=h.ac;have h9:(if o.fi=true then (⟨#[49]⟩:ByteArray) else ⟨#[48]⟩).size<=1:=by split<;>decide
 unfold e0w f1n;show (Lib.join _ _).toArray.size<=1000;rw [i1W,e1F,Lib.join_cons,y0A,Lib.joinTail_length];generalize (if o.fi=true then (⟨#[49]⟩:ByteArray) else ⟨#[48]⟩)=z at*;simp only [Lib.lens,e1F,h1W,List.sum_cons,List.sum_nil,y0x,h1L,h1H];simp only [ByteArray.size] at h1 h2 h3 h4 h9;omega
theorem s0y (n:Nat) (L:List ByteArray) (sep:ByteArray) (h0:0<n) (hN:n<=1000000) (hlen:(e0w L sep).size<=140737488355328):
  FC Tryz.prog 2 56 [.sl 1 0 0 n,.str sep] [(1,some (.one true (.cols n [.sc (.strs L)])))] (a0f (.str (e0w L sep)) [] 2):=
 d1r (fun bk o c xs sep w h1 h2 h3 h4 h5=>Tryz.strings_Join bk o c xs sep w h1 h2 h3 h4 h5) (e0O Tryz.func56 (by kernel_rfl) (by kernel_rfl)) n L sep h0 hN hlen
theorem p0d (o:Bop) (hc:ckE o=0):t0h Tryz.prog glT 28 [o.s] (.tup [.str (g1m o),.int .i64 0]):=by
 have c1:=e0m o;rw [hc] at c1;have hs:=f1o (y0J hc);have hj:=a1i hs;have g1:=h0b o.k hs.k.1 hs.k.2;have g2:=h0b o.t hs.t.1 hs.t.2;have g3:=c0y o.am hs.am.1 hs.am.2;have g4:=c0y o.fe hs.fe.1 hs.fe.2;have c2:=s0y 9 (f1n o) ⟨#[124]⟩ (by decide) (by decide) (by omega);unfold g1m;unfold f1n at c2⊢;obtain ⟨k,t,id,au,is,ac,am,fe,fi⟩:=o;cases fi with
 |true=>
  rw [if_pos rfl] at c2;rw [if_pos rfl];refine fEx Tryz.func28 ?_;repeat' ((conv=>whnf);first|refine cPx c1 ?_|refine cGx g1 ?_|refine cGx g2 ?_|refine cGx g3 ?_|refine cGx g4 ?_|refine cOx (l:= [0,2]) c2 ?_|refine a0a ?_|(apply bRx<;>intro h<;>try (exfalso;(try dsimp only at h);omega)))
  all_goals (conv=>whnf)
  all_goals first
   |(exfalso;omega)
   |(exfalso;exact h rfl)
   |exact a0d rfl
   |trace_state
 |false=>
  rw [if_neg (fun e=>Bool.noConfusion e)] at c2;rw [if_neg (fun e=>Bool.noConfusion e)];refine fEx Tryz.func28 ?_;repeat' ((conv=>whnf);first|refine cPx c1 ?_|refine cGx g1 ?_|refine cGx g2 ?_|refine cGx g3 ?_|refine cGx g4 ?_|refine cOx (l:= [0,2]) c2 ?_|refine a0a ?_|(apply bRx<;>intro h<;>try (exfalso;(try dsimp only at h);omega)))
  all_goals (conv=>whnf)
  all_goals first
   |(exfalso;omega)
   |(exfalso;exact h rfl)
   |exact a0d rfl
   |trace_state
end
section
attribute [local irreducible] a0q a0r a0j a0R sortI
def auN (a:Au):List Int:= [a.app,a.rev,a.cle,a.exp,a.att,a.unt,a.pa]
def auF (a:Au):List ByteArray:= [a.id,a.cur,b0S a.app,b0S a.rev,b0S a.cle,b0S a.exp,b0S a.att,b0S a.unt,b0S a.pa]
def auT (a:Au):ByteArray:=if b0p a=0 then e0w (auF a) ⟨#[47]⟩ else ⟨#[]⟩
theorem x0y {a:Au} (h:Facts a) {k:Nat} (hk:k<7): -9223372036854775808<=(auN a).getD k 0/\(auN a).getD k 0<=9223372036854775807:=by
 have h1:=h.app;have h2:=h.rev;have h3:=h.cle;have h4:=h.exp;have h5:=h.time;have h6:=h.pa;rcases (show k=0\/k=1\/k=2\/k=3\/k=4\/k=5\/k=6 by omega) with rfl|rfl|rfl|rfl|rfl|rfl|rfl
 .show _<=a.app/\a.app<=_;omega
 .show _<=a.rev/\a.rev<=_;omega
 .show _<=a.cle/\a.cle<=_;omega
 .show _<=a.exp/\a.exp<=_;omega
 .show _<=a.att/\a.att<=_;omega
 .show _<=a.unt/\a.unt<=_;omega
 .show _<=a.pa/\a.pa<=_;omega
theorem a1j (a:Au) {k:Nat} (hk:k<7):(auF a).take (2+k)++ [b0S ((auN a).getD k 0)]=(auF a).take (2+k+1):=by
 rcases (show k=0\/k=1\/k=2\/k=3\/k=4\/k=5\/k=6 by omega) with rfl|rfl|rfl|rfl|rfl|rfl|rfl<;>rfl
theorem s0z {a:Au} (h:Facts a):(e0w (auF a) ⟨#[47]⟩).size<=1000:=by
 have g:∀k,k<7->(b0S ((auN a).getD k 0)).size<=21:=fun k hk=>a0A _ (x0y h hk).1 (x0y h hk).2
 have h0:(b0S a.app).size<=21:=g 0 (by decide);have h1:(b0S a.rev).size<=21:=g 1 (by decide);have h2:(b0S a.cle).size<=21:=g 2 (by decide);have h3:(b0S a.exp).size<=21:=g 3 (by decide);have h4:(b0S a.att).size<=21:=g 4 (by decide);have h5:(b0S a.unt).size<=21:=g 5 (by decide);have h6:(b0S a.pa).size<=21:=g 6 (by decide);have h7:a.id.data.size<=16:=s0x h.id;have h8:a.cur.data.size<=3:=h0e h.cur;unfold e0w auF;show (Lib.join _ _).toArray.size<=1000;rw [i1W,e1F,Lib.join_cons,y0A,Lib.joinTail_length];simp only [Lib.lens,e1F,h1W,List.sum_cons,List.sum_nil,y0x,h1L,h1H];simp only [ByteArray.size] at h0 h1 h2 h3 h4 h5 h6;omega
theorem k0R (a:Au) (h:b0p a≠0):t0h Tryz.prog glT 39 [a.s] (.str ⟨#[]⟩):=by
 have c1:=f0C a;generalize b0p a=E at*;refine fEx Tryz.func39 ?_;repeat' ((conv=>whnf);first|refine cPx c1 ?_|refine a0a ?_|(apply bRx<;>intro h<;>try (exfalso;(try dsimp only at h);omega)))
 all_goals (conv=>whnf)
 all_goals first
  |(exfalso;omega)
  |(exfalso;exact h (by assumption))
  |exact a0d rfl
  |trace_state
theorem k0S (a:Au) (h:b0p a=0):t0h Tryz.prog glT 39 [a.s] (.str (e0w (auF a) ⟨#[47]⟩)):=by
 have c1:=f0C a;rw [h] at c1;have hF:=g0R h;have hz:=s0z hF;have c2:=s0y 9 (auF a) ⟨#[47]⟩ (by decide) (by decide) (by omega);refine fEx Tryz.func39 ?_;repeat' ((conv=>whnf);first|refine cPx c1 ?_|refine a0a ?_|(apply bRx<;>intro h<;>try (exfalso;(try dsimp only at h);omega)))
 all_goals (conv=>whnf)
 all_goals first
  |(exfalso;omega)
  |(exfalso;exact h rfl)
  |skip
 refine a0o (fun k:Nat=>⟨[(3,.sl 2 0 0 (2+k)),(28,.sl 3 0 0 7),(29,.int .i64 ((7:Nat):Int)),(30,.int .i64 k)],[(0,some (GB glT)),(2,some (.one false (.cols (2+k) [.sc (.strs ((auF a).take (2+k)))]))),(3,some (.one false (.cols 7 [.sc (.ints .i64 (auN a))])))],4⟩) (fun k=>k<=7) (fun k=>7-k) 0 [0,1,2,3] [] wHx (z0h _) ?_;intro k hk;by_cases hk2:k<7
 .have hb:=x0y hF hk2;have c3:=c0y ((auN a).getD k 0) hb.1 hb.2;have hT:=congrArg (fun z=>some (HB.one false (Blk.cols (2+k+1) [.sc (.strs z)]))) (a1j a hk2);generalize auN a=N at*;generalize auF a=F at*;repeat' ((conv=>whnf);first|refine cGx c3 ?_|refine a0a ?_|(apply bRx<;>intro h<;>try (exfalso;(try dsimp only at h);omega)))
  all_goals (conv=>whnf)
  all_goals first
   |(exfalso;omega)
   |exact ⟨k+1,[0,1,5,3],[],hk2,(show 7-(k+1)<7-k by omega),⟨rfl,⟨rfl,rfl,rfl,congrArg (fun z=>some (SV.int .i64 z)) (a0i (by omega)),trivial⟩,⟨gwk rfl,hT,rfl,trivial⟩⟩⟩
   |trace_state
 obtain rfl:k=7:=by omega
 rw [show (auF a).take (2+7)=auF a from rfl];generalize auF a=F at*;repeat' ((conv=>whnf);first|refine cOx (l:= [0,2]) c2 ?_|refine a0a ?_|(apply bRx<;>intro h<;>try (exfalso;(try dsimp only at h);omega)))
 all_goals (conv=>whnf)
 all_goals first
  |(exfalso;omega)
  |exact a0d rfl
  |trace_state
theorem q0O (a:Au):t0h Tryz.prog glT 39 [a.s] (.str (auT a)):=by
 unfold auT;by_cases h:b0p a=0
 .rw [if_pos h];exact k0S a h
 .rw [if_neg h];exact k0R a h
theorem x0z (a:Au):(auT a).size<=1000:=by
 unfold auT;split
 .rename_i h;exact s0z (g0R h)
 .decide
end
section
attribute [local irreducible] a0q a0r a0j a0R sortI
attribute [local irreducible] ByteArray.extract seq
theorem b0N (n:Int) (h0:0<=n) (h2:n<=4611686018427387904):a0V Tryz.prog 47 [.int .i64 n] (.str (b0S n)):=by
 have e:n=(n.toNat:Int):=by omega
 rw [e,k0j];have hu:n.toNat<=4611686018427387904:=by omega
 generalize n.toNat=u at*;have hz:=a0A (u:Nat) (by omega) (by omega);rw [k0j] at hz;refine fEx Tryz.func47 ?_;repeat' ((conv=>whnf);first|refine a0a ?_|(apply bRx<;>intro h<;>try (exfalso;(try dsimp only at h);omega)))
 all_goals (conv=>whnf)
 all_goals first
  |(exfalso;omega)
  |skip
 refine a0o (fun x:Nat×ByteArray=>⟨[(0,.int .i64 (x.1:Int)),(3,.bool (decide ((u:Int)<0))),(4,.str x.2)],[],1⟩) (fun x=>x.1<=u/\dec u=dec x.1++x.2) (fun x=>x.1) (u,⟨#[]⟩) [0] [] wHx ⟨m0D _,ByteArray.append_empty.symm⟩ ?_;rintro ⟨v,t⟩ ⟨hv,hd⟩;dsimp only at hv hd⊢;have hsz:t.size<=21:=by
  have:=congrArg ByteArray.size hd;rw [b1U] at this;omega
 have t1:(v:Int).tdiv 10=((v/10:Nat):Int):=by rw [i1U (by omega)];omega
 have t2:(v:Int).tmod 10=((v%10:Nat):Int):=by rw [i1T (by omega)];omega
 have w1:IntKind.i64.wrap ((v/10:Nat):Int)=((v/10:Nat):Int):=a0m (by omega) (by omega);have w2:IntKind.i64.wrap ((v%10:Nat):Int)=((v%10:Nat):Int):=a0m (by omega) (by omega);have w3:IntKind.i64.wrap (((v%10:Nat):Int)+1)=((v%10+1:Nat):Int):=a0m (by omega) (by omega);have hg:x0H.extract (((v%10:Nat):Int).toNat) (((v%10+1:Nat):Int).toNat)=a0C [((48+v%10:Nat):Int)]:=by
  rw [y0u,y0u,o0G (by omega)]
 have hx:(x0H.extract (((v%10:Nat):Int).toNat) (((v%10+1:Nat):Int).toNat)).size=1:=by
  rw [hg,c0Q];rfl
 by_cases hs:v<10
 .have e1:dec u=x0H.extract (((v%10:Nat):Int).toNat) (((v%10+1:Nat):Int).toNat)++t:=by rw [hd,hg,w0k hs,j1J hs]
  rw [e1];clear hg;repeat' ((conv=>whnf);first|(simp only [t1,t2,w1,w2,w3])|(refine a0g ⟨by omega,by omega,by show _<=(10:Int);omega⟩ ?_)|(refine a0g (by rw [hx];omega) ?_)|refine a0a ?_|(apply bRx<;>intro h<;>try (exfalso;(try dsimp only at h);omega)))
  all_goals (conv=>whnf)
  all_goals first
   |(exfalso;omega)
   |exact a0d rfl
   |trace_state
 .have e1:dec u=dec (v/10)++(x0H.extract (((v%10:Nat):Int).toNat) (((v%10+1:Nat):Int).toNat)++t):=by rw [hd,hg,a1X hs,j1I]
  clear hg;repeat' ((conv=>whnf);first|(simp only [t1,t2,w1,w2,w3])|(refine a0g ⟨by omega,by omega,by show _<=(10:Int);omega⟩ ?_)|(refine a0g (by rw [hx];omega) ?_)|refine a0a ?_|(apply bRx<;>intro h<;>try (exfalso;(try dsimp only at h);omega)))
  all_goals (conv=>whnf)
  all_goals first
   |(exfalso;omega)
   |exact ⟨(v/10,x0H.extract (((v%10:Nat):Int).toNat) (((v%10+1:Nat):Int).toNat)++t),[0],[],⟨by omega,e1⟩,by show v/10<v;omega,⟨rfl,⟨rfl,rfl,rfl,trivial⟩,trivial⟩⟩
   |trace_state
theorem f1p (x p:ByteArray):e0w [x] p=x:=by
 unfold e0w;apply ByteArray.ext;simp [Lib.join_one]
theorem d1t (x y:ByteArray) (r:List ByteArray) (p:ByteArray):e0w (x::y::r) p=x++(p++e0w (y::r) p):=by
 unfold e0w;apply ByteArray.ext;rw [e1F,Lib.join_cons,e1F,Lib.join_cons];simp [Lib.joinTail]
theorem t0V (a:Au):a0V Tryz.prog 44 [a.s] (.str (auT a)):=by
 have c1:=g0S a;unfold auT;by_cases h:b0p a=0
 case neg=>
  rw [if_neg h];generalize b0p a=E at*;refine fEx Tryz.func44 ?_;repeat' ((conv=>whnf);first|refine cPx c1 ?_|refine a0a ?_|(apply bRx<;>intro h<;>try (exfalso;(try dsimp only at h);omega)))
  all_goals (conv=>whnf)
  all_goals first
   |(exfalso;omega)
   |(exfalso;exact h (by assumption))
   |exact a0d rfl
   |trace_state
 rw [if_pos h];rw [h] at c1;have hF:=g0R h;have h1:=hF.app;have h2:=hF.rev;have h3:=hF.cle;have h4:=hF.exp;have h5:=hF.time;have h6:=hF.pa;have g1:=b0N a.app (by omega) (by omega);have g2:=b0N a.rev (by omega) (by omega);have g3:=b0N a.cle (by omega) (by omega);have g4:=b0N a.exp (by omega) (by omega);have g5:=b0N a.att (by omega) (by omega);have g6:=b0N a.unt (by omega) (by omega);have g7:=b0N a.pa (by omega) (by omega);have z1:=a0A a.app (by omega) (by omega);have z2:=a0A a.rev (by omega) (by omega);have z3:=a0A a.cle (by omega) (by omega);have z4:=a0A a.exp (by omega) (by omega);have z5:=a0A a.att (by omega) (by omega);have z6:=a0A a.unt (by omega) (by omega);have z7:=a0A a.pa (by omega) (by omega);have z8:a.id.size<=16:=s0x hF.id;have z9:a.cur.size<=3:=h0e hF.cur;have hj:e0w (auF a) ⟨#[47]⟩=a.id++⟨#[47]⟩++a.cur++⟨#[47]⟩++b0S a.app++⟨#[47]⟩++b0S a.rev++⟨#[47]⟩++b0S a.cle++⟨#[47]⟩++b0S a.exp++⟨#[47]⟩++b0S a.att++⟨#[47]⟩++b0S a.unt++⟨#[47]⟩++b0S a.pa:=by
  unfold auF;simp only [d1t,f1p,j1I]
 rw [hj];have hs1:(⟨#[47]⟩:ByteArray).size=1:=rfl;clear h hF hj;refine fEx Tryz.func44 ?_;repeat' ((conv=>whnf);first|refine cPx c1 ?_|refine cPx g1 ?_|refine cPx g2 ?_|refine cPx g3 ?_|refine cPx g4 ?_|refine cPx g5 ?_|refine cPx g6 ?_|refine cPx g7 ?_|(refine a0g ?_ ?_;(simp only [b1U,hs1];omega))|refine a0a ?_|(apply bRx<;>intro h<;>try (exfalso;(try dsimp only at h);omega)))
 all_goals (conv=>whnf)
 all_goals first
  |(exfalso;omega)
  |exact a0d rfl
  |trace_state
end
section
attribute [local irreducible] a0q a0r a0j a0R sortI
attribute [local irreducible] seq ByteArray.extract lgE
theorem a1k (s:Bks) (o:Bop) (hc:ckE o≠0):FC Tryz.prog 20 7 [.ptr 1 0 0 0,o.s] (h0q s) (a0f (.int .i64 (ckE o)) (h0r s) 26):=by
 have c1:=e0m o;generalize ckE o=E at*;refine fEx Tryz.func7 ?_;repeat' ((conv=>whnf);first|refine cPx c1 ?_|refine a0a ?_|(apply bRx<;>intro h<;>try (exfalso;(try dsimp only at h);omega)))
 all_goals (conv=>whnf)
 all_goals first
  |(exfalso;omega)
  |(exfalso;exact hc h)
  |exact rOx [0,1,2,3,4,5,6,7,8,9,10,11,12,13,14,15,16,17,18,19,2,6,10,17,18,19] a0y
  |trace_state
theorem t0W (s:Bks) (o:Bop) (hc:ckE o=0) (ht:o.t<s.last):FC Tryz.prog 20 7 [.ptr 1 0 0 0,o.s] (h0q s) (a0f (.int .i64 14) (h0r s) 26):=by
 have c1:=e0m o;rw [hc] at c1;refine fEx Tryz.func7 ?_;repeat' ((conv=>whnf);first|refine cPx c1 ?_|refine a0a ?_|(apply bRx<;>intro h<;>try (exfalso;(try dsimp only at h);omega)))
 all_goals (conv=>whnf)
 all_goals first
  |(exfalso;omega)
  |(exfalso;exact h rfl)
  |exact rOx [0,1,2,3,4,5,6,7,8,9,10,11,12,13,14,15,16,17,18,19,2,6,10,17,18,19] a0y
  |trace_state
theorem a1l (s S':Bks) (o:Bop) (E:Int) (hc:ckE o=0) (hk:o.k=1) (ht:¬o.t<s.last)
  (c3:FC Tryz.prog 20 202 [.agg [],.ptr 1 0 0 0,o.s] (h0q s) (a0f (.int .i64 E) (h0r S') 26)):
  FC Tryz.prog 20 7 [.ptr 1 0 0 0,o.s] (h0q s) (a0f (.int .i64 E) (h0r (if E=0 then { S' with last:=o.t} else S')) 26):=by
 have c1:=e0m o;rw [hc] at c1;have c2:a0V Tryz.prog 30 [.int .i64 o.k] (.iface 137 (.agg [])):=by
  have c:=e0v o.k (by omega);rw [if_pos hk] at c;exact c
 by_cases he:E=0
 .rw [if_pos he];subst he;refine fEx Tryz.func7 ?_;repeat' ((conv=>whnf);first|(refine ⟨202,c0C (by kernel_rfl),?_⟩)|refine cPx c1 ?_|refine cPx c2 ?_|refine cOx (l:= [0,1,2,3,4,5,6,7,8,9,10,11,12,13,14,15,16,17,18,19]) c3 ?_|refine a0a ?_|(apply bRx<;>intro h<;>try (exfalso;(try dsimp only at h);omega)))
  all_goals (conv=>whnf)
  all_goals first
   |(exfalso;omega)
   |(exfalso;exact h rfl)
   |exact rOx [0,1,2,3,4,5,6,7,8,9,10,11,12,13,14,15,16,17,18,19,21,22,23,24,25,26] a0y
   |trace_state
 .rw [if_neg he];refine fEx Tryz.func7 ?_;repeat' ((conv=>whnf);first|(refine ⟨202,c0C (by kernel_rfl),?_⟩)|refine cPx c1 ?_|refine cPx c2 ?_|refine cOx (l:= [0,1,2,3,4,5,6,7,8,9,10,11,12,13,14,15,16,17,18,19]) c3 ?_|refine a0a ?_|(apply bRx<;>intro h<;>try (exfalso;(try dsimp only at h);omega)))
  all_goals (conv=>whnf)
  all_goals first
   |(exfalso;omega)
   |(exfalso;exact h rfl)
   |(exfalso;exact he h)
   |exact rOx [0,1,2,3,4,5,6,7,8,9,10,11,12,13,14,15,16,17,18,19,21,22,23,24,25,26] a0y
   |trace_state
theorem a1m (s S':Bks) (o:Bop) (E:Int) (hc:ckE o=0) (hk:o.k=8) (ht:¬o.t<s.last)
  (c3:FC Tryz.prog 20 210 [.agg [],.ptr 1 0 0 0,o.s] (h0q s) (a0f (.int .i64 E) (h0r S') 26)):
  FC Tryz.prog 20 7 [.ptr 1 0 0 0,o.s] (h0q s) (a0f (.int .i64 E) (h0r (if E=0 then { S' with last:=o.t} else S')) 26):=by
 have c1:=e0m o;rw [hc] at c1;have c2:a0V Tryz.prog 30 [.int .i64 o.k] (.iface 139 (.agg [])):=by
  have c:=e0v o.k (by omega);rw [if_neg (by omega),if_pos hk] at c;exact c
 by_cases he:E=0
 .rw [if_pos he];subst he;refine fEx Tryz.func7 ?_;repeat' ((conv=>whnf);first|(refine ⟨210,c0C (by kernel_rfl),?_⟩)|refine cPx c1 ?_|refine cPx c2 ?_|refine cOx (l:= [0,1,2,3,4,5,6,7,8,9,10,11,12,13,14,15,16,17,18,19]) c3 ?_|refine a0a ?_|(apply bRx<;>intro h<;>try (exfalso;(try dsimp only at h);omega)))
  all_goals (conv=>whnf)
  all_goals first
   |(exfalso;omega)
   |(exfalso;exact h rfl)
   |exact rOx [0,1,2,3,4,5,6,7,8,9,10,11,12,13,14,15,16,17,18,19,21,22,23,24,25,26] a0y
   |trace_state
 .rw [if_neg he];refine fEx Tryz.func7 ?_;repeat' ((conv=>whnf);first|(refine ⟨210,c0C (by kernel_rfl),?_⟩)|refine cPx c1 ?_|refine cPx c2 ?_|refine cOx (l:= [0,1,2,3,4,5,6,7,8,9,10,11,12,13,14,15,16,17,18,19]) c3 ?_|refine a0a ?_|(apply bRx<;>intro h<;>try (exfalso;(try dsimp only at h);omega)))
  all_goals (conv=>whnf)
  all_goals first
   |(exfalso;omega)
   |(exfalso;exact h rfl)
   |(exfalso;exact he h)
   |exact rOx [0,1,2,3,4,5,6,7,8,9,10,11,12,13,14,15,16,17,18,19,21,22,23,24,25,26] a0y
   |trace_state
theorem a1n (s S':Bks) (o:Bop) (E:Int) (hc:ckE o=0) (hk:o.k=4\/o.k=5\/o.k=6) (ht:¬o.t<s.last)
  (c3:FC Tryz.prog 20 230 [.agg [],.ptr 1 0 0 0,o.s] (h0q s) (a0f (.int .i64 E) (h0r S') 26)):
  FC Tryz.prog 20 7 [.ptr 1 0 0 0,o.s] (h0q s) (a0f (.int .i64 E) (h0r (if E=0 then { S' with last:=o.t} else S')) 26):=by
 have c1:=e0m o;rw [hc] at c1;have c2:a0V Tryz.prog 30 [.int .i64 o.k] (.iface 140 (.agg [])):=by
  have c:=e0v o.k (by omega);rw [if_neg (by omega),if_neg (by omega),if_pos hk] at c;exact c
 by_cases he:E=0
 .rw [if_pos he];subst he;refine fEx Tryz.func7 ?_;repeat' ((conv=>whnf);first|(refine ⟨230,c0C (by kernel_rfl),?_⟩)|refine cPx c1 ?_|refine cPx c2 ?_|refine cOx (l:= [0,1,2,3,4,5,6,7,8,9,10,11,12,13,14,15,16,17,18,19]) c3 ?_|refine a0a ?_|(apply bRx<;>intro h<;>try (exfalso;(try dsimp only at h);omega)))
  all_goals (conv=>whnf)
  all_goals first
   |(exfalso;omega)
   |(exfalso;exact h rfl)
   |exact rOx [0,1,2,3,4,5,6,7,8,9,10,11,12,13,14,15,16,17,18,19,21,22,23,24,25,26] a0y
   |trace_state
 .rw [if_neg he];refine fEx Tryz.func7 ?_;repeat' ((conv=>whnf);first|(refine ⟨230,c0C (by kernel_rfl),?_⟩)|refine cPx c1 ?_|refine cPx c2 ?_|refine cOx (l:= [0,1,2,3,4,5,6,7,8,9,10,11,12,13,14,15,16,17,18,19]) c3 ?_|refine a0a ?_|(apply bRx<;>intro h<;>try (exfalso;(try dsimp only at h);omega)))
  all_goals (conv=>whnf)
  all_goals first
   |(exfalso;omega)
   |(exfalso;exact h rfl)
   |(exfalso;exact he h)
   |exact rOx [0,1,2,3,4,5,6,7,8,9,10,11,12,13,14,15,16,17,18,19,21,22,23,24,25,26] a0y
   |trace_state
theorem a1o (s S':Bks) (o:Bop) (E:Int) (hc:ckE o=0) (hk:o.k=2\/o.k=3\/o.k=7) (ht:¬o.t<s.last)
  (c3:FC Tryz.prog 20 205 [.agg [],.ptr 1 0 0 0,o.s] (h0q s) (a0f (.int .i64 E) (h0r S') 26)):
  FC Tryz.prog 20 7 [.ptr 1 0 0 0,o.s] (h0q s) (a0f (.int .i64 E) (h0r (if E=0 then { S' with last:=o.t} else S')) 26):=by
 have c1:=e0m o;rw [hc] at c1;have c2:a0V Tryz.prog 30 [.int .i64 o.k] (.iface 138 (.agg [])):=by
  have c:=e0v o.k (by omega);rw [if_neg (by omega),if_neg (by omega),if_neg (by omega)] at c;exact c
 by_cases he:E=0
 .rw [if_pos he];subst he;refine fEx Tryz.func7 ?_;repeat' ((conv=>whnf);first|(refine ⟨205,c0C (by kernel_rfl),?_⟩)|refine cPx c1 ?_|refine cPx c2 ?_|refine cOx (l:= [0,1,2,3,4,5,6,7,8,9,10,11,12,13,14,15,16,17,18,19]) c3 ?_|refine a0a ?_|(apply bRx<;>intro h<;>try (exfalso;(try dsimp only at h);omega)))
  all_goals (conv=>whnf)
  all_goals first
   |(exfalso;omega)
   |(exfalso;exact h rfl)
   |exact rOx [0,1,2,3,4,5,6,7,8,9,10,11,12,13,14,15,16,17,18,19,21,22,23,24,25,26] a0y
   |trace_state
 .rw [if_neg he];refine fEx Tryz.func7 ?_;repeat' ((conv=>whnf);first|(refine ⟨205,c0C (by kernel_rfl),?_⟩)|refine cPx c1 ?_|refine cPx c2 ?_|refine cOx (l:= [0,1,2,3,4,5,6,7,8,9,10,11,12,13,14,15,16,17,18,19]) c3 ?_|refine a0a ?_|(apply bRx<;>intro h<;>try (exfalso;(try dsimp only at h);omega)))
  all_goals (conv=>whnf)
  all_goals first
   |(exfalso;omega)
   |(exfalso;exact h rfl)
   |(exfalso;exact he h)
   |exact rOx [0,1,2,3,4,5,6,7,8,9,10,11,12,13,14,15,16,17,18,19,21,22,23,24,25,26] a0y
   |trace_state
theorem a1p (s:Bks) (o:Bop) (h:BkOk s):FC Tryz.prog 20 7 [.ptr 1 0 0 0,o.s] (h0q s) (a0f (.int .i64 (doE s o)) (h0r (doS s o)) 26):=by
 by_cases hc:ckE o=0
 .by_cases ht:o.t<s.last
  .have e1:doE s o=14:=by unfold doE;rw [if_neg (fun e=>e hc),if_pos ht]
   have e2:doS s o=s:=by unfold doS;rw [e1,if_neg (by decide)]
   rw [e1,e2];exact t0W s o hc ht
  .have e1:doE s o=pfE s o:=by unfold doE;rw [if_neg (fun e=>e hc),if_neg ht]
   have key:∀S',S'=(if pfE s o=0 then pfS s o else s)->(if pfE s o=0 then { S' with last:=o.t} else S')=doS s o:=by
    intro S' e;subst e;unfold doS;rw [e1];split
    .rfl
    .rfl
   have hO:=y0J hc;rw [e1,<-key _ rfl];have hk:=e0l (show¬(o.k<1\/8<o.k) by have:=hO.k;omega);by_cases k1:o.k=1
   .refine a1l s _ o _ hc k1 ht ?_;have e3:pfE s o=x0m s o:=by unfold pfE;rw [if_pos k1]
    have e4:pfS s o=b1i s o:=by unfold pfS;rw [if_pos k1]
    rw [e3,e4];exact t0R s o h hO
   by_cases k8:o.k=8
   .refine a1m s _ o _ hc k8 ht ?_;have e3:pfE s o=clE s.hs s.ds s.cd o.am:=by unfold pfE;rw [if_neg k1,if_pos k8]
    have e4:pfS s o=clS s o:=by unfold pfS;rw [if_neg k1,if_pos k8]
    rw [e3,e4];exact a1a s o h hO k8
   by_cases k4:o.k=4\/o.k=5\/o.k=6
   .refine a1n s _ o _ hc k4 ht ?_;have e3:pfE s o=mmE s o:=by unfold pfE;rw [if_neg k1,if_neg k8,if_pos k4]
    have e4:pfS s o=mmS s o:=by unfold pfS;rw [if_neg k1,if_neg k8,if_pos k4]
    rw [e3,e4];exact d1q s o h hO k4
   .have k2:o.k=2\/o.k=3\/o.k=7:=by omega
    refine a1o s _ o _ hc k2 ht ?_;have e3:pfE s o=d0l s o:=by unfold pfE;rw [if_neg k1,if_neg k8,if_neg k4]
    have e4:pfS s o=f0L s o:=by unfold pfS;rw [if_neg k1,if_neg k8,if_neg k4]
    rw [e3,e4];rcases k2 with k|k|k
    .exact t0S s o h hO k
    .exact t0T s o h hO k
    .exact t0U s o h hO k
 .have e1:doE s o=ckE o:=by unfold doE;rw [if_pos hc]
  have e2:doS s o=s:=by unfold doS;rw [e1,if_neg hc]
  rw [e1,e2];exact a1k s o hc
end
section
attribute [local irreducible] sortI
theorem s0A {s:ByteArray}:∀{n:Nat},l0y s n=true->∀k,k<n->wdP (a0e s (k:Int))
 |0,_,k,hk=>absurd hk (h1E _)
 |n+1,h,k,hk=>by
  simp only [l0y,k0P,decide_eq_true_eq] at h;rcases Nat.lt_succ_iff_lt_or_eq.1 hk with h1|h1
  .exact s0A h.1 k h1
  .subst h1;exact h.2
theorem d1u {p:ByteArray} (h:nmB p=true):h0u (d0w p)=true:=by
 unfold nmB at h;simp only [k0P,decide_eq_true_eq] at h;obtain ⟨⟨⟨h1,h2⟩,h3⟩,h4⟩:=h;have hz:(d0w p).size=6+p.size:=by unfold d0w;rw [b1U];rfl
 unfold h0u;rw [k0P,hz];refine ⟨decide_eq_true (by omega),?_⟩;rw [h1D];intro i hi;rw [i1E] at hi;unfold e1w;refine decide_eq_true ?_;by_cases hi6:i<6
 .unfold d0w;rw [j0W (a:=p0c) (b:=p) (by show i<6;exact hi6)];rcases (show i=0\/i=1\/i=2\/i=3\/i=4\/i=5 by omega) with rfl|rfl|rfl|rfl|rfl|rfl<;>decide
 .have e:=j0X (a:=p0c) (b:=p) (i:=i-6);rw [show p0c.size+(i-6)=i by show 6+(i-6)=i;omega] at e;have h5:=s0A h4 (i-6) (by omega);unfold wdP ltP at h5;unfold d0w;rw [e];omega
theorem s0B:∀(L A:List ByteArray),(A++L).Nodup->(∀a∈L,h0u a=true)->nmE A L=0
 | [],A,_,_=>rfl
 |a::L,A,h,hl=>by
  simp only [nmE];rw [if_neg (by rw [hl a (List.mem_cons_self ..)];decide)];have h1:a∉A:=fun hm=>by
   rw [h1Z] at h;exact h.2.2 a hm a (List.mem_cons_self ..) rfl
  rw [if_neg (fun hi=>h1 (f0T.1 hi))];exact s0B L (A++ [a]) (by rw [i1V];exact h) (fun x hx=>hl x (i1X _ hx))
theorem q0P {L:List ByteArray} (h:b0R L=0):u0e (L.map d0w)=0:=by
 obtain ⟨h1,h2,h3⟩:=h0k h;unfold u0e;rw [b1M,if_neg (by omega)];refine s0B _ _ ?_ ?_
 .rw [h1T];exact (List.Pairwise.map d0w (R:=fun a b=>a≠b) (S:=fun a b=>a≠b) (fun a b hab e=>hab (s0s e)) h2)
 .intro a ha;obtain ⟨p,hp,rfl⟩:=f1S.1 ha;exact d1u (h3 p hp)
def bkE (cur:ByteArray) (days:Int) (H:List Int) (m:Nat) (cut:Int) (L:List ByteArray):Int:=
 if days<1\/1000<days then 4 else if d0k cur=false then 11 else if p0j H m≠0 then p0j H m else cnE cut L
def bk1 (cur:ByteArray) (days:Int) (H:List Int) (cut:Int) (L:List ByteArray):Bks:=
 ⟨cur,days,0,[],cut,(ddS H).length,ddS H,L.length,L,0,[],[],0,[],lg0 (L.map d0w),0⟩
theorem x0A {cur:ByteArray} {days:Int} {H:List Int} {m:Nat} {cut:Int} {L:List ByteArray} (h:bkE cur days H m cut L=0):BkOk (bk1 cur days H cut L):=by
 unfold bkE at h;by_cases h1:days<1\/1000<days
 .rw [if_pos h1] at h;cases h
 rw [if_neg h1] at h;by_cases h2:d0k cur=false
 .rw [if_pos h2] at h;cases h
 rw [if_neg h2] at h;by_cases h3:p0j H m≠0
 .rw [if_pos h3] at h;exact absurd h h3
 rw [if_neg h3] at h;unfold cnE at h;by_cases h4:cut<0\/86400<cut
 .rw [if_pos h4] at h;cases h
 rw [if_neg h4] at h;have hE:=q0P h;exact ⟨e1J hE,rfl,fun a c=>by show-(999999999999*((0:Nat):Int))<=0/\(0:Int)<=999999999999*((0:Nat):Int);omega,rfl,rfl,h,
  ⟨rfl,rfl,h1M,fun i hi=>absurd hi (h1E _)⟩,rfl,rfl,z0h _,by show 1<=days/\days<=1000;omega,by show d0k cur=true;simpa using h2,by show (0:Int)<=0/\(0:Int)<=1099511627776;omega,m0D _,fun i hi=>absurd hi (h1E _)⟩
end
section
attribute [local irreducible] a0q a0r a0j a0R sortI
attribute [local irreducible] seq ByteArray.extract
theorem l0V (s:Bks) (a:ByteArray):FC Tryz.prog 20 11 [.ptr 1 0 0 0,.str a] (h0q s) (a0f (.int .i64 (s.lg.bal a s.cur)) (h0r s) 26):=by
 have c1:=l0I s.lg a s.cur;generalize s.lg.bal a s.cur=x at*;refine fEx Tryz.func11 ?_;repeat' ((conv=>whnf);first|refine cOx (l:= [0,4,5,6,7,8,9]) c1 ?_|refine a0a ?_|(apply bRx<;>intro h<;>try (exfalso;(try dsimp only at h);omega)))
 all_goals (conv=>whnf)
 all_goals first
  |exact rOx [0,1,2,3,4,5,6,7,8,9,10,11,12,13,14,15,16,17,18,19,2,6,10,17,18,19] a0y
  |trace_state
theorem p0e (s:Bks) (h:BkOk s) (d:Int):FC Tryz.prog 20 14 [.ptr 1 0 0 0,.int .i64 d] (h0q s)
  (a0f (.sl 26 0 0 (h0v s.ds s.B d).length) ((26,some (.one false (pxB (h0v s.ds s.B d).length (b0e (h0v s.ds s.B d)))))::h0r s) 27):=by
 have c1:=f0e h.bks s.cut d;generalize h0v s.ds s.B d=L at*;refine fEx Tryz.func14 ?_;repeat' ((conv=>whnf);first|refine cOx (l:= [0,11,12,13,14,15,16,17,18,19]) c1 ?_|refine a0a ?_|(apply bRx<;>intro h<;>try (exfalso;(try dsimp only at h);omega)))
 all_goals (conv=>whnf)
 all_goals first
  |exact rOx [0,1,2,3,4,5,6,7,8,9,10,11,12,13,14,15,16,17,18,19,2,6,10,17,18,19,20] (a0c a0y)
  |trace_state
theorem d1v (s:Bks) (h:BkOk s) (id:ByteArray) (hp:s.pl id<s.na):FC Tryz.prog 20 9 [.ptr 1 0 0 0,.str id] (h0q s) (a0f (.tup [(b0j s.au (s.pl id)).s,.bool true]) (h0r s) 26):=by
 have hb:decide (a0l s.aid id<s.na)=true:=decide_eq_true hp;have hpl:=q0t hp;have hcn:0<=((List.range s.na).map Int.ofNat).getD (s.pl id) 0/\((List.range s.na).map Int.ofNat).getD (s.pl id) 0<(s.na:Int):=by rw [hpl];omega
 refine fEx Tryz.func9 ?_;repeat' ((conv=>whnf);first|(rw [hb];try dsimp only [a0P,a0Y])|(simp only [hpl,f0J])|refine a0a ?_|(apply bRx<;>intro h<;>try (exfalso;(try dsimp only at h);omega)))
 all_goals (conv=>whnf)
 all_goals first
  |exact rOx [0,1,2,3,4,5,6,7,8,9,10,11,12,13,14,15,16,17,18,19,2,6,10,17,18,19] a0y
  |trace_state
end
section
attribute [local irreducible] a0q a0r a0j a0R sortI
def dgT (L:List Au):Nat->ByteArray
 |0=>⟨#[]⟩
 |k+1=>dgT L k++(auT (b0j L k)++⟨#[59]⟩)
theorem n0i (L:List Au):∀k,(dgT L k).size<=1001*k/\(1<=k->0<(dgT L k).size)
 |0=>⟨m0D _,fun h=>absurd h (by decide)⟩
 |k+1=>by
  have ih:=n0i L k;have h1:=x0z (b0j L k);have h2:(⟨#[59]⟩:ByteArray).size=1:=rfl;simp only [dgT,b1U,h2];omega
def dgI (s:Bks):Int:=chI s.lg.dig (dgT s.au s.na++b0S s.last)
attribute [local irreducible] seq ByteArray.extract
theorem a1q (n:Int):0<(b0S n).size:=by
 have h1:=g0O n.toNat;unfold b0S dec;split
 .simp [a0C,ByteArray.size]
 .simp [a0C,ByteArray.size,b0L];exact h1
abbrev g1n (s:Bks):a0h:= [(0,some (GB glT)),(1,d1n true 2 s),(2,some (.one true (auB s.na s.au))),(4,some (.one true (.cells (lgF 5 6 7 8 9 s.lg))))]
def dgS (s:Bks):Nat->VS
 |0=>⟨[(0,.ptr 1 0 0 0),(3,.ptr 20 0 0 0),(11,.sl 2 0 0 s.na),(12,.int .i64 s.na),(13,.int .i64 ((0:Nat):Int))],(20,c1p)::g1n s,21⟩
 |k+1=>⟨[(0,.ptr 1 0 0 0),(3,.ptr 20 0 0 0),(11,.sl 2 0 0 s.na),(12,.int .i64 s.na),(13,.int .i64 ((k+1:Nat):Int))],(20,k0D 21 (dgT s.au (k+1)).size)::(21,g0j (dgT s.au (k+1)))::g1n s,22⟩
theorem x0B (s:Bks) (h:BkOk s):FC Tryz.prog 20 16 [.ptr 1 0 0 0] (g1n s) (a0f (.int .u64 (dgI s)) [] 20):=by
 have hn:=h.n256;have hl:=h.last;have c5:=v0Z s.lg;have g1:=h0b s.last (by omega) (by omega);have hd:=a0A s.last (by omega) (by omega);have hd0:0<(b0S s.last).size:=a1q s.last;have hT:=n0i s.au;refine fEx Tryz.func16 ?_;repeat' ((conv=>whnf);first|refine a0a ?_|(apply bRx<;>intro h<;>try (exfalso;(try dsimp only at h);omega)))
 all_goals (conv=>whnf)
 refine a0o (dgS s) (fun k=>k<=s.na) (fun k=>s.na-k) 0 [0,1,2,3,4,5,6,7,8,9,10,11,12,13,14,15,16,17,18,19,20] [] wHx (z0h _) ?_;intro k hk;by_cases hk2:k<s.na
 .have c2:=q0O (b0j s.au k);have hz:=x0z (b0j s.au k);have hz1:(⟨#[59]⟩:ByteArray).size=1:=rfl;have hs1:(auT (b0j s.au k)++⟨#[59]⟩).size=(auT (b0j s.au k)).size+1:=by rw [b1U,hz1]
  have hcd:(auT (b0j s.au k)).size+(⟨#[59]⟩:ByteArray).size<=9223372036854775807:=by omega
  cases k with
  |zero=>
   have c3:=q0i (auT (b0j s.au 0)++⟨#[59]⟩) (by omega) (by omega);have hTe:dgT s.au 1=auT (b0j s.au 0)++⟨#[59]⟩:=by simp only [dgT];exact ByteArray.empty_append
   rw [<-hTe] at c3;unfold dgS;repeat' ((conv=>whnf);first|(refine a0g hcd ?_)|refine cGx c2 ?_|refine cOx (l:= [0,20]) c3 ?_|refine a0a ?_|(apply bRx<;>intro h<;>try (exfalso;(try dsimp only at h);omega)))
   all_goals (conv=>whnf)
   all_goals first
    |(exfalso;omega)
    |exact ⟨1,[0,1,2,3,4,5,6,7,8,9,10,11,12,13,14,15,16,17,18,19,20,22],[],hk2,(show s.na-1<s.na-0 by omega),⟨rfl,⟨rfl,rfl,rfl,rfl,congrArg (fun z=>some (SV.int .i64 z)) (a0i (by omega)),trivial⟩,⟨rfl,rfl,gwk rfl,rfl,rfl,rfl,trivial⟩⟩⟩
    |trace_state
  |succ k=>
   have hTk:=hT (k+1);have c3:=v0V (dgT s.au (k+1)) (auT (b0j s.au (k+1))++⟨#[59]⟩) (by omega) (by omega);have hTe:dgT s.au (k+1+1)=dgT s.au (k+1)++(auT (b0j s.au (k+1))++⟨#[59]⟩):=rfl;rw [<-hTe] at c3;unfold dgS;repeat' ((conv=>whnf);first|(refine a0g hcd ?_)|refine cGx c2 ?_|refine cOx (l:= [0,20,21]) c3 ?_|refine a0a ?_|(apply bRx<;>intro h<;>try (exfalso;(try dsimp only at h);omega)))
   all_goals (conv=>whnf)
   all_goals first
    |(exfalso;omega)
    |exact ⟨k+1+1,[0,1,2,3,4,5,6,7,8,9,10,11,12,13,14,15,16,17,18,19,20,23],[],hk2,(show s.na-(k+1+1)<s.na-(k+1) by omega),⟨rfl,⟨rfl,rfl,rfl,rfl,congrArg (fun z=>some (SV.int .i64 z)) (a0i (by omega)),trivial⟩,⟨rfl,rfl,gwk rfl,rfl,rfl,rfl,trivial⟩⟩⟩
    |trace_state
 have ek:k=s.na:=by omega
 subst ek;have hz:(dgT s.au s.na++b0S s.last).size<=9223372036854775000:=by
  have:=(hT s.na).1;rw [b1U];omega
 have c6:=o0u s.lg.dig (dgT s.au s.na++b0S s.last) hz;have hp:0<(dgT s.au s.na++b0S s.last).size:=by rw [b1U];omega
 have c7:=l0H (dgT s.au s.na++b0S s.last) hp;unfold dgI;generalize hX:chI s.lg.dig (dgT s.au s.na++b0S s.last)=X at*;cases hna:s.na with
 |zero=>
  rw [hna] at c6 c7 hp hz;have e0:dgT s.au 0++b0S s.last=b0S s.last:=ByteArray.empty_append;rw [e0] at c6 c7 hp hz;have c3:=q0i (b0S s.last) hd0 (by omega);unfold dgS;repeat' ((conv=>whnf);first|refine cGx g1 ?_|refine cOx (l:= [0,20]) c3 ?_|refine cOx (l:= [0,4,5,6,7,8,9]) c5 ?_|refine cOx (l:= [0,20,21]) c7 ?_|refine cPx c6 ?_|refine a0a ?_|(apply bRx<;>intro h<;>try (exfalso;(try dsimp only at h);omega)))
  all_goals (conv=>whnf)
  all_goals first
   |(exfalso;omega)
   |exact rOx [0,1,2,3,4,5,6,7,8,9,10,11,12,13,14,15,16,17,18,19] a0b
   |trace_state
 |succ k=>
  rw [hna] at c6 c7 hp hz;have hTk:=hT (k+1);have c3:=v0V (dgT s.au (k+1)) (b0S s.last) hd0 (by omega);unfold dgS;repeat' ((conv=>whnf);first|refine cGx g1 ?_|refine cOx (l:= [0,20,21]) c3 ?_|refine cOx (l:= [0,4,5,6,7,8,9]) c5 ?_|refine cOx (l:= [0,20,22]) c7 ?_|refine cPx c6 ?_|refine a0a ?_|(apply bRx<;>intro h<;>try (exfalso;(try dsimp only at h);omega)))
  all_goals (conv=>whnf)
  all_goals first
   |(exfalso;omega)
   |exact rOx [0,1,2,3,4,5,6,7,8,9,10,11,12,13,14,15,16,17,18,19] a0b
   |trace_state
end
section
attribute [local irreducible] a0q a0r a0j a0R sortI
attribute [local irreducible] seq ByteArray.extract lgE
theorem t0X (m:Nat) (s:Bks) (h:BkOk s) (hd:s.lg.dig=w0n s.lg.ent):FC Tryz.prog 16 17 [.ptr 1 0 0 0] [(1,rbC true 4 m s),(4,some (.one true (auB s.na s.au))),(5,rlC true 6 7 s.lg),(7,rlE true 8 s.lg),(8,c0n true s.lg)] (a0f (.int .u64 (dgI s)) [] 16):=by
 have hn:=h.n256;have hl:=h.last;have hT:=n0i s.au;have c5:=t0J s.lg h.lg hd;have c6:=b0N s.last (by omega) (by omega);have hd:=a0A s.last (by omega) (by omega);have hz:(dgT s.au s.na++b0S s.last).size<=9223372036854700000:=by
  have:=(hT s.na).1;rw [b1U];omega
 have c7:=o0H s.lg.dig (dgT s.au s.na++b0S s.last) hz;unfold dgI;generalize hX:chI s.lg.dig (dgT s.au s.na++b0S s.last)=X at*;refine fEx Tryz.func17 ?_;repeat' ((conv=>whnf);first|refine a0a ?_|(apply bRx<;>intro h<;>try (exfalso;(try dsimp only at h);omega)))
 all_goals (conv=>whnf)
 refine a0o (fun k:Nat=>⟨[(0,.ptr 1 0 0 0),(3,.str (dgT s.au k)),(4,.int .i64 k)],[(1,rbC true 4 m s),(4,some (.one true (auB s.na s.au))),(5,rlC true 6 7 s.lg),(7,rlE true 8 s.lg),(8,c0n true s.lg)],16⟩) (fun k=>k<=s.na) (fun k=>s.na-k) 0 [0,1,2,3,4,5,6,7,8,9,10,11,12,13,14,15] [] wHx (z0h _) ?_;intro k hk;have hk1:=(hT k).1;by_cases hk2:k<s.na
 .have c2:=t0V (b0j s.au k);have hz:=x0z (b0j s.au k);have hz1:(⟨#[59]⟩:ByteArray).size=1:=rfl;have hTe:dgT s.au (k+1)=(dgT s.au k++auT (b0j s.au k))++⟨#[59]⟩:=by rw [j1I];rfl
  generalize auT (b0j s.au k)=U at*;unfold b0j at c2;try dsimp only at c2
  generalize hT0:dgT s.au k=T at*;generalize hT1:dgT s.au (k+1)=T1 at*;repeat' ((conv=>whnf);first|refine cPx c2 ?_|(refine a0g ?_ ?_;(simp only [b1U,hz1];omega))|refine a0a ?_|(apply bRx<;>intro h<;>try (exfalso;(try dsimp only at h);omega)))
  all_goals (conv=>whnf)
  all_goals first
   |(exfalso;omega)
   |(subst hT1;exact ⟨k+1,[0,1,2,3,4,5,6,7,8,9,10,11,12,13,14,15],[],hk2,(show s.na-(k+1)<s.na-k by omega),⟨rfl,⟨rfl,by rw [hTe];rfl,congrArg (fun z=>some (SV.int .i64 z)) (a0i (by omega)),trivial⟩,⟨rfl,rfl,rfl,rfl,rfl,trivial⟩⟩⟩)
   |trace_state
 have ek:k=s.na:=by omega
 subst ek;repeat' ((conv=>whnf);first|refine cOx (l:= [0,5,6,7,8]) c5 ?_|refine cPx c6 ?_|refine cPx c7 ?_|(refine a0g ?_ ?_;omega)|refine a0a ?_|(apply bRx<;>intro h<;>try (exfalso;(try dsimp only at h);omega)))
 all_goals (conv=>whnf)
 all_goals first
  |(exfalso;omega)
  |exact rOx [0,1,2,3,4,5,6,7,8,9,10,11,12,13,14,15] a0b
  |trace_state
theorem k0B (m:Nat) (s:Bks) (h:BkOk s) (hp:∀e∈s.lg.ent,poM e.ps) (a:ByteArray):FC Tryz.prog 16 12 [.ptr 1 0 0 0,.str a] [(1,rbC true 4 m s),(5,rlC true 6 7 s.lg),(7,rlE true 8 s.lg),(8,c0n true s.lg)] (a0f (.int .i64 (s.lg.bal a s.cur)) [] 16):=by
 have c1:=k0i s.lg h.lg hp a s.cur;generalize s.lg.bal a s.cur=x at*;refine fEx Tryz.func12 ?_;repeat' ((conv=>whnf);first|refine cOx (l:= [0,5,6,7,8]) c1 ?_|refine a0a ?_|(apply bRx<;>intro h<;>try (exfalso;(try dsimp only at h);omega)))
 all_goals (conv=>whnf)
 all_goals first
  |exact rOx [0,1,2,3,4,5,6,7,8,9,10,11,12,13,14,15] a0b
  |trace_state
theorem a1r {s:Bks} (h:BkOk s) {i:Nat} (hi:¬i<s.na):b0j s.au i=Au.zero:=by
 rw [x0k,List.getD,p0J (by have:=h.na;omega)];rfl
theorem a1s (m:Nat) (s:Bks) (h:BkOk s) (id:ByteArray):FC Tryz.prog 16 10 [.ptr 1 0 0 0,.str id] [(1,rbC true 4 m s),(4,some (.one true (auB s.na s.au)))] (a0f (.tup [(b0j s.au (s.pl id)).s,.bool (decide (s.pl id<s.na))]) [] 16):=by
 have c0:=f0I m s h id;by_cases hp:s.pl id<s.na
 .rw [if_pos hp] at c0;rw [decide_eq_true hp];refine fEx Tryz.func10 ?_;repeat' ((conv=>whnf);first|refine cOx (l:= [0,1,2,3,4,5,6,7,8,9,10,11,12,13,14,15]) c0 ?_|refine a0a ?_|(apply bRx<;>intro h<;>try (exfalso;(try dsimp only at h);omega)))
  all_goals (conv=>whnf)
  all_goals first
   |(exfalso;omega)
   |exact rOx [0,1,2,3,4,5,6,7,8,9,10,11,12,13,14,15] a0b
   |trace_state
 .rw [if_neg hp] at c0;rw [decide_eq_false hp,a1r h hp];refine fEx Tryz.func10 ?_;repeat' ((conv=>whnf);first|refine cOx (l:= [0,1,2,3,4,5,6,7,8,9,10,11,12,13,14,15]) c0 ?_|refine a0a ?_|(apply bRx<;>intro h<;>try (exfalso;(try dsimp only at h);omega)))
  all_goals (conv=>whnf)
  all_goals first
   |(exfalso;omega)
   |exact rOx [0,1,2,3,4,5,6,7,8,9,10,11,12,13,14,15] a0b
   |trace_state
theorem h0s (m:Nat) (H:List Int) (s:Bks) (L:List Rc) (k:Nat) (h:RbI m H s L k) (hk:k<=60) (d:Int):FC Tryz.prog 16 15 [.ptr 1 0 0 0,.int .i64 d] [(1,rbC true 4 m s),(9,d1M true 10 11 12 s.np L.length s.cut),(11,cyP true s.np s.pr),(12,rgP true 13 L.length),(13,fmB true L.length (g6 L 14)),(14,fmB true L.length (g7q 11 L 15 s.np)),(15,fmB true L.length (g8 L))]
  (a0f (.sl 16 0 0 (h0v s.ds s.B d).length) [(16,some (.one false (pxB (h0v s.ds s.B d).length (b0e (h0v s.ds s.B d)))))] 17):=by
 have hlen:=h.ci.r.len;have hrl:=h.ci.r.rl d;have c1:=h0p L L.length rfl (by omega) s.np s.pr s.cut d (by omega) (h.ci.r.bk d).d;rw [h.ci.P h.ok.err d] at c1;generalize h0v s.ds s.B d=R at*;refine fEx Tryz.func15 ?_;repeat' ((conv=>whnf);first|refine cOx (l:= [0,9,10,3,11,12,13,14,15]) c1 ?_|refine a0a ?_|(apply bRx<;>intro h<;>try (exfalso;(try dsimp only at h);omega)))
 all_goals (conv=>whnf)
 all_goals first
  |exact rOx [0,1,2,3,4,5,6,7,8,9,10,11,12,13,14,15,16] (a0c a0b)
  |trace_state
theorem f1q (m:Nat) (H:List Int) (s:Bks) (L:List Rc) (k:Nat) (h:RbI m H s L k) (hk:k<=60) (o:Bop) (hc:CkOk o):
  ∃L',RbI m H (if pfE s o=0 then pfS s o else s) L' (k+1)/\FC Tryz.prog 16 32 [.ptr 1 0 0 0,o.s] (x0t m H s L) (a0f (.int .i64 (pfE s o)) (x0u m (if pfE s o=0 then pfS s o else s) L') 23):=by
 have h8:=hc.k;by_cases k1:o.k=1
 .have e1:pfE s o=x0m s o:=by unfold pfE;rw [if_pos k1]
  have e2:pfS s o=b1i s o:=by unfold pfS;rw [if_pos k1]
  rw [e1,e2];exact a1b m H s L k h hk o hc k1
 by_cases k8:o.k=8
 .have e1:pfE s o=clE s.hs s.ds s.cd o.am:=by unfold pfE;rw [if_neg k1,if_pos k8]
  have e2:pfS s o=clS s o:=by unfold pfS;rw [if_neg k1,if_pos k8]
  rw [e1,e2];exact a1h m H s L k h hk o hc k8
 by_cases k4:o.k=4\/o.k=5\/o.k=6
 .have e1:pfE s o=mmE s o:=by unfold pfE;rw [if_neg k1,if_neg k8,if_pos k4]
  have e2:pfS s o=mmS s o:=by unfold pfS;rw [if_neg k1,if_neg k8,if_pos k4]
  rw [e1,e2];by_cases q:o.k=4
  .exact a1c m H s L k h hk o hc q
  by_cases hs:o.am<0
  .exact x0x m H s L k h hk o hc (by omega) hs
  .exact a1d m H s L k h hk o hc (by omega) hs
 have e1:pfE s o=d0l s o:=by unfold pfE;rw [if_neg k1,if_neg k8,if_neg k4]
 have e2:pfS s o=f0L s o:=by unfold pfS;rw [if_neg k1,if_neg k8,if_neg k4]
 rw [e1,e2];rcases (show o.k=2\/o.k=3\/o.k=7 by omega) with q|q|q
 .exact a1e m H s L k h hk o hc q
 .exact a1f m H s L k h hk o hc q
 .exact a1g m H s L k h hk o hc q
theorem f1r (m:Nat) (H:List Int) (s:Bks) (L:List Rc) (k:Nat) (h:RbI m H s L k) (hk:k<=60) (o:Bop):
  ∃L',RbI m H (doS s o) L' (k+1)/\FC Tryz.prog 16 8 [.ptr 1 0 0 0,o.s] (x0t m H s L) (a0f (.int .i64 (doE s o)) (x0u m (doS s o) L') 23):=by
 have c1:=v0C o;have hup:RbI m H s L (k+1):=⟨h.ok,h.hm,h.m4,h.hs,h.ci.up (h1O _),h.po,h.dg⟩;have hok:=d1m h.ok o;unfold doS at*;by_cases hc:ckE o=0
 case neg=>
  have e1:doE s o=ckE o:=by unfold doE;rw [if_pos hc]
  rw [e1,if_neg hc];refine ⟨L,hup,?_⟩;clear hok;generalize ckE o=E at*;refine fEx Tryz.func8 ?_;repeat' ((conv=>whnf);first|refine cPx c1 ?_|refine a0a ?_|(apply bRx<;>intro h<;>try (exfalso;(try dsimp only at h);omega)))
  all_goals (conv=>whnf)
  all_goals first
   |(exfalso;omega)
   |(exfalso;exact hc h)
   |exact rOx [0,1,2,3,4,5,6,7,8,9,10,11,12,13,14,15,4,7,8,12,13,14,15] a0L
   |trace_state
 have hO:=y0J hc;rw [hc] at c1;by_cases ht:o.t<s.last
 .have e1:doE s o=14:=by unfold doE;rw [if_neg (fun e=>e hc),if_pos ht]
  rw [e1,if_neg (by decide)];refine ⟨L,hup,?_⟩;clear hok;refine fEx Tryz.func8 ?_;repeat' ((conv=>whnf);first|refine cPx c1 ?_|refine a0a ?_|(apply bRx<;>intro h<;>try (exfalso;(try dsimp only at h);omega)))
  all_goals (conv=>whnf)
  all_goals first
   |(exfalso;omega)
   |(exfalso;exact h rfl)
   |exact rOx [0,1,2,3,4,5,6,7,8,9,10,11,12,13,14,15,4,7,8,12,13,14,15] a0L
   |trace_state
 have e1:doE s o=pfE s o:=by unfold doE;rw [if_neg (fun e=>e hc),if_neg ht]
 rw [e1] at hok⊢;obtain ⟨L',hR,c2⟩:=f1q m H s L k h hk o hO;by_cases he:pfE s o=0
 .rw [if_pos he] at hok hR c2⊢;rw [he] at c2⊢;refine ⟨L',⟨hok,hR.hm,hR.m4,hR.hs,hR.ci,hR.po,hR.dg⟩,?_⟩;clear hR hok;generalize pfS s o=S' at*;refine fEx Tryz.func8 ?_;repeat' ((conv=>whnf);first|refine cPx c1 ?_|refine cOx (l:= [0,1,2,3,4,5,6,7,8,9,10,11,12,13,14,15]) c2 ?_|refine a0a ?_|(apply bRx<;>intro h<;>try (exfalso;(try dsimp only at h);omega)))
  all_goals (conv=>whnf)
  all_goals first
   |(exfalso;omega)
   |(exfalso;exact h rfl)
   |exact rOx [0,1,2,3,4,5,6,7,8,9,10,11,12,13,14,15,17,18,19,20,21,22,23] a0L
   |trace_state
 .rw [if_neg he] at hok hR c2⊢;refine ⟨L',hR,?_⟩;clear hR hok;generalize pfE s o=E at*;refine fEx Tryz.func8 ?_;repeat' ((conv=>whnf);first|refine cPx c1 ?_|refine cOx (l:= [0,1,2,3,4,5,6,7,8,9,10,11,12,13,14,15]) c2 ?_|refine a0a ?_|(apply bRx<;>intro h<;>try (exfalso;(try dsimp only at h);omega)))
  all_goals (conv=>whnf)
  all_goals first
   |(exfalso;omega)
   |(exfalso;exact h rfl)
   |(exfalso;exact he h)
   |exact rOx [0,1,2,3,4,5,6,7,8,9,10,11,12,13,14,15,17,18,19,20,21,22,23] a0L
   |trace_state
end
section
attribute [local irreducible] a0q a0r a0j a0R sortI
attribute [local irreducible] seq ByteArray.extract
abbrev f1K (r:Nat->Nat) (s:Bks):a0h:=
 (r 1,some (.one false (.cells [.str s.cur,.int .i64 s.days,.sl (r 2) 0 0 s.na,.map (r 3) 0,.ptr (r 4) 0 0 0,.int .i64 s.lg.ne,.ptr (r 11) 0 0 0,.int .i64 s.last])))::(r 2,some (.one false (auB s.na s.au)))::(r 3,s0t s.na s.aid)::
 (r 9,z0e false s.lg)::(r 4,some (.one false (.cells (lgF (r 5) (r 6) (r 7) (r 8) (r 9) s.lg))))::(r 5,some (.one false (k0M s.lg)))::(r 6,some (.one false (k0N (r 10) s.lg)))::(r 7,some (.one false (t0F s.lg)))::(r 8,some (.one false (e1I s.lg)))::(r 10,c0n false s.lg)::
 (r 11,cyC false (r 12) (r 14) (r 15) (r 16) s.np s.cut)::(r 12,w0r false (r 13))::(r 13,tmM false s.hn s.hs)::(r 14,cyP false s.np s.pr)::(r 16,tmM false s.nc s.cd)::w0I (r 15) (r 17) (r 18) (r 19) s.np s.m s.ds s.B (sortS s.pr)
theorem d1w {r:Nat->Nat} {s:Bks}:d0A (f1K r s):=
 a0c (a0c (a0c (a0c (a0c (a0c (a0c (a0c (a0c (a0u (a0c (a0c (a0c (a0c (a0c k0p))))))))))))))
theorem s0C {L:List ByteArray} {k:Nat} (hk:k<L.length):(L.take k).map d0w++ [d0w (L.getD k ⟨#[]⟩)]=(L.take (k+1)).map d0w:=by
 rw [o0E hk,f1T];rfl
abbrev bnS (L:List ByteArray) (n:Nat) (cur:ByteArray) (m:Nat) (cut days:Int) (S:List Int) (k:Nat):VS:=
 ⟨[(1,.ptr 3 0 0 0),(6,.ptr 6 0 0 0),(7,.sl 13 0 0 k),(46,.sl 1 0 0 n),(47,.int .i64 n),(48,.int .i64 k)],
  (1,some (.one true (.cols n [.sc (.strs L)])))::(3,some (.one false (.cells [.sl 1 0 0 n,.str cur,.sl 2 0 0 m,.int .i64 cut,.int .i64 days])))::(4,w0r false 5)::(5,tmM false S.length S)::(6,cyC false 4 7 8 9 n cut)::(7,cyP false n L)::(9,tmM false 0 [])::
  (13,some (.one false (.cols k [.sc (.strs ((L.take k).map d0w))])))::w0I 8 10 11 12 n 0 [] [] (sortS L),14⟩
theorem x0C (cur:ByteArray) (days cut:Int) (L:List ByteArray) (n:Nat) (H:List Int) (m:Nat) (hL:L.length=n) (hH:H.length=m) (he:bkE cur days H m cut L≠0):
  FC Tryz.prog 3 4 [.agg [.sl 1 0 0 n,.str cur,.sl 2 0 0 m,.int .i64 cut,.int .i64 days]] [(1,some (.one true (.cols n [.sc (.strs L)]))),(2,some (.one true (.cols m [.sc (.ints .i64 H)])))] (a0f (.tup [.nptr,.int .i64 (bkE cur days H m cut L)]) [] 3):=by
 have c0:=r0I cur;have c1:=w0t H m hH;unfold f1F at c1;have c2:=b1d cut L n hL;unfold cnO at c2;unfold bkE at he⊢;by_cases h1:days<1\/1000<days
 .rw [if_pos h1];refine fEx Tryz.func4 ?_;repeat' ((conv=>whnf);first|refine cPx c0 ?_|refine cOx (l:= [0,2]) c1 ?_|refine cOx (l:= [0,4,1]) c2 ?_|refine a0a ?_|(apply bRx<;>intro h<;>try (exfalso;(try dsimp only at h);omega)))
  all_goals (conv=>whnf)
  all_goals first
   |exact rOx [0,1,2] a0b
   |(exfalso;omega)
   |trace_state
 rw [if_neg h1] at he⊢;by_cases h2:d0k cur=false
 .rw [if_pos h2];rw [h2] at c0;refine fEx Tryz.func4 ?_;repeat' ((conv=>whnf);first|refine cPx c0 ?_|refine cOx (l:= [0,2]) c1 ?_|refine cOx (l:= [0,4,1]) c2 ?_|refine a0a ?_|(apply bRx<;>intro h<;>try (exfalso;(try dsimp only at h);omega)))
  all_goals (conv=>whnf)
  all_goals first
   |exact rOx [0,1,2] a0b
   |(exfalso;omega)
   |trace_state
 rw [if_neg h2] at he⊢;have h2':d0k cur=true:=by simpa using h2
 rw [h2'] at c0;by_cases h3:p0j H m≠0
 .rw [if_pos h3];rw [if_neg h3] at c1;generalize p0j H m=E at*;refine fEx Tryz.func4 ?_;repeat' ((conv=>whnf);first|refine cPx c0 ?_|refine cOx (l:= [0,2]) c1 ?_|refine cOx (l:= [0,4,1]) c2 ?_|refine a0a ?_|(apply bRx<;>intro h<;>try (exfalso;(try dsimp only at h);omega)))
  all_goals (conv=>whnf)
  all_goals first
   |(exfalso;exact h3 h)
   |exact rOx [0,1,2] a0b
   |(exfalso;omega)
   |trace_state
 rw [if_neg h3] at he⊢;rw [if_pos (by omega)] at c1;rw [if_neg he] at c2;generalize cnE cut L=E at*;refine fEx Tryz.func4 ?_;repeat' ((conv=>whnf);first|refine cPx c0 ?_|refine cOx (l:= [0,2]) c1 ?_|refine cOx (l:= [0,4,1]) c2 ?_|refine a0a ?_|(apply bRx<;>intro h<;>try (exfalso;(try dsimp only at h);omega)))
 all_goals (conv=>whnf)
 all_goals first
  |(exfalso;exact he h)
  |exact rOx [0,1,2] a0b
  |(exfalso;omega)
  |trace_state
theorem p0f (cur:ByteArray) (days cut:Int) (L:List ByteArray) (n:Nat) (H:List Int) (m:Nat) (hL:L.length=n) (hH:H.length=m) (he:bkE cur days H m cut L=0):
  FC Tryz.prog 3 4 [.agg [.sl 1 0 0 n,.str cur,.sl 2 0 0 m,.int .i64 cut,.int .i64 days]] [(1,some (.one true (.cols n [.sc (.strs L)]))),(2,some (.one true (.cols m [.sc (.ints .i64 H)])))] (a0f (.tup [.ptr 3 0 0 0,.int .i64 0]) (f1K (fun i=>i+2) (bk1 cur days H cut L)) 22):=by
 subst hL;have c0:=r0I cur;have c1:=w0t H m hH;unfold f1F at c1;have c2:=b1d cut L L.length rfl;unfold cnO at c2;have hbk:=x0A he;have hn:=hbk.n256;unfold bkE at he;by_cases h1:days<1\/1000<days
 .rw [if_pos h1] at he;cases he
 rw [if_neg h1] at he;by_cases h2:d0k cur=false
 .rw [if_pos h2] at he;cases he
 rw [if_neg h2] at he;have h2':d0k cur=true:=by simpa using h2
 rw [h2'] at c0;by_cases h3:p0j H m≠0
 .rw [if_pos h3] at he;exact absurd he h3
 rw [if_neg h3] at he;rw [if_pos (by omega)] at c1;rw [if_pos he] at c2;have hnw:b0R L=0:=by
  unfold cnE at he;split at he
  .cases he
  .exact he
 obtain ⟨w1,w2,w3⟩:=h0k hnw;have c5:=w0m (L.map d0w) L.length (by rw [b1M]) (q0P hnw);unfold bk1;generalize hG0:lg0 (L.map d0w)=G0 at*;have hG:(G0.ne:Int)=0:=by rw [<-hG0];rfl
 generalize ddS H=S at*;refine fEx Tryz.func4 ?_;repeat' ((conv=>whnf);first|refine cPx c0 ?_|refine cOx (l:= [0,2]) c1 ?_|refine cOx (l:= [0,4,1]) c2 ?_|refine a0a ?_|(apply bRx<;>intro h<;>try (exfalso;(try dsimp only at h);omega)))
 all_goals (conv=>whnf)
 all_goals first
  |(exfalso;omega)
  |(exfalso;exact h rfl)
  |skip
 refine a0o (bnS L L.length cur m cut days S) (fun k=>k<=L.length) (fun k=>L.length-k) 0 [0,1,2,3,4,5,6,7,8,9,10,11,12,13] [.slot 7 [.sc (.strs [])]] wHx (z0h _) ?_;intro k hk;by_cases hk2:k<L.length
 .have hin:L.getD k ⟨#[]⟩∈L:=by rw [List.getD,j0I (by omega)];exact b1P _
  have hz:=f0m (w3 _ hin);have c4:=f0l (L.getD k ⟨#[]⟩) (by omega);have hT:=s0C (L:=L) (k:=k) (by omega);have hrow:=congrArg (fun z=>some (HB.one false (Blk.cols (k+1) [.sc (.strs z)]))) hT;unfold bnS;repeat' ((conv=>whnf);first|refine cPx c4 ?_|refine a0a ?_|(apply bRx<;>intro h<;>try (exfalso;(try dsimp only at h);omega)))
  all_goals (conv=>whnf)
  all_goals first
   |(exfalso;omega)
   |exact ⟨k+1,[0,1,2,3,4,5,6,7,8,9,10,11,12,15],[],hk2,(show L.length-(k+1)<L.length-k by omega),⟨rfl,⟨rfl,rfl,rfl,rfl,rfl,congrArg (fun z=>some (SV.int .i64 z)) (a0i (by omega)),trivial⟩,⟨rfl,rfl,rfl,rfl,rfl,rfl,rfl,hrow,rfl,rfl,rfl,rfl,trivial⟩⟩⟩
   |trace_state
 have ek:k=L.length:=by omega
 subst ek;unfold bnS;rw [show L.take L.length=L from e1e];repeat' ((conv=>whnf);first|refine cOx (l:= [0,13]) c5 ?_|refine a0a ?_|(apply bRx<;>intro h<;>try (exfalso;(try dsimp only at h);omega)))
 all_goals (conv=>whnf)
 all_goals first
  |(exfalso;omega)
  |(exfalso;exact h rfl)
  |exact e0z (l:= [0,1,2,22,23,21,14,15,16,17,18,19,20,6,4,5,7,8,9,10,11,12]) [.cell 22 2 [.sc (.strs []),.sc (.strs []),.sc (.ints .i64 []),.sc (.ints .i64 []),.sc (.ints .i64 []),.sc (.ints .i64 []),.sc (.ints .i64 []),.sc (.ints .i64 []),.sc (.ints .i64 []),.sc (.ints .i64 [])]] ⟨rfl,rfl,⟨(by simp only [hG];rfl),rfl,rfl,rfl,rfl,rfl,rfl,rfl,rfl,rfl,rfl,rfl,rfl,rfl,rfl,rfl,rfl,rfl,rfl,trivial⟩⟩ d1w
  |trace_state
end
section
attribute [local irreducible] a0q a0r a0j a0R sortI
attribute [local irreducible] seq ByteArray.extract lgE
theorem d1x (L:List ByteArray) (n:Nat) (hn:L.length=n) (h:u0e L=0):FC Tryz.prog 2 26 [.sl 1 0 0 n] [(1,some (.one true (.cols n [.sc (.strs L)])))]
  (a0f (.tup [.ptr 2 0 0 0,.int .i64 0]) [(2,rlC false 1 3 (lg0 L)),(3,rlE false 4 (lg0 L)),(4,c0n false (lg0 L))] 5):=by
 have h512:n<=512:=by
  unfold u0e at h;split at h
  .cases h
  .omega
 have e:u0e L=nmE [] L:=by unfold u0e;rw [if_neg (by omega)]
 rw [e] at h;obtain ⟨hd,hl⟩:=w0l L [] h h1M;rw [h1T] at hd;refine fEx Tryz.func26 ?_;repeat' ((conv=>whnf);first|refine a0a ?_|(apply bRx<;>intro h<;>try (exfalso;(try dsimp only at h);omega)))
 all_goals (conv=>whnf)
 all_goals first
  |(exfalso;omega)
  |skip
 refine a0o (fun k:Nat=>⟨[(0,.sl 1 0 0 n),(4,.int .i64 k)],[(1,some (.one true (.cols n [.sc (.strs L)])))],2⟩) (fun k=>k<=n) (fun k=>n-k) 0 [0,1] [] wHx (z0h _) ?_;intro k hk;by_cases hk2:k<n
 .have c1:=k0h (L.getD k ⟨#[]⟩);have c2:=a1V L n k hn hk (by omega) (L.getD k ⟨#[]⟩);have hg:L[k]? =some (L.getD k ⟨#[]⟩):=by rw [List.getD,j0I (by omega)];rfl
  rw [hl _ (h1U hg)] at c1;rw [sidx_of_get hd hg,decide_eq_false (i1K _)] at c2;repeat' ((conv=>whnf);first|refine cPx c1 ?_|refine cOx (l:= [0,1]) c2 ?_|refine a0a ?_|(apply bRx<;>intro h<;>try (exfalso;(try dsimp only at h);omega)))
  all_goals (conv=>whnf)
  all_goals first
   |exact ⟨k+1,[0,1],[],hk2,(show n-(k+1)<n-k by omega),⟨rfl,⟨rfl,congrArg (fun z=>some (SV.int .i64 z)) (a0i (by omega)),trivial⟩,⟨rfl,trivial⟩⟩⟩
   |(exfalso;omega)
   |trace_state
 have ek:k=n:=by omega
 subst ek;unfold lg0;rw [hn];repeat' ((conv=>whnf);first|refine a0a ?_|(apply bRx<;>intro h<;>try (exfalso;(try dsimp only at h);omega)))
 all_goals (conv=>whnf)
 all_goals first
  |(exfalso;omega)
  |exact e0z (l:= [0,1,2,3,4]) [.cell 2 1 [.sc (.strs []),.sc (.ints .i64 []),.svs []],.relab (fun _ _=>none) (fun _=>0) [(3,some (.one false (.cols 0 [.sc (.strs []),.sc (.ints .i64 []),.own 4 []]))),(4+0,some (.fam false (fun x=>x<0) (enF [])))] [] 1] ⟨f0a (n:=4) (a:=3) (by decide) rfl,rfl,rfl,rfl,rfl,rfl,trivial⟩ (a0c (a0c (a0u a0b)))
  |trace_state
abbrev rNa (n m:Nat) (cur:ByteArray) (cut days:Int):List SV:= [.agg [.sl 1 0 0 n,.str cur,.sl 2 0 0 m,.int .i64 cut,.int .i64 days]]
abbrev rNh (n m:Nat) (L:List ByteArray) (H:List Int):a0h:= [(1,some (.one true (.cols n [.sc (.strs L)]))),(2,inB m H)]
theorem t0Y (cur:ByteArray) (days cut:Int) (L:List ByteArray) (n:Nat) (H:List Int) (m:Nat) (hL:L.length=n) (hH:H.length=m) (hm:m<=maxLen) (hsz:∀k,(L.getD k ⟨#[]⟩).size<=9223372036854775807) (he:bkE cur days H m cut L≠0):
  FC Tryz.prog 3 5 (rNa n m cur cut days) (rNh n m L H) (a0f (.tup [.nptr,.int .i64 (bkE cur days H m cut L)]) [] 3):=by
 have c0:=j0Q cur;have c1:=w0S H m hm;unfold r3O at c1;have c2:=x0i cut L n hL hsz;unfold f1I at c2;unfold bkE at he⊢;by_cases h1:days<1\/1000<days
 .rw [if_pos h1];refine fEx Tryz.func5 ?_;repeat' ((conv=>whnf);first|refine a0a ?_|(apply bRx<;>intro h<;>try (exfalso;(try dsimp only at h);omega)))
  all_goals (conv=>whnf)
  all_goals first
   |exact rOx [0,1,2] a0b
   |(exfalso;omega)
   |trace_state
 rw [if_neg h1] at he⊢;by_cases h2:d0k cur=false
 .rw [if_pos h2];rw [h2] at c0;refine fEx Tryz.func5 ?_;repeat' ((conv=>whnf);first|refine cPx c0 ?_|refine a0a ?_|(apply bRx<;>intro h<;>try (exfalso;(try dsimp only at h);omega)))
  all_goals (conv=>whnf)
  all_goals first
   |exact rOx [0,1,2] a0b
   |(exfalso;omega)
   |trace_state
 rw [if_neg h2] at he⊢;have h2':d0k cur=true:=by simpa using h2
 rw [h2'] at c0;by_cases h3:p0j H m≠0
 .rw [if_pos h3];rw [if_neg h3] at c1;generalize p0j H m=E at*;refine fEx Tryz.func5 ?_;repeat' ((conv=>whnf);first|refine cPx c0 ?_|refine cOx (l:= [0,2]) c1 ?_|refine a0a ?_|(apply bRx<;>intro h<;>try (exfalso;(try dsimp only at h);omega)))
  all_goals (conv=>whnf)
  all_goals first
   |(exfalso;exact h3 h)
   |exact rOx [0,1,2] a0b
   |(exfalso;omega)
   |trace_state
 rw [if_neg h3] at he⊢;rw [if_pos (by omega)] at c1;rw [if_neg he] at c2;generalize cnE cut L=E at*;refine fEx Tryz.func5 ?_;repeat' ((conv=>whnf);first|refine cPx c0 ?_|refine cOx (l:= [0,2]) c1 ?_|refine cOx (l:= [0,4,1]) c2 ?_|refine a0a ?_|(apply bRx<;>intro h<;>try (exfalso;(try dsimp only at h);omega)))
 all_goals (conv=>whnf)
 all_goals first
  |(exfalso;exact he h)
  |exact rOx [0,1,2] a0b
  |(exfalso;omega)
  |trace_state
abbrev rb0 (m:Nat) (cur:ByteArray) (cut days:Int) (L:List ByteArray):a0h:= [(3,some (.one false (.cells [.sl 1 0 0 L.length,.str cur,.sl 2 0 0 m,.int .i64 cut,.int .i64 days,.sl 4 0 0 0,.ptr 5 0 0 0,.ptr 9 0 0 0,.int .i64 0]))),(4,some (.one false (auB 0 []))),(6,rlA false (lg0 (L.map d0w))),(10,rcC false 2 m),(11,cyP false L.length L),
 (5,rlC false 6 7 (lg0 (L.map d0w))),(7,rlE false 8 (lg0 (L.map d0w))),(8,c0n false (lg0 (L.map d0w))),(9,d1M false 10 11 12 L.length 0 cut),(12,rgP false 13 0),(13,fmB false 0 (g6 [] 14)),(14,fmB false 0 (g7q 11 [] 15 L.length)),(15,fmB false 0 (g8 []))]
abbrev rnS (m:Nat) (cur:ByteArray) (cut days:Int) (L:List ByteArray) (H:List Int) (k:Nat):VS:=
 ⟨[(1,.ptr 3 0 0 0),(6,.ptr 5 0 0 0),(7,.sl 11 0 0 k),(8,.int .i64 k)],
  [(1,some (.one true (.cols L.length [.sc (.strs L)]))),(2,inB m H),(3,some (.one false (.cells [.sl 1 0 0 L.length,.str cur,.sl 2 0 0 m,.int .i64 cut,.int .i64 days]))),(4,rcC false 2 m),(5,d1M false 4 6 7 L.length 0 cut),(6,cyP false L.length L),(7,rgP false 8 0),(8,fmB false 0 (g6 [] 9)),(9,fmB false 0 (g7q 6 [] 10 L.length)),(10,fmB false 0 (g8 [])),
   (11,some (.one false (.cols k [.sc (.strs ((L.take k).map d0w))])))],12⟩
theorem t0Z (cur:ByteArray) (days cut:Int) (L:List ByteArray) (H:List Int) (m:Nat) (hH:H.length=m) (hm:m<=maxLen) (he:bkE cur days H m cut L=0):
  FC Tryz.prog 3 5 (rNa L.length m cur cut days) (rNh L.length m L H) (a0f (.tup [.ptr 3 0 0 0,.int .i64 0]) (rb0 m cur cut days L) 16):=by
 have c0:=j0Q cur;have c1:=w0S H m hm;unfold r3O at c1;unfold bkE at he;by_cases h1:days<1\/1000<days
 .rw [if_pos h1] at he;cases he
 rw [if_neg h1] at he;by_cases h2:d0k cur=false
 .rw [if_pos h2] at he;cases he
 rw [if_neg h2] at he;have h2':d0k cur=true:=by simpa using h2
 rw [h2'] at c0;by_cases h3:p0j H m≠0
 .rw [if_pos h3] at he;exact absurd he h3
 rw [if_neg h3] at he;rw [if_pos (by omega)] at c1;have hnw:b0R L=0:=by
  unfold cnE at he;split at he
  .cases he
  .exact he
 obtain ⟨w1,w2,w3⟩:=h0k hnw;have hsz2:∀k,(L.getD k ⟨#[]⟩).size<=9223372036854775807:=fun k=>by
  by_cases hk:k<L.length
  .have hm:L.getD k ⟨#[]⟩∈L:=by rw [List.getD,j0I hk];exact b1P hk
   have:=f0m (w3 _ hm);omega
  .rw [List.getD,p0J (by omega)];exact (by decide:(0:Nat)<=9223372036854775807)
 have c2:=x0i cut L L.length rfl hsz2;unfold f1I at c2;rw [if_pos he] at c2;have c5:=d1x (L.map d0w) L.length (by rw [b1M]) (q0P hnw);unfold rb0;generalize hG0:lg0 (L.map d0w)=G0 at*;refine fEx Tryz.func5 ?_;repeat' ((conv=>whnf);first|refine cPx c0 ?_|refine cOx (l:= [0,2]) c1 ?_|refine cOx (l:= [0,4,1]) c2 ?_|refine a0a ?_|(apply bRx<;>intro h<;>try (exfalso;(try dsimp only at h);omega)))
 all_goals (conv=>whnf)
 all_goals first
  |(exfalso;omega)
  |(exfalso;exact h rfl)
  |skip
 refine a0o (rnS m cur cut days L H) (fun k=>k<=L.length) (fun k=>L.length-k) 0 [0,1,2,3,4,5,6,7,8,9,10,11] [.slot 7 [.sc (.strs [])]] wHx (z0h _) ?_;intro k hk;by_cases hk2:k<L.length
 .have hin:L.getD k ⟨#[]⟩∈L:=by rw [List.getD,j0I (by omega)];exact b1P _
  have hz:=f0m (w3 _ hin);have hz1:p0c.size+(L.getD k ⟨#[]⟩).size<=9223372036854775807:=by have:p0c.size=6:=rfl;omega
  have hT:=s0C (L:=L) (k:=k) (by omega);have hrow:=congrArg (fun z=>some (HB.one false (Blk.cols (k+1) [.sc (.strs z)]))) hT;unfold rnS;repeat' ((conv=>whnf);first|(refine a0g hz1 ?_)|refine a0a ?_|(apply bRx<;>intro h<;>try (exfalso;(try dsimp only at h);omega)))
  all_goals (conv=>whnf)
  all_goals first
   |(exfalso;omega)
   |exact ⟨k+1,[0,1,2,3,4,5,6,7,8,9,10,13],[],hk2,(show L.length-(k+1)<L.length-k by omega),⟨rfl,⟨rfl,rfl,rfl,congrArg (fun z=>some (SV.int .i64 z)) (a0i (by omega)),trivial⟩,⟨rfl,rfl,rfl,rfl,rfl,rfl,rfl,rfl,rfl,rfl,hrow,trivial⟩⟩⟩
   |trace_state
 have ek:k=L.length:=by omega
 subst ek;unfold rnS;rw [show L.take L.length=L from e1e];have hG1:G0.na=L.length:=by rw [<-hG0];show (L.map d0w).length=_;rw [b1M]
 have hG2:G0.acc=L.map d0w:=by rw [<-hG0];rfl
 have hA:some (HB.one false (Blk.cols L.length [.sc (.strs (L.map d0w))]))=rlA false G0:=by rw [<-hG1,<-hG2]
 repeat' ((conv=>whnf);first|refine cOx (l:= [0,11]) c5 ?_|refine a0a ?_|(apply bRx<;>intro h<;>try (exfalso;(try dsimp only at h);omega)))
 all_goals (conv=>whnf)
 all_goals first
  |(exfalso;omega)
  |(exfalso;exact h rfl)
  |exact e0z (l:= [0,1,2,15,16,12,11,13,14,5,4,6,7,8,9,10]) [.cell 15 5 [.sc (.strs []),.sc (.strs []),.sc (.ints .i64 []),.sc (.ints .i64 []),.sc (.ints .i64 []),.sc (.ints .i64 []),.sc (.ints .i64 []),.sc (.ints .i64 []),.sc (.ints .i64 []),.sc (.ints .i64 [])]] ⟨rfl,rfl,rfl,rfl,hA,rfl,rfl,rfl,rfl,rfl,rfl,rfl,rfl,rfl,rfl,trivial⟩ (a0c (a0c (a0c (a0c (a0c (a0c (a0c (a0u (a0c (a0c (a0u (a0u (a0u a0b)))))))))))))
  |trace_state
end
section
attribute [local irreducible] a0q a0r a0j a0R sortI
attribute [local irreducible] seq ByteArray.extract
theorem k0C (s:Bks) (a:ByteArray):FC Tryz.prog 20 11 [.ptr 1 0 0 0,.str a] [(1,d1n true 2 s),(9,z0e true s.lg),(4,some (.one true (.cells (lgF 5 6 7 8 9 s.lg))))] (a0f (.int .i64 (s.lg.bal a s.cur)) [] 20):=by
 have c1:=l0I s.lg a s.cur;generalize s.lg.bal a s.cur=x at*;refine fEx Tryz.func11 ?_;repeat' ((conv=>whnf);first|refine cOx (l:= [0,4,5,6,7,8,9]) c1 ?_|refine a0a ?_|(apply bRx<;>intro h<;>try (exfalso;(try dsimp only at h);omega)))
 all_goals (conv=>whnf)
 all_goals first
  |exact rOx [0,1,2,3,4,5,6,7,8,9,10,11,12,13,14,15,16,17,18,19] a0b
  |trace_state
abbrev g1Y (s:Bks):a0h:= [(11,cyC true 12 14 15 16 s.np s.cut),(15,cyB true 17 s.m s.ds),(17,fmB true s.m (f7 18 19 s.np)),(18,fmB true s.m (f8 s.np (sortS s.pr))),(19,fmB true s.m (f9 s.B))]
theorem h0t (s:Bks) (h:BkOk s) (d:Int):FC Tryz.prog 20 14 [.ptr 1 0 0 0,.int .i64 d] ((1,d1n true 2 s)::g1Y s)
  (a0f (.sl 20 0 0 (h0v s.ds s.B d).length) [(20,some (.one false (pxB (h0v s.ds s.B d).length (b0e (h0v s.ds s.B d)))))] 21):=by
 have c1:=f0e h.bks s.cut d;generalize h0v s.ds s.B d=L at*;refine fEx Tryz.func14 ?_;repeat' ((conv=>whnf);first|refine cOx (l:= [0,11,12,13,14,15,16,17,18,19]) c1 ?_|refine a0a ?_|(apply bRx<;>intro h<;>try (exfalso;(try dsimp only at h);omega)))
 all_goals (conv=>whnf)
 all_goals first
  |exact rOx [0,1,2,3,4,5,6,7,8,9,10,11,12,13,14,15,16,17,18,19,20] (a0c a0b)
  |trace_state
abbrev g1o (n:Nat) (ids:List ByteArray):Option HB:=some (.one true (.obj (.map false false n [.strs ids] [.sc (.ints .i64 ((List.range n).map Int.ofNat))] (List.range n) n)))
theorem a1t (s:Bks) (h:BkOk s) (id:ByteArray):FC Tryz.prog 20 9 [.ptr 1 0 0 0,.str id] [(1,d1n true 2 s),(2,some (.one true (auB s.na s.au))),(3,g1o s.na s.aid)] (a0f (.tup [(b0j s.au (s.pl id)).s,.bool (decide (s.pl id<s.na))]) [] 20):=by
 by_cases hp:s.pl id<s.na
 .have hb:decide (a0l s.aid id<s.na)=true:=decide_eq_true hp;have hpl:=q0t hp;have hcn:0<=((List.range s.na).map Int.ofNat).getD (s.pl id) 0/\((List.range s.na).map Int.ofNat).getD (s.pl id) 0<(s.na:Int):=by rw [hpl];omega
  rw [show decide (s.pl id<s.na)=true from hb];refine fEx Tryz.func9 ?_;repeat' ((conv=>whnf);first|(rw [hb];try dsimp only [a0P,a0Y])|(simp only [hpl,f0J])|refine a0a ?_|(apply bRx<;>intro h<;>try (exfalso;(try dsimp only at h);omega)))
  all_goals (conv=>whnf)
  all_goals first
   |exact rOx [0,1,2,3,4,5,6,7,8,9,10,11,12,13,14,15,16,17,18,19] a0b
   |trace_state
 .have hb:decide (a0l s.aid id<s.na)=false:=decide_eq_false hp;have hz:b0j s.au (s.pl id)=Au.zero:=by
   rw [x0k,List.getD,p0J (by rw [h.na];omega)];rfl
  rw [show decide (s.pl id<s.na)=false from hb,hz];refine fEx Tryz.func9 ?_;repeat' ((conv=>whnf);first|(rw [hb];try dsimp only [a0P,a0Y])|refine a0a ?_|(apply bRx<;>intro h<;>try (exfalso;(try dsimp only at h);omega)))
  all_goals (conv=>whnf)
  all_goals first
   |exact rOx [0,1,2,3,4,5,6,7,8,9,10,11,12,13,14,15,16,17,18,19] a0b
   |trace_state
theorem l0W (pc:PxC) (n:Nat) (hl:n<=100000000):FC Tryz.prog 3 13 [.sl 1 0 0 n,.sl 2 0 0 n] [(1,some (.one true (pxB n pc))),(2,some (.one true (pxB n pc)))] (a0f (.bool true) [] 3):=by
 refine fEx Tryz.func13 ?_;repeat' ((conv=>whnf);first|refine a0a ?_|(apply bRx<;>intro h<;>try (exfalso;(try dsimp only at h);omega)))
 all_goals (conv=>whnf)
 all_goals first
  |(exfalso;first|omega|contradiction)
  |skip
 refine a0O (fun k:Nat=>⟨[(0,.sl 1 0 0 n),(1,.sl 2 0 0 n),(5,.int .i64 k)],[(1,some (.one true (pxB n pc))),(2,some (.one true (pxB n pc)))],3⟩) (fun k=>k<=n) (fun k=>n-k) 0 [0,1,2] [] wHx (z0h _) ?_;intro k hk;by_cases hk2:k<n
 .repeat' ((conv=>whnf);first|refine a0a ?_|(apply bRx<;>intro h<;>try (exfalso;(try dsimp only at h);omega)))
  all_goals (conv=>whnf)
  all_goals first
   |(exfalso;first|omega|contradiction|(simp [seq] at h;done))
   |exact ⟨k+1,[0,1,2],[],hk2,(show n-(k+1)<n-k by omega),⟨rfl,⟨rfl,rfl,congrArg (fun z=>some (SV.int .i64 z)) (a0i (by omega)),trivial⟩,⟨rfl,rfl,trivial⟩⟩⟩
   |trace_state
 .repeat' ((conv=>whnf);first|refine a0a ?_|(apply bRx<;>intro h<;>try (exfalso;(try dsimp only at h);omega)))
  all_goals (conv=>whnf)
  all_goals first
   |exact rOx [0,1,2] a0b
   |(exfalso;first|omega|contradiction)
   |trace_state
end
section
attribute [local irreducible] sortI
abbrev sHb:ByteArray:=⟨#[104,111,109,101,98,97,110,107]⟩
abbrev sSb:ByteArray:=⟨#[115,104,111,112,98,97,110,107]⟩
abbrev sOb:ByteArray:=⟨#[111,116,104,101,114]⟩
abbrev sA1:ByteArray:=⟨#[97,45,49]⟩
abbrev sEu:ByteArray:=⟨#[69,85,82]⟩
abbrev q3:List ByteArray:= [sHb,sSb,sOb]
abbrev r3:List ByteArray:= [sHb,sOb,sSb]
theorem d1y:sortS q3=r3:=by
 refine r0W ((List.Perm.swap _ _ _).cons _) ?_;refine .cons (fun a h=> ?_) (.cons (fun a h=> ?_) (.cons (fun a h=>absurd h (h1l)) .nil))<;>simp only [v0e,h1l,or_false] at h<;>(first|(rcases h with rfl|rfl<;>kernel_rfl)|(subst h;kernel_rfl))
theorem b1k:bkE sEu 7 [] 0 64800 q3=0:=by kernel_rfl
def o1:Bop:=⟨1,100,⟨#[]⟩,sA1,⟨#[]⟩,⟨#[]⟩,1000,0,false⟩
def o2:Bop:=⟨4,200,⟨#[97,45,49,45,49]⟩,sA1,sHb,sSb,400,10,false⟩
def w0:Bks:=bk1 sEu 7 [] 64800 q3
def au1:Au:=⟨sA1,sEu,1000,0,0,0,1,100,604900,0⟩
def au2:Au:=⟨sA1,sEu,1000,0,400,0,1,100,604900,1⟩
def w1:Bks:= { w0 with na:=1,au:= [au1],last:=100}
def bq0:Bk:=⟨3,r3,0,[],[],[],0⟩
def bq1:Bk:=⟨3,r3,1,[sEu],[[-390,0,390,0,0,0,0,0,0,0,0,0,0,0,0,0]],[0],1⟩
def lq2:Lg:=lgP (lg0 (q3.map d0w)) (enB w1 o2)
def w2:Bks:= { w1 with au:= [au2],m:=1,ds:= [0],B:= [bq1],lg:=lq2,last:=200}
theorem g1I:doE w0 o1=0:=by kernel_rfl
theorem g1J:doS w0 o1=w1:=by unfold doS;rw [g1I,if_pos rfl];kernel_rfl
theorem f1s:c0c [] [] q3 0=bq0:=by
 unfold c0c nwB;rw [if_neg (by simp),d1y];rfl
theorem f1t:mvE bq0 sHb sSb sEu 390=0:=by kernel_rfl
theorem g1p:bq0.mv sHb sSb sEu 390=bq1:=by kernel_rfl
theorem g1K:bkD w1 200=0:=by kernel_rfl
theorem g1Z:owX w1 o2.t (mtF o2) (mtG o2) (mtN o2)=0:=by
 unfold owX;rw [show bkD w1 o2.t=0 from g1K];unfold mvX;rw [if_neg (by decide)];show mvE (c0c [] [] q3 0) sHb sSb sEu 390=0;rw [f1s];exact f1t
theorem f1u:clA w1 o2=(au2,400,0,0):=by kernel_rfl
theorem g1q:mmE w1 o2=0:=by
 unfold mmE;rw [if_neg (by decide),if_neg (by decide),if_pos (show o2.k=4 from rfl),if_pos (by decide),f1u,if_neg (fun e=>e rfl)];exact g1Z
theorem g1L:doE w1 o2=0:=by
 have h1:ckE o2=0:=by kernel_rfl
 have h2:pfE w1 o2=mmE w1 o2:=by
  unfold pfE;rw [if_neg (by decide),if_neg (by decide),if_pos (by decide)]
 unfold doE;rw [if_neg (fun e=>e h1),if_neg (by decide),h2,g1q]
theorem g1r:owS w1 o2= { w1 with m:=1,ds:= [0],B:= [bq1],lg:=lq2}:=by
 unfold owS;rw [show bkD w1 o2.t=0 from g1K];show Bks.mk _ _ _ _ _ _ _ _ _ _ _ (o0M [] [] 0 ((c0c [] [] q3 0).mv sHb sSb sEu 390)) _ _ _ _=_;rw [f1s,g1p];rfl
theorem g1M:doS w1 o2=w2:=by
 have h2:pfS w1 o2=mmS w1 o2:=by
  unfold pfS;rw [if_neg (by decide),if_neg (by decide),if_pos (by decide)]
 unfold doS;rw [g1L,if_pos rfl,h2];unfold mmS;rw [if_pos (show o2.k=4 from rfl),f1u,g1r];rfl
theorem g1N:doE w2 o2=15:=by
 have h1:ckE o2=0:=by kernel_rfl
 have h2:pfE w2 o2=mmE w2 o2:=by
  unfold pfE;rw [if_neg (by decide),if_neg (by decide),if_pos (by decide)]
 unfold doE;rw [if_neg (fun e=>e h1),if_neg (by decide),h2];unfold mmE;rw [if_pos (by decide)]
theorem h1a:doS w2 o2=w2:=by unfold doS;rw [g1N,if_neg (by decide)]
theorem f1v:BkOk w0:=x0A b1k
theorem f1w:BkOk w1:=by rw [<-g1J];exact d1m f1v _
theorem d1z:BkOk w2:=by rw [<-g1M];exact d1m f1w _
theorem h1b:w2.lg.bal (d0w sHb) sEu= -390:=by kernel_rfl
theorem h1c:w2.lg.bal (d0w sSb) sEu=390:=by kernel_rfl
theorem h1d:h0v w2.ds w2.B 0= [⟨sHb,-390,sEu⟩,⟨sSb,390,sEu⟩]:=by
 show (if (0:Int)∈[0] then ([bq1].getD (a0G [0] 0) bk0).list else [])=_;rw [if_pos (by decide)];show bq1.list=_;unfold Bk.list;rw [show sortS bq1.cs= [sEu] from z0y sEu]
 kernel_rfl
theorem h1e:b0j w2.au (w2.pl sA1)=au2:=by kernel_rfl
theorem g1s:ckE o2=0:=by kernel_rfl
theorem h1f:g1m o2=⟨#[52,124,50,48,48,124,97,45,49,45,49,124,97,45,49,124,104,111,109,101,98,97,110,107,124,115,104,111,112,98,97,110,107,124,52,48,48,124,49,48,124,48]⟩:=by kernel_rfl
end
section
attribute [local irreducible] a0q a0r a0j a0R sortI
attribute [local irreducible] seq ByteArray.extract
theorem x0D:FC Tryz.prog 1 27 [] [] (a0f (.agg [.sl 1 0 0 3,.str sEu,.nsl,.int .i64 64800,.int .i64 7]) [(1,some (.one false (.cols 3 [.sc (.strs q3)])))] 2):=by
 refine fEx Tryz.func27 ?_;repeat' ((conv=>whnf);first|refine a0a ?_|(apply bRx<;>intro h<;>try (exfalso;(try dsimp only at h);omega)))
 all_goals (conv=>whnf)
 all_goals first
  |exact rOx [0,2] (a0c a0b)
  |trace_state
theorem d1A:FC Tryz.prog 2 4 [.agg [.sl 1 0 0 3,.str sEu,.nsl,.int .i64 64800,.int .i64 7]] [(1,some (.one true (.cols 3 [.sc (.strs q3)])))] (a0f (.tup [.ptr 3 0 0 0,.int .i64 0]) (f1K (fun i=>i+2) w0) 22):=by
 refine v0a (n:=2) (m:= [.sl 1 0 0 3,.str sEu,.sl 2 0 0 0,.int .i64 64800,.int .i64 7]) (cs:= [.sc (.ints .i64 [])]) rfl (by exact ⟨.inl rfl,.inl rfl,.inr ⟨rfl,rfl⟩,.inl rfl,.inl rfl,trivial⟩) ?_;refine e1g (H:= [(1,some (.one true (.cols 3 [.sc (.strs q3)]))),(2,some (.one true (.cols 0 [.sc (.ints .i64 [])])))]) ?_ (p0f sEu 7 64800 q3 3 [] 0 rfl rfl b1k);intro k;rw [a0I,a0I,a0I,a0I];split<;>split<;>first|rfl|omega
theorem x0E:t0h Tryz.prog glT 6 [] (.bool true):=by
 have cS:=x0D;have cN:=d1A;have d1:=a1p w0 o1 f1v;rw [g1I,g1J] at d1;have d2:=a1p w1 o2 f1w;rw [g1L,g1M] at d2;have d3:=a1p w2 o2 d1z;rw [g1N,h1a] at d3;have cA:=d1v w2 d1z sA1 (of_decide_eq_true (by kernel_rfl));rw [h1e] at cA;have cE:=p0d o2 g1s;rw [h1f] at cE;have cH:=l0V w2 (d0w sHb);rw [show w2.lg.bal (d0w sHb) w2.cur= -390 from h1b] at cH;have cB:=l0V w2 (d0w sSb);rw [show w2.lg.bal (d0w sSb) w2.cur=390 from h1c] at cB;have cP:=p0e w2 d1z 0;rw [h1d] at cP;simp only [y0x,h1L,a1J,Nat.reduceAdd] at cP;generalize w0=s0 at*;generalize w1=s1 at*;generalize w2=s2 at*;refine fEx Tryz.func6 ?_;repeat' ((conv=>whnf);first|refine cOx (l:= [0]) cS ?_|refine cOx (l:= [0,1]) cN ?_|refine cOx (l:= [0,3,4,5,6,7,8,9,10,11,12,13,14,15,16,17,18,19,20,21]) d1 ?_|refine cOx (l:= [0,3,23,5,6,7,24,9,10,11,25,13,14,15,16,17,18,26,27,28]) d2 ?_|refine cOx (l:= [0,3,29,5,6,7,30,9,10,11,31,13,14,15,16,17,18,32,33,34]) d3 ?_|refine cOx (l:= [0,3,35,5,6,7,36,9,10,11,37,13,14,15,16,17,18,38,39,40]) cA ?_|refine cOx (l:= [0,3,41,5,6,7,42,9,10,11,43,13,14,15,16,17,18,44,45,46]) cH ?_|refine cOx (l:= [0,3,48,5,6,7,49,9,10,11,50,13,14,15,16,17,18,51,52,53]) cB ?_|refine cOx (l:= [0,3,54,5,6,7,55,9,10,11,56,13,14,15,16,17,18,57,58,59]) cP ?_|refine cGx cE ?_|refine a0a ?_|(apply bRx<;>intro h<;>try (exfalso;(try dsimp only at h);omega)))
 all_goals (conv=>whnf)
 all_goals first
  |(exfalso;omega)
  |(exfalso;exact h rfl)
  |exact a0d (congrArg SV.bool (o0o.2 rfl))
  |trace_state
end
section
attribute [local irreducible] a0q a0r a0j a0R sortI
attribute [local irreducible] seq ByteArray.extract dgI doS doE
structure Oq where
 n:Nat
 k:List Int
 t:List Int
 id:List ByteArray
 au:List ByteArray
 is:List ByteArray
 ac:List ByteArray
 am:List Int
 fe:List Int
 fi:List Bool
abbrev Oq.b (Q:Oq):Blk:= .cols Q.n [.sc (.ints .i64 Q.k),.sc (.ints .i64 Q.t),.sc (.strs Q.id),.sc (.strs Q.au),.sc (.strs Q.is),.sc (.strs Q.ac),.sc (.ints .i64 Q.am),.sc (.ints .i64 Q.fe),.sc (.bools Q.fi)]
abbrev Oq.at (Q:Oq) (i:Nat):Bop:=⟨Q.k.getD i 0,Q.t.getD i 0,Q.id.getD i ⟨#[]⟩,Q.au.getD i ⟨#[]⟩,Q.is.getD i ⟨#[]⟩,Q.ac.getD i ⟨#[]⟩,Q.am.getD i 0,Q.fe.getD i 0,Q.fi.getD i false⟩
abbrev rbN (b m:Nat) (s:Bks) (L:List Rc):a0h:= [(b,some (.one false (.cells [.sl 1 0 0 s.np,.str s.cur,.sl 2 0 0 m,.int .i64 s.cut,.int .i64 s.days,.sl (b+1) 0 0 s.na,.ptr (b+2) 0 0 0,.ptr (b+6) 0 0 0,.int .i64 s.last]))),(b+1,some (.one false (auB s.na s.au))),(b+3,rlA false s.lg),(b+7,rcC false 2 m),(b+8,cyP false s.np s.pr),
 (b+2,rlC false (b+3) (b+4) s.lg),(b+4,rlE false (b+5) s.lg),(b+5,c0n false s.lg),(b+6,d1M false (b+7) (b+8) (b+9) s.np L.length s.cut),(b+9,rgP false (b+10) L.length),(b+10,fmB false L.length (g6 L (b+11))),(b+11,fmB false L.length (g7q (b+8) L (b+12) s.np)),(b+12,fmB false L.length (g8 L))]
abbrev bpH (L:List ByteArray) (n:Nat) (cur:ByteArray) (H:List Int) (m:Nat) (cut days:Int) (Q:Oq) (s:Bks) (C:List Rc):a0h:=
 (0,some (GB glT))::(1,some (.one true (.cols n [.sc (.strs L)])))::(2,inB m H)::(3,some (.one true Q.b))::(4,some (.one false (.cells [.sl 1 0 0 n,.str cur,.sl 2 0 0 m,.int .i64 cut,.int .i64 days])))::(f1K (fun i=>i+4) s++rbN 24 m s C)
def bpS (L:List ByteArray) (n:Nat) (cur:ByteArray) (H:List Int) (m:Nat) (cut days:Int) (Q:Oq) (ac:ByteArray) (d:Int) (x:Nat×Bks×List Rc):VS:=
 ⟨[(1,.sl 3 0 0 Q.n),(2,.str ac),(3,.int .i64 d),(9,.ptr 5 0 0 0),(11,.ptr 24 0 0 0),(13,.int .i64 x.1)],bpH L n cur H m cut days Q x.2.1 x.2.2,37⟩
theorem b1l {s:Bks} (h:BkOk s) (d:Int):(h0v s.ds s.B d).length<=1600000:=by
 unfold h0v;split
 .rename_i hd;have hi:a0G s.ds d<s.m:=by rw [<-h.bks.dl];exact a0W.2 hd
  obtain ⟨b1,b2,b3,b4⟩:=h.bks.I _ hi;have h1:=q0y (s.B.getD (a0G s.ds d) bk0) (sortS (s.B.getD (a0G s.ds d) bk0).cs) (s.B.getD (a0G s.ds d) bk0).m;have h2:=(h0k h.err).1;rw [h.np] at h2;unfold Bk.list;refine f1X h1 ?_;rw [b2];exact f1X (Nat.mul_le_mul b4 h2) (by decide)
 .exact z0h _
theorem g1t (m:Nat) (cur:ByteArray) (cut days:Int) (L:List ByteArray) (H:List Int):rb0 m cur cut days L=rbN 3 m (bk1 cur days H cut L) []:=rfl
theorem h1g {m:Nat} {cur:ByteArray} {cut days:Int} {L:List ByteArray} {H:List Int} (hH:H.length=m) (he:bkE cur days H m cut L=0):RbI m H (bk1 cur days H cut L) [] 0:=by
 have h4:m<=400:=by
  unfold bkE at he;split at he
  .cases he
  split at he
  .cases he
  split at he
  .rename_i q;exact absurd he q
  .rename_i q;have q:=i1l.1 q;unfold p0j at q;split at q
   .cases q
   .omega
 exact ⟨x0A he,hH,by omega,rfl,d1h L,fun e he=>absurd he (h1l),rfl⟩
set_option maxHeartbeats 4000000 in
theorem a1u (L:List ByteArray) (n:Nat) (cur:ByteArray) (H:List Int) (m:Nat) (cut days:Int) (Q:Oq) (ac:ByteArray) (da:Int) (i:Nat) (s:Bks) (C:List Rc) (h:RbI m H s C i) (his:(Q.is.getD i ⟨#[]⟩).size<=140737488351232) (hi:i<Q.n) (hi4:i<40) (K:Exit->VS->Prop)
  (hK:∀v,(∃(y:Nat×Bks×List Rc) (l:List Nat) (u:List Up),(y.1<=40/\RbI m H y.2.1 y.2.2 y.1)/\40-y.1<40-i/\upK u v (fun v=>Weak 4 l v (bpS L n cur H m cut days Q ac da y)))->K .normal v):
  d0h Tryz.prog T 4 (lpc Tryz.f3 0) (bpS L n cur H m cut days Q ac da (i,s,C)) K:=by
 have d1:=a1p s (Q.at i) h.ok;obtain ⟨C',hC,d2⟩:=f1r m H s C i h (by omega) (Q.at i);have hs:=hC.ok;have cA:=a1t (doS s (Q.at i)) hs (Q.au.getD i ⟨#[]⟩);have rA:=a1s m (doS s (Q.at i)) hs (Q.au.getD i ⟨#[]⟩);have cB:=k0C (doS s (Q.at i)) ac;have rB:=k0B m (doS s (Q.at i)) hs hC.po ac;have cB2:=k0C (doS s (Q.at i)) (p0c++Q.is.getD i ⟨#[]⟩);have rB2:=k0B m (doS s (Q.at i)) hs hC.po (p0c++Q.is.getD i ⟨#[]⟩);have cP:=h0t (doS s (Q.at i)) hs da;have rP:=h0s m H (doS s (Q.at i)) C' (i+1) hC (by omega) da;have cP2:=h0t (doS s (Q.at i)) hs (IntKind.i64.wrap ((Q.t.getD i 0).tdiv 86400));have rP2:=h0s m H (doS s (Q.at i)) C' (i+1) hC (by omega) (IntKind.i64.wrap ((Q.t.getD i 0).tdiv 86400));have hl1:=b1l hs da;have hl2:=b1l hs (IntKind.i64.wrap ((Q.t.getD i 0).tdiv 86400));have cS:=fun pc=>l0W pc (h0v (doS s (Q.at i)).ds (doS s (Q.at i)).B da).length (by omega)
 have cS2:=fun pc=>l0W pc (h0v (doS s (Q.at i)).ds (doS s (Q.at i)).B (IntKind.i64.wrap ((Q.t.getD i 0).tdiv 86400))).length (by omega)
 have hsz:p0c.size+(Q.is.getD i ⟨#[]⟩).size<=9223372036854775807:=by have:p0c.size=6:=rfl;omega
 generalize hS:doS s (Q.at i)=S at*;generalize doE s (Q.at i)=E at*;generalize b0j S.au (S.pl (Q.au.getD i ⟨#[]⟩))=x at*;generalize decide (S.pl (Q.au.getD i ⟨#[]⟩)<S.na)=bb at*;generalize S.lg.bal ac S.cur=y at*;generalize S.lg.bal (p0c++Q.is.getD i ⟨#[]⟩) S.cur=y2 at*;generalize h0v S.ds S.B da=P at*;generalize h0v S.ds S.B (IntKind.i64.wrap ((Q.t.getD i 0).tdiv 86400))=P2 at*;have cS:=cS (b0e P);have cS2:=cS2 (b0e P2);generalize b0e P=PC at*;generalize P.length=pn at*;generalize b0e P2=PC2 at*;generalize P2.length=pn2 at*;unfold bpS;dsimp only;repeat' ((conv=>whnf);first|(refine a0g hsz ?_)|refine cOx (l:= [0,5,6,7,8,9,10,11,12,13,14,15,16,17,18,19,20,21,22,23]) d1 ?_|refine cOx (l:= [0,24,1,2,25,26,27,28,29,30,31,32,33,34,35,36]) d2 ?_|refine cOx (l:= [0,5,37,7,8,9,38,11,12,13,39,15,16,17,18,19,20,40,41,42]) cA ?_|refine cOx (l:= [0,5,37,7,8,9,38,11,12,13,39,15,16,17,18,19,20,40,41,42]) cB ?_|refine cOx (l:= [0,5,37,7,8,9,38,11,12,13,39,15,16,17,18,19,20,40,41,42]) cB2 ?_|refine cOx (l:= [0,5,37,7,8,9,38,11,12,13,39,15,16,17,18,19,20,40,41,42]) cP ?_|refine cOx (l:= [0,5,37,7,8,9,38,11,12,13,39,15,16,17,18,19,20,40,41,42]) cP2 ?_|refine cOx (l:= [0,52,53]) cS ?_|refine cOx (l:= [0,54,55]) cS2 ?_|refine cOx (l:= [0,24,1,2,43,26,27,44,45,30,31,32,46,47,48,49]) rA ?_|refine cOx (l:= [0,24,1,2,43,26,27,44,45,30,31,32,46,47,48,49]) rB ?_|refine cOx (l:= [0,24,1,2,43,26,27,44,45,30,31,32,46,47,48,49]) rB2 ?_|refine cOx (l:= [0,24,1,2,43,26,27,44,45,30,31,32,46,47,48,49]) rP ?_|refine cOx (l:= [0,24,1,2,43,26,27,44,45,30,31,32,46,47,48,49]) rP2 ?_|refine a0a ?_|(apply bRx<;>intro h<;>try (exfalso;(try dsimp only at h);omega)))
 all_goals (conv=>whnf)
 all_goals first
  |(exfalso;omega)
  |(exfalso;first|contradiction|(simp [seq] at h;done))
  |(subst hS;exact hK _ ⟨(i+1,doS s (Q.at i),C'),[0,1,2,3,4,5,37,7,8,9,38,11,12,13,39,15,16,17,18,19,20,40,41,42,24,43,26,27,44,45,30,31,32,46,47,48,49],[],⟨by dsimp only;omega,hC⟩,by dsimp only;omega,⟨rfl,⟨rfl,rfl,rfl,rfl,rfl,congrArg (fun z=>some (SV.int .i64 z)) (a0i (by omega)),trivial⟩,⟨gwk rfl,rfl,rfl,rfl,rfl,rfl,rfl,rfl,rfl,rfl,rfl,rfl,rfl,rfl,rfl,rfl,rfl,rfl,rfl,rfl,rfl,rfl,rfl,rfl,rfl,rfl,rfl,rfl,rfl,rfl,rfl,rfl,rfl,rfl,rfl,rfl,rfl,trivial⟩⟩⟩)
  |trace_state
theorem u0a (L:List ByteArray) (n:Nat) (hL:L.length=n) (hLs:∀x∈L,x.size<=maxLen) (cur:ByteArray) (H:List Int) (m:Nat) (hm:m<=maxLen) (hH:H.length=m) (cut days:Int) (Q:Oq) (hac:∀x∈Q.is,x.size<=140737488351232) (ac:ByteArray) (da:Int):FC Tryz.prog 4 3 [.agg [.sl 1 0 0 n,.str cur,.sl 2 0 0 m,.int .i64 cut,.int .i64 days],.sl 3 0 0 Q.n,.str ac,.int .i64 da] [(0,some (GB glT)),(1,some (.one true (.cols n [.sc (.strs L)]))),(2,some (.one true (.cols m [.sc (.ints .i64 H)]))),(3,some (.one true Q.b))] (a0f (.bool true) [] 4):=by
 have cA:=x0E;subst hL;have eM:maxLen=9223372036854775807:=rfl;by_cases he:bkE cur days H m cut L≠0
 .have c1:=x0C cur days cut L L.length H m rfl hH he;have c2:=t0Y cur days cut L L.length H m rfl hH hm (fun k=>by
   by_cases q:k<L.length
   .rw [List.getD,j0I q];exact hLs _ (b1P _)
   .rw [List.getD,p0J (by omega)];exact (by decide:(0:Nat)<=9223372036854775807)) he
  generalize bkE cur days H m cut L=E at*;refine fEx Tryz.func3 ?_;repeat' ((conv=>whnf);first|refine cOx (l:= [0,1,2]) c1 ?_|refine cOx (l:= [0,1,2]) c2 ?_|refine cGx cA ?_|refine a0a ?_|(apply bRx<;>intro h<;>try (exfalso;(try dsimp only at h);omega)))
  all_goals (conv=>whnf)
  all_goals first
   |(exfalso;omega)
   |(exfalso;exact he h)
   |(exfalso;exact h rfl)
   |(exfalso;simp [he] at h;done)
   |exact rOx [0,1,2,3] a0b
   |trace_state
 have he:bkE cur days H m cut L=0:=by omega
 have c1:=p0f cur days cut L L.length H m rfl hH he;have c2:=t0Z cur days cut L H m hH hm he;have h0:=h1g hH he;rw [g1t m cur cut days L H] at c2;generalize bk1 cur days H cut L=s0 at*;refine fEx Tryz.func3 ?_;repeat' ((conv=>whnf);first|refine cOx (l:= [0,1,2]) c1 ?_|refine cOx (l:= [0,1,2]) c2 ?_|refine a0a ?_|(apply bRx<;>intro h<;>try (exfalso;(try dsimp only at h);omega)))
 all_goals (conv=>whnf)
 all_goals first
  |(exfalso;omega)
  |(exfalso;exact h rfl)
  |skip
 refine a0o (bpS L L.length cur H m cut days Q ac da) (fun x=>x.1<=40/\RbI m H x.2.1 x.2.2 x.1) (fun x=>40-x.1) (0,s0,[]) [0,1,2,3,4,5,6,7,8,9,10,11,12,13,14,15,16,17,18,19,20,21,22,23,24,25,26,27,28,29,30,31,32,33,34,35,36] [] wHx ⟨z0h _,h0⟩ ?_;rintro ⟨i,s,C⟩ ⟨hi,hI⟩;dsimp only at hi hI;by_cases hi2:i<Q.n/\i<40
 .refine a1u L L.length cur H m cut days Q ac da i s C hI ?_ hi2.1 hi2.2 _ (fun v hv=>hv);by_cases q:i<Q.is.length
  .rw [List.getD,j0I q];exact hac _ (b1P _)
  .rw [List.getD,p0J (by omega)];decide
 have cD:=x0B s hI.ok;have rD:=t0X m s hI.ok hI.dg;unfold bpS;dsimp only;generalize dgI s=D at*;repeat' ((conv=>whnf);first|refine cOx (l:= [0,5,6,7,8,9,10,11,12,13,14,15,16,17,18,19,20,21,22,23]) cD ?_|refine cOx (l:= [0,24,1,2,25,26,27,28,29,30,31,32,33,34,35,36]) rD ?_|refine cGx cA ?_|refine a0a ?_|(apply bRx<;>intro h<;>try (exfalso;(try dsimp only at h);omega)))
 all_goals (conv=>whnf)
 all_goals first
  |(exfalso;omega)
  |(exfalso;exact h rfl)
  |exact rOx [0,1,2,3] a0b
  |trace_state
end
end Go.Proofs.YtpkaeknigknbgaaGreatDoor
namespace Go.Proofs.YtpkaeknigknbgaaGreatDoor
open Go.RowKit Go.Sy
theorem booksPlays_fc (l0_0:Nat) (hl0_0:l0_0<=maxLen) (q0_0_0:List ByteArray) (eq0_0_0:q0_0_0.length=l0_0) (wq0_0_0:∀x∈q0_0_0,x.size<=maxLen) (x0_1:ByteArray) (hx0_1:x0_1.size<=maxLen) (l0_2:Nat) (hl0_2:l0_2<=maxLen) (q0_2_0:List Int) (eq0_2_0:q0_2_0.length=l0_2) (wq0_2_0:∀x∈q0_2_0,(Lit.int .i64 x).wf=true) (x0_3:Int) (hx0_3:(Lit.int .i64 x0_3).wf=true) (x0_4:Int) (hx0_4:(Lit.int .i64 x0_4).wf=true) (l1:Nat) (hl1:l1<=maxLen) (q1_0:List Int) (eq1_0:q1_0.length=l1) (wq1_0:∀x∈q1_0,(Lit.int .i64 x).wf=true) (q1_1:List Int) (eq1_1:q1_1.length=l1) (wq1_1:∀x∈q1_1,(Lit.int .i64 x).wf=true) (q1_2:List ByteArray) (eq1_2:q1_2.length=l1) (wq1_2:∀x∈q1_2,x.size<=reachBytes) (q1_3:List ByteArray) (eq1_3:q1_3.length=l1) (wq1_3:∀x∈q1_3,x.size<=reachBytes) (q1_4:List ByteArray) (eq1_4:q1_4.length=l1) (wq1_4:∀x∈q1_4,x.size<=reachBytes) (q1_5:List ByteArray) (eq1_5:q1_5.length=l1) (wq1_5:∀x∈q1_5,x.size<=reachBytes) (q1_6:List Int) (eq1_6:q1_6.length=l1) (wq1_6:∀x∈q1_6,(Lit.int .i64 x).wf=true) (q1_7:List Int) (eq1_7:q1_7.length=l1) (wq1_7:∀x∈q1_7,(Lit.int .i64 x).wf=true) (q1_8:List Bool) (eq1_8:q1_8.length=l1) (s2:ByteArray) (hs2:s2.size<=maxLen) (n3:Int) (hw3:(Lit.int .i64 n3).wf=true):
  FC Tryz.prog 4 3 [.agg [.sl 1 0 0 l0_0,.str x0_1,.sl 2 0 0 l0_2,.int .i64 x0_3,.int .i64 x0_4],.sl 3 0 0 l1,.str s2,.int .i64 n3] [(0,some (GB glT)),(1,some (.one true (.cols l0_0 [.sc (.strs q0_0_0)]))),(2,some (.one true (.cols l0_2 [.sc (.ints .i64 q0_2_0)]))),(3,some (.one true (.cols l1 [.sc (.ints .i64 q1_0),.sc (.ints .i64 q1_1),.sc (.strs q1_2),.sc (.strs q1_3),.sc (.strs q1_4),.sc (.strs q1_5),.sc (.ints .i64 q1_6),.sc (.ints .i64 q1_7),.sc (.bools q1_8)])))] (a0f (.bool true) [] 4):=u0a q0_0_0 l0_0 eq0_0_0 wq0_0_0 x0_1 q0_2_0 l0_2 hl0_2 eq0_2_0 x0_3 x0_4 ⟨l1,q1_0,q1_1,q1_2,q1_3,q1_4,q1_5,q1_6,q1_7,q1_8⟩ wq1_4 s2 n3
end Go.Proofs.YtpkaeknigknbgaaGreatDoor
