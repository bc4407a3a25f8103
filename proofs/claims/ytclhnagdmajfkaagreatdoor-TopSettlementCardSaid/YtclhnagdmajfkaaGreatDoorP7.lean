/- Several texts in one: St3 TopSettlementC. -/
import Derived.Test.YtclhnagdmajfkaaGreatDoorP6
set_option linter.unusedVariables false
set_option linter.unusedSimpArgs false
set_option maxRecDepth 100000
namespace Go.Proofs.YtclhnagdmajfkaaGreatDoor
open Go.RowKit Go.Sy
section
attribute [local irreducible] a0u a0v a0j b0b
set_option maxHeartbeats 4000000 in
theorem c1V (p n s:Int) (hb:Rb true p n s) (h0:p+n+s=0) (g0:0<n) (g1:p<0) (g2:0<s) (g3:s<=n):FC Tryz.prog 3 57 [.sl 1 0 0 3,.sl 2 0 0 2] [(1,g0V true p n s),(2,trB true 2 [sHb,sHb] [sNw,sSb] [n,s] [sEu,sEu])] (a0d (.tup [.nsl,.int .i64 0]) [] 3):=by
 have hp:=hb.p;have hn:=hb.n;have hs:=hb.s;have k0:=c0W true true true p n s hb rfl;have n1:=a0E sHb (.inl rfl);have n2:=a0E sNw (.inr (.inl rfl));have n3:=a0E sSb (.inr (.inr rfl));have p1:=a0r sHb p;have p2:=a0r sNw n;have p3:=a0r sSb s;have y10:IntKind.i64.wrap (p+(n))=(p+(n)):=(a0e (by omega) (by omega)).trans (by omega);have w10:=b0L (IntKind.i64.wrap (p+(n))) (by rw [y10];omega);have y11:IntKind.i64.wrap (n-(n))=0:=(a0e (by omega) (by omega)).trans (by omega);have w11:=b0L (IntKind.i64.wrap (n-(n))) (by rw [y11];omega);have c1:=a0F (n) (by omega);have r1:some (HB.one false (Blk.obj (ObjS.map true false 3 [.strs [sEu,sEu,sEu],.strs [sHb,sNw,sSb]] [.sc (.ints .i64 [IntKind.i64.wrap (p+(n)),IntKind.i64.wrap (n-(n)),s])] (List.range 3) 3)))=some (HB.one false (Blk.obj (ObjS.map true false 3 [.strs [sEu,sEu,sEu],.strs [sHb,sNw,sSb]] [.sc (.ints .i64 [(p+(n)),0,s])] (List.range 3) 3))):=by rw [y10,y11]
 have y20:IntKind.i64.wrap ((p+(n))+(s))=0:=(a0e (by omega) (by omega)).trans (by omega);have w20:=b0L (IntKind.i64.wrap ((p+(n))+(s))) (by rw [y20];omega);have y22:IntKind.i64.wrap (s-(s))=0:=(a0e (by omega) (by omega)).trans (by omega);have w22:=b0L (IntKind.i64.wrap (s-(s))) (by rw [y22];omega);have c2:=a0F (s) (by omega);have r2:some (HB.one false (Blk.obj (ObjS.map true false 3 [.strs [sEu,sEu,sEu],.strs [sHb,sNw,sSb]] [.sc (.ints .i64 [IntKind.i64.wrap ((p+(n))+(s)),0,IntKind.i64.wrap (s-(s))])] (List.range 3) 3)))=some (HB.one false (Blk.obj (ObjS.map true false 3 [.strs [sEu,sEu,sEu],.strs [sHb,sNw,sSb]] [.sc (.ints .i64 [0,0,0])] (List.range 3) 3))):=by rw [y20,y22]
 have zr:∀i,(([0,0,0]:List Int)).getD i 0=0:=fun i=>by match i with|0=>rfl|1=>rfl|2=>rfl|i+3=>rfl
 refine fEx Tryz.func57 ?_;repeat' ((conv=>whnf);first|(exact d0m 3 (by decide) [sEu,sEu,sEu] [sHb,sNw,sSb] ([0,0,0]:List Int) zr [0,1,2,3,4] [] _ ⟨rfl,⟨rfl,rfl,rfl,trivial⟩,⟨rfl,rfl,trivial⟩⟩)|(refine a0n (fun t:Nat=>(⟨[(7,.map 3 0),(40,.sl 2 0 0 2),(41,.int .i64 2),(42,.int .i64 t)],[(2,trB true 2 [sHb,sHb] [sNw,sSb] [n,s] [sEu,sEu]),(3,some (HB.one false (Blk.obj (ObjS.map true false 3 [.strs [sEu,sEu,sEu],.strs [sHb,sNw,sSb]] [.sc (.ints .i64 ((fun t:Nat=>match t with|0=> [p,n,s]|1=> [(p+(n)),0,s]|2=> [0,0,0]|_=> [0,0,0]) t))] (List.range 3) 3))))],4⟩:VS)) (fun t=>t<=2) (fun t=>2-t) 0 [0,1,2,3] [] wHx (by decide) ?_;rintro t ht;obtain rfl|rfl|rfl:t=0\/t=1\/t=2:=by omega)|(exact ⟨1,[0,1,2,3],[],(by decide),(by decide),⟨rfl,⟨rfl,rfl,rfl,rfl,trivial⟩,⟨rfl,r1,trivial⟩⟩⟩)|(exact ⟨2,[0,1,2,3],[],(by decide),(by decide),⟨rfl,⟨rfl,rfl,rfl,rfl,trivial⟩,⟨rfl,r2,trivial⟩⟩⟩)|refine a0c 5 ?_|refine cOx (l:= [0,1]) k0 ?_|refine cPx n1 ?_|refine cPx n2 ?_|refine cPx n3 ?_|refine cPx p1 ?_|refine cPx p2 ?_|refine cPx p3 ?_|refine cPx w10 ?_|refine cPx w11 ?_|refine cPx c1 ?_|refine cPx w20 ?_|refine cPx w22 ?_|refine cPx c2 ?_|refine a0a ?_|(apply bRx<;>intro h<;>try (exfalso;(try dsimp only at h);omega)))
set_option maxHeartbeats 1000000 in
theorem c1W (p n s:Int) (hb:Rb true p n s) (h0:p+n+s=0) (g0:0<n) (g1:p<0) (g2:0<s) (g3:s<=n):FC Tryz.prog 3 19 [.sl 1 0 0 3,.sl 2 0 0 2] [(1,g0V true p n s),(2,trB true 2 [sHb,sHb] [sNw,sSb] [n,s] [sEu,sEu])] (a0d (.bool true) [] 3):=by
 have hz:Nz true true true p n s:=⟨by simp;omega,by simp;omega,by simp;omega⟩;have k0:=a0O true true true p n s hb hz h0 rfl;have k1:=c1V p n s hb h0 g0 g1 g2 g3;refine fEx Tryz.func19 ?_;repeat' ((conv=>whnf);first|refine a0c 5 ?_|refine cOx (l:= [0,1]) k0 ?_|refine cOx (l:= [0,1,2]) k1 ?_|(apply bRx<;>intro h<;>first|exact aX|(have h:(n)<1:=h;exact aX)|(have h:(s)<1:=h;exact aX)|skip)|refine a0a ?_|(apply bRx<;>intro h<;>try (exfalso;(try dsimp only at h);omega)))
 all_goals (conv=>whnf)
 all_goals first
  |exact rOz [0,1,2]
  |trace_state
set_option maxHeartbeats 4000000 in
theorem c1X (p n s:Int) (hb:Rb true p n s) (h0:p+n+s=0) (g0:0<n) (g1:p<0) (g2:0<s) (g3:n<s):FC Tryz.prog 3 57 [.sl 1 0 0 3,.sl 2 0 0 2] [(1,g0V true p n s),(2,trB true 2 [sHb,sHb] [sSb,sNw] [s,n] [sEu,sEu])] (a0d (.tup [.nsl,.int .i64 0]) [] 3):=by
 have hp:=hb.p;have hn:=hb.n;have hs:=hb.s;have k0:=c0W true true true p n s hb rfl;have n1:=a0E sHb (.inl rfl);have n2:=a0E sNw (.inr (.inl rfl));have n3:=a0E sSb (.inr (.inr rfl));have p1:=a0r sHb p;have p2:=a0r sNw n;have p3:=a0r sSb s;have y10:IntKind.i64.wrap (p+(s))=(p+(s)):=(a0e (by omega) (by omega)).trans (by omega);have w10:=b0L (IntKind.i64.wrap (p+(s))) (by rw [y10];omega);have y12:IntKind.i64.wrap (s-(s))=0:=(a0e (by omega) (by omega)).trans (by omega);have w12:=b0L (IntKind.i64.wrap (s-(s))) (by rw [y12];omega);have c1:=a0F (s) (by omega);have r1:some (HB.one false (Blk.obj (ObjS.map true false 3 [.strs [sEu,sEu,sEu],.strs [sHb,sNw,sSb]] [.sc (.ints .i64 [IntKind.i64.wrap (p+(s)),n,IntKind.i64.wrap (s-(s))])] (List.range 3) 3)))=some (HB.one false (Blk.obj (ObjS.map true false 3 [.strs [sEu,sEu,sEu],.strs [sHb,sNw,sSb]] [.sc (.ints .i64 [(p+(s)),n,0])] (List.range 3) 3))):=by rw [y10,y12]
 have y20:IntKind.i64.wrap ((p+(s))+(n))=0:=(a0e (by omega) (by omega)).trans (by omega);have w20:=b0L (IntKind.i64.wrap ((p+(s))+(n))) (by rw [y20];omega);have y21:IntKind.i64.wrap (n-(n))=0:=(a0e (by omega) (by omega)).trans (by omega);have w21:=b0L (IntKind.i64.wrap (n-(n))) (by rw [y21];omega);have c2:=a0F (n) (by omega);have r2:some (HB.one false (Blk.obj (ObjS.map true false 3 [.strs [sEu,sEu,sEu],.strs [sHb,sNw,sSb]] [.sc (.ints .i64 [IntKind.i64.wrap ((p+(s))+(n)),IntKind.i64.wrap (n-(n)),0])] (List.range 3) 3)))=some (HB.one false (Blk.obj (ObjS.map true false 3 [.strs [sEu,sEu,sEu],.strs [sHb,sNw,sSb]] [.sc (.ints .i64 [0,0,0])] (List.range 3) 3))):=by rw [y20,y21]
 have zr:∀i,(([0,0,0]:List Int)).getD i 0=0:=fun i=>by match i with|0=>rfl|1=>rfl|2=>rfl|i+3=>rfl
 refine fEx Tryz.func57 ?_;repeat' ((conv=>whnf);first|(exact d0m 3 (by decide) [sEu,sEu,sEu] [sHb,sNw,sSb] ([0,0,0]:List Int) zr [0,1,2,3,4] [] _ ⟨rfl,⟨rfl,rfl,rfl,trivial⟩,⟨rfl,rfl,trivial⟩⟩)|(refine a0n (fun t:Nat=>(⟨[(7,.map 3 0),(40,.sl 2 0 0 2),(41,.int .i64 2),(42,.int .i64 t)],[(2,trB true 2 [sHb,sHb] [sSb,sNw] [s,n] [sEu,sEu]),(3,some (HB.one false (Blk.obj (ObjS.map true false 3 [.strs [sEu,sEu,sEu],.strs [sHb,sNw,sSb]] [.sc (.ints .i64 ((fun t:Nat=>match t with|0=> [p,n,s]|1=> [(p+(s)),n,0]|2=> [0,0,0]|_=> [0,0,0]) t))] (List.range 3) 3))))],4⟩:VS)) (fun t=>t<=2) (fun t=>2-t) 0 [0,1,2,3] [] wHx (by decide) ?_;rintro t ht;obtain rfl|rfl|rfl:t=0\/t=1\/t=2:=by omega)|(exact ⟨1,[0,1,2,3],[],(by decide),(by decide),⟨rfl,⟨rfl,rfl,rfl,rfl,trivial⟩,⟨rfl,r1,trivial⟩⟩⟩)|(exact ⟨2,[0,1,2,3],[],(by decide),(by decide),⟨rfl,⟨rfl,rfl,rfl,rfl,trivial⟩,⟨rfl,r2,trivial⟩⟩⟩)|refine a0c 5 ?_|refine cOx (l:= [0,1]) k0 ?_|refine cPx n1 ?_|refine cPx n2 ?_|refine cPx n3 ?_|refine cPx p1 ?_|refine cPx p2 ?_|refine cPx p3 ?_|refine cPx w10 ?_|refine cPx w12 ?_|refine cPx c1 ?_|refine cPx w20 ?_|refine cPx w21 ?_|refine cPx c2 ?_|refine a0a ?_|(apply bRx<;>intro h<;>try (exfalso;(try dsimp only at h);omega)))
set_option maxHeartbeats 1000000 in
theorem c1Y (p n s:Int) (hb:Rb true p n s) (h0:p+n+s=0) (g0:0<n) (g1:p<0) (g2:0<s) (g3:n<s):FC Tryz.prog 3 19 [.sl 1 0 0 3,.sl 2 0 0 2] [(1,g0V true p n s),(2,trB true 2 [sHb,sHb] [sSb,sNw] [s,n] [sEu,sEu])] (a0d (.bool true) [] 3):=by
 have hz:Nz true true true p n s:=⟨by simp;omega,by simp;omega,by simp;omega⟩;have k0:=a0O true true true p n s hb hz h0 rfl;have k1:=c1X p n s hb h0 g0 g1 g2 g3;refine fEx Tryz.func19 ?_;repeat' ((conv=>whnf);first|refine a0c 5 ?_|refine cOx (l:= [0,1]) k0 ?_|refine cOx (l:= [0,1,2]) k1 ?_|(apply bRx<;>intro h<;>first|exact aX|(have h:(s)<1:=h;exact aX)|(have h:(n)<1:=h;exact aX)|skip)|refine a0a ?_|(apply bRx<;>intro h<;>try (exfalso;(try dsimp only at h);omega)))
 all_goals (conv=>whnf)
 all_goals first
  |exact rOz [0,1,2]
  |trace_state
set_option maxHeartbeats 4000000 in
theorem c1Z (p n s:Int) (hb:Rb true p n s) (h0:p+n+s=0) (g0:0<n) (g1:0<p) (g2:s<0) (g3:n<=p):FC Tryz.prog 3 57 [.sl 1 0 0 3,.sl 2 0 0 2] [(1,g0V true p n s),(2,trB true 2 [sSb,sSb] [sHb,sNw] [p,n] [sEu,sEu])] (a0d (.tup [.nsl,.int .i64 0]) [] 3):=by
 have hp:=hb.p;have hn:=hb.n;have hs:=hb.s;have k0:=c0W true true true p n s hb rfl;have n1:=a0E sHb (.inl rfl);have n2:=a0E sNw (.inr (.inl rfl));have n3:=a0E sSb (.inr (.inr rfl));have p1:=a0r sHb p;have p2:=a0r sNw n;have p3:=a0r sSb s;have y12:IntKind.i64.wrap (s+(p))=(s+(p)):=(a0e (by omega) (by omega)).trans (by omega);have w12:=b0L (IntKind.i64.wrap (s+(p))) (by rw [y12];omega);have y10:IntKind.i64.wrap (p-(p))=0:=(a0e (by omega) (by omega)).trans (by omega);have w10:=b0L (IntKind.i64.wrap (p-(p))) (by rw [y10];omega);have c1:=a0F (p) (by omega);have r1:some (HB.one false (Blk.obj (ObjS.map true false 3 [.strs [sEu,sEu,sEu],.strs [sHb,sNw,sSb]] [.sc (.ints .i64 [IntKind.i64.wrap (p-(p)),n,IntKind.i64.wrap (s+(p))])] (List.range 3) 3)))=some (HB.one false (Blk.obj (ObjS.map true false 3 [.strs [sEu,sEu,sEu],.strs [sHb,sNw,sSb]] [.sc (.ints .i64 [0,n,(s+(p))])] (List.range 3) 3))):=by rw [y12,y10]
 have y22:IntKind.i64.wrap ((s+(p))+(n))=0:=(a0e (by omega) (by omega)).trans (by omega);have w22:=b0L (IntKind.i64.wrap ((s+(p))+(n))) (by rw [y22];omega);have y21:IntKind.i64.wrap (n-(n))=0:=(a0e (by omega) (by omega)).trans (by omega);have w21:=b0L (IntKind.i64.wrap (n-(n))) (by rw [y21];omega);have c2:=a0F (n) (by omega);have r2:some (HB.one false (Blk.obj (ObjS.map true false 3 [.strs [sEu,sEu,sEu],.strs [sHb,sNw,sSb]] [.sc (.ints .i64 [0,IntKind.i64.wrap (n-(n)),IntKind.i64.wrap ((s+(p))+(n))])] (List.range 3) 3)))=some (HB.one false (Blk.obj (ObjS.map true false 3 [.strs [sEu,sEu,sEu],.strs [sHb,sNw,sSb]] [.sc (.ints .i64 [0,0,0])] (List.range 3) 3))):=by rw [y22,y21]
 have zr:∀i,(([0,0,0]:List Int)).getD i 0=0:=fun i=>by match i with|0=>rfl|1=>rfl|2=>rfl|i+3=>rfl
 refine fEx Tryz.func57 ?_;repeat' ((conv=>whnf);first|(exact d0m 3 (by decide) [sEu,sEu,sEu] [sHb,sNw,sSb] ([0,0,0]:List Int) zr [0,1,2,3,4] [] _ ⟨rfl,⟨rfl,rfl,rfl,trivial⟩,⟨rfl,rfl,trivial⟩⟩)|(refine a0n (fun t:Nat=>(⟨[(7,.map 3 0),(40,.sl 2 0 0 2),(41,.int .i64 2),(42,.int .i64 t)],[(2,trB true 2 [sSb,sSb] [sHb,sNw] [p,n] [sEu,sEu]),(3,some (HB.one false (Blk.obj (ObjS.map true false 3 [.strs [sEu,sEu,sEu],.strs [sHb,sNw,sSb]] [.sc (.ints .i64 ((fun t:Nat=>match t with|0=> [p,n,s]|1=> [0,n,(s+(p))]|2=> [0,0,0]|_=> [0,0,0]) t))] (List.range 3) 3))))],4⟩:VS)) (fun t=>t<=2) (fun t=>2-t) 0 [0,1,2,3] [] wHx (by decide) ?_;rintro t ht;obtain rfl|rfl|rfl:t=0\/t=1\/t=2:=by omega)|(exact ⟨1,[0,1,2,3],[],(by decide),(by decide),⟨rfl,⟨rfl,rfl,rfl,rfl,trivial⟩,⟨rfl,r1,trivial⟩⟩⟩)|(exact ⟨2,[0,1,2,3],[],(by decide),(by decide),⟨rfl,⟨rfl,rfl,rfl,rfl,trivial⟩,⟨rfl,r2,trivial⟩⟩⟩)|refine a0c 5 ?_|refine cOx (l:= [0,1]) k0 ?_|refine cPx n1 ?_|refine cPx n2 ?_|refine cPx n3 ?_|refine cPx p1 ?_|refine cPx p2 ?_|refine cPx p3 ?_|refine cPx w12 ?_|refine cPx w10 ?_|refine cPx c1 ?_|refine cPx w22 ?_|refine cPx w21 ?_|refine cPx c2 ?_|refine a0a ?_|(apply bRx<;>intro h<;>try (exfalso;(try dsimp only at h);omega)))
set_option maxHeartbeats 1000000 in
theorem d1a (p n s:Int) (hb:Rb true p n s) (h0:p+n+s=0) (g0:0<n) (g1:0<p) (g2:s<0) (g3:n<=p):FC Tryz.prog 3 19 [.sl 1 0 0 3,.sl 2 0 0 2] [(1,g0V true p n s),(2,trB true 2 [sSb,sSb] [sHb,sNw] [p,n] [sEu,sEu])] (a0d (.bool true) [] 3):=by
 have hz:Nz true true true p n s:=⟨by simp;omega,by simp;omega,by simp;omega⟩;have k0:=a0O true true true p n s hb hz h0 rfl;have k1:=c1Z p n s hb h0 g0 g1 g2 g3;refine fEx Tryz.func19 ?_;repeat' ((conv=>whnf);first|refine a0c 5 ?_|refine cOx (l:= [0,1]) k0 ?_|refine cOx (l:= [0,1,2]) k1 ?_|(apply bRx<;>intro h<;>first|exact aX|(have h:(p)<1:=h;exact aX)|(have h:(n)<1:=h;exact aX)|skip)|refine a0a ?_|(apply bRx<;>intro h<;>try (exfalso;(try dsimp only at h);omega)))
 all_goals (conv=>whnf)
 all_goals first
  |exact rOz [0,1,2]
  |trace_state
set_option maxHeartbeats 4000000 in
theorem d1b (p n s:Int) (hb:Rb true p n s) (h0:p+n+s=0) (g0:0<n) (g1:0<p) (g2:s<0) (g3:p<n):FC Tryz.prog 3 57 [.sl 1 0 0 3,.sl 2 0 0 2] [(1,g0V true p n s),(2,trB true 2 [sSb,sSb] [sNw,sHb] [n,p] [sEu,sEu])] (a0d (.tup [.nsl,.int .i64 0]) [] 3):=by
 have hp:=hb.p;have hn:=hb.n;have hs:=hb.s;have k0:=c0W true true true p n s hb rfl;have n1:=a0E sHb (.inl rfl);have n2:=a0E sNw (.inr (.inl rfl));have n3:=a0E sSb (.inr (.inr rfl));have p1:=a0r sHb p;have p2:=a0r sNw n;have p3:=a0r sSb s;have y12:IntKind.i64.wrap (s+(n))=(s+(n)):=(a0e (by omega) (by omega)).trans (by omega);have w12:=b0L (IntKind.i64.wrap (s+(n))) (by rw [y12];omega);have y11:IntKind.i64.wrap (n-(n))=0:=(a0e (by omega) (by omega)).trans (by omega);have w11:=b0L (IntKind.i64.wrap (n-(n))) (by rw [y11];omega);have c1:=a0F (n) (by omega);have r1:some (HB.one false (Blk.obj (ObjS.map true false 3 [.strs [sEu,sEu,sEu],.strs [sHb,sNw,sSb]] [.sc (.ints .i64 [p,IntKind.i64.wrap (n-(n)),IntKind.i64.wrap (s+(n))])] (List.range 3) 3)))=some (HB.one false (Blk.obj (ObjS.map true false 3 [.strs [sEu,sEu,sEu],.strs [sHb,sNw,sSb]] [.sc (.ints .i64 [p,0,(s+(n))])] (List.range 3) 3))):=by rw [y12,y11]
 have y22:IntKind.i64.wrap ((s+(n))+(p))=0:=(a0e (by omega) (by omega)).trans (by omega);have w22:=b0L (IntKind.i64.wrap ((s+(n))+(p))) (by rw [y22];omega);have y20:IntKind.i64.wrap (p-(p))=0:=(a0e (by omega) (by omega)).trans (by omega);have w20:=b0L (IntKind.i64.wrap (p-(p))) (by rw [y20];omega);have c2:=a0F (p) (by omega);have r2:some (HB.one false (Blk.obj (ObjS.map true false 3 [.strs [sEu,sEu,sEu],.strs [sHb,sNw,sSb]] [.sc (.ints .i64 [IntKind.i64.wrap (p-(p)),0,IntKind.i64.wrap ((s+(n))+(p))])] (List.range 3) 3)))=some (HB.one false (Blk.obj (ObjS.map true false 3 [.strs [sEu,sEu,sEu],.strs [sHb,sNw,sSb]] [.sc (.ints .i64 [0,0,0])] (List.range 3) 3))):=by rw [y22,y20]
 have zr:∀i,(([0,0,0]:List Int)).getD i 0=0:=fun i=>by match i with|0=>rfl|1=>rfl|2=>rfl|i+3=>rfl
 refine fEx Tryz.func57 ?_;repeat' ((conv=>whnf);first|(exact d0m 3 (by decide) [sEu,sEu,sEu] [sHb,sNw,sSb] ([0,0,0]:List Int) zr [0,1,2,3,4] [] _ ⟨rfl,⟨rfl,rfl,rfl,trivial⟩,⟨rfl,rfl,trivial⟩⟩)|(refine a0n (fun t:Nat=>(⟨[(7,.map 3 0),(40,.sl 2 0 0 2),(41,.int .i64 2),(42,.int .i64 t)],[(2,trB true 2 [sSb,sSb] [sNw,sHb] [n,p] [sEu,sEu]),(3,some (HB.one false (Blk.obj (ObjS.map true false 3 [.strs [sEu,sEu,sEu],.strs [sHb,sNw,sSb]] [.sc (.ints .i64 ((fun t:Nat=>match t with|0=> [p,n,s]|1=> [p,0,(s+(n))]|2=> [0,0,0]|_=> [0,0,0]) t))] (List.range 3) 3))))],4⟩:VS)) (fun t=>t<=2) (fun t=>2-t) 0 [0,1,2,3] [] wHx (by decide) ?_;rintro t ht;obtain rfl|rfl|rfl:t=0\/t=1\/t=2:=by omega)|(exact ⟨1,[0,1,2,3],[],(by decide),(by decide),⟨rfl,⟨rfl,rfl,rfl,rfl,trivial⟩,⟨rfl,r1,trivial⟩⟩⟩)|(exact ⟨2,[0,1,2,3],[],(by decide),(by decide),⟨rfl,⟨rfl,rfl,rfl,rfl,trivial⟩,⟨rfl,r2,trivial⟩⟩⟩)|refine a0c 5 ?_|refine cOx (l:= [0,1]) k0 ?_|refine cPx n1 ?_|refine cPx n2 ?_|refine cPx n3 ?_|refine cPx p1 ?_|refine cPx p2 ?_|refine cPx p3 ?_|refine cPx w12 ?_|refine cPx w11 ?_|refine cPx c1 ?_|refine cPx w22 ?_|refine cPx w20 ?_|refine cPx c2 ?_|refine a0a ?_|(apply bRx<;>intro h<;>try (exfalso;(try dsimp only at h);omega)))
set_option maxHeartbeats 1000000 in
theorem d1c (p n s:Int) (hb:Rb true p n s) (h0:p+n+s=0) (g0:0<n) (g1:0<p) (g2:s<0) (g3:p<n):FC Tryz.prog 3 19 [.sl 1 0 0 3,.sl 2 0 0 2] [(1,g0V true p n s),(2,trB true 2 [sSb,sSb] [sNw,sHb] [n,p] [sEu,sEu])] (a0d (.bool true) [] 3):=by
 have hz:Nz true true true p n s:=⟨by simp;omega,by simp;omega,by simp;omega⟩;have k0:=a0O true true true p n s hb hz h0 rfl;have k1:=d1b p n s hb h0 g0 g1 g2 g3;refine fEx Tryz.func19 ?_;repeat' ((conv=>whnf);first|refine a0c 5 ?_|refine cOx (l:= [0,1]) k0 ?_|refine cOx (l:= [0,1,2]) k1 ?_|(apply bRx<;>intro h<;>first|exact aX|(have h:(n)<1:=h;exact aX)|(have h:(p)<1:=h;exact aX)|skip)|refine a0a ?_|(apply bRx<;>intro h<;>try (exfalso;(try dsimp only at h);omega)))
 all_goals (conv=>whnf)
 all_goals first
  |exact rOz [0,1,2]
  |trace_state
set_option maxHeartbeats 4000000 in
theorem d1d (p n s:Int) (hb:Rb true p n s) (h0:p+n+s=0) (g0:0<n) (g1:p<0) (g2:s<0) (g3:p<=s):FC Tryz.prog 3 57 [.sl 1 0 0 3,.sl 2 0 0 2] [(1,g0V true p n s),(2,trB true 2 [sHb,sSb] [sNw,sNw] [-p,-s] [sEu,sEu])] (a0d (.tup [.nsl,.int .i64 0]) [] 3):=by
 have hp:=hb.p;have hn:=hb.n;have hs:=hb.s;have k0:=c0W true true true p n s hb rfl;have n1:=a0E sHb (.inl rfl);have n2:=a0E sNw (.inr (.inl rfl));have n3:=a0E sSb (.inr (.inr rfl));have p1:=a0r sHb p;have p2:=a0r sNw n;have p3:=a0r sSb s;have y10:IntKind.i64.wrap (p+(-p))=0:=(a0e (by omega) (by omega)).trans (by omega);have w10:=b0L (IntKind.i64.wrap (p+(-p))) (by rw [y10];omega);have y11:IntKind.i64.wrap (n-(-p))=(n-(-p)):=(a0e (by omega) (by omega)).trans (by omega);have w11:=b0L (IntKind.i64.wrap (n-(-p))) (by rw [y11];omega);have c1:=a0F (-p) (by omega);have r1:some (HB.one false (Blk.obj (ObjS.map true false 3 [.strs [sEu,sEu,sEu],.strs [sHb,sNw,sSb]] [.sc (.ints .i64 [IntKind.i64.wrap (p+(-p)),IntKind.i64.wrap (n-(-p)),s])] (List.range 3) 3)))=some (HB.one false (Blk.obj (ObjS.map true false 3 [.strs [sEu,sEu,sEu],.strs [sHb,sNw,sSb]] [.sc (.ints .i64 [0,(n-(-p)),s])] (List.range 3) 3))):=by rw [y10,y11]
 have y22:IntKind.i64.wrap (s+(-s))=0:=(a0e (by omega) (by omega)).trans (by omega);have w22:=b0L (IntKind.i64.wrap (s+(-s))) (by rw [y22];omega);have y21:IntKind.i64.wrap ((n-(-p))-(-s))=0:=(a0e (by omega) (by omega)).trans (by omega);have w21:=b0L (IntKind.i64.wrap ((n-(-p))-(-s))) (by rw [y21];omega);have c2:=a0F (-s) (by omega);have r2:some (HB.one false (Blk.obj (ObjS.map true false 3 [.strs [sEu,sEu,sEu],.strs [sHb,sNw,sSb]] [.sc (.ints .i64 [0,IntKind.i64.wrap ((n-(-p))-(-s)),IntKind.i64.wrap (s+(-s))])] (List.range 3) 3)))=some (HB.one false (Blk.obj (ObjS.map true false 3 [.strs [sEu,sEu,sEu],.strs [sHb,sNw,sSb]] [.sc (.ints .i64 [0,0,0])] (List.range 3) 3))):=by rw [y22,y21]
 have zr:∀i,(([0,0,0]:List Int)).getD i 0=0:=fun i=>by match i with|0=>rfl|1=>rfl|2=>rfl|i+3=>rfl
 refine fEx Tryz.func57 ?_;repeat' ((conv=>whnf);first|(exact d0m 3 (by decide) [sEu,sEu,sEu] [sHb,sNw,sSb] ([0,0,0]:List Int) zr [0,1,2,3,4] [] _ ⟨rfl,⟨rfl,rfl,rfl,trivial⟩,⟨rfl,rfl,trivial⟩⟩)|(refine a0n (fun t:Nat=>(⟨[(7,.map 3 0),(40,.sl 2 0 0 2),(41,.int .i64 2),(42,.int .i64 t)],[(2,trB true 2 [sHb,sSb] [sNw,sNw] [-p,-s] [sEu,sEu]),(3,some (HB.one false (Blk.obj (ObjS.map true false 3 [.strs [sEu,sEu,sEu],.strs [sHb,sNw,sSb]] [.sc (.ints .i64 ((fun t:Nat=>match t with|0=> [p,n,s]|1=> [0,(n-(-p)),s]|2=> [0,0,0]|_=> [0,0,0]) t))] (List.range 3) 3))))],4⟩:VS)) (fun t=>t<=2) (fun t=>2-t) 0 [0,1,2,3] [] wHx (by decide) ?_;rintro t ht;obtain rfl|rfl|rfl:t=0\/t=1\/t=2:=by omega)|(exact ⟨1,[0,1,2,3],[],(by decide),(by decide),⟨rfl,⟨rfl,rfl,rfl,rfl,trivial⟩,⟨rfl,r1,trivial⟩⟩⟩)|(exact ⟨2,[0,1,2,3],[],(by decide),(by decide),⟨rfl,⟨rfl,rfl,rfl,rfl,trivial⟩,⟨rfl,r2,trivial⟩⟩⟩)|refine a0c 5 ?_|refine cOx (l:= [0,1]) k0 ?_|refine cPx n1 ?_|refine cPx n2 ?_|refine cPx n3 ?_|refine cPx p1 ?_|refine cPx p2 ?_|refine cPx p3 ?_|refine cPx w10 ?_|refine cPx w11 ?_|refine cPx c1 ?_|refine cPx w22 ?_|refine cPx w21 ?_|refine cPx c2 ?_|refine a0a ?_|(apply bRx<;>intro h<;>try (exfalso;(try dsimp only at h);omega)))
set_option maxHeartbeats 1000000 in
theorem d1e (p n s:Int) (hb:Rb true p n s) (h0:p+n+s=0) (g0:0<n) (g1:p<0) (g2:s<0) (g3:p<=s):FC Tryz.prog 3 19 [.sl 1 0 0 3,.sl 2 0 0 2] [(1,g0V true p n s),(2,trB true 2 [sHb,sSb] [sNw,sNw] [-p,-s] [sEu,sEu])] (a0d (.bool true) [] 3):=by
 have hz:Nz true true true p n s:=⟨by simp;omega,by simp;omega,by simp;omega⟩;have k0:=a0O true true true p n s hb hz h0 rfl;have k1:=d1d p n s hb h0 g0 g1 g2 g3;refine fEx Tryz.func19 ?_;repeat' ((conv=>whnf);first|refine a0c 5 ?_|refine cOx (l:= [0,1]) k0 ?_|refine cOx (l:= [0,1,2]) k1 ?_|(apply bRx<;>intro h<;>first|exact aX|(have h:(-p)<1:=h;exact aX)|(have h:(-s)<1:=h;exact aX)|skip)|refine a0a ?_|(apply bRx<;>intro h<;>try (exfalso;(try dsimp only at h);omega)))
 all_goals (conv=>whnf)
 all_goals first
  |exact rOz [0,1,2]
  |trace_state
set_option maxHeartbeats 4000000 in
theorem d1f (p n s:Int) (hb:Rb true p n s) (h0:p+n+s=0) (g0:0<n) (g1:p<0) (g2:s<0) (g3:s<p):FC Tryz.prog 3 57 [.sl 1 0 0 3,.sl 2 0 0 2] [(1,g0V true p n s),(2,trB true 2 [sSb,sHb] [sNw,sNw] [-s,-p] [sEu,sEu])] (a0d (.tup [.nsl,.int .i64 0]) [] 3):=by
 have hp:=hb.p;have hn:=hb.n;have hs:=hb.s;have k0:=c0W true true true p n s hb rfl;have n1:=a0E sHb (.inl rfl);have n2:=a0E sNw (.inr (.inl rfl));have n3:=a0E sSb (.inr (.inr rfl));have p1:=a0r sHb p;have p2:=a0r sNw n;have p3:=a0r sSb s;have y12:IntKind.i64.wrap (s+(-s))=0:=(a0e (by omega) (by omega)).trans (by omega);have w12:=b0L (IntKind.i64.wrap (s+(-s))) (by rw [y12];omega);have y11:IntKind.i64.wrap (n-(-s))=(n-(-s)):=(a0e (by omega) (by omega)).trans (by omega);have w11:=b0L (IntKind.i64.wrap (n-(-s))) (by rw [y11];omega);have c1:=a0F (-s) (by omega);have r1:some (HB.one false (Blk.obj (ObjS.map true false 3 [.strs [sEu,sEu,sEu],.strs [sHb,sNw,sSb]] [.sc (.ints .i64 [p,IntKind.i64.wrap (n-(-s)),IntKind.i64.wrap (s+(-s))])] (List.range 3) 3)))=some (HB.one false (Blk.obj (ObjS.map true false 3 [.strs [sEu,sEu,sEu],.strs [sHb,sNw,sSb]] [.sc (.ints .i64 [p,(n-(-s)),0])] (List.range 3) 3))):=by rw [y12,y11]
 have y20:IntKind.i64.wrap (p+(-p))=0:=(a0e (by omega) (by omega)).trans (by omega);have w20:=b0L (IntKind.i64.wrap (p+(-p))) (by rw [y20];omega);have y21:IntKind.i64.wrap ((n-(-s))-(-p))=0:=(a0e (by omega) (by omega)).trans (by omega);have w21:=b0L (IntKind.i64.wrap ((n-(-s))-(-p))) (by rw [y21];omega);have c2:=a0F (-p) (by omega);have r2:some (HB.one false (Blk.obj (ObjS.map true false 3 [.strs [sEu,sEu,sEu],.strs [sHb,sNw,sSb]] [.sc (.ints .i64 [IntKind.i64.wrap (p+(-p)),IntKind.i64.wrap ((n-(-s))-(-p)),0])] (List.range 3) 3)))=some (HB.one false (Blk.obj (ObjS.map true false 3 [.strs [sEu,sEu,sEu],.strs [sHb,sNw,sSb]] [.sc (.ints .i64 [0,0,0])] (List.range 3) 3))):=by rw [y20,y21]
 have zr:∀i,(([0,0,0]:List Int)).getD i 0=0:=fun i=>by match i with|0=>rfl|1=>rfl|2=>rfl|i+3=>rfl
 refine fEx Tryz.func57 ?_;repeat' ((conv=>whnf);first|(exact d0m 3 (by decide) [sEu,sEu,sEu] [sHb,sNw,sSb] ([0,0,0]:List Int) zr [0,1,2,3,4] [] _ ⟨rfl,⟨rfl,rfl,rfl,trivial⟩,⟨rfl,rfl,trivial⟩⟩)|(refine a0n (fun t:Nat=>(⟨[(7,.map 3 0),(40,.sl 2 0 0 2),(41,.int .i64 2),(42,.int .i64 t)],[(2,trB true 2 [sSb,sHb] [sNw,sNw] [-s,-p] [sEu,sEu]),(3,some (HB.one false (Blk.obj (ObjS.map true false 3 [.strs [sEu,sEu,sEu],.strs [sHb,sNw,sSb]] [.sc (.ints .i64 ((fun t:Nat=>match t with|0=> [p,n,s]|1=> [p,(n-(-s)),0]|2=> [0,0,0]|_=> [0,0,0]) t))] (List.range 3) 3))))],4⟩:VS)) (fun t=>t<=2) (fun t=>2-t) 0 [0,1,2,3] [] wHx (by decide) ?_;rintro t ht;obtain rfl|rfl|rfl:t=0\/t=1\/t=2:=by omega)|(exact ⟨1,[0,1,2,3],[],(by decide),(by decide),⟨rfl,⟨rfl,rfl,rfl,rfl,trivial⟩,⟨rfl,r1,trivial⟩⟩⟩)|(exact ⟨2,[0,1,2,3],[],(by decide),(by decide),⟨rfl,⟨rfl,rfl,rfl,rfl,trivial⟩,⟨rfl,r2,trivial⟩⟩⟩)|refine a0c 5 ?_|refine cOx (l:= [0,1]) k0 ?_|refine cPx n1 ?_|refine cPx n2 ?_|refine cPx n3 ?_|refine cPx p1 ?_|refine cPx p2 ?_|refine cPx p3 ?_|refine cPx w12 ?_|refine cPx w11 ?_|refine cPx c1 ?_|refine cPx w20 ?_|refine cPx w21 ?_|refine cPx c2 ?_|refine a0a ?_|(apply bRx<;>intro h<;>try (exfalso;(try dsimp only at h);omega)))
set_option maxHeartbeats 1000000 in
theorem d1g (p n s:Int) (hb:Rb true p n s) (h0:p+n+s=0) (g0:0<n) (g1:p<0) (g2:s<0) (g3:s<p):FC Tryz.prog 3 19 [.sl 1 0 0 3,.sl 2 0 0 2] [(1,g0V true p n s),(2,trB true 2 [sSb,sHb] [sNw,sNw] [-s,-p] [sEu,sEu])] (a0d (.bool true) [] 3):=by
 have hz:Nz true true true p n s:=⟨by simp;omega,by simp;omega,by simp;omega⟩;have k0:=a0O true true true p n s hb hz h0 rfl;have k1:=d1f p n s hb h0 g0 g1 g2 g3;refine fEx Tryz.func19 ?_;repeat' ((conv=>whnf);first|refine a0c 5 ?_|refine cOx (l:= [0,1]) k0 ?_|refine cOx (l:= [0,1,2]) k1 ?_|(apply bRx<;>intro h<;>first|exact aX|(have h:(-s)<1:=h;exact aX)|(have h:(-p)<1:=h;exact aX)|skip)|refine a0a ?_|(apply bRx<;>intro h<;>try (exfalso;(try dsimp only at h);omega)))
 all_goals (conv=>whnf)
 all_goals first
  |exact rOz [0,1,2]
  |trace_state
set_option maxHeartbeats 4000000 in
theorem d1h (p n s:Int) (hb:Rb true p n s) (h0:p+n+s=0) (g0:s=0) (g1:p<0):FC Tryz.prog 3 57 [.sl 1 0 0 2,.sl 2 0 0 1] [(1,m0w true sHb sNw p n),(2,trB true 1 [sHb] [sNw] [n] [sEu])] (a0d (.tup [.nsl,.int .i64 0]) [] 3):=by
 have hp:=hb.p;have hn:=hb.n;have hs:=hb.s;have k0:=c0W true true false p n s hb rfl;have n1:=a0E sHb (.inl rfl);have n2:=a0E sNw (.inr (.inl rfl));have n3:=a0E sSb (.inr (.inr rfl));have p1:=a0r sHb p;have p2:=a0r sNw n;have p3:=a0r sSb s;have y10:IntKind.i64.wrap (p+(n))=0:=(a0e (by omega) (by omega)).trans (by omega);have w10:=b0L (IntKind.i64.wrap (p+(n))) (by rw [y10];omega);have y11:IntKind.i64.wrap (n-(n))=0:=(a0e (by omega) (by omega)).trans (by omega);have w11:=b0L (IntKind.i64.wrap (n-(n))) (by rw [y11];omega);have c1:=a0F (n) (by omega);have r1:some (HB.one false (Blk.obj (ObjS.map true false 2 [.strs [sEu,sEu],.strs [sHb,sNw]] [.sc (.ints .i64 [IntKind.i64.wrap (p+(n)),IntKind.i64.wrap (n-(n))])] (List.range 2) 2)))=some (HB.one false (Blk.obj (ObjS.map true false 2 [.strs [sEu,sEu],.strs [sHb,sNw]] [.sc (.ints .i64 [0,0])] (List.range 2) 2))):=by rw [y10,y11]
 have zr:∀i,(([0,0]:List Int)).getD i 0=0:=fun i=>by match i with|0=>rfl|1=>rfl|2=>rfl|i+3=>rfl
 refine fEx Tryz.func57 ?_;repeat' ((conv=>whnf);first|(exact d0m 2 (by decide) [sEu,sEu] [sHb,sNw] ([0,0]:List Int) zr [0,1,2,3,4] [] _ ⟨rfl,⟨rfl,rfl,rfl,trivial⟩,⟨rfl,rfl,trivial⟩⟩)|(refine a0n (fun t:Nat=>(⟨[(7,.map 3 0),(40,.sl 2 0 0 1),(41,.int .i64 1),(42,.int .i64 t)],[(2,trB true 1 [sHb] [sNw] [n] [sEu]),(3,some (HB.one false (Blk.obj (ObjS.map true false 2 [.strs [sEu,sEu],.strs [sHb,sNw]] [.sc (.ints .i64 ((fun t:Nat=>match t with|0=> [p,n]|1=> [0,0]|_=> [0,0]) t))] (List.range 2) 2))))],4⟩:VS)) (fun t=>t<=1) (fun t=>1-t) 0 [0,1,2,3] [] wHx (by decide) ?_;rintro t ht;obtain rfl|rfl:t=0\/t=1:=by omega)|(exact ⟨1,[0,1,2,3],[],(by decide),(by decide),⟨rfl,⟨rfl,rfl,rfl,rfl,trivial⟩,⟨rfl,r1,trivial⟩⟩⟩)|refine a0c 5 ?_|refine cOx (l:= [0,1]) k0 ?_|refine cPx n1 ?_|refine cPx n2 ?_|refine cPx n3 ?_|refine cPx p1 ?_|refine cPx p2 ?_|refine cPx p3 ?_|refine cPx w10 ?_|refine cPx w11 ?_|refine cPx c1 ?_|refine a0a ?_|(apply bRx<;>intro h<;>try (exfalso;(try dsimp only at h);omega)))
set_option maxHeartbeats 1000000 in
theorem d1i (p n s:Int) (hb:Rb true p n s) (h0:p+n+s=0) (g0:s=0) (g1:p<0):FC Tryz.prog 3 19 [.sl 1 0 0 2,.sl 2 0 0 1] [(1,m0w true sHb sNw p n),(2,trB true 1 [sHb] [sNw] [n] [sEu])] (a0d (.bool true) [] 3):=by
 have hz:Nz true true false p n s:=⟨by simp;omega,by simp;omega,by simp;omega⟩;have k0:=a0O true true false p n s hb hz h0 rfl;have k1:=d1h p n s hb h0 g0 g1;refine fEx Tryz.func19 ?_;repeat' ((conv=>whnf);first|refine a0c 5 ?_|refine cOx (l:= [0,1]) k0 ?_|refine cOx (l:= [0,1,2]) k1 ?_|(apply bRx<;>intro h<;>first|exact aX|(have h:(n)<1:=h;exact aX)|skip)|refine a0a ?_|(apply bRx<;>intro h<;>try (exfalso;(try dsimp only at h);omega)))
 all_goals (conv=>whnf)
 all_goals first
  |exact rOz [0,1,2]
  |trace_state
set_option maxHeartbeats 4000000 in
theorem d1j (p n s:Int) (hb:Rb true p n s) (h0:p+n+s=0) (g0:n=0) (g1:p<0):FC Tryz.prog 3 57 [.sl 1 0 0 2,.sl 2 0 0 1] [(1,m0w true sHb sSb p s),(2,trB true 1 [sHb] [sSb] [s] [sEu])] (a0d (.tup [.nsl,.int .i64 0]) [] 3):=by
 have hp:=hb.p;have hn:=hb.n;have hs:=hb.s;have k0:=c0W true false true p n s hb rfl;have n1:=a0E sHb (.inl rfl);have n2:=a0E sNw (.inr (.inl rfl));have n3:=a0E sSb (.inr (.inr rfl));have p1:=a0r sHb p;have p2:=a0r sNw n;have p3:=a0r sSb s;have y10:IntKind.i64.wrap (p+(s))=0:=(a0e (by omega) (by omega)).trans (by omega);have w10:=b0L (IntKind.i64.wrap (p+(s))) (by rw [y10];omega);have y12:IntKind.i64.wrap (s-(s))=0:=(a0e (by omega) (by omega)).trans (by omega);have w12:=b0L (IntKind.i64.wrap (s-(s))) (by rw [y12];omega);have c1:=a0F (s) (by omega);have r1:some (HB.one false (Blk.obj (ObjS.map true false 2 [.strs [sEu,sEu],.strs [sHb,sSb]] [.sc (.ints .i64 [IntKind.i64.wrap (p+(s)),IntKind.i64.wrap (s-(s))])] (List.range 2) 2)))=some (HB.one false (Blk.obj (ObjS.map true false 2 [.strs [sEu,sEu],.strs [sHb,sSb]] [.sc (.ints .i64 [0,0])] (List.range 2) 2))):=by rw [y10,y12]
 have zr:∀i,(([0,0]:List Int)).getD i 0=0:=fun i=>by match i with|0=>rfl|1=>rfl|2=>rfl|i+3=>rfl
 refine fEx Tryz.func57 ?_;repeat' ((conv=>whnf);first|(exact d0m 2 (by decide) [sEu,sEu] [sHb,sSb] ([0,0]:List Int) zr [0,1,2,3,4] [] _ ⟨rfl,⟨rfl,rfl,rfl,trivial⟩,⟨rfl,rfl,trivial⟩⟩)|(refine a0n (fun t:Nat=>(⟨[(7,.map 3 0),(40,.sl 2 0 0 1),(41,.int .i64 1),(42,.int .i64 t)],[(2,trB true 1 [sHb] [sSb] [s] [sEu]),(3,some (HB.one false (Blk.obj (ObjS.map true false 2 [.strs [sEu,sEu],.strs [sHb,sSb]] [.sc (.ints .i64 ((fun t:Nat=>match t with|0=> [p,s]|1=> [0,0]|_=> [0,0]) t))] (List.range 2) 2))))],4⟩:VS)) (fun t=>t<=1) (fun t=>1-t) 0 [0,1,2,3] [] wHx (by decide) ?_;rintro t ht;obtain rfl|rfl:t=0\/t=1:=by omega)|(exact ⟨1,[0,1,2,3],[],(by decide),(by decide),⟨rfl,⟨rfl,rfl,rfl,rfl,trivial⟩,⟨rfl,r1,trivial⟩⟩⟩)|refine a0c 5 ?_|refine cOx (l:= [0,1]) k0 ?_|refine cPx n1 ?_|refine cPx n2 ?_|refine cPx n3 ?_|refine cPx p1 ?_|refine cPx p2 ?_|refine cPx p3 ?_|refine cPx w10 ?_|refine cPx w12 ?_|refine cPx c1 ?_|refine a0a ?_|(apply bRx<;>intro h<;>try (exfalso;(try dsimp only at h);omega)))
set_option maxHeartbeats 1000000 in
theorem d1k (p n s:Int) (hb:Rb true p n s) (h0:p+n+s=0) (g0:n=0) (g1:p<0):FC Tryz.prog 3 19 [.sl 1 0 0 2,.sl 2 0 0 1] [(1,m0w true sHb sSb p s),(2,trB true 1 [sHb] [sSb] [s] [sEu])] (a0d (.bool true) [] 3):=by
 have hz:Nz true false true p n s:=⟨by simp;omega,by simp;omega,by simp;omega⟩;have k0:=a0O true false true p n s hb hz h0 rfl;have k1:=d1j p n s hb h0 g0 g1;refine fEx Tryz.func19 ?_;repeat' ((conv=>whnf);first|refine a0c 5 ?_|refine cOx (l:= [0,1]) k0 ?_|refine cOx (l:= [0,1,2]) k1 ?_|(apply bRx<;>intro h<;>first|exact aX|(have h:(s)<1:=h;exact aX)|skip)|refine a0a ?_|(apply bRx<;>intro h<;>try (exfalso;(try dsimp only at h);omega)))
 all_goals (conv=>whnf)
 all_goals first
  |exact rOz [0,1,2]
  |trace_state
set_option maxHeartbeats 4000000 in
theorem d1l (p n s:Int) (hb:Rb true p n s) (h0:p+n+s=0) (g0:n=0) (g1:0<p):FC Tryz.prog 3 57 [.sl 1 0 0 2,.sl 2 0 0 1] [(1,m0w true sHb sSb p s),(2,trB true 1 [sSb] [sHb] [p] [sEu])] (a0d (.tup [.nsl,.int .i64 0]) [] 3):=by
 have hp:=hb.p;have hn:=hb.n;have hs:=hb.s;have k0:=c0W true false true p n s hb rfl;have n1:=a0E sHb (.inl rfl);have n2:=a0E sNw (.inr (.inl rfl));have n3:=a0E sSb (.inr (.inr rfl));have p1:=a0r sHb p;have p2:=a0r sNw n;have p3:=a0r sSb s;have y12:IntKind.i64.wrap (s+(p))=0:=(a0e (by omega) (by omega)).trans (by omega);have w12:=b0L (IntKind.i64.wrap (s+(p))) (by rw [y12];omega);have y10:IntKind.i64.wrap (p-(p))=0:=(a0e (by omega) (by omega)).trans (by omega);have w10:=b0L (IntKind.i64.wrap (p-(p))) (by rw [y10];omega);have c1:=a0F (p) (by omega);have r1:some (HB.one false (Blk.obj (ObjS.map true false 2 [.strs [sEu,sEu],.strs [sHb,sSb]] [.sc (.ints .i64 [IntKind.i64.wrap (p-(p)),IntKind.i64.wrap (s+(p))])] (List.range 2) 2)))=some (HB.one false (Blk.obj (ObjS.map true false 2 [.strs [sEu,sEu],.strs [sHb,sSb]] [.sc (.ints .i64 [0,0])] (List.range 2) 2))):=by rw [y12,y10]
 have zr:∀i,(([0,0]:List Int)).getD i 0=0:=fun i=>by match i with|0=>rfl|1=>rfl|2=>rfl|i+3=>rfl
 refine fEx Tryz.func57 ?_;repeat' ((conv=>whnf);first|(exact d0m 2 (by decide) [sEu,sEu] [sHb,sSb] ([0,0]:List Int) zr [0,1,2,3,4] [] _ ⟨rfl,⟨rfl,rfl,rfl,trivial⟩,⟨rfl,rfl,trivial⟩⟩)|(refine a0n (fun t:Nat=>(⟨[(7,.map 3 0),(40,.sl 2 0 0 1),(41,.int .i64 1),(42,.int .i64 t)],[(2,trB true 1 [sSb] [sHb] [p] [sEu]),(3,some (HB.one false (Blk.obj (ObjS.map true false 2 [.strs [sEu,sEu],.strs [sHb,sSb]] [.sc (.ints .i64 ((fun t:Nat=>match t with|0=> [p,s]|1=> [0,0]|_=> [0,0]) t))] (List.range 2) 2))))],4⟩:VS)) (fun t=>t<=1) (fun t=>1-t) 0 [0,1,2,3] [] wHx (by decide) ?_;rintro t ht;obtain rfl|rfl:t=0\/t=1:=by omega)|(exact ⟨1,[0,1,2,3],[],(by decide),(by decide),⟨rfl,⟨rfl,rfl,rfl,rfl,trivial⟩,⟨rfl,r1,trivial⟩⟩⟩)|refine a0c 5 ?_|refine cOx (l:= [0,1]) k0 ?_|refine cPx n1 ?_|refine cPx n2 ?_|refine cPx n3 ?_|refine cPx p1 ?_|refine cPx p2 ?_|refine cPx p3 ?_|refine cPx w12 ?_|refine cPx w10 ?_|refine cPx c1 ?_|refine a0a ?_|(apply bRx<;>intro h<;>try (exfalso;(try dsimp only at h);omega)))
set_option maxHeartbeats 1000000 in
theorem d1m (p n s:Int) (hb:Rb true p n s) (h0:p+n+s=0) (g0:n=0) (g1:0<p):FC Tryz.prog 3 19 [.sl 1 0 0 2,.sl 2 0 0 1] [(1,m0w true sHb sSb p s),(2,trB true 1 [sSb] [sHb] [p] [sEu])] (a0d (.bool true) [] 3):=by
 have hz:Nz true false true p n s:=⟨by simp;omega,by simp;omega,by simp;omega⟩;have k0:=a0O true false true p n s hb hz h0 rfl;have k1:=d1l p n s hb h0 g0 g1;refine fEx Tryz.func19 ?_;repeat' ((conv=>whnf);first|refine a0c 5 ?_|refine cOx (l:= [0,1]) k0 ?_|refine cOx (l:= [0,1,2]) k1 ?_|(apply bRx<;>intro h<;>first|exact aX|(have h:(p)<1:=h;exact aX)|skip)|refine a0a ?_|(apply bRx<;>intro h<;>try (exfalso;(try dsimp only at h);omega)))
 all_goals (conv=>whnf)
 all_goals first
  |exact rOz [0,1,2]
  |trace_state
set_option maxHeartbeats 4000000 in
theorem d1n (p n s:Int) (hb:Rb true p n s) (h0:p+n+s=0) (g0:p=0) (g1:0<n):FC Tryz.prog 3 57 [.sl 1 0 0 2,.sl 2 0 0 1] [(1,m0w true sNw sSb n s),(2,trB true 1 [sSb] [sNw] [n] [sEu])] (a0d (.tup [.nsl,.int .i64 0]) [] 3):=by
 have hp:=hb.p;have hn:=hb.n;have hs:=hb.s;have k0:=c0W false true true p n s hb rfl;have n1:=a0E sHb (.inl rfl);have n2:=a0E sNw (.inr (.inl rfl));have n3:=a0E sSb (.inr (.inr rfl));have p1:=a0r sHb p;have p2:=a0r sNw n;have p3:=a0r sSb s;have y12:IntKind.i64.wrap (s+(n))=0:=(a0e (by omega) (by omega)).trans (by omega);have w12:=b0L (IntKind.i64.wrap (s+(n))) (by rw [y12];omega);have y11:IntKind.i64.wrap (n-(n))=0:=(a0e (by omega) (by omega)).trans (by omega);have w11:=b0L (IntKind.i64.wrap (n-(n))) (by rw [y11];omega);have c1:=a0F (n) (by omega);have r1:some (HB.one false (Blk.obj (ObjS.map true false 2 [.strs [sEu,sEu],.strs [sNw,sSb]] [.sc (.ints .i64 [IntKind.i64.wrap (n-(n)),IntKind.i64.wrap (s+(n))])] (List.range 2) 2)))=some (HB.one false (Blk.obj (ObjS.map true false 2 [.strs [sEu,sEu],.strs [sNw,sSb]] [.sc (.ints .i64 [0,0])] (List.range 2) 2))):=by rw [y12,y11]
 have zr:∀i,(([0,0]:List Int)).getD i 0=0:=fun i=>by match i with|0=>rfl|1=>rfl|2=>rfl|i+3=>rfl
 refine fEx Tryz.func57 ?_;repeat' ((conv=>whnf);first|(exact d0m 2 (by decide) [sEu,sEu] [sNw,sSb] ([0,0]:List Int) zr [0,1,2,3,4] [] _ ⟨rfl,⟨rfl,rfl,rfl,trivial⟩,⟨rfl,rfl,trivial⟩⟩)|(refine a0n (fun t:Nat=>(⟨[(7,.map 3 0),(40,.sl 2 0 0 1),(41,.int .i64 1),(42,.int .i64 t)],[(2,trB true 1 [sSb] [sNw] [n] [sEu]),(3,some (HB.one false (Blk.obj (ObjS.map true false 2 [.strs [sEu,sEu],.strs [sNw,sSb]] [.sc (.ints .i64 ((fun t:Nat=>match t with|0=> [n,s]|1=> [0,0]|_=> [0,0]) t))] (List.range 2) 2))))],4⟩:VS)) (fun t=>t<=1) (fun t=>1-t) 0 [0,1,2,3] [] wHx (by decide) ?_;rintro t ht;obtain rfl|rfl:t=0\/t=1:=by omega)|(exact ⟨1,[0,1,2,3],[],(by decide),(by decide),⟨rfl,⟨rfl,rfl,rfl,rfl,trivial⟩,⟨rfl,r1,trivial⟩⟩⟩)|refine a0c 5 ?_|refine cOx (l:= [0,1]) k0 ?_|refine cPx n1 ?_|refine cPx n2 ?_|refine cPx n3 ?_|refine cPx p1 ?_|refine cPx p2 ?_|refine cPx p3 ?_|refine cPx w12 ?_|refine cPx w11 ?_|refine cPx c1 ?_|refine a0a ?_|(apply bRx<;>intro h<;>try (exfalso;(try dsimp only at h);omega)))
set_option maxHeartbeats 1000000 in
theorem d1o (p n s:Int) (hb:Rb true p n s) (h0:p+n+s=0) (g0:p=0) (g1:0<n):FC Tryz.prog 3 19 [.sl 1 0 0 2,.sl 2 0 0 1] [(1,m0w true sNw sSb n s),(2,trB true 1 [sSb] [sNw] [n] [sEu])] (a0d (.bool true) [] 3):=by
 have hz:Nz false true true p n s:=⟨by simp;omega,by simp;omega,by simp;omega⟩;have k0:=a0O false true true p n s hb hz h0 rfl;have k1:=d1n p n s hb h0 g0 g1;refine fEx Tryz.func19 ?_;repeat' ((conv=>whnf);first|refine a0c 5 ?_|refine cOx (l:= [0,1]) k0 ?_|refine cOx (l:= [0,1,2]) k1 ?_|(apply bRx<;>intro h<;>first|exact aX|(have h:(n)<1:=h;exact aX)|skip)|refine a0a ?_|(apply bRx<;>intro h<;>try (exfalso;(try dsimp only at h);omega)))
 all_goals (conv=>whnf)
 all_goals first
  |exact rOz [0,1,2]
  |trace_state
end
section
attribute [local irreducible] a0u a0v a0j b0b
theorem b1J (f t:ByteArray) (v:Int) (h:1<=v/\v<=1000000000000):FC Tryz.prog 2 23 [.sl 1 0 0 1,.str sEu] [(1,trB true 1 [f] [t] [v] [sEu])] (a0d (.int .i64 v) [] 2):=by
 have c:=a0F v (by omega);have e:min (IntKind.i64.wrap (0+v)) 4503599627370496=v:=by rw [a0e (by omega) (by omega)];omega
 have key:FC Tryz.prog 2 23 [.sl 1 0 0 1,.str sEu] [(1,trB true 1 [f] [t] [v] [sEu])] (a0d (.int .i64 (min (IntKind.i64.wrap (0+v)) 4503599627370496)) [] 2):=by
  refine fEx Tryz.func23 ?_;repeat' ((conv=>whnf);first|refine a0c 5 ?_|refine cPx c ?_|(apply bRx<;>intro h'<;>first|exact aX|(have h':v<=0:=h';exfalso;omega)|skip)|refine a0a ?_|(apply bRx<;>intro h<;>try (exfalso;(try dsimp only at h);omega)))
  all_goals (conv=>whnf)
  all_goals first
   |exact rOz [0,1]
   |trace_state
 rw [e] at key;exact key
theorem z0g (f1 f2 t1 t2:ByteArray) (v1 v2:Int) (h1:1<=v1/\v1<=1000000000000) (h2:1<=v2/\v2<=1000000000000):FC Tryz.prog 2 23 [.sl 1 0 0 2,.str sEu] [(1,trB true 2 [f1,f2] [t1,t2] [v1,v2] [sEu,sEu])] (a0d (.int .i64 (v1+v2)) [] 2):=by
 have c1:=a0F v1 (by omega);have c2:=a0F v2 (by omega);have e1:min (IntKind.i64.wrap (0+v1)) 4503599627370496=v1:=by rw [a0e (by omega) (by omega)];omega
 have e2:min (IntKind.i64.wrap (v1+v2)) 4503599627370496=v1+v2:=by rw [a0e (by omega) (by omega)];omega
 have key:FC Tryz.prog 2 23 [.sl 1 0 0 2,.str sEu] [(1,trB true 2 [f1,f2] [t1,t2] [v1,v2] [sEu,sEu])] (a0d (.int .i64 (min (IntKind.i64.wrap (min (IntKind.i64.wrap (0+v1)) 4503599627370496+v2)) 4503599627370496)) [] 2):=by
  refine fEx Tryz.func23 ?_;repeat' ((conv=>whnf);first|refine a0c 5 ?_|refine cPx c1 ?_|refine cPx c2 ?_|(apply bRx<;>intro h'<;>first|exact aX|(have h':v1<=0:=h';exfalso;omega)|(have h':v2<=0:=h';exfalso;omega)|skip)|refine a0a ?_|(apply bRx<;>intro h<;>try (exfalso;(try dsimp only at h);omega)))
  all_goals (conv=>whnf)
  all_goals first
   |exact rOz [0,1]
   |trace_state
 rw [e1,e2] at key;exact key
theorem b1d (o n:Int) (ho: -1000000000000<=o/\o<=1000000000000) (hn: -1000000000000<=n/\n<=1000000000000):a0y Tryz.prog 22 [.str sHb,.int .i64 o,.int .i64 n] (.int .i64 (-o))/\a0y Tryz.prog 22 [.str sSb,.int .i64 o,.int .i64 n] (.int .i64 (o-n))/\a0y Tryz.prog 22 [.str sNw,.int .i64 o,.int .i64 n] (.int .i64 n):=by
 have e1:IntKind.i64.wrap (0-o)= -o:=(a0e (by omega) (by omega)).trans (by omega);have e2:IntKind.i64.wrap (o-n)=o-n:=a0e (by omega) (by omega);refine ⟨?_,?_,?_⟩;all_goals refine fEx Tryz.func22 ?_
 all_goals repeat' ((conv=>whnf);first|refine a0a ?_|(apply bRx<;>intro h<;>try (exfalso;(try dsimp only at h);omega)))
 all_goals (conv=>whnf)
 all_goals first
  |exact a0b rfl
  |exact a0b (congrArg (SV.int .i64) e1)
  |exact a0b (congrArg (SV.int .i64) e2)
  |trace_state
theorem u0U:a0y Tryz.prog 20 [.nsl,.nsl] (.bool true):=by
 refine fEx Tryz.func20 ?_;repeat' ((conv=>whnf);first|refine a0c 5 ?_|refine a0a ?_|(apply bRx<;>intro h<;>try (exfalso;(try dsimp only at h);omega)))
 all_goals (conv=>whnf)
 all_goals exact a0b rfl
set_option maxHeartbeats 1000000 in
theorem y0B (b1 b2 b3:Bool) (p n s:Int) (h:two b1 b2 b3=true):FC Tryz.prog 3 20 [.sl 1 0 0 (kL b1 b2 b3),.sl 2 0 0 (kL b1 b2 b3)] [(1,poB true b1 b2 b3 p n s),(2,poB true b1 b2 b3 p n s)] (a0d (.bool true) [] 3):=by
 rcases m0v h with ⟨rfl,rfl,rfl⟩|⟨rfl,rfl,rfl⟩|⟨rfl,rfl,rfl⟩|⟨rfl,rfl,rfl⟩
 all_goals refine fEx Tryz.func20 ?_
 all_goals repeat' ((conv=>whnf);first|refine a0c 5 ?_|(apply bRx<;>intro h'<;>first|exact aX|(exfalso;simp [seq] at h';done)|skip)|refine a0a ?_|(apply bRx<;>intro h<;>try (exfalso;(try dsimp only at h);omega)))
 all_goals (conv=>whnf)
 all_goals first
  |exact rOz [0,1,2]
  |trace_state
theorem y0C (x:Int):a0y Tryz.prog 11 [.int .i64 x,.int .i64 0] (.agg [.int .i64 1,.str ⟨#[112]⟩,.str ⟨#[]⟩,.str sSb,.str sHb,.str ⟨#[109,49]⟩,.str ⟨#[52,48,48,48,48,48,48,48,48,48,48,48,48,48,48,50]⟩,.int .i64 x,.str sEu,.int .i64 0,.int .i64 5411,.bool true]):=by
 refine fEx Tryz.func11 ?_;repeat' ((conv=>whnf);first|refine a0a ?_|(apply bRx<;>intro h<;>try (exfalso;(try dsimp only at h);omega)))
 all_goals (conv=>whnf)
 all_goals first
  |exact a0b rfl
  |exact rOz [0]
  |trace_state
end
section
attribute [local irreducible] a0u a0v a0j b0b
def dgW (w U:Nat):ByteArray:=a0m (d0n w U)
theorem g0A (U w:Nat) (hU:U<1000000000000000000) (h1:1<=w) (hw:w<=100):a0y Tryz.prog 10 [.int .i64 U,.int .i64 w] (.str (dgW w U)):=by
 refine fEx Tryz.func10 ?_;repeat' ((conv=>whnf);first|refine a0a ?_|(apply bRx<;>intro h<;>try (exfalso;(try dsimp only at h);omega)))
 all_goals (conv=>whnf)
 have ei:IntKind.i64.wrap ((w:Int)-1)=(w:Int)-1-((0:Nat):Int):=by rw [a0e (by omega) (by omega)];omega
 refine a0n (fun m:Nat=>⟨[(0,.int .i64 ((U/10^m:Nat):Int)),(1,.int .i64 w),(5,.sl 1 0 0 w),(6,.int .i64 ((w:Int)-1-(m:Int)))],[(1,some (.one false (.cols w [.sc (.ints .u8 (n0f (List.replicate w 0) w 0 w U m))])))],2⟩) (fun m=>m<=w) (fun m=>w-m) 0 [0,1] []
  ⟨rfl,⟨congrArg (fun z=>some (SV.int .i64 z)) (by simp),rfl,rfl,congrArg (fun z=>some (SV.int .i64 z)) ei,trivial⟩,⟨by rw [l0Z (by simp)];rfl,trivial⟩⟩ (k0R _) ?_
 rintro m hm;by_cases hlt:m<w
 .have e1:((U/10^m:Nat):Int).tdiv 10=((U/10^(m+1):Nat):Int):=by
   rw [d1C (v0W _),b1z,<-b1Y];rfl
  have e2:((U/10^m:Nat):Int).tmod 10=((U/10^m%10:Nat):Int):=by
   rw [a1q (v0W _)];rfl
  have hb:U/10^m<=U:=e1L _ _;have e3:IntKind.i64.wrap ((U/10^(m+1):Nat):Int)=((U/10^(m+1):Nat):Int):=a0e (by have:=v0W (U/10^(m+1));omega) (by have:U/10^(m+1)<=U:=e1L _ _;omega);have e4:IntKind.i64.wrap ((U/10^m%10:Nat):Int)=((U/10^m%10:Nat):Int):=a0e (by omega) (by omega);have e5:IntKind.i64.wrap (48+((U/10^m%10:Nat):Int))=48+((U/10^m%10:Nat):Int):=a0e (by omega) (by omega);have e6:IntKind.u8.wrap (48+((U/10^m%10:Nat):Int))=((48+U/10^m%10:Nat):Int):=by rw [v0q (by omega) (by omega)];omega
  have hs:=a0o (l:=List.replicate w 0) (N:=w) (o:=0) (n:=w) (U:=U) (m:=m) (i:=((w:Int)-1-(m:Int)).toNat) hlt (by omega) (by omega) rfl;generalize hV:U/10^(m+1)=V at*;generalize hW:U/10^m=W at*;repeat' ((conv=>whnf);first|(rw [e2])|(rw [e4])|(rw [e5])|(rw [e6])|(rw [e1])|(rw [e3])|refine a0a ?_|(apply bRx<;>intro h<;>try (exfalso;(try dsimp only at h);omega)))
  all_goals (conv=>whnf)
  all_goals first
   |(exfalso;omega)
   |exact ⟨m+1,[0,1],[],by omega,by omega,⟨rfl,⟨by rw [hV];rfl,rfl,rfl,congrArg (fun z=>some (SV.int .i64 z)) (by rw [a0e (by omega) (by omega)];omega),trivial⟩,⟨congrArg (fun l=>some (HB.one false (.cols w [.sc (.ints .u8 l)]))) hs,trivial⟩⟩⟩
   |trace_state
 .have e:m=w:=by omega
  subst e;have hs:seg 0 m (n0f (List.replicate m 0) m 0 m U m)=d0n m U:=k0x (by omega);repeat' ((conv=>whnf);first|refine a0a ?_|(apply bRx<;>intro h<;>try (exfalso;(try dsimp only at h);omega)))
  all_goals (conv=>whnf)
  all_goals first
   |(exfalso;omega)
   |exact a0b (congrArg (fun l=>SV.str (a0m l)) hs)
   |trace_state
end
section
attribute [local irreducible] a0u a0v a0j b0b
abbrev flB (l:Nat) (q0:List Int) (ns:List Nat) (q2:List Int) (q3:List Bool):Option HB:=some (.one true (.cols l [.sc (.ints .u8 q0),.own 2 ns,.sc (.ints .u32 q2),.sc (.bools q3)]))
abbrev amF (l:Nat) (ns:List Nat) (A:Nat->List Int):Option HB:=some (.fam true (fun x=>x<l) (fun x=> .cols (ns.getD x 0) [.sc (.ints .i64 (A x))]))
structure Fs where
 l:Nat
 q0:List Int
 ns:List Nat
 q2:List Int
 q3:List Bool
 A:Nat->List Int
structure Wd where
 made:Bool
 z:Bool
 p:Int
 n:Int
 s:Int
 a:Nat
 ck:Nat
 fn:Nat
 F:List ByteArray
 m:Nat
 I:List ByteArray
 o:Bool
 c:Int
 D:Int
 C:Int
 h:Int
 us:List Bool
abbrev bkH (x:Wd):a0g:=bif x.made then [(18,bkC false 19 20),(19,stB false 3 ps3),(20,rmB false x.z x.p x.n x.s x.a x.ck)] else []
abbrev hpW (f:Fs) (x:Wd):a0g:=(0,some (GB glT))::(1,flB f.l f.q0 f.ns f.q2 f.q3)::(2,amF f.l f.ns f.A)::(3,y0e false 4)::(4,y0d false)::(5,yC false 3 6 7 8)::(6,stB false 3 pr3)::(7,bmB false x.made (bif x.made then 18 else 5))::(8,cdB false false)::(9,some (.one false (.cells [.map 10 0,.sl 13 0 0 x.fn,.map 11 0,.map 12 0])))::(10,ttB false x.c x.D x.C x.h)::(11,reB false x.m x.I)::(12,opB false x.o)::(13,fiB false x.fn x.F)::(14,arB false)::(15,ruB false 14)::(16,some (.one false (.cells [.sl 15 0 0 1,.sl 15 0 0 1,.sl 15 0 0 1])))::(17,some (.one false (.cols 256 [.sc (.bools x.us)])))::bkH x
abbrev eW (f:Fs) (i:Nat) (x:Wd):Env:= [(0,.sl 1 0 0 f.l),(2,.int .i64 0),(5,.ptr 5 0 0 0),(7,.ptr 9 0 0 0),(9,.ptr 16 0 0 0),(11,.int .i64 (-x.p)),(12,.int .i64 x.n),(13,.ptr 17 0 0 0),(14,.int .i64 i)]
abbrev V1 (f:Fs) (i:Nat) (x:Wd):VS:=⟨eW f i x,hpW f x,21⟩
abbrev bcB (fid:ByteArray) (k:Nat):Option HB:=some (.one false (.cells [.str fid,.str sSb,.int .i64 0,.sl 22 0 0 k]))
abbrev V2 (f:Fs) (i:Nat) (x:Wd) (fid:ByteArray) (k:Nat) (R:List Rc):VS:=⟨(15,.ptr 21 0 0 0)::(16,.int .i64 k)::eW f i x,(21,bcB fid k)::(22,rcB false k R)::hpW f x,23⟩
abbrev V3 (f:Fs) (i:Nat) (x:Wd) (fid:ByteArray) (k:Nat) (R:List Rc) (s:ByteArray) (n:Nat):VS:=⟨(15,.ptr 21 0 0 0)::(18,.str s)::(20,.int .i64 n)::eW f i x,(21,bcB fid k)::(22,rcB false k R)::hpW f x,23⟩
abbrev V4 (f:Fs) (i:Nat) (x:Wd) (fid:ByteArray) (k:Nat) (R:List Rc) (s:ByteArray) (n:Nat) (j:Nat):VS:=⟨(15,.ptr 21 0 0 0)::(18,.str s)::(20,.int .i64 n)::(21,.sl 23 0 0 k)::(24,.int .i64 j)::eW f i x,(23,rcB false k R)::(21,bcB fid k)::(22,rcB false k R)::hpW f x,24⟩
noncomputable abbrev L4:Code:=lpc Tryz.f5 3
def Wd.mv (x:Wd) (p n s:Int) (a ck:Nat):Wd:= { x with made:=true,z:=nz p n s,p:=p,n:=n,s:=s,a:=a,ck:=ck}
structure Wb (x:Wd) (b:Int):Prop where
 rb:Rb x.z x.p x.n x.s
 mm:x.made=false->x.z=false
 su:x.p+x.n+x.s=0
 n0:0<=x.n
 pb: -b<=x.p/\x.p<=b
 nb:x.n<=b
theorem y0D {p n s:Int} (hp: -1000000000000<=p/\p<=1000000000000) (hn: -1000000000000<=n/\n<=1000000000000) (hs: -1000000000000<=s/\s<=1000000000000):Rb (nz p n s) p n s:=
 ⟨fun h=>by unfold nz at h;exact Decidable.not_not.1 (of_decide_eq_false h),hp,hn,hs⟩
theorem q0h (ρ:Nat->Nat) (o:Bool):opB false o=some ((HB.one false (.obj (bif o then .map false false 1 [.strs [sSb]] [.svs [.nsl]] [0] 1 else .map false false 0 [.strs []] [.svs []] [] 0))).ren ρ):=by cases o<;>rfl
theorem b1e {a:Int} (h:1<=a):feV a<a:=by unfold feV;omega
def mvV (k a:Int):Int:=if k=1 then a-feV a else feV a-a
set_option maxHeartbeats 4000000 in
theorem d1p (f:Fs) (i:Nat) (x:Wd) (fid:ByteArray) (k:Nat) (R:List Rc) (s:ByteArray) (n j:Nat) (b:Int) (hj:j<k) (hk:k<=20) (hR:∀r∈R,d0V r) (hl:R.length=k) (hb:Wb x b) (hb2:b<=400000000000) (K:Exit->VS->Prop)
  (hK:∀v a ck,(∃(l:List Nat) (u:List Up),upK u v (fun v=>Weak 3 l v (V4 f i (x.mv (x.p-mvV (rcG R j).k (rcG R j).am) (x.n+feV (rcG R j).am) (x.s+mvV (rcG R j).k (rcG R j).am-feV (rcG R j).am) a ck) fid k R s n (j+1))))->K .normal v):
  b0k Tryz.prog T 3 L4 (V4 f i x fid k R s n j) K:=by
 obtain ⟨q,id,am,e,hq,hid,ha⟩:=r0x hR (i:=j) (by omega);obtain ⟨f0,f1⟩:=m0s ha;have f2:=b1e ha.1;obtain ⟨hrb,hmm,hsu,hn0,hpb,hnb⟩:=hb;obtain ⟨made,z,p,nn,ss,a,ck,fn,F,m,I,o,c,D,C,h,us⟩:=x;unfold Wd.mv at hK;dsimp only at*;have hs:=hrb.s;have eam:(R.map Rc.am).getD j 0=am:=congrArg Rc.am e;have ek:(R.map Rc.k).getD j 0=q:=congrArg Rc.k e;rw [eam,ek] at hK;rcases hq with rfl|rfl
 .have c1:=p0U id am hid ha;rw [<-e] at c1;have c2:=i0f i0Q ⟨#[]⟩ i0Q ⟨#[]⟩ i0Q ⟨#[]⟩ (feV am) (feV am) (feV am) (-am) (feV am) (-feV am) (am-feV am) (feV am) (by omega) (by omega) (by omega) (by omega) (by omega) (by omega);obtain ⟨a1,k1,c3⟩:=k0W 0 (by decide) made z p nn ss (am-feV am) a ck hmm hrb (by omega);rw [show mF 0=sHb from rfl,show mT 0=sSb from rfl,show mP 0 p (am-feV am)=p-(am-feV am) from rfl,show mN 0 nn (am-feV am)=nn from rfl,show mS 0 ss (am-feV am)=ss+(am-feV am) from rfl] at c3;obtain ⟨a2,k2,c4⟩:=k0W 2 (by decide) true (nz (p-(am-feV am)) nn (ss+(am-feV am))) (p-(am-feV am)) nn (ss+(am-feV am)) (feV am) a1 k1 (fun h=>by cases h) (y0D (by omega) (by omega) (by omega)) (by omega);rw [show mF 2=sSb from rfl,show mT 2=sNw from rfl,show mP 2 (p-(am-feV am)) (feV am)=p-(am-feV am) from rfl,show mN 2 nn (feV am)=nn+feV am from rfl,show mS 2 (ss+(am-feV am)) (feV am)=ss+(am-feV am)-feV am from rfl] at c4;rw [show mvV 1 am=am-feV am from rfl] at hK;have w1:IntKind.i64.wrap (-feV am+(am-feV am))=am-feV am-feV am:=by rw [a0e (by omega) (by omega)];omega
  have w2:IntKind.i64.wrap (am-feV am-feV am+feV am)=am-feV am:=by rw [a0e (by omega) (by omega)];omega
  have w3:max (am-feV am) (IntKind.i64.wrap (0-(am-feV am)))=am-feV am:=by rw [a0e (by omega) (by omega)];omega
  have w4:IntKind.i64.wrap (-p+(am-feV am))= -(p-(am-feV am)):=by rw [a0e (by omega) (by omega)];omega
  have w5:IntKind.i64.wrap (nn+feV am)=nn+feV am:=a0e (by omega) (by omega);clear hb2;generalize nz (p-(am-feV am)) nn (ss+(am-feV am))=zz at*;generalize nz (p-(am-feV am)) (nn+feV am) (ss+(am-feV am)-feV am)=z3 at*;cases made<;>cases z<;>cases zz<;>cases z3;all_goals first|(cases hmm rfl;done)|skip
  all_goals repeat' ((conv=>whnf);first|(rw [w1])|(rw [w2])|(rw [w3])|(rw [w4])|(rw [w5])|refine cOx (l:= [0,14,15]) c1 ?_|refine cOx (l:= [0]) c2 ?_|refine cPx c2 ?_|refine cOx (l:= [0,5,3,4,6,7,8,18,19,20]) c3 ?_|refine cOx (l:= [0,5,3,4,6,7,8,25,26,27]) c4 ?_|refine a0a ?_|(apply bRx<;>intro h<;>try (exfalso;(try dsimp only at h);omega)))
  all_goals (conv=>whnf)
  all_goals first
   |(exfalso;omega)
   |exact hK _ a2 k2 ⟨[0,1,2,3,4,5,6,7,8,9,10,11,12,13,14,15,16,17,28,29,30,21,22,23],[],⟨rfl,⟨rfl,rfl,rfl,rfl,congrArg (fun z=>some (SV.int .i64 z)) (a0G (by omega)),rfl,rfl,rfl,rfl,rfl,rfl,rfl,rfl,rfl,trivial⟩,by (repeat' (first|exact trivial|exact rfl|exact gwk rfl|exact q0h _ o|constructor))⟩⟩
   |trace_state
 .have c1:=p0V id am hid ha;rw [<-e] at c1;have c2:=i0f i0Q ⟨#[]⟩ i0Q ⟨#[]⟩ i0Q ⟨#[]⟩ (feV am) (feV am) (feV am) am (-feV am) (-feV am) (feV am-am) (feV am) (by omega) (by omega) (by omega) (by omega) (by omega) (by omega);obtain ⟨a1,k1,c3⟩:=k0W 1 (by decide) made z p nn ss (am-feV am) a ck hmm hrb (by omega);rw [show mF 1=sSb from rfl,show mT 1=sHb from rfl,show mP 1 p (am-feV am)=p+(am-feV am) from rfl,show mN 1 nn (am-feV am)=nn from rfl,show mS 1 ss (am-feV am)=ss-(am-feV am) from rfl] at c3;obtain ⟨a2,k2,c4⟩:=k0W 2 (by decide) true (nz (p+(am-feV am)) nn (ss-(am-feV am))) (p+(am-feV am)) nn (ss-(am-feV am)) (feV am) a1 k1 (fun h=>by cases h) (y0D (by omega) (by omega) (by omega)) (by omega);rw [show mF 2=sSb from rfl,show mT 2=sNw from rfl,show mP 2 (p+(am-feV am)) (feV am)=p+(am-feV am) from rfl,show mN 2 nn (feV am)=nn+feV am from rfl,show mS 2 (ss-(am-feV am)) (feV am)=ss-(am-feV am)-feV am from rfl] at c4;rw [show mvV 2 am=feV am-am from rfl,show p-(feV am-am)=p+(am-feV am) by omega,show ss+(feV am-am)-feV am=ss-(am-feV am)-feV am by omega] at hK;have w1:IntKind.i64.wrap (-feV am+(feV am-am))= -am:=by rw [a0e (by omega) (by omega)];omega
  have w2:IntKind.i64.wrap (-am+feV am)=feV am-am:=by rw [a0e (by omega) (by omega)];omega
  have w3:max (feV am-am) (IntKind.i64.wrap (0-(feV am-am)))=am-feV am:=by rw [a0e (by omega) (by omega)];omega
  have w4:IntKind.i64.wrap (-p+(feV am-am))= -(p+(am-feV am)):=by rw [a0e (by omega) (by omega)];omega
  have w5:IntKind.i64.wrap (nn+feV am)=nn+feV am:=a0e (by omega) (by omega);clear hb2;generalize nz (p+(am-feV am)) nn (ss-(am-feV am))=zz at*;generalize nz (p+(am-feV am)) (nn+feV am) (ss-(am-feV am)-feV am)=z3 at*;cases made<;>cases z<;>cases zz<;>cases z3;all_goals first|(cases hmm rfl;done)|skip
  all_goals repeat' ((conv=>whnf);first|(rw [w1])|(rw [w2])|(rw [w3])|(rw [w4])|(rw [w5])|refine cOx (l:= [0,14,15]) c1 ?_|refine cOx (l:= [0]) c2 ?_|refine cPx c2 ?_|refine cOx (l:= [0,5,3,4,6,7,8,18,19,20]) c3 ?_|refine cOx (l:= [0,5,3,4,6,7,8,25,26,27]) c4 ?_|refine a0a ?_|(apply bRx<;>intro h<;>try (exfalso;(try dsimp only at h);omega)))
  all_goals (conv=>whnf)
  all_goals first
   |(exfalso;omega)
   |exact hK _ a2 k2 ⟨[0,1,2,3,4,5,6,7,8,9,10,11,12,13,14,15,16,17,28,29,30,21,22,23],[],⟨rfl,⟨rfl,rfl,rfl,rfl,congrArg (fun z=>some (SV.int .i64 z)) (a0G (by omega)),rfl,rfl,rfl,rfl,rfl,rfl,rfl,rfl,rfl,trivial⟩,by (repeat' (first|exact trivial|exact rfl|exact gwk rfl|exact q0h _ o|constructor))⟩⟩
   |trace_state
end
section
attribute [local irreducible] a0u a0v a0j b0b
def u0V (N:Nat):ByteArray:=⟨#[102]⟩++dgW 3 N
def q0i (N k:Nat):ByteArray:=⟨#[114]⟩++dgW 3 N++⟨#[45]⟩++dgW 2 k
theorem n0y (w U:Nat):(dgW w U).size=w:=by unfold dgW;rw [a0X,a0D]
def Fs.N (f:Fs) (i:Nat):Nat:=(f.q0.getD i 0).toNat
def kdV (w:Int) (k:Nat):Int:=if (h0d .u32 w (k:Int)).tmod 2=1 then 2 else 1
theorem s0B (R:List Rc) (r:Rc): [BCol.sc (.ints .i64 (R.map Rc.k++ [r.k])),.sc (.strs (R.map Rc.id++ [r.id])),.sc (.strs (R.map Rc.au++ [r.au])),.sc (.strs (R.map Rc.ac++ [r.ac])),.sc (.strs (R.map Rc.is++ [r.is])),.sc (.strs (R.map Rc.me++ [r.me])),.sc (.strs (R.map Rc.ca++ [r.ca])),.sc (.ints .i64 (R.map Rc.am++ [r.am])),.sc (.strs (R.map Rc.cu++ [r.cu])),.sc (.ints .i64 (R.map Rc.da++ [r.da])),.sc (.ints .i64 (R.map Rc.ct++ [r.ct])),.sc (.bools (R.map Rc.fi++ [r.fi]))]=rcC (R++ [r]):=by
 unfold rcC;simp only [z0B,k0N,s0c]
def Fs.R (f:Fs) (i k:Nat):List Rc:=(List.range k).map fun j=>mkR (kdV (f.q2.getD i 0) j) (q0i (f.N i) j) ((f.A i).getD j 0)
noncomputable abbrev L2:Code:=lpc Tryz.f5 1
set_option maxHeartbeats 4000000 in
theorem b1f (f:Fs) (i:Nat) (x:Wd) (fid:ByteArray) (k:Nat) (R:List Rc) (hi:i<f.l) (hk:k<f.ns.getD i 0) (h20:f.ns.getD i 0<=20) (hl:f.ns.length=f.l) (hN:0<=f.q0.getD i 0/\f.q0.getD i 0<=255) (hR:R.length=k) (K:Exit->VS->Prop)
  (hK:∀v,(∃(l:List Nat) (u:List Up),upK u v (fun v=>Weak 3 l v (V2 f i x fid (k+1) (R++ [mkR (kdV (f.q2.getD i 0) k) (q0i (f.N i) k) ((f.A i).getD k 0)]))))->K .normal v):
  b0k Tryz.prog T 3 L2 (V2 f i x fid k R) K:=by
 have c1:=y0C ((f.A i).getD k 0);have d1:=g0A (f.N i) 3 (by unfold Fs.N;omega) (by decide) (by decide);have d2:=g0A k 2 (by omega) (by decide) (by decide);have eN:IntKind.i64.wrap (f.q0.getD i 0)=(f.N i:Int):=by rw [a0e (by omega) (by omega)];unfold Fs.N;omega
 rw [<-eN] at d1;obtain ⟨made,z,p,nn,ss,a,ck,fn,F,m,I,o,c,D,C,h,us⟩:=x;have hxk:(k:Int)<((f.ns.getD i 0:Nat):Int):=by omega
 have s1:=n0y 3 (f.N i);have s2:=n0y 2 k;have z1:(⟨#[114]⟩:ByteArray).size+(dgW 3 (f.N i)).size<=9223372036854775807:=by rw [s1];decide
 have z2:((⟨#[114]⟩:ByteArray)++dgW 3 (f.N i)).size+(⟨#[45]⟩:ByteArray).size<=9223372036854775807:=by rw [a1n,s1];decide
 have z3:((⟨#[114]⟩:ByteArray)++dgW 3 (f.N i)++⟨#[45]⟩).size+(dgW 2 k).size<=9223372036854775807:=by rw [a1n,a1n,s1,s2];decide
 clear s1 s2;generalize hd1:dgW 3 (f.N i)=D1 at*;generalize hd2:dgW 2 k=D2 at*;cases made<;>cases z;all_goals repeat' ((conv=>whnf);first|(refine ⟨⟨hi,v0W _,hxk⟩,?_⟩)|(refine ⟨z1,?_⟩)|(refine ⟨z2,?_⟩)|(refine ⟨z3,?_⟩)|refine cPx c1 ?_|refine cPx d1 ?_|refine cPx d2 ?_|refine a0a ?_|(apply bRx<;>intro h<;>try (exfalso;(try dsimp only at h);omega)))
 all_goals (conv=>whnf)
 all_goals first
  |exact absurd hxk h
  |(have hrow:=congrArg (fun l=>some (HB.one false (Blk.cols (k+1) l))) (s0B R (mkR 2 (⟨#[114]⟩++D1++⟨#[45]⟩++D2) ((f.A i).getD k 0)))
    have hkd:kdV (f.q2.getD i 0) k=2:=if_pos h;rw [hkd,show q0i (f.N i) k=⟨#[114]⟩++D1++⟨#[45]⟩++D2 by rw [<-hd1,<-hd2];rfl] at hK;exact hK _ ⟨[0,1,2,3,4,5,6,7,8,9,10,11,12,13,14,15,16,17,18,19,20,21,25],[],⟨rfl,⟨rfl,congrArg (fun z=>some (SV.int .i64 z)) (a0G (by omega)),rfl,rfl,rfl,rfl,rfl,rfl,rfl,rfl,rfl,trivial⟩,by (repeat' (first|exact trivial|exact rfl|exact gwk rfl|exact q0h _ o|exact hrow|constructor))⟩⟩)
  |(have hrow:=congrArg (fun l=>some (HB.one false (Blk.cols (k+1) l))) (s0B R (mkR 1 (⟨#[114]⟩++D1++⟨#[45]⟩++D2) ((f.A i).getD k 0)))
    have hkd:kdV (f.q2.getD i 0) k=1:=if_neg h;rw [hkd,show q0i (f.N i) k=⟨#[114]⟩++D1++⟨#[45]⟩++D2 by rw [<-hd1,<-hd2];rfl] at hK;exact hK _ ⟨[0,1,2,3,4,5,6,7,8,9,10,11,12,13,14,15,16,17,18,19,20,21,25],[],⟨rfl,⟨rfl,congrArg (fun z=>some (SV.int .i64 z)) (a0G (by omega)),rfl,rfl,rfl,rfl,rfl,rfl,rfl,rfl,rfl,trivial⟩,by (repeat' (first|exact trivial|exact rfl|exact gwk rfl|exact q0h _ o|exact hrow|constructor))⟩⟩)
  |trace_state
end
section
theorem y0E:∀(w n:Nat) (x:Int),x∈d0n w n->48<=x/\x<=57
 |0,_,x,h=>by simp [d0n] at h
 |w+1,n,x,h=>by
  simp only [d0n,k0Q,d0z,n0s,or_false] at h;rcases h with h|rfl
  .exact y0E w _ x h
  .omega
theorem o0R:∀(w a b:Nat),a<10^w->b<10^w->d0n w a=d0n w b->a=b
 |0,a,b,ha,hb,_=>by simp at ha hb;omega
 |w+1,a,b,ha,hb,h=>by
  simp only [d0n] at h;have h2:=List.append_inj' h rfl;rw [b1z] at ha hb;have h3:=o0R w (a/10) (b/10) (by omega) (by omega) h2.1;have h4:=h2.2;simp only [List.cons.injEq,and_true] at h4;omega
theorem v0U {l l':List Int} (h:∀x∈l,0<=x/\x<=255) (h':∀x∈l',0<=x/\x<=255) (e:a0m l=a0m l'):l=l':=by
 have el:l.length=l'.length:=by rw [<-a0X,<-a0X,e]
 refine e1F el fun i h1 h2=> ?_
 rw [<-e0L h1 (h _ (o0z h1)),<-e0L h2 (h' _ (o0z h2)),e]
theorem s0C (N:Nat):u0V N=a0m ([102]++d0n 3 N):=by rw [<-c0T];rfl
theorem s0D (N k:Nat):q0i N k=a0m ([114]++d0n 3 N++ [45]++d0n 2 k):=by rw [<-c0T,<-c0T,<-c0T];rfl
theorem s0E (N:Nat):∀x∈[102]++d0n 3 N,(0<=x/\x<=255)/\auC x=true:=by
 intro x hx;rcases k0Q.1 hx with h|h
 .simp only [d0z,n0s,or_false] at h;subst h;decide
 .have:=y0E _ _ _ h;exact ⟨by omega,decide_eq_true (by omega)⟩
theorem s0F (N k:Nat):∀x∈[114]++d0n 3 N++ [45]++d0n 2 k,(0<=x/\x<=255)/\auC x=true:=by
 intro x hx;have key:∀w n,x∈d0n w n->(0<=x/\x<=255)/\auC x=true:=fun w n h=>by
  have:=y0E _ _ _ h;exact ⟨by omega,decide_eq_true (by omega)⟩
 rcases k0Q.1 hx with h|h
 .rcases k0Q.1 h with h|h
  .rcases k0Q.1 h with h|h
   .simp only [d0z,n0s,or_false] at h;subst h;decide
   .exact key _ _ h
  .simp only [d0z,n0s,or_false] at h;subst h;decide
 .exact key _ _ h
theorem o0S {l:List Int} (h:∀x∈l,(0<=x/\x<=255)/\auC x=true) (h1:1<=l.length) (h2:l.length<=16):auI (a0m l)=true:=by
 refine n0g (by rw [a0X];exact h1) (by rw [a0X];exact h2) fun i hi=> ?_
 rw [a0X] at hi;have:=h _ (o0z hi);rw [e0L hi this.1];exact this.2
theorem s0G (N:Nat):auI (u0V N)=true:=by
 rw [s0C];exact o0S (s0E N) (by simp [a0D]) (by simp [a0D])
theorem b1g (N k:Nat):auI (q0i N k)=true:=by
 rw [s0D];exact o0S (s0F N k) (by simp [a0D]) (by simp [a0D])
theorem y0F {a b:Nat} (ha:a<=255) (hb:b<=255) (h:u0V a=u0V b):a=b:=by
 rw [s0C,s0C] at h;have h:=v0U (fun x hx=>(s0E _ x hx).1) (fun x hx=>(s0E _ x hx).1) h;exact o0R 3 a b (by omega) (by omega) (List.append_cancel_left h)
theorem s0H {a b k j:Nat} (ha:a<=255) (hb:b<=255) (hk:k<=20) (hj:j<=20) (h:q0i a k=q0i b j):a=b/\k=j:=by
 rw [s0D,s0D] at h;have h:=v0U (fun x hx=>(s0F _ _ x hx).1) (fun x hx=>(s0F _ _ x hx).1) h;have h:=List.append_inj' h (by simp [a0D]);have h2:=o0R 2 k j (by omega) (by omega) h.2;have h3:=List.append_inj' h.1 rfl;exact ⟨o0R 3 a b (by omega) (by omega) (List.append_cancel_left h3.1),h2⟩
structure FsOk (f:Fs):Prop where
 l6:f.l<=6
 nl:f.ns.length=f.l
 n0:f.q0.length=f.l
 n2:f.q2.length=f.l
 n3:f.q3.length=f.l
 N:∀i,i<f.l->0<=f.q0.getD i 0/\f.q0.getD i 0<=255
 n:∀i,i<f.l->1<=f.ns.getD i 0/\f.ns.getD i 0<=20
 al:∀i,i<f.l->(f.A i).length=f.ns.getD i 0
 a:∀i j,i<f.l->j<f.ns.getD i 0->1<=(f.A i).getD j 0/\(f.A i).getD j 0<=1000000000
theorem b1h (w:Int) (k:Nat):kdV w k=1\/kdV w k=2:=by unfold kdV;split<;>simp
theorem FsOk.N' {f:Fs} (h:FsOk f) {i:Nat} (hi:i<f.l):f.N i<=255:=by have:=h.N i hi;unfold Fs.N;omega
theorem q0b (f:Fs) (i k:Nat):(f.R i k).length=k:=by simp [Fs.R]
theorem b1i (f:Fs) (i k:Nat):f.R i (k+1)=f.R i k++ [mkR (kdV (f.q2.getD i 0) k) (q0i (f.N i) k) ((f.A i).getD k 0)]:=by
 unfold Fs.R;rw [d1G,z0B];rfl
theorem b1K {f:Fs} (h:FsOk f) {i:Nat} (hi:i<f.l):∀r∈f.R i (f.ns.getD i 0),d0V r:=by
 intro r hr;obtain ⟨j,hj,rfl⟩:=m0l.1 hr;exact ⟨_,_,_,rfl,b1h _ _,b1g _ _,h.a i j hi (q0f.1 hj)⟩
theorem y0G (f:Fs) (i k:Nat):(f.R i k).map Rc.id=(List.range k).map (q0i (f.N i)):=by
 unfold Fs.R;rw [b1t];rfl
theorem d1q {f:Fs} (h:FsOk f) {i:Nat} (hi:i<f.l):((f.R i (f.ns.getD i 0)).map Rc.id).Nodup:=by
 rw [y0G];refine (List.pairwise_map).2 ((List.nodup_range).imp_of_mem fun {a b} ha hb hne e=>hne ?_);have hn:=(h.n i hi).2;exact (s0H (h.N' hi) (h.N' hi) (by have:=q0f.1 ha;omega) (by have:=q0f.1 hb;omega) e).2
def Fs.mo (f:Fs) (i:Nat):Nat->Int×Int
 |0=>(0,0)
 |k+1=>((f.mo i k).1+mvV (kdV (f.q2.getD i 0) k) ((f.A i).getD k 0),(f.mo i k).2+feV ((f.A i).getD k 0))
def Fs.tot (f:Fs):Nat->Int×Int
 |0=>(0,0)
 |i+1=>if f.N i∈(List.range i).map f.N then f.tot i else ((f.tot i).1+(f.mo i (f.ns.getD i 0)).1,(f.tot i).2+(f.mo i (f.ns.getD i 0)).2)
theorem y0H {f:Fs} (h:FsOk f) {i:Nat} (hi:i<f.l):∀k,k<=f.ns.getD i 0->(-(1000000000*(k:Int))<=(f.mo i k).1/\(f.mo i k).1<=1000000000*(k:Int))/\0<=(f.mo i k).2/\(f.mo i k).2<=1000000000*(k:Int)
 |0,_=>by simp [Fs.mo]
 |k+1,hk=>by
  have ih:=y0H h hi k (by omega);have ha:=h.a i k hi (by omega);have hf:=m0s ha;have hv: -1000000000<=mvV (kdV (f.q2.getD i 0) k) ((f.A i).getD k 0)/\mvV (kdV (f.q2.getD i 0) k) ((f.A i).getD k 0)<=1000000000:=by unfold mvV;split<;>omega
  simp only [Fs.mo];omega
theorem s0I {f:Fs} (h:FsOk f):∀i,i<=f.l->(-(20000000000*(i:Int))<=(f.tot i).1/\(f.tot i).1<=20000000000*(i:Int))/\0<=(f.tot i).2/\(f.tot i).2<=20000000000*(i:Int)
 |0,_=>by simp [Fs.tot]
 |i+1,hi=>by
  have ih:=s0I h i (by omega);have hm:=y0H h (i:=i) (by omega) (f.ns.getD i 0) (d0M _);have hn:=(h.n i (by omega)).2;simp only [Fs.tot];split<;>omega
structure Wi (f:Fs) (x:Wd) (i:Nat):Prop where
 rb:Rb x.z x.p x.n x.s
 mm:x.made=false->x.z=false
 zz:x.z=nz x.p x.n x.s
 p:x.p= -(f.tot i).1
 n:x.n=(f.tot i).2
 s:x.s=(f.tot i).1-(f.tot i).2
 fl:x.F.length=x.fn
 fn:x.fn<=i
 il:x.I.length=x.m
 im:x.m<=20*i
 ul:x.us.length=256
 F:∀N,N<=255->(u0V N∈x.F↔N∈(List.range i).map f.N)
 U:∀N,N<=255->x.us.getD N false=decide (N∈(List.range i).map f.N)
 I:∀y∈x.I,∃j k,j<i/\k<=20/\y=q0i (f.N j) k
end
section
attribute [local irreducible] a0u a0v a0j b0b
noncomputable abbrev L3:Code:=lpc Tryz.f5 2
def Wd.bk (x:Wd) (made z:Bool) (p n s:Int) (a ck:Nat):Wd:= { x with made:=made,z:=z,p:=p,n:=n,s:=s,a:=a,ck:=ck}
def Wd.fi (x:Wd) (fid:ByteArray) (k:Nat) (R:List Rc) (N:Nat):Wd:= { x with fn:=x.fn+1,F:=x.F++ [fid],m:=x.m+k,I:=x.I++R.map Rc.id,o:=true,c:=IntKind.i64.wrap (x.c+k),D:=IntKind.i64.wrap (x.D+b0Z 1 R),C:=IntKind.i64.wrap (x.C+b0Z 2 R),h:=(IntKind.i64.wrap (x.h+2*(k:Int))).tmod 100000000,us:=x.us.set N true}
structure Wm (f:Fs) (i:Nat) (x0 y:Wd) (j:Nat):Prop where
 e:∃made z a ck,y=x0.bk made z (x0.p-(f.mo i j).1) (x0.n+(f.mo i j).2) (x0.s+(f.mo i j).1-(f.mo i j).2) a ck
 rb:Rb y.z y.p y.n y.s
 mm:y.made=false->y.z=false
 zz:y.z=nz y.p y.n y.s
theorem e1l {f:Fs} {i:Nat} {x:Wd} (hb:Rb x.z x.p x.n x.s) (hm:x.made=false->x.z=false) (hz:x.z=nz x.p x.n x.s):Wm f i x x 0:=by
 refine ⟨⟨x.made,x.z,x.a,x.ck,?_⟩,hb,hm,hz⟩;obtain ⟨made,z,p,n,s,a,ck,fn,F,m,I,o,c,D,C,h,us⟩:=x;simp only [Wd.bk,Fs.mo,Int.sub_zero,Int.add_zero]
theorem e1m (f:Fs) (i k j:Nat) (hj:j<k):rcG (f.R i k) j=mkR (kdV (f.q2.getD i 0) j) (q0i (f.N i) j) ((f.A i).getD j 0):=by
 rw [o0n (by rw [q0b];exact hj)];simp [Fs.R]
structure Wt (f:Fs) (i:Nat) (x:Wd):Prop where
 p:x.p= -(f.tot i).1
 n:x.n=(f.tot i).2
 s:x.s=(f.tot i).1-(f.tot i).2
theorem d1O {f:Fs} {i j:Nat} {x0 y:Wd} (ok:FsOk f) (hi:i<f.l) (hj:j<=f.ns.getD i 0) (ht:Wt f i x0) (h:Wm f i x0 y j):Wb y 200000000000:=by
 obtain ⟨⟨made,z,a,ck,rfl⟩,rb,mm,zz⟩:=h;have h1:=s0I ok i (by omega);have h2:=y0H ok hi j hj;have h3:=(ok.n i hi).2;have h4:=ok.l6;have e1:=ht.p;have e2:=ht.n;have e3:=ht.s;refine ⟨rb,mm,?_,?_,?_,?_⟩;all_goals simp only [Wd.bk];omega
theorem e1n {f:Fs} {i j k:Nat} {x0 y:Wd} {R:List Rc} (ok:FsOk f) (hi:i<f.l) (hk:f.ns.getD i 0=k) (hR:f.R i k=R) (hj:j<k) (ht:Wt f i x0) (h:Wm f i x0 y j) (a ck:Nat):
  Wm f i x0 (y.mv (y.p-mvV (rcG R j).k (rcG R j).am) (y.n+feV (rcG R j).am) (y.s+mvV (rcG R j).k (rcG R j).am-feV (rcG R j).am) a ck) (j+1):=by
 have hb:=d1O ok hi (by omega) ht h;obtain ⟨⟨made,z,a',ck',rfl⟩,rb,mm,zz⟩:=h;rw [<-hR,e1m f i k j hj];have ha:=ok.a i j hi (by omega);have hf:=m0s ha;have hv: -1000000000<=mvV (kdV (f.q2.getD i 0) j) ((f.A i).getD j 0)/\mvV (kdV (f.q2.getD i 0) j) ((f.A i).getD j 0)<=1000000000:=by unfold mvV;split<;>omega
 obtain ⟨_,_,hsu,hn0,hpb,hnb⟩:=hb;simp only [Wd.bk] at hsu hn0 hpb hnb;simp only [mkR,Wd.mv,Wd.bk];have e1:x0.p-(f.mo i (j+1)).1=x0.p-(f.mo i j).1-mvV (kdV (f.q2.getD i 0) j) ((f.A i).getD j 0):=by simp only [Fs.mo];omega
 have e2:x0.n+(f.mo i (j+1)).2=x0.n+(f.mo i j).2+feV ((f.A i).getD j 0):=by simp only [Fs.mo];omega
 have e3:x0.s+(f.mo i (j+1)).1-(f.mo i (j+1)).2=x0.s+(f.mo i j).1-(f.mo i j).2+mvV (kdV (f.q2.getD i 0) j) ((f.A i).getD j 0)-feV ((f.A i).getD j 0):=by simp only [Fs.mo];omega
 have key:∀P N S,x0.p-(f.mo i (j+1)).1=P->x0.n+(f.mo i (j+1)).2=N->x0.s+(f.mo i (j+1)).1-(f.mo i (j+1)).2=S->(-1000000000000<=P/\P<=1000000000000)->(-1000000000000<=N/\N<=1000000000000)->(-1000000000000<=S/\S<=1000000000000)->Wm f i x0 { x0 with made:=true,z:=nz P N S,p:=P,n:=N,s:=S,a:=a,ck:=ck} (j+1):=by
  rintro P N S rfl rfl rfl h1 h2 h3;exact ⟨⟨true,_,a,ck,rfl⟩,y0D h1 h2 h3,(fun h=>by cases h),rfl⟩
 exact key _ _ _ e1 e2 e3 (by omega) (by omega) (by omega)
set_option maxHeartbeats 4000000 in
theorem b1j (f:Fs) (i k:Nat) (x:Wd) (R:List Rc) (s fid:ByteArray) (ok:FsOk f) (hi:i<f.l) (hx:Wi f x i) (hk:f.ns.getD i 0=k) (hR:f.R i k=R) (hfid:u0V (f.N i)=fid) (hfr:¬f.N i∈(List.range i).map f.N) (hs:flS fid R=s) (K:Exit->VS->Prop)
  (hK:∀v y,Wm f i (x.fi fid k R (f.N i)) y k->(∃(l:List Nat) (u:List Up),upK u v (fun v=>Weak 3 l v (V3 f i y fid k R s 1)))->K .normal v):
  b0k Tryz.prog T 3 L3 (V3 f i x fid k R s 0) K:=by
 have hN:=ok.N i hi;have hn:=ok.n i hi;have l6:=ok.l6;rw [hk] at hn;have hRk:R.length=k:=by rw [<-hR];exact q0b f i k
 have acc:=r0W fid R k x.fn x.m x.o x.c x.D x.C x.h x.F x.I hRk hn.1 (by omega) (by rw [<-hfid];exact s0G _) (by rw [<-hR,<-hk];exact b1K ok hi) hx.fl (by have:=hx.fn;omega) hx.il (by have:=hx.im;omega) (by rw [<-hR,<-hk];exact d1q ok hi) (by
  intro y hy hm;rw [<-hR,y0G] at hy;obtain ⟨j,hj,rfl⟩:=m0l.1 hy;have hj:=q0f.1 hj;obtain ⟨j',k',h1,h2,h3⟩:=hx.I _ hm;have:=(s0H (ok.N' hi) (ok.N' (by omega)) (by omega) h2 h3).1;exact hfr (m0l.2 ⟨j',q0f.2 h1,this.symm⟩)) (by rw [<-hfid];exact fun h=>hfr ((hx.F _ (ok.N' hi)).1 h))
 rw [hs] at acc;have hus:x.us.getD (f.N i) false=false:=by rw [hx.U _ (ok.N' hi)];exact decide_eq_false hfr
 have hul:=hx.ul;have hx256:0<=f.q0.getD i 0/\f.q0.getD i 0<((256:Nat):Int):=by omega
 have hbad:(x.us.getD (f.N i) false==decide ((0:Int)=15))=true:=by rw [hus];rfl
 have hRo:∀r∈R,d0V r:=by rw [<-hR,<-hk];exact b1K ok hi
 obtain ⟨x',hx'⟩:∃x',x'=x.fi fid k R (f.N i):=⟨_,rfl⟩;rw [<-hx'] at hK;have ht:Wt f i x':=by rw [hx'];exact ⟨hx.p,hx.n,hx.s⟩
 have hw0:Wm f i x' x' 0:=by rw [hx'];exact e1l hx.rb hx.mm hx.zz
 obtain ⟨rb,mm,-,-,-,-,-,-,-,-,-,-,-,-⟩:=hx;obtain ⟨made,z,p,n,ss,a,ck,fn,F,m,I,o,c,D,C,h,us⟩:=x;dsimp only at*;cases made<;>cases z<;>cases o;all_goals first|(cases mm rfl;done)|skip
 all_goals repeat' ((conv=>whnf);first|(refine ⟨hx256,?_⟩)|refine cOx (l:= [0,9,10,13,11,12]) acc ?_|refine a0a ?_|(apply bRx<;>intro h<;>try (exfalso;(try dsimp only at h);omega)))
 all_goals (conv=>whnf)
 all_goals first
  |(cases (h.symm.trans hbad);done)
  |refine a0n (fun y:Nat×Wd=>V4 f i y.2 fid k R s 0 y.1) (fun y=>y.1<=k/\Wm f i x' y.2 y.1) (fun y=>k-y.1) (0,x') [0,1,2,3,4,5,6,7,8,9,10,11,12,24,14,15,16,17,18,19,20,21,22,23] [] (by subst hx';exact ⟨rfl,⟨rfl,rfl,rfl,rfl,rfl,rfl,rfl,rfl,rfl,rfl,rfl,rfl,rfl,rfl,trivial⟩,by (repeat' (first|exact trivial|exact rfl|exact gwk rfl|exact q0h _ _|constructor))⟩) ⟨k0R _,hw0⟩ ?_
 all_goals
  rintro ⟨j,y⟩ ⟨hj,hy⟩;dsimp only at hj hy⊢;clear hx' acc hw0 hbad hus h;by_cases hjk:j<k
  .exact d1p f i y fid k R s 0 j 200000000000 hjk hn.2 hRo hRk (d1O ok hi (by omega) ht hy) (by decide) _ (fun v a ck hv=>by obtain ⟨l,u,hv⟩:=hv;exact ⟨(j+1,_),l,u,⟨hjk,e1n ok hi hk hR hjk ht hy a ck⟩,(show k-(j+1)<k-j by omega),hv⟩)
  .obtain rfl:j=k:=by omega
   have hK:=fun v=>hK v y hy
   clear hy ht;obtain ⟨made',z',p',n',ss',a',ck',fn',F',m',I',o',c',D',C',h',us'⟩:=y;cases made'<;>cases z';all_goals repeat' ((conv=>whnf);first|refine a0a ?_|(apply bRx<;>intro h<;>try (exfalso;(try dsimp only at h);omega)))
   all_goals (conv=>whnf)
   all_goals first
    |(exfalso;omega)
    |exact hK _ ⟨[0,1,2,3,4,5,6,7,8,9,10,11,12,13,14,15,16,17,18,19,20,21,22],[],⟨rfl,⟨rfl,rfl,rfl,rfl,rfl,rfl,rfl,rfl,rfl,rfl,rfl,rfl,trivial⟩,by (repeat' (first|exact trivial|exact rfl|exact gwk rfl|exact q0h _ _|constructor))⟩⟩
    |trace_state
end
section
attribute [local irreducible] a0u a0v a0j b0b
theorem o0T:∀(l:List Bool) (i:Nat),l.getD i false=true->l.set i true=l
 | [],_,_=>rfl
 |a::l,0,h=>by simp [List.getD] at h;subst h;rfl
 |a::l,i+1,h=>by
  have:=o0T l i (by simpa [List.getD] using h);simp only [List.set_cons_succ,this]
set_option maxHeartbeats 4000000 in
theorem v0V (f:Fs) (i k n:Nat) (x:Wd) (R:List Rc) (s fid:ByteArray) (ok:FsOk f) (hi:i<f.l) (hk:f.ns.getD i 0=k) (hR:f.R i k=R) (hfid:u0V (f.N i)=fid) (hs:flS fid R=s) (hF:x.F.length=x.fn) (h6:x.fn<=6) (hm:fid∈x.F) (hu:x.us.getD (f.N i) false=true) (hn2:n=0\/(n=1/\f.q3.getD i false=true)) (mm:x.made=false->x.z=false) (K:Exit->VS->Prop)
  (hK:∀v,(∃(l:List Nat) (u:List Up),upK u v (fun v=>Weak 3 l v (V3 f i x fid k R s (n+1))))->K .normal v):
  b0k Tryz.prog T 3 L3 (V3 f i x fid k R s n) K:=by
 have hN:=ok.N i hi;have hn:=ok.n i hi;rw [hk] at hn;have hRk:R.length=k:=by rw [<-hR];exact q0b f i k
 have acc:=p0K fid R k x.fn 0 false x.c x.D x.C x.h x.F [] hRk hn.1 (by omega) (by rw [<-hfid];exact s0G _) (by rw [<-hR,<-hk];exact b1K ok hi) hF (by omega) (by rw [<-hR,<-hk];exact d1q ok hi) hm;rw [hs] at acc;have hx256:0<=f.q0.getD i 0/\f.q0.getD i 0<((256:Nat):Int):=by omega
 have hbad:(x.us.getD (f.N i) false==decide ((15:Int)=15))=true:=by rw [hu];rfl
 have hus:=o0T _ _ hu;obtain ⟨made,z,p,nn,ss,a,ck,fn,F,m,I,o,c,D,C,h,us⟩:=x;dsimp only at*;rcases hn2 with rfl|⟨rfl,hag⟩
 all_goals cases made<;>cases z
 all_goals first|(cases mm rfl;done)|skip
 all_goals repeat' ((conv=>whnf);first|(refine ⟨hx256,?_⟩)|(refine ⟨hi,?_⟩)|refine a0c 2 ?_|refine cOx (l:= [0,9,10,13,11,12]) acc ?_|refine a0a ?_|(apply bRx<;>intro h<;>try (exfalso;(try dsimp only at h);omega)))
 all_goals (conv=>whnf)
 all_goals first
  |(cases (h.symm.trans hbad);done)
  |(cases (h.symm.trans hag);done)
  |exact hK _ ⟨[0,1,2,3,4,5,6,7,8,9,10,11,12,13,14,15,16,17,18,19,20,21,22],[],⟨rfl,⟨rfl,rfl,rfl,rfl,rfl,rfl,rfl,rfl,rfl,rfl,rfl,rfl,trivial⟩,by (repeat' (first|exact trivial|exact rfl|exact gwk rfl|exact q0h _ _|exact congrArg (fun l=>some (HB.one false (.cols 256 [.sc (.bools l)]))) hus|constructor))⟩⟩
  |trace_state
end
section
attribute [local irreducible] a0u a0v a0j b0b
theorem b1k {f:Fs} {i:Nat} {x:Wd} (ok:FsOk f) (hi:i<f.l) (hx:Wi f x i) (h:f.N i∈(List.range i).map f.N):Wi f x (i+1):=by
 have e:f.tot (i+1)=f.tot i:=if_pos h;have hs:∀N,N∈(List.range (i+1)).map f.N↔N∈(List.range i).map f.N:=by
  intro N;rw [d1G,z0B,k0Q];constructor
  .rintro (h1|h1)
   .exact h1
   .simp only [k0N,s0c,d0z,n0s,or_false] at h1;rw [h1];exact h
  .exact .inl
 refine ⟨hx.rb,hx.mm,hx.zz,by rw [e];exact hx.p,by rw [e];exact hx.n,by rw [e];exact hx.s,hx.fl,by have:=hx.fn;omega,hx.il,by have:=hx.im;omega,hx.ul,fun N hN=>(hx.F N hN).trans (hs N).symm,fun N hN=>(hx.U N hN).trans (decide_eq_decide.2 (hs N).symm),fun y hy=> ?_⟩;obtain ⟨j,k,h1,h2,h3⟩:=hx.I y hy;exact ⟨j,k,by omega,h2,h3⟩
theorem s0J {l:List Bool} {i j:Nat} (h:i<l.length):(l.set i true).getD j false=if i=j then true else l.getD j false:=by
 rw [List.getD,e1B];by_cases e:i=j
 .subst e;simp [h]
 .simp [e,List.getD]
theorem b1l {f:Fs} {i:Nat} {x y:Wd} (ok:FsOk f) (hi:i<f.l) (hx:Wi f x i) (h:¬f.N i∈(List.range i).map f.N) (hy:Wm f i (x.fi (u0V (f.N i)) (f.ns.getD i 0) (f.R i (f.ns.getD i 0)) (f.N i)) y (f.ns.getD i 0)):Wi f y (i+1):=by
 have e:f.tot (i+1)=((f.tot i).1+(f.mo i (f.ns.getD i 0)).1,(f.tot i).2+(f.mo i (f.ns.getD i 0)).2):=if_neg h;have hs:∀N,N∈(List.range (i+1)).map f.N↔N∈(List.range i).map f.N\/N=f.N i:=by
  intro N;rw [d1G,z0B,k0Q];simp only [k0N,s0c,d0z,n0s,or_false]
 obtain ⟨⟨made,z,a,ck,rfl⟩,rb,mm,zz⟩:=hy;have hn:=(ok.n i hi).2;have hNi:=ok.N' hi;refine ⟨rb,mm,zz,?_,?_,?_,?_,?_,?_,?_,?_,?_,?_,?_⟩
 .rw [e];simp only [Wd.bk,Wd.fi];have:=hx.p;omega
 .rw [e];simp only [Wd.bk,Wd.fi];have:=hx.n;omega
 .rw [e];simp only [Wd.bk,Wd.fi];have:=hx.s;omega
 .simp only [Wd.bk,Wd.fi,u0m,x0C];have:=hx.fl;omega
 .simp only [Wd.bk,Wd.fi];have:=hx.fn;omega
 .simp only [Wd.bk,Wd.fi,u0m,m0k,q0b];have:=hx.il;omega
 .simp only [Wd.bk,Wd.fi];have:=hx.im;omega
 .simp only [Wd.bk,Wd.fi,List.length_set];exact hx.ul
 .intro N hN;simp only [Wd.bk,Wd.fi];rw [hs N,k0Q,hx.F N hN,i0p];constructor
  .rintro (h1|h1)
   .exact .inl h1
   .exact .inr (y0F hN hNi h1)
  .rintro (h1|h1)
   .exact .inl h1
   .exact .inr (by rw [h1])
 .intro N hN;simp only [Wd.bk,Wd.fi];rw [s0J (by rw [hx.ul];omega)];by_cases eN:f.N i=N
  .rw [if_pos eN];exact (decide_eq_true ((hs N).2 (.inr eN.symm))).symm
  .rw [if_neg eN,hx.U N hN];exact decide_eq_decide.2 ⟨fun h1=>(hs N).2 (.inl h1),fun h1=>((hs N).1 h1).resolve_right (fun h2=>eN h2.symm)⟩
 .intro y hy;simp only [Wd.bk,Wd.fi] at hy;rcases k0Q.1 hy with hy|hy
  .obtain ⟨j,k,h1,h2,h3⟩:=hx.I y hy;exact ⟨j,k,by omega,h2,h3⟩
  .rw [y0G] at hy;obtain ⟨k,hk,rfl⟩:=m0l.1 hy;have:=q0f.1 hk;exact ⟨i,k,by omega,by omega,rfl⟩
set_option maxHeartbeats 4000000 in
theorem y0I (f:Fs) (i:Nat) (x:Wd) (ok:FsOk f) (hi:i<f.l) (hx:Wi f x i) (K:Exit->VS->Prop)
  (hK:∀v y,Wi f y (i+1)->(∃(l:List Nat) (u:List Up),upK u v (fun v=>Weak 3 l v (V1 f (i+1) y)))->K .normal v):
  b0k Tryz.prog T 3 (lpc Tryz.f5 0) (V1 f i x) K:=by
 have hN:=ok.N i hi;have hn:=ok.n i hi;have l6:=ok.l6;have d1:=g0A (f.N i) 3 (by unfold Fs.N;omega) (by decide) (by decide);have eN:IntKind.i64.wrap (f.q0.getD i 0)=(f.N i:Int):=by rw [a0e (by omega) (by omega)];unfold Fs.N;omega
 rw [<-eN] at d1;have s1:=n0y 3 (f.N i);have z1:(⟨#[102]⟩:ByteArray).size+(dgW 3 (f.N i)).size<=9223372036854775807:=by rw [s1];decide
 have hii:(i:Int)<(f.l:Int):=by omega
 clear s1;obtain ⟨fid,hfid⟩:∃fid,u0V (f.N i)=fid:=⟨_,rfl⟩;obtain ⟨k,hk⟩:∃k,f.ns.getD i 0=k:=⟨_,rfl⟩;obtain ⟨R,hR⟩:∃R,f.R i k=R:=⟨_,rfl⟩;obtain ⟨s,hs⟩:∃s,flS fid R=s:=⟨_,rfl⟩;have enc:=s0y fid R k (by rw [<-hR];exact q0b f i k) (by omega) (by omega) (by rw [<-hfid];exact s0G _) (by rw [<-hR,<-hk];exact b1K ok hi) (by rw [<-hR,<-hk];exact d1q ok hi);rw [show flT fid R (ckS (crU (lnS (ahL fid R))))=s from hs] at enc;obtain ⟨X,hX⟩:∃X,X=x:=⟨_,rfl⟩;rw [<-hX] at hx;have mm:=hx.mm;rw [hX] at mm;obtain ⟨made,z,p,nn,ss,a,ck,fn,F,m,I,o,c,D,C,h,us⟩:=x;dsimp only at mm;cases made<;>cases z;all_goals first|(cases mm rfl;done)|skip
 all_goals repeat' ((conv=>whnf);first|(refine ⟨hi,?_⟩)|(refine ⟨z1,?_⟩)|refine cPx d1 ?_|refine a0a ?_|(apply bRx<;>intro h<;>try (exfalso;(try dsimp only at h);omega)))
 all_goals (conv=>whnf)
 all_goals first
  |(exfalso;omega)
  |refine a0n (fun k:Nat=>V2 f i X fid k (f.R i k)) (fun j=>j<=k) (fun j=>k-j) 0 [0,1,2,3,4,5,6,7,8,9,10,11,12,13,14,15,16,17,18,19,20,21,22] [.cell 21 3 (rcC [])] (by subst hX;subst hfid;exact ⟨rfl,⟨rfl,rfl,rfl,rfl,rfl,rfl,rfl,rfl,rfl,rfl,rfl,trivial⟩,by (repeat' (first|exact trivial|exact rfl|exact gwk rfl|exact q0h _ _|constructor))⟩) (k0R _) ?_
  |trace_state
 all_goals
  clear h z1 d1 eN;rintro j hj;by_cases hjk:j<k
  .exact b1f f i X fid j (f.R i j) hi (by omega) hn.2 ok.nl hN (q0b f i j) _ (fun v hv=>by obtain ⟨l,u,hv⟩:=hv;rw [<-b1i] at hv;exact ⟨j+1,l,u,hjk,(show k-(j+1)<k-j by omega),hv⟩)
  .obtain rfl:j=k:=by omega
   rw [hR];have hnl:¬((j:Int)<((f.ns.getD i 0:Nat):Int)):=by omega
   repeat' ((conv=>whnf);first|(refine ⟨hi,?_⟩)|refine cOx (l:= [0,22]) enc ?_|refine a0a ?_|(apply bRx<;>intro h<;>try (exfalso;(try dsimp only at h);omega)))
   all_goals (conv=>whnf)
   all_goals first
    |(exfalso;omega)
    |exact absurd h hnl
    |refine a0n (fun y:Nat×Wd=>V3 f i y.2 fid j R s y.1) (fun y=>y.1<=2/\((y.1=0/\y.2=X)\/(1<=y.1/\Wi f y.2 (i+1)))) (fun y=>2-y.1) (0,X) [0,1,2,3,4,5,6,7,8,9,10,11,12,13,14,15,16,17,18,19,20,21,22] [] (by subst hX;exact ⟨rfl,⟨rfl,rfl,rfl,rfl,rfl,rfl,rfl,rfl,rfl,rfl,rfl,rfl,trivial⟩,by (repeat' (first|exact trivial|exact rfl|exact gwk rfl|exact q0h _ _|constructor))⟩) ⟨k0R 2,.inl ⟨rfl,rfl⟩⟩ ?_
    |trace_state
   rintro ⟨n,y⟩ ⟨hn2,hy⟩;dsimp only at hn2 hy⊢;clear enc hnl hX;by_cases h2:n<2
   .rcases hy with ⟨h0,hyX⟩|⟨h1,hy⟩
    .subst h0;subst hyX;by_cases hfr:f.N i∈(List.range i).map f.N
     .have hw:=b1k ok hi hx hfr;exact v0V f i j 0 _ R s fid ok hi hk hR hfid hs hx.fl (by have:=hx.fn;omega) (by rw [<-hfid];exact (hx.F _ (ok.N' hi)).2 hfr) (by rw [hx.U _ (ok.N' hi)];exact decide_eq_true hfr) (.inl rfl) hx.mm _ (fun v hv=>by obtain ⟨l,u,hv⟩:=hv;exact ⟨(1,_),l,u,⟨(show 1<=2 by decide),.inr ⟨d0M 1,hw⟩⟩,(show 2-1<2-0 by decide),hv⟩)
     .exact b1j f i j _ R s fid ok hi hx hk hR hfid hfr hs _ (fun v y hm hv=>by obtain ⟨l,u,hv⟩:=hv;exact ⟨(1,y),l,u,⟨(show 1<=2 by decide),.inr ⟨d0M 1,b1l ok hi hx hfr (by rw [hfid,hk,hR];exact hm)⟩⟩,(show 2-1<2-0 by decide),hv⟩)
    .obtain rfl:n=1:=by omega
     have hin:f.N i∈(List.range (i+1)).map f.N:=m0l.2 ⟨i,q0f.2 (by omega),rfl⟩;cases hag:f.q3.getD i false with
     |true=>exact v0V f i j 1 y R s fid ok hi hk hR hfid hs hy.fl (by have:=hy.fn;omega) (by rw [<-hfid];exact (hy.F _ (ok.N' hi)).2 hin) (by rw [hy.U _ (ok.N' hi)];exact decide_eq_true hin) (.inr ⟨rfl,hag⟩) hy.mm _ (fun v hv=>by obtain ⟨l,u,hv⟩:=hv;exact ⟨(2,y),l,u,⟨d0M 2,.inr ⟨(show 1<=2 by decide),hy⟩⟩,(show 2-2<2-1 by decide),hv⟩)
     |false=>
      have hK:=fun v=>hK v y hy
      clear hy;obtain ⟨made',z',p',n',ss',a',ck',fn',F',m',I',o',c',D',C',h',us'⟩:=y;cases made'<;>cases z';all_goals repeat' ((conv=>whnf);first|(refine ⟨hi,?_⟩)|refine a0a ?_|(apply bRx<;>intro h<;>try (exfalso;(try dsimp only at h);omega)))
      all_goals (conv=>whnf)
      all_goals first
       |(exfalso;omega)
       |(cases (h.symm.trans hag);done)
       |exact hK _ ⟨[0,1,2,3,4,5,6,7,8,9,10,11,12,13,14,15,16,17,18,19,20],[],⟨rfl,⟨rfl,rfl,rfl,rfl,rfl,rfl,rfl,rfl,congrArg (fun z=>some (SV.int .i64 z)) (a0G (by omega)),trivial⟩,by (repeat' (first|exact trivial|exact rfl|exact gwk rfl|exact q0h _ _|constructor))⟩⟩
       |trace_state
   .obtain rfl:n=2:=by omega
    rcases hy with ⟨h0,_⟩|⟨h1,hy⟩
    .exact absurd h0 (by decide)
    have hK:=fun v=>hK v y hy
    clear hy;obtain ⟨made',z',p',n',ss',a',ck',fn',F',m',I',o',c',D',C',h',us'⟩:=y;cases made'<;>cases z';all_goals repeat' ((conv=>whnf);first|(refine ⟨hi,?_⟩)|refine a0a ?_|(apply bRx<;>intro h<;>try (exfalso;(try dsimp only at h);omega)))
    all_goals (conv=>whnf)
    all_goals first
     |(exfalso;omega)
     |exact hK _ ⟨[0,1,2,3,4,5,6,7,8,9,10,11,12,13,14,15,16,17,18,19,20],[],⟨rfl,⟨rfl,rfl,rfl,rfl,rfl,rfl,rfl,rfl,congrArg (fun z=>some (SV.int .i64 z)) (a0G (by omega)),trivial⟩,by (repeat' (first|exact trivial|exact rfl|exact gwk rfl|exact q0h _ _|constructor))⟩⟩
     |trace_state
end
section
def m0y (p n s:Int):Int:=max p 0+(max n 0+max s 0)
theorem nzB {b1 b2 b3:Bool} {p n s:Int} (h1:b1=decide (p≠0)) (h2:b2=decide (n≠0)) (h3:b3=decide (s≠0)):Nz b1 b2 b3 p n s:=by
 subst h1 h2 h3;refine ⟨?_,?_,?_⟩<;>simp
structure Nt (b1 b2 b3:Bool) (p n s:Int) (m:Nat) (F T':List ByteArray) (V:List Int) (C:List ByteArray):Prop where
 two:two b1 b2 b3=true
 nz:Nz b1 b2 b3 p n s
 st:FC Tryz.prog 2 55 [.sl 1 0 0 (kL b1 b2 b3)] [(1,poB true b1 b2 b3 p n s)] (a0d (.tup [.sl 2 0 0 m,.int .i64 0]) [(2,trB false m F T' V C)] 3)
 vl:FC Tryz.prog 3 19 [.sl 1 0 0 (kL b1 b2 b3),.sl 2 0 0 m] [(1,poB true b1 b2 b3 p n s),(2,trB true m F T' V C)] (a0d (.bool true) [] 3)
 vo:FC Tryz.prog 2 23 [.sl 1 0 0 m,.str sEu] [(1,trB true m F T' V C)] (a0d (.int .i64 (m0y p n s)) [] 2)
theorem b1m (p n s:Int) (hb:Rb true p n s) (h0:p+n+s=0) (hn:0<=n) (hz:¬(p=0/\n=0/\s=0)):∃b1 b2 b3 m F T' V C,Nt b1 b2 b3 p n s m F T' V C:=by
 have hp1:=hb.p;have hn1:=hb.n;have hs1:=hb.s;have key1:∀(v:Int) {k:FuncId} {A:List SV} {H H':a0g} {n0 n1:Nat},v=m0y p n s->FC Tryz.prog n0 k A H (a0d (.int .i64 v) H' n1)->FC Tryz.prog n0 k A H (a0d (.int .i64 (m0y p n s)) H' n1):=fun v _ _ _ _ _ _ e h=>e▸h
 by_cases n0:n=0
 .by_cases p0:p<0
  .exact ⟨true,false,true,1,[sHb],[sSb],[s],[sEu],rfl,nzB (by simp;omega) (by simp;omega) (by simp;omega),c1S p n s hb h0 n0 p0,d1k p n s hb h0 n0 p0,key1 _ (by unfold m0y;omega) (b1J sHb sSb s (by omega))⟩
  .exact ⟨true,false,true,1,[sSb],[sHb],[p],[sEu],rfl,nzB (by simp;omega) (by simp;omega) (by simp;omega),c1T p n s hb h0 n0 (by omega),d1m p n s hb h0 n0 (by omega),key1 _ (by unfold m0y;omega) (b1J sSb sHb p (by omega))⟩
 have hn0:0<n:=by omega
 by_cases s0:s=0
 .exact ⟨true,true,false,1,[sHb],[sNw],[n],[sEu],rfl,nzB (by simp;omega) (by simp;omega) (by simp;omega),c1R p n s hb h0 s0 (by omega),d1i p n s hb h0 s0 (by omega),key1 _ (by unfold m0y;omega) (b1J sHb sNw n (by omega))⟩
 by_cases p0:p=0
 .exact ⟨false,true,true,1,[sSb],[sNw],[n],[sEu],rfl,nzB (by simp;omega) (by simp;omega) (by simp;omega),c1U p n s hb h0 p0 hn0,d1o p n s hb h0 p0 hn0,key1 _ (by unfold m0y;omega) (b1J sSb sNw n (by omega))⟩
 have hz3:Nz true true true p n s:=nzB (by simp;omega) (by simp;omega) (by simp;omega);by_cases pn:p<0
 .by_cases sn:0<s
  .by_cases c:s<=n
   .exact ⟨true,true,true,2,[sHb,sHb],[sNw,sSb],[n,s],[sEu,sEu],rfl,hz3,c1L p n s hb h0 hn0 pn sn c,c1W p n s hb h0 hn0 pn sn c,key1 _ (by unfold m0y;omega) (z0g sHb sHb sNw sSb n s (by omega) (by omega))⟩
   .exact ⟨true,true,true,2,[sHb,sHb],[sSb,sNw],[s,n],[sEu,sEu],rfl,hz3,c1M p n s hb h0 hn0 pn sn (by omega),c1Y p n s hb h0 hn0 pn sn (by omega),key1 _ (by unfold m0y;omega) (z0g sHb sHb sSb sNw s n (by omega) (by omega))⟩
  .by_cases c:p<=s
   .exact ⟨true,true,true,2,[sHb,sSb],[sNw,sNw],[-p,-s],[sEu,sEu],rfl,hz3,c1P p n s hb h0 hn0 pn (by omega) c,d1e p n s hb h0 hn0 pn (by omega) c,key1 _ (by unfold m0y;omega) (z0g sHb sSb sNw sNw (-p) (-s) (by omega) (by omega))⟩
   .exact ⟨true,true,true,2,[sSb,sHb],[sNw,sNw],[-s,-p],[sEu,sEu],rfl,hz3,c1Q p n s hb h0 hn0 pn (by omega) (by omega),d1g p n s hb h0 hn0 pn (by omega) (by omega),key1 _ (by unfold m0y;omega) (z0g sSb sHb sNw sNw (-s) (-p) (by omega) (by omega))⟩
 .by_cases c:n<=p
  .exact ⟨true,true,true,2,[sSb,sSb],[sHb,sNw],[p,n],[sEu,sEu],rfl,hz3,c1N p n s hb h0 hn0 (by omega) (by omega) c,d1a p n s hb h0 hn0 (by omega) (by omega) c,key1 _ (by unfold m0y;omega) (z0g sSb sSb sHb sNw p n (by omega) (by omega))⟩
  .exact ⟨true,true,true,2,[sSb,sSb],[sNw,sHb],[n,p],[sEu,sEu],rfl,hz3,c1O p n s hb h0 hn0 (by omega) (by omega) (by omega),d1c p n s hb h0 hn0 (by omega) (by omega) (by omega),key1 _ (by unfold m0y;omega) (z0g sSb sSb sNw sHb n p (by omega) (by omega))⟩
end
section
attribute [local irreducible] a0u a0v a0j b0b
abbrev x00:Wd:=⟨false,false,0,0,0,0,0,0,[],0,[],false,0,0,0,0,List.replicate 256 false⟩
theorem d1r (N:Nat):(List.replicate 256 false).getD N false=false:=by
 rw [List.getD,v0m];split<;>rfl
theorem d1s (f:Fs):Wi f x00 0:=
 ⟨⟨fun _=>⟨rfl,rfl,rfl⟩,by decide,by decide,by decide⟩,fun _=>rfl,by decide,rfl,rfl,rfl,rfl,d0M 0,rfl,d0M 0,a1o,fun N _=>(by simp),fun N _=>(by rw [show x00.us=List.replicate 256 false from rfl,d1r];simp),fun y h=>(by cases h)⟩
def Fs.vol (f:Fs):Int:=m0y (-(f.tot f.l).1) (f.tot f.l).2 ((f.tot f.l).1-(f.tot f.l).2)
set_option maxHeartbeats 8000000 in
theorem j0P (f:Fs) (ok:FsOk f):
  FC Tryz.prog 3 5 [.sl 1 0 0 f.l] [(0,some (GB glT)),(1,flB f.l f.q0 f.ns f.q2 f.q3),(2,amF f.l f.ns f.A)] (a0d (.int .i64 f.vol) [] 3):=by
 have c1:=a1I;have c2:=a1K;have c3:=z0S;have c4:=s0v;refine fEx Tryz.func5 ?_;repeat' ((conv=>whnf);first|refine cOx (l:= [0]) c1 ?_|refine cOx (l:= [0,3,4,5]) c2 ?_|refine cOx (l:= [0,10]) c3 ?_|refine cOx (l:= [0]) c4 ?_|refine a0a ?_|(apply bRx<;>intro h<;>try (exfalso;(try dsimp only at h);omega)))
 all_goals (conv=>whnf)
 refine a0n (fun y:Nat×Wd=>V1 f y.1 y.2) (fun y=>y.1<=f.l/\Wi f y.2 y.1) (fun y=>f.l-y.1) (0,x00) [0,1,2,3,4,6,7,8,9,11,12,13,14,19,15,16,17,18,0,0,0] [.cell 11 1 [.sc (.strs []),.sc (.strs [])]] ⟨rfl,⟨rfl,rfl,rfl,rfl,rfl,rfl,rfl,rfl,rfl,trivial⟩,by (repeat' (first|exact trivial|exact rfl|exact gwk rfl|exact q0h _ _|constructor))⟩ ⟨k0R _,d1s f⟩ ?_;rintro ⟨i,x⟩ ⟨hi,hx⟩;dsimp only at hi hx⊢;by_cases hil:i<f.l
 .exact y0I f i x ok hil hx _ (fun v y hy hv=>by obtain ⟨l,u,hv⟩:=hv;exact ⟨(i+1,y),l,u,⟨hil,hy⟩,(show f.l-(i+1)<f.l-i by omega),hv⟩)
 obtain rfl:i=f.l:=by omega
 have hv:f.vol=m0y x.p x.n x.s:=by unfold Fs.vol;rw [hx.p,hx.n,hx.s]
 have htb:=s0I ok f.l (d0M _);have l6:=ok.l6;have hsu:x.p+x.n+x.s=0:=by rw [hx.p,hx.n,hx.s];omega
 have hn0:0<=x.n:=by rw [hx.n];exact htb.2.1
 have rb:=hx.rb;have mm:=hx.mm;have zz:=hx.zz;rw [hv];clear hv htb hx c1 c2 c3 c4 ok l6;obtain ⟨made,z,p,n,s,a,ck,fn,F,m,I,o,c,D,C,h,us⟩:=x;dsimp only at*;by_cases h0:p=0/\n=0/\s=0
 .obtain rfl:z=false:=by rw [zz,w0P h0]
  obtain ⟨rfl,rfl,rfl⟩:=h0;have yk:Yk made false false false false 0 0 0:=⟨⟨by simp,by simp,by simp⟩,rfl,fun _=>rfl⟩;have d1:=o0N made false false false false 0 0 0 a ck yk;have d2:=q0a made 0 0 0 a ck;have d3:=e0u made false false false false true 0 0 0 a ck yk;have d4:=e1j;have d5:=u0U;have d6:=e1k;clear zz yk rb mm;cases made;all_goals dsimp only [hpZ,poS,poH,poN,cond_true,cond_false] at d1 d2 d3
  all_goals repeat' ((conv=>whnf);first|refine a0c 2 ?_|refine cOx (l:= [0,5,3,4,6,7,8,18,19,20]) d1 ?_|refine cOx (l:= [0,5,3,4,6,7,8,18,19,20]) d2 ?_|refine cOx (l:= [0,5,3,4,6,7,8,18,19,20]) d3 ?_|refine cPx d4 ?_|refine cPx d5 ?_|refine cPx d6 ?_|refine a0a ?_|(apply bRx<;>intro h<;>try (exfalso;(try dsimp only at h);omega)))
  all_goals (conv=>whnf)
  all_goals first
   |(exfalso;omega)
   |exact rOz [0,1,2]
   |trace_state
 .have hzt:z=true:=by rw [zz,w0O h0]
  subst hzt;obtain rfl:made=true:=by cases made;cases mm rfl;rfl
  obtain ⟨b1,b2,b3,m',F',T',V',C',nt⟩:=b1m p n s rb hsu hn0 h0;have hor:(b1||b2||b3)=true:=by have:=nt.two;revert this;cases b1<;>cases b2<;>cases b3<;>decide
  have yk:Yk true true b1 b2 b3 p n s:=⟨nt.nz,hor.symm,fun h=>by cases h⟩;have d1:=o0N true true b1 b2 b3 p n s a ck yk;have d2:=p0Z b1 b2 b3 p n s a ck nt.nz rb hor nt.st;have d3:=e0u true true b1 b2 b3 true p n s a ck yk;have d4:=nt.vl;have d5:=y0B b1 b2 b3 p n s nt.two;have d6:=nt.vo;have hp1:=rb.p;have hn1:=rb.n;obtain ⟨d7,d8,d9⟩:=b1d (-p) n (by omega) (by omega);have h2:=m0v nt.two;clear zz yk rb mm nt hor h0;generalize m0y p n s=V0 at*;rcases h2 with ⟨rfl,rfl,rfl⟩|⟨rfl,rfl,rfl⟩|⟨rfl,rfl,rfl⟩|⟨rfl,rfl,rfl⟩
  all_goals dsimp only [hpZ,poS,poH,poN,cond_true,cond_false] at d1 d2 d3
  all_goals repeat' ((conv=>whnf);first|refine a0c 5 ?_|refine cOx (l:= [0,5,3,4,6,7,8,18,19,20]) d1 ?_|refine cOx (l:= [0,5,3,4,6,7,8,18,19,20]) d2 ?_|refine cOx (l:= [0,5,3,4,6,7,8,18,19,20]) d3 ?_|refine cOx (l:= [0,21,22]) d4 ?_|refine cOx (l:= [0,21,23]) d5 ?_|refine cOx (l:= [0,22]) d6 ?_|refine cPx d7 ?_|refine cPx d8 ?_|refine cPx d9 ?_|refine a0a ?_|(apply bRx<;>intro h<;>try (exfalso;(try dsimp only at h);omega)))
  all_goals (conv=>whnf)
  all_goals first
   |(exfalso;omega)
   |exact absurd (show p= - -p by omega) h
   |exact absurd (rfl:n=n) h
   |exact absurd (show s= -p-n by omega) h
   |exact rOz [0,1,2]
   |trace_state
end
section
attribute [local irreducible] a0u a0v a0j b0b
theorem d1t {P:Program} {n:Nat} {f:FuncId} {args:List SV} {H H':a0g} {post:SV->a0g->Nat->Prop} (hH:∀{g:G} {w:World},Holds g H' w->Holds g H w) (hro:∀h q b,¬Ent H h q false b) (h:FC P n f args H post):FC P n f args H' post:=by
 have hW:∀{g:G} k,d0o g H k->d0o g H' k:=fun k ⟨h,q,b,β,e,r⟩=>absurd e (hro h q b)
 have ho:∀{g:G} {w:World} {v:Value} {w':World},Out g w n H post v w'->Out g w n H' post v w':=by
  rintro g w v w' ⟨sv,H1,n',g',hp,hn,hu',hk,hv',hH',hrw,hfr,hown⟩;refine ⟨sv,H1,n',g',hp,hn,hu',hk,hv',hH',hrw,⟨hfr.os,hfr.tape,hfr.output,hfr.size,fun k hk1 hk2=>hfr.block k hk1 (fun hq=>hk2 (hW k hq))⟩,?_⟩;intro h q b β e hb hc;rcases hown h q b β e hb hc with hh|hh
  .exact .inl (hW _ hh)
  .exact .inr hh
 rcases h with ⟨hb,h⟩|h
 .refine .inl ⟨hb,fun g w vals h1 h2 h3 h4=>(h g w vals h1 h2 (hH h3) h4).mono ?_⟩;rintro e w' ⟨v,rfl,hq⟩;exact ⟨v,rfl,ho hq⟩
 .refine .inr (fun g w vals h1 h2 h3 h4=> ?_);obtain ⟨v,w',hr,hq⟩:=h g w vals h1 h2 (hH h3) h4;exact ⟨v,w',hr,ho hq⟩
abbrev awL:List BCol:= [.sc (.ints .u8 [0]),.svs [.sl 2 0 0 2],.sc (.ints .u32 [0]),.sc (.bools [false])]
abbrev awO:List BCol:= [.sc (.ints .u8 [0]),.own 2 [2],.sc (.ints .u32 [0]),.sc (.bools [false])]
theorem b1n {g:G} {β:Base} {w:World} (B:BlkAt g β true (.cols 1 awL) w):BlkAt g β true (.cols 1 awO) w:=by
 refine ⟨B.lt,B.es,?_,B.cap,?_,B.one,(fun h=>by cases h),B.obj⟩
 .intro c hc;simp only [d0z,n0s,or_false] at hc;rcases hc with rfl|rfl|rfl|rfl<;>rfl
 .intro i j sv hi e;have hi':i<1:=hi;obtain rfl:i=0:=by omega
  refine B.cell 0 j sv hi ?_;rcases j with _|_|_|_|j<;>exact e
def awF:Fs:=⟨1,[0],[2],[0],[false],fun _=> [1000,50]⟩
theorem d1u:FsOk awF:=by
 refine ⟨by decide,rfl,rfl,rfl,rfl,?_,?_,?_,?_⟩
 .intro i hi;have hi':i<1:=hi;obtain rfl:i=0:=by omega
  decide
 .intro i hi;have hi':i<1:=hi;obtain rfl:i=0:=by omega
  decide
 .intro i hi;have hi':i<1:=hi;obtain rfl:i=0:=by omega
  rfl
 .intro i j hi hj;have hi':i<1:=hi;obtain rfl:i=0:=by omega
  have hj':j<2:=hj;rcases j with _|_|j
  .decide
  .decide
  .omega
theorem b1o:awF.vol=1045:=by decide
theorem b1p:∀h q b,¬Ent [(0,some (GB glT)),(1,some (.one true (.cols 1 awO))),(2,amF 1 [2] (fun _=> [1000,50]))] h q false b:=by
 intro h q b e;rcases a0l.1 e with ⟨rfl,hb2,e1,e2,e3⟩|⟨_,e⟩
 .cases e1;cases e3
 rcases a0l.1 e with ⟨rfl,hb2,e1,e2,e3⟩|⟨_,e⟩
 .cases e1;cases e3
 rcases a0l.1 e with ⟨rfl,hb2,e1,e2,e3⟩|⟨_,e⟩
 .cases e1;cases e3
 exact (i0n e).elim
theorem q0c:FC Tryz.prog 3 5 [.sl 1 0 0 1] [(0,some (GB glT)),(1,some (.one true (.cols 1 awL))),(2,some (.one true (.cols 2 [.sc (.ints .i64 [1000,50])])))] (a0d (.int .i64 1045) [] 3):=by
 have c:=j0P awF d1u;rw [b1o] at c;refine d1t (H:= [(0,some (GB glT)),(1,some (.one true (.cols 1 awO))),(2,amF 1 [2] (fun _=> [1000,50]))]) ?_ b1p c;intro g w hh;refine ⟨fun h q ro b e=> ?_,fun h q h' q' b ro' b' β β' _ e=>absurd e (b1p h q b)⟩;rcases a0l.1 e with ⟨rfl,hb2,e1,e2,e3⟩|⟨_,e⟩
 .exact hh.blk _ q ro b ⟨hb2,e1,e2,e3⟩
 rcases a0l.1 e with ⟨rfl,hb2,e1,e2,e3⟩|⟨_,e⟩
 .cases e1;obtain ⟨rfl,rfl⟩:=e2;cases e3;obtain ⟨β,hβ,B⟩:=hh.blk 1 0 true (.cols 1 awL) ⟨_,rfl,⟨rfl,rfl⟩,rfl⟩;exact ⟨β,hβ,b1n B⟩
 rcases a0l.1 e with ⟨rfl,hb2,e1,e2,e3⟩|⟨_,e⟩
 .cases e1;obtain ⟨hq,rfl⟩:=e2;cases e3;have hq':q<1:=hq;obtain rfl:q=0:=by omega
  exact hh.blk 2 0 true (.cols 2 [.sc (.ints .i64 [1000,50])]) ⟨_,rfl,⟨rfl,rfl⟩,rfl⟩
 exact (i0n e).elim
theorem u0W:FC Tryz.prog 1 4 [] [(0,some (GB glT))] (a0d (.bool true) [] 1):=by
 have c:=q0c;refine fEx Tryz.func4 ?_;repeat' ((conv=>whnf);first|refine cOx (l:= [0,2,1]) c ?_|refine a0a ?_|(apply bRx<;>intro h<;>try (exfalso;(try dsimp only at h);omega)))
 all_goals (conv=>whnf)
 all_goals first
  |exact rOz [0]
  |trace_state
end
section
attribute [local irreducible] a0u a0v a0j b0b
theorem b1q (f:Fs):0<=f.vol:=by unfold Fs.vol m0y;omega
def b1L (f:Fs) (j k:Nat):Prop:=1<=(f.A j).getD k 0/\(f.A j).getD k 0<=1000000000
def e1o (f:Fs) (j:Nat):Prop:=(1<=f.ns.getD j 0/\f.ns.getD j 0<=20)/\∀k,k<f.ns.getD j 0->b1L f j k
set_option maxHeartbeats 4000000 in
theorem g0B (f:Fs) (hl:f.l<=9223372036854775807) (hnl:f.ns.length=f.l) (h0:f.q0.length=f.l) (h2:f.q2.length=f.l) (h3:f.q3.length=f.l) (hN:∀i,i<f.l->0<=f.q0.getD i 0/\f.q0.getD i 0<=255) (hal:∀i,i<f.l->(f.A i).length=f.ns.getD i 0) (hns:∀i,f.ns.getD i 0<=9223372036854775807):
  FC Tryz.prog 3 3 [.sl 1 0 0 f.l] [(0,some (GB glT)),(1,flB f.l f.q0 f.ns f.q2 f.q3),(2,amF f.l f.ns f.A)] (a0d (.bool true) [] 3):=by
 have aw:=u0W;refine fEx Tryz.func3 ?_;repeat' ((conv=>whnf);first|refine cOx (l:= [0]) aw ?_|refine a0a ?_|(apply bRx<;>intro h<;>try (exfalso;(try dsimp only at h);omega)))
 all_goals (conv=>whnf)
 all_goals first
  |exact rOz [0,1,2]
  |skip
 refine a0n (fun i:Nat=>⟨[(0,.sl 1 0 0 f.l),(2,.bool false),(3,.int .i64 i)],[(0,some (GB glT)),(1,flB f.l f.q0 f.ns f.q2 f.q3),(2,amF f.l f.ns f.A)],3⟩) (fun i=>i<=f.l/\∀j,j<i->e1o f j) (fun i=>f.l-i) 0 [0,1,2] [] wHx ⟨k0R _,fun j hj=>absurd hj (s0d _)⟩ ?_;rintro i ⟨hi,hok⟩;have l6:f.l<=6:=by omega
 clear h;by_cases hil:i<f.l
 .have hn:=hns i;by_cases hb:1<=f.ns.getD i 0/\f.ns.getD i 0<=20
  .have hg:¬(20<((f.ns.getD i 0:Nat):Int)):=by omega
   have hz:¬(((f.ns.getD i 0:Nat):Int)=0):=by omega
   repeat' ((conv=>whnf);first|(refine ⟨hil,?_⟩)|refine cOx (l:= [0]) aw ?_|refine a0a ?_|(apply bRx<;>intro h<;>try (exfalso;(try dsimp only at h);omega)))
   all_goals (conv=>whnf)
   all_goals first
    |(exfalso;omega)
    |exact absurd h hg
    |exact absurd h hz
    |skip
   refine a0n (fun k:Nat=>⟨[(0,.sl 1 0 0 f.l),(2,.bool false),(3,.int .i64 i),(4,.int .i64 k)],[(0,some (GB glT)),(1,flB f.l f.q0 f.ns f.q2 f.q3),(2,amF f.l f.ns f.A)],3⟩) (fun k=>k<=f.ns.getD i 0/\∀j,j<k->b1L f i j) (fun k=>f.ns.getD i 0-k) 0 [0,1,2] [] wHx ⟨k0R _,fun j hj=>absurd hj (s0d _)⟩ ?_;clear h hg hz;rintro k ⟨hk,hak⟩;by_cases hkl:k<f.ns.getD i 0
   .have hkz:(k:Int)<((f.ns.getD i 0:Nat):Int):=by omega
    by_cases ha:b1L f i k
    .obtain ⟨a1,a2⟩:=ha;have b1:¬((f.A i).getD k 0<1):=by omega
     have b2:¬(1000000000<(f.A i).getD k 0):=by omega
     repeat' ((conv=>whnf);first|(refine ⟨hil,?_⟩)|(refine ⟨⟨hil,v0W _,hkz⟩,?_⟩)|refine a0a ?_|(apply bRx<;>intro h<;>try (exfalso;(try dsimp only at h);omega)))
     all_goals (conv=>whnf)
     all_goals first
      |exact absurd h b1
      |exact absurd h b2
      |exact absurd hkz h
      |exact ⟨k+1,[0,1,2],[],⟨hkl,fun j hj=>(by
        by_cases e:j=k
        .subst e;exact ⟨a1,a2⟩
        .exact hak j (by omega))⟩,(show f.ns.getD i 0-(k+1)<f.ns.getD i 0-k by omega),⟨rfl,⟨rfl,rfl,rfl,congrArg (fun z=>some (SV.int .i64 z)) (a0G (by omega)),trivial⟩,⟨gwk rfl,rfl,rfl,trivial⟩⟩⟩
      |trace_state
    .have b1:(f.A i).getD k 0<1\/1000000000<(f.A i).getD k 0:=by unfold b1L at ha;omega
     repeat' ((conv=>whnf);first|(refine ⟨hil,?_⟩)|(refine ⟨⟨hil,v0W _,hkz⟩,?_⟩)|refine cOx (l:= [0]) aw ?_|refine a0a ?_|(apply bRx<;>intro h<;>try (exfalso;(try dsimp only at h);omega)))
     all_goals (conv=>whnf)
     all_goals first
      |exact rOz [0,1,2]
      |exact absurd hkz h
      |(exfalso;rcases b1 with b1|b1;first|exact absurd b1 h|(rename_i h1 h2;exact absurd b1 h1)|(rename_i h1;exact absurd b1 h1);exact absurd b1 h)
      |trace_state
   .obtain rfl:k=f.ns.getD i 0:=by omega
    have hnk:¬(((f.ns.getD i 0:Nat):Int)<((f.ns.getD i 0:Nat):Int)):=by omega
    repeat' ((conv=>whnf);first|(refine ⟨hil,?_⟩)|refine a0a ?_|(apply bRx<;>intro h<;>try (exfalso;(try dsimp only at h);omega)))
    all_goals (conv=>whnf)
    all_goals first
     |exact absurd h hnk
     |(rename_i h1;exact absurd h1 hnk)
     |(rename_i h1 h2;exact absurd h1 hnk)
     |exact ⟨i+1,[0,1,2],[],⟨hil,fun j hj=>(by
       by_cases e:j=i
       .subst e;exact ⟨hb,hak⟩
       .exact hok j (by omega))⟩,(show f.l-(i+1)<f.l-i by omega),⟨rfl,⟨rfl,rfl,congrArg (fun z=>some (SV.int .i64 z)) (a0G (by omega)),trivial⟩,⟨gwk rfl,rfl,rfl,trivial⟩⟩⟩
     |trace_state
  .have hz:20<((f.ns.getD i 0:Nat):Int)\/((f.ns.getD i 0:Nat):Int)=0:=by omega
   repeat' ((conv=>whnf);first|(refine ⟨hil,?_⟩)|refine cOx (l:= [0]) aw ?_|refine a0a ?_|(apply bRx<;>intro h<;>try (exfalso;(try dsimp only at h);omega)))
   all_goals (conv=>whnf)
   all_goals first
    |exact rOz [0,1,2]
    |(exfalso;omega)
    |(rename_i h1;rcases hz with hz|hz;exact absurd hz h1;exact absurd hz h)
    |trace_state
 .have ok:FsOk f:=⟨l6,hnl,h0,h2,h3,hN,fun i hi=>(hok i (by omega)).1,hal,fun i j hi hj=>(hok i (by omega)).2 j hj⟩;have c:=j0P f ok;have hv:=b1q f;generalize f.vol=V at*;repeat' ((conv=>whnf);first|(refine ⟨hil,?_⟩)|refine cOx (l:= [0,1,2]) c ?_|refine cOx (l:= [0]) aw ?_|refine a0a ?_|(apply bRx<;>intro h<;>try (exfalso;(try dsimp only at h);omega)))
  all_goals (conv=>whnf)
  all_goals first
   |(exfalso;omega)
   |exact rOz [0,1,2]
   |trace_state
end
end Go.Proofs.YtclhnagdmajfkaaGreatDoor
namespace Go.Proofs.YtclhnagdmajfkaaGreatDoor
open Go.RowKit Go.Sy
theorem topSettlement_fc (l0:Nat) (hl0:l0<=maxLen) (ns0:List Nat) (ens0:ns0.length=l0) (hns0:∀i,i<l0->ns0.getD i 0<=maxLen) (q0_0:List Int) (eq0_0:q0_0.length=l0) (wq0_0:∀x∈q0_0,(Lit.int .u8 x).wf=true) (q0_2:List Int) (eq0_2:q0_2.length=l0) (wq0_2:∀x∈q0_2,(Lit.int .u32 x).wf=true) (q0_3:List Bool) (eq0_3:q0_3.length=l0) (z0_0:Nat->List Int) (ez0_0:∀i,i<l0->(z0_0 i).length=ns0.getD i 0) (wz0_0:∀i,i<l0->∀x∈z0_0 i,(Lit.int .i64 x).wf=true):
  FC Tryz.prog 3 3 [.sl 1 0 0 l0] [(0,some (GB glT)),(1,some (.one true (.cols l0 [.sc (.ints .u8 q0_0),.own 2 ns0,.sc (.ints .u32 q0_2),.sc (.bools q0_3)]))),(2,some (.fam true (fun x=>x<l0) (fun x=> .cols (ns0.getD x 0) [.sc (.ints .i64 (z0_0 x))])))] (a0d (.bool true) [] 3):=by
 have g8:∀{n:Int},(Lit.int .u8 n).wf=true->0<=n/\n<=255:=by
  intro n h;simp only [Lit.wf,c0q,decide_eq_true_eq] at h;exact h
 have hN:∀i,i<l0->0<=q0_0.getD i 0/\q0_0.getD i 0<=255:=fun i _=>by
  rw [List.getD];cases e:q0_0[i]? with
  |none=>exact ⟨e1E 0,by decide⟩
  |some x=>exact g8 (wq0_0 x (s0h e))
 have hns:∀i,ns0.getD i 0<=9223372036854775807:=fun i=>by
  by_cases h:i<l0
  .exact s0e (hns0 i h) (by decide)
  .rw [List.getD,f0k (by omega)];exact k0R _
 exact g0B ⟨l0,q0_0,ns0,q0_2,q0_3,z0_0⟩ (s0e hl0 (by decide)) ens0 eq0_0 eq0_2 eq0_3 hN ez0_0 hns
end Go.Proofs.YtclhnagdmajfkaaGreatDoor
