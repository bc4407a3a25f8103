/- Several texts in one: Th2 TopHoldsC. -/
import Derived.Test.YtedoefigabpmpaaGreatDoorP5
set_option linter.unusedVariables false
set_option linter.unusedSimpArgs false
set_option maxRecDepth 100000
namespace Go.Sy
abbrev z0W:=@List.map_append
abbrev z0X:=@List.length_set
end Go.Sy
namespace Go.Proofs.YtedoefigabpmpaaGreatDoor
open Go.RowKit Go.Sy
section
attribute [local irreducible] a0G a0H a0q b0H
theorem l0u (E:List El) (k:Nat) (t:Int) (hk:E.length=k) (h6:k<=1000):FC Tryz.prog 2 52 [.agg [.int .i64 t,.sl 1 0 0 k]] [(1,some (.one true (elK k E)))] (a0h (.agg [.int .i64 t,.sl 2 0 0 k]) [(2,some (.one false (elK k E)))] 3):=by
 have e1:seg 0 k (E.map (·.1))=E.map (·.1):=by unfold seg;rw [List.drop_zero,v0E (by simp [hk])]
 have e2:seg 0 k (E.map (·.2))=E.map (·.2):=by unfold seg;rw [List.drop_zero,v0E (by simp [hk])]
 have er:(some (HB.one false (.cols k [.sc (.ints .i64 (seg 0 k (E.map (·.1)))),.sc (.strs (seg 0 k (E.map (·.2))))])):Option HB)=some (.one false (elK k E)):=by rw [e1,e2]
 refine fEx Tryz.func52 ?_;repeat' ((conv=>whnf);first|refine a0a ?_|(apply bRx<;>intro h<;>try (exfalso;(try dsimp only at h);omega)))
 all_goals (conv=>whnf)
 exact a0y (l:= [0,1,4]) rfl rfl ⟨er,trivial⟩ (a0b a0c)
theorem o0T:FC Tryz.prog 1 52 [.agg [.int .i64 0,.nsl]] [] (a0h (.agg [.int .i64 0,.sl 1 0 0 0]) [(1,some (.one false (elK 0 [])))] 2):=by
 refine fEx Tryz.func52 ?_;repeat' ((conv=>whnf);first|refine a0a ?_|(apply bRx<;>intro h<;>try (exfalso;(try dsimp only at h);omega)))
 all_goals (conv=>whnf)
 exact rOx [0,3] (a0b a0c)
theorem o0U (dom:Nat->Prop) (F:Nat->Blk) (i:Nat) (E:List El) (k:Nat) (t:Int) (hi:dom i) (hF:F i=elK k E) (hk:E.length=k) (h6:k<=1000):FC Tryz.prog 2 52 [.agg [.int .i64 t,.sl 1 i 0 k]] [(1,some (.fam true dom F))] (a0h (.agg [.int .i64 t,.sl 2 0 0 k]) [(2,some (.one false (elK k E)))] 3):=by
 have c0:=w0o [(1,⟨i,dom,F⟩)] (by exact ⟨⟨by decide,by decide,_,_,rfl,hi,hF,.inl rfl⟩,trivial⟩) (by exact ⟨rfl,trivial⟩) (by exact ⟨rfl,trivial⟩) (a0b a0c) (l0u E k t hk h6);have e:SV.mems (fmu [(1,⟨i,dom,F⟩)]) [.agg [.int .i64 t,.sl 1 0 0 k]]= [.agg [.int .i64 t,.sl 1 i 0 k]]:=by
  show [SV.agg [.int .i64 t,.sl 1 (0+i) 0 k]]=_;rw [p0Z]
 rw [e] at c0;exact c0
abbrev rpR (ro km:Bool) (nr:Nat) (rk:List ByteArray) (rt:List Int) (rE:List (List El)):a0g:=bif km then [(2,some (.one ro (rpM nr rk rt rE))),(3,some (.fam ro (fun x=>x<nr) (fun x=>elK (rE.getD x []).length (rE.getD x []))))] else []
theorem m0C (now:Int) (km gm rm:Bool) (ng nr:Nat) (rk:List ByteArray) (rt:List Int) (rE:List (List El)) (key:ByteArray) (hn:rk.length=nr) (hk:km=true->¬a0k rk key<nr) (h3:rE.length=nr) (h4:rt.length=nr):FC Tryz.prog 13 25 [.ptr 1 0 0 0,.str key] ((1,some (.one true (hsB now km gm rm ng)))::rpR true km nr rk rt rE)
  (a0h (.tup [.agg [.int .i64 0,.sl 13 0 0 0],.bool false]) [(13,some (.one false (elK 0 [])))] 14):=by
 have c0:=o0T;cases km with
 |false=>
  cases gm<;>cases rm;all_goals refine fEx Tryz.func25 ?_
  all_goals repeat' ((conv=>whnf);first|refine cOx (l:= [0]) c0 ?_|refine a0a ?_|(apply bRx<;>intro h<;>try (exfalso;(try dsimp only at h);omega)))
  all_goals (conv=>whnf)
  all_goals exact rOx [0,1,2,3,4,5,6,7,8,9,10,11,12,15] (a0b a0c)
 |true=>
  have hk:=hk rfl;have hi:a0k rk key=nr:=by have:=f0O rk key;omega
  have hfd:a0N true nr [.sc (.ints .i64 rt),.own 3 (rE.map List.length)] (a0k rk key)= .agg [.int .i64 0,.nsl]:=by
   unfold a0N;rw [decide_eq_false hk,hi];simp only [Col.at,cond_false];rw [List.getD,h0t (by omega)];rfl
  have hdec:decide (a0k rk key<nr)=false:=decide_eq_false hk;cases gm<;>cases rm;all_goals refine fEx Tryz.func25 ?_
  all_goals repeat' ((conv=>whnf);first|(rw [hfd,hdec])|refine cOx (l:= [0]) c0 ?_|refine a0a ?_|(apply bRx<;>intro h<;>try (exfalso;(try dsimp only at h);omega)))
  all_goals (conv=>whnf)
  all_goals exact rOx [0,1,2,3,4,5,6,7,8,9,10,11,12,15] (a0b a0c)
theorem l0v (now:Int) (gm rm:Bool) (ng nr:Nat) (rk:List ByteArray) (rt:List Int) (rE:List (List El)) (key:ByteArray) (i k:Nat) (hi:a0k rk key=i) (hin:i<nr) (h3:rE.length=nr) (hk:(rE.getD i []).length=k) (h6:k<=1000):FC Tryz.prog 13 25 [.ptr 1 0 0 0,.str key] ((1,some (.one true (hsB now true gm rm ng)))::rpR true true nr rk rt rE)
  (a0h (.tup [.agg [.int .i64 (rt.getD i 0),.sl 13 0 0 k],.bool true]) [(13,some (.one false (elK k (rE.getD i []))))] 14):=by
 have c0:=o0U (fun x=>x<nr) (fun x=>elK (rE.getD x []).length (rE.getD x [])) i (rE.getD i []) k (rt.getD i 0) hin (by show elK _ _=_;rw [hk]) hk h6;have hfd:a0N true nr [.sc (.ints .i64 rt),.own 3 (rE.map List.length)] (a0k rk key)= .agg [.int .i64 (rt.getD i 0),.sl 3 i 0 k]:=by
  unfold a0N;rw [hi,decide_eq_true hin];simp only [Col.at,cond_true];have:(rE.map List.length).getD i 0=k:=by
   rw [<-hk,List.getD,List.getD,m0i,f0N (by omega)];rfl
  rw [this]
 have hdec:decide (a0k rk key<nr)=true:=by rw [hi];exact decide_eq_true hin
 cases gm<;>cases rm;all_goals refine fEx Tryz.func25 ?_
 all_goals repeat' ((conv=>whnf);first|(rw [hfd,hdec])|refine cOx (l:= [0,3]) c0 ?_|refine a0a ?_|(apply bRx<;>intro h<;>try (exfalso;(try dsimp only at h);omega)))
 all_goals (conv=>whnf)
 all_goals first
  |exact rOx [0,1,2,3,4,5,6,7,8,9,10,11,12,15] (a0b a0c)
  |trace_state
end
section
attribute [local irreducible] a0G a0H a0q b0H
abbrev rqV (t:Int) (k:Nat) (at_ date:Int) (ref orig num cur:ByteArray) (amt:Int):SV:= .agg [.int .i64 t,.sl 13 0 0 k,.int .i64 at_,.int .i64 date,.str ref,.str orig,.str num,.str cur,.int .i64 amt,.ptr 5 0 0 0]
theorem w0P (now:Int) (km gm rm:Bool) (ng:Nat) (E:List El) (k:Nat) (t at_ date:Int) (hk:E.length=k) (h6:k<=1000) (hc:geV E 2=c0I) (hz:(geV E 4).size<=1000000):FC Tryz.prog 14 28 [.ptr 1 0 0 0,.int .i64 at_,.int .i64 date,.agg [.int .i64 t,.sl 13 0 0 k]] [(1,some (.one true (hsB now km gm rm ng))),(4,some (.one true hoM)),(13,some (.one true (elK k E)))]
  (a0h (rqV t k at_ date (geV E 37) (geV E 56) c0I (geV E 49) (nuV E 4)) [] 14):=by
 have c1:=b0z E k t 37 hk (by omega);have c2:=b0z E k t 56 hk (by omega);have c3:=b0z E k t 2 hk (by omega);have c4:=b0z E k t 49 hk (by omega);have c5:=i0K E k t 4 hk (by omega) hz;rw [hc] at c3;generalize geV E 37=a at*;generalize geV E 56=b at*;generalize geV E 49=d at*;generalize nuV E 4=e at*;generalize nuE E 4=f at*;cases km<;>cases gm<;>cases rm;all_goals refine fEx Tryz.func28 ?_
 all_goals repeat' ((conv=>whnf);first|refine cOx (l:= [0,13]) c1 ?_|refine cOx (l:= [0,13]) c2 ?_|refine cOx (l:= [0,13]) c3 ?_|refine cOx (l:= [0,13]) c4 ?_|refine cOx (l:= [0,13]) c5 ?_|refine a0a ?_|(apply bRx<;>intro h<;>try (exfalso;(try dsimp only at h);omega)))
 all_goals (conv=>whnf)
 all_goals first
  |exact rOx [0,1,2,3,4,5,6,7,8,9,10,11,12,13] a0c
  |trace_state
def puK (n:Nat) (ks:List ByteArray) (key:ByteArray):List ByteArray:=if a0k ks key<n then ks else ks++ [key]
def puN (n:Nat) (ks:List ByteArray) (key:ByteArray):Nat:=if a0k ks key<n then n else n+1
theorem w0Q {n:Nat} {ks:List ByteArray} (h:ks.length=n) (key:ByteArray):(puK n ks key).length=puN n ks key:=by
 unfold puK puN;split
 .exact h
 .rw [p0P,h];rfl
theorem w0R {n:Nat} {ks:List ByteArray} (h:ks.length=n) (key:ByteArray):(some (HB.one false (.obj (.map false false (if a0k ks key<n then n else n+1) [.strs (b0w (a0k ks key) key ks)] [.sc (.bools (b0w (a0k ks key) true (List.replicate n true)))] (if a0k ks key<n then List.range n else List.range n++ [n]) (if a0k ks key<n then n else n+1)))):Option HB)=some (.one false (rvM (puN n ks key) (puK n ks key))):=by
 have hle:=f0O ks key;rw [f0P];unfold puN puK;by_cases hi:a0k ks key<n
 .have e:b0w (a0k ks key) true (List.replicate n true)=List.replicate n true:=by
   unfold b0w;rw [if_pos (by simpa using hi)];simp
  rw [if_pos hi,if_pos hi,if_pos hi,if_pos (by omega),e]
 .have e:a0k ks key=n:=by omega
  have e2:b0w n true (List.replicate n true)=List.replicate (n+1) true:=by
   unfold b0w;rw [if_neg (by simp),List.replicate_succ']
  rw [if_neg hi,if_neg hi,if_neg hi,if_neg (by omega),e,e2,<-List.range_succ]
theorem q0J (now:Int) (km gm rm:Bool) (ng nv:Nat) (rv:List ByteArray) (key:ByteArray) (hn:rv.length=nv) (h0:rm=false->nv=0/\rv= []):FC Tryz.prog 13 99 [.ptr 1 0 0 9,.str key,.bool true] ((1,some (.one false (hsB now km gm rm ng)))::(bif rm then [(12,some (.one false (rvM nv rv)))] else []))
  (a0h (.tup []) [(1,some (.one false (hcB now (mS km 2) (sS gm 9 ng) (mS gm 11) (.map 13 0)))),(13,some (.one false (rvM (puN nv rv key) (puK nv rv key))))] 14):=by
 have hp:=w0R hn key;cases rm with
 |true=>
  cases km<;>cases gm;all_goals refine fEx Tryz.func99 ?_
  all_goals repeat' ((conv=>whnf);first|refine a0a ?_|(apply bRx<;>intro h<;>try (exfalso;(try dsimp only at h);omega)))
  all_goals (conv=>whnf)
  all_goals first
   |exact a0y (l:= [0,1,2,3,4,5,6,7,8,9,10,11,12,12]) rfl rfl ⟨rfl,hp,trivial⟩ (a0b (a0b a0c))
   |trace_state
 |false=>
  obtain ⟨rfl,rfl⟩:=h0 rfl;cases km<;>cases gm;all_goals refine fEx Tryz.func99 ?_
  all_goals repeat' ((conv=>whnf);first|refine a0a ?_|(apply bRx<;>intro h<;>try (exfalso;(try dsimp only at h);omega)))
  all_goals (conv=>whnf)
  all_goals first
   |exact rOx [0,1,2,3,4,5,6,7,8,9,10,11,12,13] (a0b (a0b a0c))
   |trace_state
end
section
attribute [local irreducible] a0G a0H a0q b0H
abbrev i14:List Nat:= [0,1,2,3,4,5,6,7,8,9,10,11,12,13]
abbrev r0h (nr:Nat) (rk:List ByteArray) (rt:List Int) (c:BCol):Blk:= .obj (.map false true nr [.strs rk] [.sc (.ints .i64 rt),c] (List.range nr) nr)
theorem w0S {n:Nat} {ks:List ByteArray} {rt:List Int} {L:List SV} {v:SV} {t:Int} {key:ByteArray} (h:ks.length=n) (h2:rt.length=n) (h3:L.length=n) (hi:¬a0k ks key<n):(some (HB.one false (.obj (.map false true (if a0k ks key<n then n else n+1) [.strs (b0w (a0k ks key) key ks)] [.sc (.ints .i64 (b0w (a0k ks key) t rt)),.svs (b0w (a0k ks key) v L)] (if a0k ks key<n then List.range n else List.range n++ [n]) (if a0k ks key<n then n else n+1)))):Option HB)=some (.one false (r0h (n+1) (ks++ [key]) (rt++ [t]) (.svs (L++ [v])))):=by
 have hle:=f0O ks key;have e:a0k ks key=n:=by omega
 have p:∀{α:Type} (l:List α) (x:α),l.length=n->b0w n x l=l++ [x]:=fun l x hl=>by unfold b0w;rw [if_neg (by omega)]
 rw [f0P,if_neg hi,if_neg hi,if_neg (by omega),e,p _ _ h2,p _ _ h3,<-List.range_succ]
abbrev reF (rE:List (List El)):Nat->Blk:=fun x=>elK (rE.getD x []).length (rE.getD x [])
theorem w0T {rE:List (List El)} {E:List El} {n q:Nat} (h:rE.length=n) (hq:q<n):reF (rE++ [E]) q=reF rE q:=by
 unfold reF;rw [List.getD,List.getD,m0j (by omega)]
theorem w0U {rE:List (List El)} {E:List El} {n k:Nat} (h:rE.length=n) (hk:E.length=k):reF (rE++ [E]) n=elK k E:=by
 unfold reF;rw [List.getD,m0f (by omega),h,x0N];subst hk;rfl
abbrev rpD (nb:Nat) (rE:List (List El)):List GD:= [⟨3,nb,reF rE⟩]
theorem t0z {H:a0g} {n th nr nb k:Nat} {rk:List ByteArray} {rt:List Int} {rE:List (List El)} {E:List El} (hth:th<n) (hn:14<=n) (hnb:nb<n) (h3:rE.length=nr) (hk:E.length=k) (ht:a0t H th=some (.one false (r0h (nr+1) rk rt (.svs (g0s 3 (rE.map List.length)++ [.sl nb 0 0 k]))))) (hf:0<nr->a0t H 3=some (.fam false (fun x=>x<nr) (reF rE))) (hb:a0t H nb=some (.one false (elK k E))) (hd:3≠th/\nb≠th) (hdist:n0v (rpD nb (rE++ [E]))=true):
  Relab H n (gdR n nr (rpD nb (rE++ [E]))) (fun _=>0) ((th,some (.one false (r0h (nr+1) rk rt (.own n ((rE++ [E]).map List.length)))))::gdN n (nr+1) 0 (rpD nb (rE++ [E]))) [3,nb] 1:=by
 have r0:∀q,q<nr->gdR n nr (rpD nb (rE++ [E])) n q=some (3,q):=fun q hq=>j0C (D:=rpD nb (rE++ [E])) (i:=0) (d:=⟨3,nb,reF (rE++ [E])⟩) rfl hq
 have s0:gdR n nr (rpD nb (rE++ [E])) n nr=some (nb,0):=j0D (D:=rpD nb (rE++ [E])) (i:=0) (d:=⟨3,nb,reF (rE++ [E])⟩) rfl;have e:(rE++ [E]).map List.length=rE.map List.length++ [k]:=by rw [z0W,<-hk];rfl
 rw [e];exact i0H (n:=n) [⟨th,r0h (nr+1) rk rt (.svs (g0s 3 (rE.map List.length)++ [.sl nb 0 0 k])),r0h (nr+1) rk rt (.own n (rE.map List.length++ [k]))⟩] (rpD nb (rE++ [E]))
  ⟨⟨hth,ht,s0f ⟨q0b _,⟨fun _=>by show (rE.map List.length++ [k]).length=_;rw [p0P,y0P,h3];rfl,u0D (by rw [y0P];exact h3) (h0Z _) r0 s0⟩,trivial⟩⟩,trivial⟩
  ⟨⟨fun t ht=>by rw [p0T] at ht;subst ht;exact hd,fun h0=>⟨_,_,hf h0,fun q hq=>⟨hq,.inl (w0T h3 hq)⟩⟩,_,hb,.inl (w0U h3 hk)⟩,trivial⟩ hdist
theorem v0d (now:Int) (km gm rm:Bool) (ng nr:Nat) (rk:List ByteArray) (rt:List Int) (rE:List (List El)) (key:ByteArray) (t:Int) (k:Nat) (E:List El) (hE:E.length=k) (hn:rk.length=nr) (h2:rt.length=nr) (h3:rE.length=nr) (hk:¬a0k rk key<nr) (h0:km=false->nr=0/\rk= []/\rt= []/\rE= []):FC Tryz.prog 14 63 [.ptr 1 0 0 0,.str key,.agg [.int .i64 t,.sl 13 0 0 k]] ((1,some (.one false (hsB now km gm rm ng)))::(13,some (.one false (elK k E)))::(bif km then [(2,some (.one false (rpM nr rk rt rE))),(3,some (.fam false (fun x=>x<nr) (reF rE)))] else []))
  (a0h (.tup []) [(1,some (.one false (hcB now (.map 14 0) (sS gm 9 ng) (mS gm 11) (mS rm 12)))),(14,some (.one false (r0h (nr+1) (rk++ [key]) (rt++ [t]) (.own 15 ((rE++ [E]).map List.length))))),(15,some (.fam false (fun x=>x<nr+1) (reF (rE++ [E]))))] 16):=by
 have hp:=w0S (v:= .sl 13 0 0 k) (L:=g0s 3 (rE.map List.length)) (t:=t) hn h2 (by rw [b0c,y0P];exact h3) hk;cases km with
 |true=>
  cases gm<;>cases rm;all_goals refine fEx Tryz.func63 ?_
  all_goals repeat' ((conv=>whnf);first|refine a0a ?_|(apply bRx<;>intro h<;>try (exfalso;(try dsimp only at h);omega)))
  all_goals (conv=>whnf)
  all_goals exact k0Y (l:= [0,1,2,3,4,5,6,7,8,9,10,11,12,13,2,15]) [.relab (gdR 15 nr (rpD 13 (rE++ [E]))) (fun _=>0) ((2,some (.one false (r0h (nr+1) (rk++ [key]) (rt++ [t]) (.own 15 ((rE++ [E]).map List.length)))))::gdN 15 (nr+1) 0 (rpD 13 (rE++ [E]))) [3,13] 1] ⟨t0z (n:=15) (th:=2) (nb:=13) (by decide) (by decide) (by decide) h3 hE hp (fun _=>rfl) rfl (by decide) rfl,rfl,rfl,⟨rfl,rfl,rfl,trivial⟩⟩ (a0b (a0b (b0E a0c)))
 |false=>
  obtain ⟨rfl,rfl,rfl,rfl⟩:=h0 rfl;cases gm<;>cases rm;all_goals refine fEx Tryz.func63 ?_
  all_goals repeat' ((conv=>whnf);first|refine a0a ?_|(apply bRx<;>intro h<;>try (exfalso;(try dsimp only at h);omega)))
  all_goals (conv=>whnf)
  all_goals exact k0Y (l:= [0,1,2,3,4,5,6,7,8,9,10,11,12,13,15,16]) [.relab (gdR 16 0 (rpD 13 ([]++ [E]))) (fun _=>0) ((15,some (.one false (r0h 1 [key] [t] (.own 16 (([]++ [E]).map List.length)))))::gdN 16 1 0 (rpD 13 ([]++ [E]))) [3,13] 1] ⟨t0z (n:=16) (th:=15) (nb:=13) (nr:=0) (rE:= []) (E:=E) (rk:= [key]) (rt:= [t]) (by decide) (by decide) (by decide) rfl hE rfl (fun h=>absurd h (by decide)) rfl (by decide) rfl,rfl,rfl,⟨rfl,rfl,rfl,trivial⟩⟩ (a0b (a0b (b0E a0c)))
theorem o0V (now:Int) (km gm rm:Bool) (ng nr:Nat) (rk:List ByteArray) (rt:List Int) (rE:List (List El)) (key:ByteArray) (t:Int) (k:Nat) (E:List El) (hE:E.length=k) (h6:k<=1000) (hn:rk.length=nr) (h2:rt.length=nr) (h3:rE.length=nr) (hk:¬a0k rk key<nr) (h0:km=false->nr=0/\rk= []/\rt= []/\rE= []):FC Tryz.prog 14 29 [.ptr 1 0 0 0,.str key,.agg [.int .i64 t,.sl 13 0 0 k]] ((1,some (.one false (hsB now km gm rm ng)))::(13,some (.one true (elK k E)))::(bif km then [(2,some (.one false (rpM nr rk rt rE))),(3,some (.fam false (fun x=>x<nr) (reF rE)))] else []))
  (a0h (.tup []) [(1,some (.one false (hcB now (.map 14 0) (sS gm 9 ng) (mS gm 11) (mS rm 12)))),(14,some (.one false (r0h (nr+1) (rk++ [key]) (rt++ [t]) (.own 15 ((rE++ [E]).map List.length))))),(15,some (.fam false (fun x=>x<nr+1) (reF (rE++ [E]))))] 16):=by
 have c0:=l0u E k t hE h6;have c1:=v0d now km gm rm ng nr rk rt rE key t k E hE hn h2 h3 hk h0;clear h0;cases km<;>cases gm<;>cases rm;all_goals refine fEx Tryz.func29 ?_
 all_goals repeat' ((conv=>whnf);first|refine cOx (l:= [0,13]) c0 ?_|refine cOx (l:= [0,1,2,3,4,5,6,7,8,9,10,11,12,15]) c1 ?_|refine a0a ?_|(apply bRx<;>intro h<;>try (exfalso;(try dsimp only at h);omega)))
 all_goals (conv=>whnf)
 all_goals first
  |exact rOx [0,1,2,3,4,5,6,7,8,9,10,11,12,13,16,17] (a0b (a0b (b0E a0c)))
  |trace_state
end
section
attribute [local irreducible] a0G a0H a0q b0H
theorem n0Q (ρ:Nat->Nat):∀(a b:List SV),SV.rens ρ (a++b)=SV.rens ρ a++SV.rens ρ b
 | [],b=>rfl
 |x::a,b=>by show SV.ren ρ x::SV.rens ρ (a++b)=_;rw [n0Q ρ a b];rfl
theorem n0R (ρ:Nat->Nat) (f:Nat->SV):∀l:List Nat,SV.rens ρ (l.map f)=l.map (fun x=>SV.ren ρ (f x))
 | []=>rfl
 |x::l=>by show SV.ren ρ (f x)::SV.rens ρ (l.map f)=_;rw [n0R ρ f l];rfl
theorem q0K (ρ:Nat->Nat) (h m:Nat):SV.rens ρ (d0w h m)=d0w (ρ h) m:=by unfold d0w;rw [n0R];rfl
def grX (m:Nat) (ks:List ByteArray) (h nb:Nat):Blk:= .obj (.map false false (m+1) [.strs ks] [.svs (d0w h m++ [.ptr nb 0 0 0])] (List.range (m+1)) (m+1))
theorem q0L (ρ:Nat->Nat) (m:Nat) (ks:List ByteArray) (h nb:Nat):(HB.one false (grX m ks h nb)).ren ρ= .one false (grX m ks (ρ h) (ρ nb)):=by
 unfold grX;simp only [HB.ren,Blk.ren,ObjS.ren,b0W,BCol.ren,n0Q,q0K];rfl
theorem w0V {m h nb:Nat} {ks:List ByteArray} {key:ByteArray} (h1:ks.length=m) (hi:¬a0k ks key<m):(some (HB.one false (.obj (.map false false (if a0k ks key<m then m else m+1) [.strs (b0w (a0k ks key) key ks)] [.svs (b0w (a0k ks key) (.ptr nb 0 0 0) (d0w h m))] (if a0k ks key<m then List.range m else List.range m++ [m]) (if a0k ks key<m then m else m+1)))):Option HB)=some (.one false (grX m (ks++ [key]) h nb)):=by
 have hle:=f0O ks key;have e:a0k ks key=m:=by omega
 unfold grX;rw [f0P,if_neg hi,if_neg hi,if_neg (by omega),e,s0e,<-List.range_succ]
theorem w0W (now:Int) (km gm rm:Bool) (n m:Nat) (gs:List Au) (id:ByteArray) (hg:gs.length=m) (hk:¬a0k (gs.map Au.id) id<m) (h0:gm=false->m=0/\gs= []):FC Tryz.prog 14 133 [.ptr 1 0 0 8,.str id,.ptr 13 0 0 0] ((1,some (.one false (hcB now (mS km 2) (.sl 9 0 0 n) (mS gm 11) (mS rm 12))))::(bif gm then [(11,some (.one false (grM m gs)))] else []))
  (a0h (.tup []) [(1,some (.one false (hcB now (mS km 2) (.sl 9 0 0 n) (.map 14 0) (mS rm 12)))),(14,some (.one false (grX m (gs.map Au.id++ [id]) 10 13)))] 15):=by
 have hp:=w0V (h:=10) (nb:=13) (by rw [y0P];exact hg) hk;cases gm with
 |true=>
  have hr:=q0L (rho [0,1,2,3,4,5,6,7,8,9,10,11,12,13,11] 14) m (gs.map Au.id++ [id]) 10 13;cases km<;>cases rm;all_goals refine fEx Tryz.func133 ?_
  all_goals repeat' ((conv=>whnf);first|refine a0a ?_|(apply bRx<;>intro h<;>try (exfalso;(try dsimp only at h);omega)))
  all_goals (conv=>whnf)
  all_goals first
   |exact a0y (l:= [0,1,2,3,4,5,6,7,8,9,10,11,12,13,11]) rfl rfl ⟨rfl,hp.trans (congrArg some hr.symm),trivial⟩ (a0b (a0b a0c))
   |trace_state
 |false=>
  obtain ⟨rfl,rfl⟩:=h0 rfl;cases km<;>cases rm;all_goals refine fEx Tryz.func133 ?_
  all_goals repeat' ((conv=>whnf);first|refine a0a ?_|(apply bRx<;>intro h<;>try (exfalso;(try dsimp only at h);omega)))
  all_goals (conv=>whnf)
  all_goals first
   |exact rOx [0,1,2,3,4,5,6,7,8,9,10,11,12,13,14] (a0b (a0b a0c))
   |trace_state
abbrev gaF (gs:List Au):Nat->Blk:=fun x=>grB (gs.getD x Au.zero)
theorem w0X {gs:List Au} {a:Au} {n q:Nat} (h:gs.length=n) (hq:q<n):gaF (gs++ [a]) q=gaF gs q:=by
 unfold gaF;rw [List.getD,List.getD,m0j (by omega)]
theorem w0Y {gs:List Au} {a:Au} {n:Nat} (h:gs.length=n):gaF (gs++ [a]) n=grB a:=by
 unfold gaF;rw [List.getD,m0f (by omega),h,x0N];rfl
abbrev gaD (nb:Nat) (gs:List Au):List GD:= [⟨10,nb,gaF gs⟩]
abbrev w0Z (h n:Nat):Blk:= .cols n [.ptrs h n]
abbrev x0a (h n:Nat) (ks:List ByteArray):Blk:= .obj (.map false false n [.strs ks] [.ptrs h n] (List.range n) n)
theorem t0A {H:a0g} {n t1 t2 m nb:Nat} {ks:List ByteArray} {gs:List Au} {a:Au} (ht1:t1<n) (ht2:t2<n) (hg:gs.length=m) (e1:a0t H t1=some (.one false (.cols (m+1) [.svs (d0w 10 m++ [.ptr nb 0 0 0])]))) (e2:a0t H t2=some (.one false (grX m ks 10 nb))) (hf:0<m->a0t H 10=some (.fam false (fun x=>x<m) (gaF gs))) (hb:a0t H nb=some (.one false (grB a))) (hd:(10≠t1/\nb≠t1)/\10≠t2/\nb≠t2) (hdist:n0v (gaD nb (gs++ [a]))=true):
  Relab H n (gdR n m (gaD nb (gs++ [a]))) (fun _=>0) ((t1,some (.one false (w0Z n (m+1))))::(t2,some (.one false (x0a n (m+1) ks)))::gdN n (m+1) 0 (gaD nb (gs++ [a]))) [10,nb] 1:=by
 have r0:∀q,q<m->gdR n m (gaD nb (gs++ [a])) n q=some (10,q):=fun q hq=>j0C (D:=gaD nb (gs++ [a])) (i:=0) (d:=⟨10,nb,gaF (gs++ [a])⟩) rfl hq
 have s0:gdR n m (gaD nb (gs++ [a])) n m=some (nb,0):=j0D (D:=gaD nb (gs++ [a])) (i:=0) (d:=⟨10,nb,gaF (gs++ [a])⟩) rfl;exact i0H (n:=n) [⟨t1,.cols (m+1) [.svs (d0w 10 m++ [.ptr nb 0 0 0])],w0Z n (m+1)⟩,⟨t2,grX m ks 10 nb,x0a n (m+1) ks⟩] (gaD nb (gs++ [a]))
  ⟨⟨ht1,e1,s0c ⟨⟨fun _=>rfl,n0u (h0Z _) r0 s0⟩,trivial⟩⟩,⟨ht2,e2,by unfold grX;exact n0t rfl (n0u (h0Z _) r0 s0)⟩,trivial⟩
  ⟨⟨fun t ht=>by
    rcases j0x.1 ht with rfl|ht
    .exact hd.1
    .rw [p0T] at ht;subst ht;exact hd.2,fun h0=>⟨_,_,hf h0,fun q hq=>⟨hq,.inl (w0X hg hq)⟩⟩,_,hb,.inl (w0Y hg)⟩,trivial⟩ hdist
abbrev grR (ro gm:Bool) (m:Nat) (gs:List Au):a0g:=bif gm then [(9,some (.one ro (grS m))),(10,some (.fam ro (fun x=>x<m) (gaF gs))),(11,some (.one ro (grM m gs)))] else []
abbrev grO (m:Nat) (gs:List Au):a0g:= [(14,some (.one false (w0Z 15 m))),(15,some (.fam false (fun x=>x<m) (gaF gs))),(16,some (.one false (x0a 15 m (gs.map Au.id))))]
set_option maxHeartbeats 2000000 in
theorem q0M (now:Int) (km gm rm:Bool) (m:Nat) (gs:List Au) (u:Us) (a:Au) (t:Int) (k:Nat) (at_ date:Int) (ref orig cur:ByteArray) (amt:Int) (hg:gs.length=m) (h256:m<=256) (hk:¬a0k (gs.map Au.id) a.id<m) (h0:gm=false->m=0/\gs= []) (hd:0<=date/\date<=90000) (ha:0<=a.app/\a.app<=999999999999):
  ∃u',FC Tryz.prog 14 96 [.ptr 1 0 0 0,rqV t k at_ date ref orig c0I cur amt,a.s] ((1,some (.one false (hsB now km gm rm m)))::(5,some (.one true hoB))::(6,some (.one false (cdB 2 u)))::grR false gm m gs)
   (a0h (.tup []) ((1,some (.one false (hcB now (mS km 2) (.sl 14 0 0 (m+1)) (.map 16 0) (mS rm 12))))::(6,some (.one false (cdB 2 u')))::grO (m+1) (gs++ [a])) 17):=by
 obtain ⟨e,u',c1⟩:=w0K u date a.app hd ha;refine ⟨u',?_⟩;have c0:=w0W now km gm rm (m+1) m gs a.id hg hk h0;have hr:=q0L (rho [0,1,2,3,4,5,6,7,8,18,10,11,12,16] 19) m (gs.map Au.id++ [a.id]) 10 13;have em:(gs++ [a]).map Au.id=gs.map Au.id++ [a.id]:=by rw [z0W];rfl
 unfold grO;rw [em];obtain ⟨id,acur,app,rev,cle,exp,st,att,unt,pa⟩:=a;dsimp only at*;cases gm with
 |true=>
  clear h0;cases km<;>cases rm;all_goals refine fEx Tryz.func96 ?_
  all_goals repeat' ((conv=>whnf);first|refine cOx (l:= [0,1,2,3,4,5,6,7,8,18,10,11,12,16]) c0 ?_|refine cOx (l:= [0,6]) c1 ?_|refine a0a ?_|(apply bRx<;>intro h<;>try (exfalso;(try dsimp only at h);omega)))
  all_goals (conv=>whnf)
  all_goals exact k0Y (l:= [0,1,2,3,4,5,6,7,8,9,10,11,12,13,18,20,19]) [.relab (gdR 20 m (gaD 16 (gs++ [⟨id,acur,app,rev,cle,exp,st,att,unt,pa⟩]))) (fun _=>0) ((18,some (.one false (w0Z 20 (m+1))))::(19,some (.one false (x0a 20 (m+1) (gs.map Au.id++ [id]))))::gdN 20 (m+1) 0 (gaD 16 (gs++ [⟨id,acur,app,rev,cle,exp,st,att,unt,pa⟩]))) [10,16] 1] ⟨t0A (n:=20) (t1:=18) (t2:=19) (nb:=16) (m:=m) (gs:=gs) (a:=⟨id,acur,app,rev,cle,exp,st,att,unt,pa⟩) (by decide) (by decide) hg (by exact rfl) (by exact congrArg some hr) (fun _=>rfl) rfl (by decide) rfl,rfl,rfl,⟨rfl,rfl,rfl,rfl,rfl,trivial⟩⟩ (a0b (a0b (a0b (b0E (a0b a0c)))))
 |false=>
  obtain ⟨rfl,rfl⟩:=h0 rfl;cases km<;>cases rm;all_goals refine fEx Tryz.func96 ?_
  all_goals repeat' ((conv=>whnf);first|refine cOx (l:= [0,1,2,3,4,5,6,7,8,18,10,11,12,16]) c0 ?_|refine cOx (l:= [0,6]) c1 ?_|refine a0a ?_|(apply bRx<;>intro h<;>try (exfalso;(try dsimp only at h);omega)))
  all_goals (conv=>whnf)
  all_goals exact k0Y (l:= [0,1,2,3,4,5,6,7,8,9,10,11,12,13,18,20,19]) [.relab (gdR 20 0 (gaD 16 ([]++ [⟨id,acur,app,rev,cle,exp,st,att,unt,pa⟩]))) (fun _=>0) ((18,some (.one false (w0Z 20 (0+1))))::(19,some (.one false (x0a 20 (0+1) ([id]))))::gdN 20 (0+1) 0 (gaD 16 ([]++ [⟨id,acur,app,rev,cle,exp,st,att,unt,pa⟩]))) [10,16] 1] ⟨t0A (n:=20) (t1:=18) (t2:=19) (nb:=16) (m:=0) (gs:= []) (a:=⟨id,acur,app,rev,cle,exp,st,att,unt,pa⟩) (by decide) (by decide) hg (by exact rfl) (by exact congrArg some hr) (fun h=>absurd h (by decide)) rfl (by decide) rfl,rfl,rfl,⟨rfl,rfl,rfl,rfl,rfl,trivial⟩⟩ (a0b (a0b (a0b (b0E (a0b a0c)))))
end
section
attribute [local irreducible] a0G a0H a0q b0H
theorem m0D {gs:List Au} {i:Nat} {a:Au} (h:i<gs.length):(fun x=>if x=i then grB a else gaF gs x)=gaF (gs.set i a):=by
 funext x;unfold gaF;by_cases e:x=i
 .subst e;rw [if_pos rfl,List.getD,z0M h];rfl
 .rw [if_neg e,List.getD,List.getD,z0S (Ne.symm e)]
def Lf (gs:List Au) (i:Nat) (amt:Int) (ac:Acc) (gs':List Au) (ac':Acc):Prop:=
 (gs'=gs/\ac'=ac)\/∃a,(gs.getD i Au.zero).st=1/\0<amt-(gs.getD i Au.zero).app/\d0L (gs.getD i Au.zero) (amt-(gs.getD i Au.zero).app) (gs.getD i Au.zero).unt=(a,0)/\ac.foE a.id (amt-(gs.getD i Au.zero).app)=0/\gs'=gs.set i a/\ac'=ac.foA a.id (amt-(gs.getD i Au.zero).app)
theorem x0b (m i:Nat) (gs:List Au) (amt:Int) (ac:Acc) (hg:gs.length=m) (hi:i<m) (ha:0<=amt/\amt<=999999999999) (hp:0<=(gs.getD i Au.zero).app/\(gs.getD i Au.zero).app<=999999999999) (hz:∀a e,d0L (gs.getD i Au.zero) (amt-(gs.getD i Au.zero).app) (gs.getD i Au.zero).unt=(a,e)->a.id.size<=1000):
  ∃gs' ac',Lf gs i amt ac gs' ac'/\FC Tryz.prog 13 97 [.ptr 10 i 0 0,.int .i64 amt] [(5,some (.one true hoB)),(7,some (.one false (acB ac))),(8,some (.one false (acM ac))),(10,some (.fam false (fun x=>x<m) (gaF gs)))]
   (a0h (.tup []) [(7,some (.one false (acB ac'))),(8,some (.one false (acM ac'))),(10,some (.fam false (fun x=>x<m) (gaF gs')))] 13):=by
 have w1:IntKind.i64.wrap (amt-(gs.getD i Au.zero).app)=amt-(gs.getD i Au.zero).app:=a0r (by omega) (by omega);have c1:=o0Q (gs.getD i Au.zero) (amt-(gs.getD i Au.zero).app) (gs.getD i Au.zero).unt;by_cases h1:(gs.getD i Au.zero).st=1
 .by_cases h2:amt-(gs.getD i Au.zero).app<=0
  .refine ⟨gs,ac,.inl ⟨rfl,rfl⟩,?_⟩;refine fEx Tryz.func97 ?_;repeat' ((conv=>whnf);first|(rw [w1])|refine cPx c1 ?_|refine a0a ?_|(apply bRx<;>intro h<;>try (exfalso;(try dsimp only at h);omega)))
   all_goals (conv=>whnf)
   all_goals first
    |(exfalso;omega)
    |exact absurd h1 h
    |exact a0y (l:=i13) rfl rfl ⟨rfl,rfl,rfl,trivial⟩ (a0b (a0b (b0E a0c)))
    |trace_state
  .cases hr:d0L (gs.getD i Au.zero) (amt-(gs.getD i Au.zero).app) (gs.getD i Au.zero).unt with
   |mk a e=>
    have hs:=hz a e hr;rw [hr] at c1;by_cases he:e=0
    .subst he;have c2:=h0E ac a.id (amt-(gs.getD i Au.zero).app) (by omega);by_cases hf:ac.foE a.id (amt-(gs.getD i Au.zero).app)=0
     .refine ⟨gs.set i a,_,.inr ⟨a,h1,by omega,hr,hf,rfl,rfl⟩,?_⟩;rw [hf] at c2;have hset:=m0D (a:=a) (by omega:i<gs.length);generalize ac.foA a.id (amt-(gs.getD i Au.zero).app)=ac' at*;refine fEx Tryz.func97 ?_;repeat' ((conv=>whnf);first|(rw [w1])|refine cPx c1 ?_|refine cOx (l:= [0,7,8]) c2 ?_|refine a0a ?_|(apply bRx<;>intro h<;>try (exfalso;(try dsimp only at h);omega)))
      all_goals (conv=>whnf)
      all_goals first
       |(exfalso;omega)
       |exact absurd h1 h
       |exact a0y (l:=i13) rfl rfl ⟨rfl,rfl,congrArg (fun f=>some (HB.fam false (fun x=>x<m) f)) hset,trivial⟩ (a0b (a0b (b0E a0c)))
       |trace_state
     .refine ⟨gs,ac,.inl ⟨rfl,rfl⟩,?_⟩;rw [show ac.foA a.id (amt-(gs.getD i Au.zero).app)=ac from if_neg hf] at c2;generalize ac.foE a.id (amt-(gs.getD i Au.zero).app)=f at*;refine fEx Tryz.func97 ?_;repeat' ((conv=>whnf);first|(rw [w1])|refine cPx c1 ?_|refine cOx (l:= [0,7,8]) c2 ?_|refine a0a ?_|(apply bRx<;>intro h<;>try (exfalso;(try dsimp only at h);omega)))
      all_goals (conv=>whnf)
      all_goals first
       |(exfalso;omega)
       |exact absurd h1 h
       |exact absurd h hf
       |exact a0y (l:=i13) rfl rfl ⟨rfl,rfl,rfl,trivial⟩ (a0b (a0b (b0E a0c)))
       |trace_state
    .refine ⟨gs,ac,.inl ⟨rfl,rfl⟩,?_⟩;refine fEx Tryz.func97 ?_;repeat' ((conv=>whnf);first|(rw [w1])|refine cPx c1 ?_|refine a0a ?_|(apply bRx<;>intro h<;>try (exfalso;(try dsimp only at h);omega)))
     all_goals (conv=>whnf)
     all_goals first
      |(exfalso;omega)
      |exact absurd h1 h
      |exact absurd h he
      |exact a0y (l:=i13) rfl rfl ⟨rfl,rfl,rfl,trivial⟩ (a0b (a0b (b0E a0c)))
      |trace_state
 .refine ⟨gs,ac,.inl ⟨rfl,rfl⟩,?_⟩;refine fEx Tryz.func97 ?_;repeat' ((conv=>whnf);first|(rw [w1])|refine cPx c1 ?_|refine a0a ?_|(apply bRx<;>intro h<;>try (exfalso;(try dsimp only at h);omega)))
  all_goals (conv=>whnf)
  all_goals first
   |(exfalso;omega)
   |exact absurd h h1
   |exact a0y (l:=i13) rfl rfl ⟨rfl,rfl,rfl,trivial⟩ (a0b (a0b (b0E a0c)))
   |trace_state
end
section
attribute [local irreducible] a0G a0H a0q b0H
attribute [local irreducible] b0v
theorem v0e (E:List El) (k:Nat) (t at_ date:Int) (ref orig num cur:ByteArray) (amt:Int) (hk:E.length=k) (h6:k<=1000) (h54:geB E 54=false):FC Tryz.prog 14 125 [rqV t k at_ date ref orig num cur amt] [(13,some (.one true (elK k E)))] (a0h (.bool true) [] 14):=by
 have c1:=b0z E k t 54 hk (by omega);rw [h54] at c1;generalize geV E 54=v at*;refine fEx Tryz.func125 ?_;repeat' ((conv=>whnf);first|refine cOx (l:= [0,13]) c1 ?_|refine a0a ?_|(apply bRx<;>intro h<;>try (exfalso;(try dsimp only at h);omega)))
 all_goals (conv=>whnf)
 all_goals exact a0y (l:=i14) rfl rfl trivial a0c
theorem x0c (now:Int) (km gm rm:Bool) (ng:Nat) (E:List El) (k:Nat) (t at_ date:Int) (ref orig num cur:ByteArray) (amt:Int) (ac:Acc) (hk:E.length=k) (h6:k<=1000) (h54:geB E 54=false) (hz:(geV E 54).size<=1000000) (hr:ref.size<=1000) (hv:ac.vs.length=ac.n):FC Tryz.prog 14 94 [.ptr 1 0 0 0,rqV t k at_ date ref orig num cur amt] [(1,some (.one true (hsB now km gm rm ng))),(5,some (.one true hoB)),(7,some (.one false (acB ac))),(8,some (.one false (acM ac))),(13,some (.one true (elK k E)))]
  (a0h (.tup [.int .i64 amt,.int .i64 (ac.upE ref amt amt)]) [(7,some (.one false (acB (ac.upA ref amt amt)))),(8,some (.one false (acM (ac.upA ref amt amt))))] 14):=by
 have c1:=i0K E k t 54 hk (by omega) hz;rw [(s0o h54).1,(s0o h54).2] at c1;have c2:=s0j ac ref amt hv (by omega);generalize ac.upE ref amt amt=e at*;generalize ac.upA ref amt amt=ac' at*;refine fEx Tryz.func94 ?_;repeat' ((conv=>whnf);first|refine cOx (l:= [0,13]) c1 ?_|refine cOx (l:= [0,7,8]) c2 ?_|refine a0a ?_|(apply bRx<;>intro h<;>try (exfalso;(try dsimp only at h);omega)))
 all_goals (conv=>whnf)
 all_goals first
  |exact a0y (l:=i14) rfl rfl ⟨rfl,rfl,trivial⟩ (a0b (a0b a0c))
  |trace_state
set_option maxHeartbeats 2000000 in
theorem q0N (now:Int) (km gm rm:Bool) (m:Nat) (u:Us) (E:List El) (k:Nat) (t at_ date:Int) (ref orig:ByteArray) (amt:Int) (hk:E.length=k) (h6:k<=1000) (h54:geB E 54=false) (h256:m<256) (hd:0<=date/\date<=90000) (ha:1<=amt/\amt<=999999999999):
  ∃c:ByteArray,(c=⟨#[]⟩\/(mdB c=true/\c.size=2))/\(u=us0->c=⟨#[]⟩)/\FC Tryz.prog 14 93 [.ptr 1 0 0 0,rqV t k at_ date ref orig c0I b0v amt] [(1,some (.one true (hsB now km gm rm m))),(5,some (.one true hoB)),(6,some (.one true (cdB 2 u))),(13,some (.one true (elK k E)))] (a0h (.str c) [] 14):=by
 have c1:=v0e E k t at_ date ref orig c0I b0v amt hk h6 h54;have c2:=s0y 2 u;have c3:=q0A 2 u;obtain ⟨s,c,hu,c4⟩:=u0V 2 u date;have es:seq b0v b0v=true:=by simp [seq]
 by_cases h1:999999999999<IntKind.i64.wrap (s+amt)
 .refine ⟨⟨#[54,49]⟩,.inr ⟨by decide,rfl⟩,fun e=> ?_,?_⟩
  .exfalso;rw [(hu e).1,a0r (by omega) (by omega)] at h1;omega
  cases km<;>cases gm<;>cases rm;all_goals refine fEx Tryz.func93 ?_
  all_goals repeat' ((conv=>whnf);first|(rw [es])|refine cOx (l:=i14) c1 ?_|refine cOx (l:= [0,6]) c2 ?_|refine cOx (l:= [0,6]) c3 ?_|refine cOx (l:= [0,6]) c4 ?_|refine a0a ?_|(apply bRx<;>intro h<;>try (exfalso;(try dsimp only at h);omega)))
  all_goals (conv=>whnf)
  all_goals first
   |(exfalso;omega)
   |(exfalso;exact h rfl)
   |exact a0y (l:=i14) rfl rfl trivial a0c
   |trace_state
 .by_cases h2:1000<=c
  .refine ⟨⟨#[54,53]⟩,.inr ⟨by decide,rfl⟩,fun e=> ?_,?_⟩
   .exfalso;rw [(hu e).2] at h2;omega
   cases km<;>cases gm<;>cases rm;all_goals refine fEx Tryz.func93 ?_
   all_goals repeat' ((conv=>whnf);first|(rw [es])|refine cOx (l:=i14) c1 ?_|refine cOx (l:= [0,6]) c2 ?_|refine cOx (l:= [0,6]) c3 ?_|refine cOx (l:= [0,6]) c4 ?_|refine a0a ?_|(apply bRx<;>intro h<;>try (exfalso;(try dsimp only at h);omega)))
   all_goals (conv=>whnf)
   all_goals first
    |(exfalso;omega)
    |(exfalso;exact h rfl)
    |exact a0y (l:=i14) rfl rfl trivial a0c
    |trace_state
  .refine ⟨⟨#[]⟩,.inl rfl,fun e=>rfl,?_⟩;cases km<;>cases gm<;>cases rm;all_goals refine fEx Tryz.func93 ?_
   all_goals repeat' ((conv=>whnf);first|(rw [es])|refine cOx (l:=i14) c1 ?_|refine cOx (l:= [0,6]) c2 ?_|refine cOx (l:= [0,6]) c3 ?_|refine cOx (l:= [0,6]) c4 ?_|refine a0a ?_|(apply bRx<;>intro h<;>try (exfalso;(try dsimp only at h);omega)))
   all_goals (conv=>whnf)
   all_goals first
    |(exfalso;omega)
    |(exfalso;exact h rfl)
    |exact a0y (l:=i14) rfl rfl trivial a0c
    |trace_state
end
section
attribute [local irreducible] a0G a0H a0q b0H
attribute [local irreducible] b0v seq
theorem i0O (n i:Nat):(List.replicate n true).getD i false=decide (i<n):=by
 by_cases h:i<n
 .rw [decide_eq_true h,List.getD,z0i,if_pos h];rfl
 .rw [decide_eq_false h,List.getD,z0i,if_neg h];rfl
abbrev hpO (now:Int) (km gm rm:Bool) (m:Nat) (gs:List Au) (u:Us) (ac:Acc):a0g:=(1,some (.one false (hcB now (mS km 2) (sS gm 14 m) (mS gm 16) (mS rm 12))))::(6,some (.one false (cdB 2 u)))::(7,some (.one false (acB ac)))::(8,some (.one false (acM ac)))::(bif gm then grO m gs else [])
abbrev hpI (now:Int) (km gm rm:Bool) (m:Nat) (gs:List Au) (u:Us) (ac:Acc) (nv:Nat) (rv:List ByteArray) (k:Nat) (E:List El):a0g:=(1,some (.one false (hsB now km gm rm m)))::(5,some (.one true hoB))::(6,some (.one false (cdB 2 u)))::(7,some (.one false (acB ac)))::(8,some (.one false (acM ac)))::(13,some (.one true (elK k E)))::(bif gm then [(9,some (.one false (grS m))),(10,some (.fam false (fun x=>x<m) (gaF gs))),(11,some (.one false (grM m gs)))] else [])++(bif rm then [(12,some (.one true (rvM nv rv)))] else [])
def z0a (code:ByteArray) (U:Nat) (ap ref:ByteArray):Prop:=mdB code=true/\code.size=2/\U<10^12/\(U≠0->ap=apS ref)
def AuF (m:Nat) (gs:List Au) (ac:Acc) (rev h0O:Bool) (gm gm':Bool) (m':Nat) (gs':List Au) (ac':Acc) (ref:ByteArray) (amt:Int) (a:Au):Prop:=
 (gm'=gm/\m'=m/\gs'=gs/\ac'=ac)\/(rev=false/\h0O=false/\gm'=true/\m'=m+1/\gs'=gs++ [a]/\ac.upE ref amt amt=0/\ac'=ac.upA ref amt amt)
set_option maxHeartbeats 4000000 in
theorem m0E (now:Int) (km gm rm:Bool) (m:Nat) (gs:List Au) (u:Us) (ac:Acc) (nv:Nat) (rv:List ByteArray) (k:Nat) (E:List El) (t at_ date:Int) (ref orig:ByteArray) (amt:Int) (a:Au)
  (hg:gs.length=m) (h0:gm=false->m=0/\gs= []) (hr0:rm=false->nv=0/\rv= []) (h256:m<256) (hk:E.length=k) (h6:k<=1000) (h54:geB E 54=false) (hz:(geV E 54).size<=1000000) (hd:0<=date/\date<=90000) (ha:1<=amt/\amt<=999999999999) (hat:0<=at_/\at_<=1000000000) (hrs:ref.size=12) (hv:ac.vs.length=ac.n)
  (hp:∀i,i<m->0<=(gs.getD i Au.zero).app/\(gs.getD i Au.zero).app<=999999999999) (hnew:t0x ref b0v amt at_ (at_+86400)=(a,0)) (hai:a.id=ref) (haa:a.app=amt):
  ∃(code:ByteArray) (U:Nat) (ap:ByteArray) (gm':Bool) (m':Nat) (gs':List Au) (u':Us) (ac':Acc),z0a code U ap ref/\AuF m gs ac (decide (a0k rv ref<nv)) (decide (a0k (gs.map Au.id) ref<m)) gm gm' m' gs' ac' ref amt a
   /\(¬a0k rv ref<nv->¬a0k (gs.map Au.id) ref<m->u=us0->ac.upE ref amt amt=0->code=⟨#[48,48]⟩/\gs'=gs++ [a]/\ac'=ac.upA ref amt amt)
   /\FC Tryz.prog 14 59 [.ptr 1 0 0 0,rqV t k at_ date ref orig c0I b0v amt] (hpI now km gm rm m gs u ac nv rv k E) (a0h (.agg [.str code,.int .i64 U,.str ap]) (hpO now km gm' rm m' gs' u' ac') 17):=by
 by_cases h1:a0k rv ref<nv
 .refine ⟨⟨#[48,53]⟩,0,⟨#[]⟩,gm,m,gs,u,ac,⟨by decide,rfl,by decide,fun h=>absurd rfl h⟩,.inl ⟨rfl,rfl,rfl,rfl⟩,fun h=>absurd h1 h,?_⟩;have hb:(List.replicate nv true).getD (a0k rv ref) false=true:=by rw [i0O,decide_eq_true h1]
  have c0:=e0c ⟨#[48,53]⟩;cases rm with
  |false=>exfalso;obtain ⟨rfl,_⟩:=hr0 rfl;omega
  |true=>
   clear hr0 h0 hp;cases km<;>cases gm;all_goals refine fEx Tryz.func59 ?_
   all_goals repeat' ((conv=>whnf);first|(rw [hb])|refine cPx c0 ?_|refine a0a ?_|(apply bRx<;>intro h<;>try (exfalso;(try dsimp only at h);omega)))
   all_goals (conv=>whnf)
   all_goals exact rOz [0,1,2,3,4,5,6,7,8,9,10,11,12,13,9,10,11]
 .have hb:(List.replicate nv true).getD (a0k rv ref) false=false:=by rw [i0O,decide_eq_false h1]
  by_cases h2:a0k (gs.map Au.id) ref<m
  .have hpi:=hp _ h2;obtain ⟨U,hU⟩:∃U:Nat,(gs.getD (a0k (gs.map Au.id) ref) Au.zero).app=U:=⟨_,(z0U hpi.1).symm⟩;refine ⟨⟨#[48,48]⟩,U,apS ref,gm,m,gs,u,ac,⟨by decide,rfl,by omega,fun _=>rfl⟩,.inl ⟨rfl,rfl,rfl,rfl⟩,fun _ h=>absurd h2 h,?_⟩;have c0:=g0h ⟨#[48,48]⟩ ref (gs.getD (a0k (gs.map Au.id) ref) Au.zero).app hrs;rw [hU] at c0;have hfd:a0N false m [.ptrs 10 m] (a0k (gs.map Au.id) ref)= .ptr 10 (a0k (gs.map Au.id) ref) 0 0:=by unfold a0N;rw [decide_eq_true h2];rfl
   have hdec:decide (a0k (gs.map Au.id) ref<m)=true:=decide_eq_true h2;cases gm with
   |false=>exfalso;obtain ⟨rfl,_⟩:=h0 rfl;omega
   |true=>
    clear h0 hp;cases rm with
    |true=>
     clear hr0;cases km;all_goals refine fEx Tryz.func59 ?_
     all_goals repeat' ((conv=>whnf);first|(rw [hb])|(rw [hfd,hdec])|(rw [hU])|refine cPx c0 ?_|refine a0a ?_|(apply bRx<;>intro h<;>try (exfalso;(try dsimp only at h);omega)))
     all_goals (conv=>whnf)
     all_goals first
      |exact rOz [0,1,2,3,4,5,6,7,8,9,10,11,12,13,9,10,11]
      |trace_state
    |false=>
     clear hr0;cases km;all_goals refine fEx Tryz.func59 ?_
     all_goals repeat' ((conv=>whnf);first|(rw [hfd,hdec])|(rw [hU])|refine cPx c0 ?_|refine a0a ?_|(apply bRx<;>intro h<;>try (exfalso;(try dsimp only at h);omega)))
     all_goals (conv=>whnf)
     all_goals first
      |exact rOz [0,1,2,3,4,5,6,7,8,9,10,11,12,13,9,10,11]
      |trace_state
  .have hfd:a0N false m [.ptrs 10 m] (a0k (gs.map Au.id) ref)= .nptr:=by unfold a0N;rw [decide_eq_false h2];rfl
   have hdec:decide (a0k (gs.map Au.id) ref<m)=false:=decide_eq_false h2;obtain ⟨c,hc,hcu,c1⟩:=q0N now km gm rm m u E k t at_ date ref orig amt hk h6 h54 h256 hd ha;by_cases hc0:c=⟨#[]⟩
   .subst hc0;have c2:=x0c now km gm rm m E k t at_ date ref orig c0I b0v amt ac hk h6 h54 hz (by omega) hv;by_cases he:ac.upE ref amt amt=0
    .obtain ⟨U,rfl⟩:∃U:Nat,amt=U:=⟨_,(z0U (by omega)).symm⟩;obtain ⟨u',c5⟩:=q0M now km gm rm m gs u a t k at_ date ref orig b0v (U:Int) hg (by omega) (by rw [hai];exact h2) h0 hd (by omega);refine ⟨⟨#[48,48]⟩,U,apS ref,true,m+1,gs++ [a],u',ac.upA ref (U:Int) (U:Int),⟨by decide,rfl,by omega,fun _=>rfl⟩,.inr ⟨decide_eq_false h1,decide_eq_false h2,rfl,rfl,rfl,he,rfl⟩,fun _ _ _ _=>⟨rfl,rfl,rfl⟩,?_⟩;have c3:=v0c now km gm rm m at_ hat;have c4:=j0T ref b0v (U:Int) at_ (at_+86400);rw [hnew] at c4;have c6:=g0h ⟨#[48,48]⟩ ref (U:Int) hrs;rw [he] at c2;generalize ac.upA ref (U:Int) (U:Int)=ac' at*;clear hp h0 hr0 hnew;cases km<;>cases gm<;>cases rm;all_goals refine fEx Tryz.func59 ?_
     all_goals repeat' ((conv=>whnf);first|(rw [hb])|(rw [hfd,hdec])|refine cOx (l:=i14) c1 ?_|refine cOx (l:=i14) c2 ?_|refine cOx (l:=i13) c3 ?_|refine cPx c4 ?_|refine cOx (l:=i14) c5 ?_|refine cPx c6 ?_|refine a0a ?_|(apply bRx<;>intro h<;>try (exfalso;(try dsimp only at h);omega)))
     all_goals (conv=>whnf)
     all_goals first
      |(exfalso;omega)
      |(exfalso;exact h rfl)
      |exact rOz [0,1,2,3,4,5,6,7,8,9,10,11,12,13,17,18,19]
      |trace_state
    .rw [show ac.upA ref amt amt=ac from if_neg he] at c2;by_cases he6:ac.upE ref amt amt=16
     .refine ⟨⟨#[53,49]⟩,0,⟨#[]⟩,gm,m,gs,u,ac,⟨by decide,rfl,by decide,fun h=>absurd rfl h⟩,.inl ⟨rfl,rfl,rfl,rfl⟩,fun _ _ _ h=>absurd h he,?_⟩;have c0:=e0c ⟨#[53,49]⟩;generalize ac.upE ref amt amt=e at*;clear hp h0 hr0;cases km<;>cases gm<;>cases rm;all_goals refine fEx Tryz.func59 ?_
      all_goals repeat' ((conv=>whnf);first|(rw [hb])|(rw [hfd,hdec])|refine cOx (l:=i14) c1 ?_|refine cPx c0 ?_|refine cOx (l:=i14) c2 ?_|refine a0a ?_|(apply bRx<;>intro h<;>try (exfalso;(try dsimp only at h);omega)))
      all_goals (conv=>whnf)
      all_goals first
       |(exfalso;omega)
       |(exfalso;exact h rfl)
       |(exfalso;exact hc0 h)
       |(exfalso;exact he h)
       |(exfalso;exact he6 h)
       |exact rOz [0,1,2,3,4,5,6,7,8,9,10,11,12,13,9,10,11]
       |trace_state
     .refine ⟨⟨#[49,50]⟩,0,⟨#[]⟩,gm,m,gs,u,ac,⟨by decide,rfl,by decide,fun h=>absurd rfl h⟩,.inl ⟨rfl,rfl,rfl,rfl⟩,fun _ _ _ h=>absurd h he,?_⟩;have c0:=e0c ⟨#[49,50]⟩;generalize ac.upE ref amt amt=e at*;clear hp h0 hr0;cases km<;>cases gm<;>cases rm;all_goals refine fEx Tryz.func59 ?_
      all_goals repeat' ((conv=>whnf);first|(rw [hb])|(rw [hfd,hdec])|refine cOx (l:=i14) c1 ?_|refine cPx c0 ?_|refine cOx (l:=i14) c2 ?_|refine a0a ?_|(apply bRx<;>intro h<;>try (exfalso;(try dsimp only at h);omega)))
      all_goals (conv=>whnf)
      all_goals first
       |(exfalso;omega)
       |(exfalso;exact h rfl)
       |(exfalso;exact hc0 h)
       |(exfalso;exact he h)
       |(exfalso;exact he6 h)
       |exact rOz [0,1,2,3,4,5,6,7,8,9,10,11,12,13,9,10,11]
       |trace_state
   .refine ⟨c,0,⟨#[]⟩,gm,m,gs,u,ac,⟨(hc.resolve_left hc0).1,(hc.resolve_left hc0).2,by decide,fun h=>absurd rfl h⟩,.inl ⟨rfl,rfl,rfl,rfl⟩,fun _ _ h=>absurd (hcu h) hc0,?_⟩;have c0:=e0c c;clear hp h0 hr0;cases km<;>cases gm<;>cases rm;all_goals refine fEx Tryz.func59 ?_
    all_goals repeat' ((conv=>whnf);first|(rw [hb])|(rw [hfd,hdec])|refine cOx (l:=i14) c1 ?_|refine cPx c0 ?_|refine a0a ?_|(apply bRx<;>intro h<;>try (exfalso;(try dsimp only at h);omega)))
    all_goals (conv=>whnf)
    all_goals first
     |(exfalso;omega)
     |(exfalso;exact h rfl)
     |(exfalso;exact hc0 h)
     |(exfalso;exact he h)
     |(exfalso;exact he6 h)
     |exact rOz [0,1,2,3,4,5,6,7,8,9,10,11,12,13,9,10,11]
     |trace_state
end
section
attribute [local irreducible] a0G a0H a0q b0H
attribute [local irreducible] b0v
theorem j0W {a b:Au} {n u e:Int} (h:d0L a n u=(b,e)):b.id=a.id\/(b=Au.zero/\e≠0):=by
 unfold d0L at h;split at h
 .rename_i h1;cases h;exact .inr ⟨rfl,h1⟩
 .split at h
  .cases h;exact .inr ⟨rfl,by decide⟩
  .split at h
   .cases h;exact .inr ⟨rfl,by decide⟩
   .cases h;exact .inl rfl
theorem c0t {gs:List Au} {i:Nat} {a:Au} (hi:i<gs.length) (h:a.id=(gs.getD i Au.zero).id):(gs.set i a).map Au.id=gs.map Au.id:=by
 rw [List.map_set,h,List.getD,f0N hi];apply z0n
 .simp
 .intro k h1 h2;rw [List.getElem_set];split
  .rename_i e;subst e;rw [List.getElem_map];rfl
  .rfl
theorem x0d {gs gs':List Au} {i:Nat} {amt:Int} {ac ac':Acc} (hi:i<gs.length) (h:Lf gs i amt ac gs' ac'):gs'.map Au.id=gs.map Au.id:=by
 rcases h with ⟨rfl,_⟩|⟨a,_,_,hr,_,rfl,_⟩
 .rfl
 .exact c0t hi ((j0W hr).resolve_right fun h=>h.2 rfl)
theorem s0C {a b:Au} {n u e:Int} (h:d0L a n u=(b,e)) (ha:a.id.size<=1000):b.id.size<=1000:=by
 rcases j0W h with h|⟨rfl,_⟩
 .rw [h];exact ha
 .decide
def AvF (m:Nat) (gs:List Au) (ac:Acc) (rev h0O:Bool) (i:Nat) (gm gm':Bool) (m':Nat) (gs':List Au) (ac':Acc) (ref:ByteArray) (amt:Int) (a:Au):Prop:=
 (gm'=gm/\m'=m/\gs'=gs/\ac'=ac)\/(rev=false/\h0O=true/\gm'=gm/\m'=m/\Lf gs i amt ac gs' ac')\/(rev=false/\h0O=false/\gm'=true/\m'=m+1/\gs'=gs++ [a]/\ac.foE ref amt=0/\ac'=ac.foA ref amt)
theorem v0f (now:Int) (km gm rm:Bool) (m:Nat) (gs:List Au) (u:Us) (ac:Acc) (nv:Nat) (rv:List ByteArray) (k:Nat) (E:List El) (t at_ date:Int) (ref orig:ByteArray) (amt:Int) (hr0:rm=false->nv=0/\rv= []) (hk:E.length=k) (h6:k<=1000) (h39:geV E 39=⟨#[48,48]⟩) (h1:a0k rv ref<nv):FC Tryz.prog 14 60 [.ptr 1 0 0 0,rqV t k at_ date ref orig c0I b0v amt] (hpI now km gm rm m gs u ac nv rv k E) (a0h (.str ⟨#[48,48]⟩) (hpO now km gm rm m gs u ac) 17):=by
 have cg:=b0z E k t 39 hk (by omega);rw [h39] at cg;generalize geB E 39=g39 at*;have e0:seq ⟨#[48,48]⟩ ⟨#[48,48]⟩=true:=by simp [seq]
 have hb:(List.replicate nv true).getD (a0k rv ref) false=true:=by rw [i0O,decide_eq_true h1]
 cases rm with
 |false=>exfalso;obtain ⟨rfl,_⟩:=hr0 rfl;omega
 |true=>
  clear hr0;cases km<;>cases gm;all_goals refine fEx Tryz.func60 ?_
  all_goals repeat' ((conv=>whnf);first|(rw [e0])|(rw [hb])|refine cOx (l:= [0,13]) cg ?_|refine a0a ?_|(apply bRx<;>intro h<;>try (exfalso;(try dsimp only at h);omega)))
  all_goals (conv=>whnf)
  all_goals exact rOz [0,1,2,3,4,5,6,7,8,9,10,11,12,13,9,10,11]
theorem q0O (now:Int) (km gm rm:Bool) (m:Nat) (gs:List Au) (u:Us) (ac:Acc) (nv:Nat) (rv:List ByteArray) (k:Nat) (E:List El) (t at_ date:Int) (ref orig:ByteArray) (amt:Int) (h0:gm=false->m=0/\gs= []) (hk:E.length=k) (h6:k<=1000) (h39:geV E 39=⟨#[48,48]⟩) (h1:¬a0k rv ref<nv) (hg:gs.length=m) (h2:a0k (gs.map Au.id) ref<m) (ha:1<=amt/\amt<=999999999999)
  (hp:∀i,i<m->(0<=(gs.getD i Au.zero).app/\(gs.getD i Au.zero).app<=999999999999)/\(gs.getD i Au.zero).id.size<=1000):∃gs' ac',Lf gs (a0k (gs.map Au.id) ref) amt ac gs' ac'/\FC Tryz.prog 14 60 [.ptr 1 0 0 0,rqV t k at_ date ref orig c0I b0v amt] (hpI now km gm rm m gs u ac nv rv k E) (a0h (.str ⟨#[48,48]⟩) (hpO now km gm rm m gs' u ac') 17):=by
 have cg:=b0z E k t 39 hk (by omega);rw [h39] at cg;generalize geB E 39=g39 at*;have e0:seq ⟨#[48,48]⟩ ⟨#[48,48]⟩=true:=by simp [seq]
 have es:seq b0v b0v=true:=by simp [seq]
 have en:seq c0I c0I=true:=by simp [seq]
 have hb:(List.replicate nv true).getD (a0k rv ref) false=false:=by rw [i0O,decide_eq_false h1]
 obtain ⟨gs',ac',hL,c2⟩:=x0b m (a0k (gs.map Au.id) ref) gs amt ac hg h2 (by omega) (hp _ h2).1 (fun a e h=>s0C h (hp _ h2).2);have hids:=x0d (by omega) hL;refine ⟨gs',ac',hL,?_⟩;have hfd:a0N false m [.ptrs 10 m] (a0k (gs.map Au.id) ref)= .ptr 10 (a0k (gs.map Au.id) ref) 0 0:=by unfold a0N;rw [decide_eq_true h2];rfl
 have hdec:decide (a0k (gs.map Au.id) ref<m)=true:=decide_eq_true h2;cases gm with
 |false=>exfalso;obtain ⟨rfl,_⟩:=h0 rfl;omega
 |true=>
  clear h0 hp;unfold hpO grO;rw [hids];cases km<;>cases rm;all_goals refine fEx Tryz.func60 ?_
  all_goals repeat' ((conv=>whnf);first|(rw [e0])|(rw [hb])|(rw [es])|(rw [en])|(rw [hfd,hdec])|refine cOx (l:= [0,13]) cg ?_|refine cOx (l:=i13) c2 ?_|refine a0a ?_|(apply bRx<;>intro h<;>try (exfalso;(try dsimp only at h);omega)))
  all_goals (conv=>whnf)
  all_goals first
   |(exfalso;omega)
   |exact rOz [0,1,2,3,4,5,6,7,8,9,10,11,12,13,9,10,11]
   |trace_state
set_option maxHeartbeats 4000000 in
theorem v0g (now:Int) (km gm rm:Bool) (m:Nat) (gs:List Au) (u:Us) (ac:Acc) (nv:Nat) (rv:List ByteArray) (k:Nat) (E:List El) (t at_ date:Int) (ref orig:ByteArray) (amt:Int) (a:Au) (h0:gm=false->m=0/\gs= []) (hk:E.length=k) (h6:k<=1000) (h39:geV E 39=⟨#[48,48]⟩) (h1:¬a0k rv ref<nv) (h2:¬a0k (gs.map Au.id) ref<m) (hg:gs.length=m) (h256:m<256) (hd:0<=date/\date<=90000) (ha:1<=amt/\amt<=999999999999) (hat:0<=at_/\at_<=1000000000) (hrs:ref.size=12) (hnew:t0x ref b0v amt at_ (at_+86400)=(a,0)) (hai:a.id=ref) (haa:a.app=amt) (he:ac.foE ref amt=0):∃u',FC Tryz.prog 14 60 [.ptr 1 0 0 0,rqV t k at_ date ref orig c0I b0v amt] (hpI now km gm rm m gs u ac nv rv k E) (a0h (.str ⟨#[48,48]⟩) (hpO now km true rm (m+1) (gs++ [a]) u' (ac.foA ref amt)) 17):=by
 have cg:=b0z E k t 39 hk (by omega);rw [h39] at cg;generalize geB E 39=g39 at*;have e0:seq ⟨#[48,48]⟩ ⟨#[48,48]⟩=true:=by simp [seq]
 have es:seq b0v b0v=true:=by simp [seq]
 have hb:(List.replicate nv true).getD (a0k rv ref) false=false:=by rw [i0O,decide_eq_false h1]
 have hfd:a0N false m [.ptrs 10 m] (a0k (gs.map Au.id) ref)= .nptr:=by unfold a0N;rw [decide_eq_false h2];rfl
 have hdec:decide (a0k (gs.map Au.id) ref<m)=false:=decide_eq_false h2;have c2:=h0E ac ref amt (by omega);have c3:=v0c now km gm rm m at_ hat;have c4:=j0T ref b0v amt at_ (at_+86400);rw [hnew] at c4;obtain ⟨u',c5⟩:=q0M now km gm rm m gs u a t k at_ date ref orig b0v amt hg (by omega) (by rw [hai];exact h2) h0 hd (by omega);refine ⟨u',?_⟩;rw [he] at c2;generalize ac.foA ref amt=ac' at*;clear h0 hnew;cases km<;>cases gm<;>cases rm;all_goals refine fEx Tryz.func60 ?_
 all_goals repeat' ((conv=>whnf);first|(rw [e0])|(rw [hb])|(rw [es])|(rw [hfd,hdec])|refine cOx (l:= [0,13]) cg ?_|refine cOx (l:= [0,7,8]) c2 ?_|refine cOx (l:=i13) c3 ?_|refine cPx c4 ?_|refine cOx (l:=i14) c5 ?_|refine a0a ?_|(apply bRx<;>intro h<;>try (exfalso;(try dsimp only at h);omega)))
 all_goals (conv=>whnf)
 all_goals first
  |(exfalso;omega)
  |exact rOz [0,1,2,3,4,5,6,7,8,9,10,11,12,13,16,17,18]
  |trace_state
set_option maxHeartbeats 4000000 in
theorem v0h (now:Int) (km gm rm:Bool) (m:Nat) (gs:List Au) (u:Us) (ac:Acc) (nv:Nat) (rv:List ByteArray) (k:Nat) (E:List El) (t at_ date:Int) (ref orig:ByteArray) (amt:Int) (a:Au) (h0:gm=false->m=0/\gs= []) (hk:E.length=k) (h6:k<=1000) (h39:geV E 39=⟨#[48,48]⟩) (h1:¬a0k rv ref<nv) (h2:¬a0k (gs.map Au.id) ref<m) (hg:gs.length=m) (h256:m<256) (hd:0<=date/\date<=90000) (ha:1<=amt/\amt<=999999999999) (hat:0<=at_/\at_<=1000000000) (hrs:ref.size=12) (hnew:t0x ref b0v amt at_ (at_+86400)=(a,0)) (he:¬ac.foE ref amt=0):FC Tryz.prog 14 60 [.ptr 1 0 0 0,rqV t k at_ date ref orig c0I b0v amt] (hpI now km gm rm m gs u ac nv rv k E) (a0h (.str ⟨#[49,50]⟩) (hpO now km gm rm m gs u ac) 17):=by
 have cg:=b0z E k t 39 hk (by omega);rw [h39] at cg;generalize geB E 39=g39 at*;have e0:seq ⟨#[48,48]⟩ ⟨#[48,48]⟩=true:=by simp [seq]
 have es:seq b0v b0v=true:=by simp [seq]
 have hb:(List.replicate nv true).getD (a0k rv ref) false=false:=by rw [i0O,decide_eq_false h1]
 have hfd:a0N false m [.ptrs 10 m] (a0k (gs.map Au.id) ref)= .nptr:=by unfold a0N;rw [decide_eq_false h2];rfl
 have hdec:decide (a0k (gs.map Au.id) ref<m)=false:=decide_eq_false h2;have c2:=h0E ac ref amt (by omega);have c3:=v0c now km gm rm m at_ hat;have c4:=j0T ref b0v amt at_ (at_+86400);rw [hnew] at c4;rw [show ac.foA ref amt=ac from if_neg he] at c2;generalize ac.foE ref amt=e at*;clear h0 hnew;cases km<;>cases gm<;>cases rm;all_goals refine fEx Tryz.func60 ?_
 all_goals repeat' ((conv=>whnf);first|(rw [e0])|(rw [hb])|(rw [es])|(rw [hfd,hdec])|refine cOx (l:= [0,13]) cg ?_|refine cOx (l:= [0,7,8]) c2 ?_|refine cOx (l:=i13) c3 ?_|refine cPx c4 ?_|refine a0a ?_|(apply bRx<;>intro h<;>try (exfalso;(try dsimp only at h);omega)))
 all_goals (conv=>whnf)
 all_goals first
  |(exfalso;omega)
  |(exfalso;exact he h)
  |exact rOz [0,1,2,3,4,5,6,7,8,9,10,11,12,13,9,10,11]
  |trace_state
theorem s0D (now:Int) (km gm rm:Bool) (m:Nat) (gs:List Au) (u:Us) (ac:Acc) (nv:Nat) (rv:List ByteArray) (k:Nat) (E:List El) (t at_ date:Int) (ref orig:ByteArray) (amt:Int) (a:Au)
  (h0:gm=false->m=0/\gs= []) (hr0:rm=false->nv=0/\rv= []) (hk:E.length=k) (h6:k<=1000) (h39:geV E 39=⟨#[48,48]⟩) (hg:gs.length=m) (h256:m<256) (hd:0<=date/\date<=90000) (ha:1<=amt/\amt<=999999999999) (hat:0<=at_/\at_<=1000000000) (hrs:ref.size=12)
  (hp:∀i,i<m->(0<=(gs.getD i Au.zero).app/\(gs.getD i Au.zero).app<=999999999999)/\(gs.getD i Au.zero).id.size<=1000) (hnew:t0x ref b0v amt at_ (at_+86400)=(a,0)) (hai:a.id=ref) (haa:a.app=amt):
  ∃(code:ByteArray) (gm':Bool) (m':Nat) (gs':List Au) (u':Us) (ac':Acc),(mdB code=true/\code.size=2)/\AvF m gs ac (decide (a0k rv ref<nv)) (decide (a0k (gs.map Au.id) ref<m)) (a0k (gs.map Au.id) ref) gm gm' m' gs' ac' ref amt a
   /\FC Tryz.prog 14 60 [.ptr 1 0 0 0,rqV t k at_ date ref orig c0I b0v amt] (hpI now km gm rm m gs u ac nv rv k E) (a0h (.str code) (hpO now km gm' rm m' gs' u' ac') 17):=by
 by_cases h1:a0k rv ref<nv
 .exact ⟨_,gm,m,gs,u,ac,⟨by decide,rfl⟩,.inl ⟨rfl,rfl,rfl,rfl⟩,v0f now km gm rm m gs u ac nv rv k E t at_ date ref orig amt hr0 hk h6 h39 h1⟩
 .by_cases h2:a0k (gs.map Au.id) ref<m
  .obtain ⟨gs',ac',hL,hF⟩:=q0O now km gm rm m gs u ac nv rv k E t at_ date ref orig amt h0 hk h6 h39 h1 hg h2 ha hp;exact ⟨_,gm,m,gs',u,ac',⟨by decide,rfl⟩,.inr (.inl ⟨decide_eq_false h1,decide_eq_true h2,rfl,rfl,hL⟩),hF⟩
  .by_cases he:ac.foE ref amt=0
   .obtain ⟨u',hF⟩:=v0g now km gm rm m gs u ac nv rv k E t at_ date ref orig amt a h0 hk h6 h39 h1 h2 hg h256 hd ha hat hrs hnew hai haa he;exact ⟨_,true,m+1,gs++ [a],u',ac.foA ref amt,⟨by decide,rfl⟩,.inr (.inr ⟨decide_eq_false h1,decide_eq_false h2,rfl,rfl,rfl,he,rfl⟩),hF⟩
   .exact ⟨_,gm,m,gs,u,ac,⟨by decide,rfl⟩,.inl ⟨rfl,rfl,rfl,rfl⟩,v0h now km gm rm m gs u ac nv rv k E t at_ date ref orig amt a h0 hk h6 h39 h1 h2 hg h256 hd ha hat hrs hnew he⟩
end
section
attribute [local irreducible] a0G a0H a0q b0H
attribute [local irreducible] b0v
structure Cl (a b:Au):Prop where
 id:b.id=a.id
 ck:a0D b=0
 op:b.st≠1
 fu:a0e b=0
theorem x0e {a:Au} (h:a0D a=0) (hs:a.st=1):∃b,d0Z a 0=(b,a0e a,0)/\Cl a b/\0<a0e a/\a0e a<=999999999999:=by
 have hu:=h0J h hs;obtain ⟨f,_,hp,_,_,hx⟩:=b0K hu;have f3:=f.app;have f4:=f.rev;have f5:=f.cle;have f9:=f.pa;have ff:=f.funds;have e1:a0e { a with rev:=a.rev+a0e a}=0:=by
  rw [c0G _ (by simp;omega) (by simp;omega) (by simp;omega) (by simp;omega) (by simp;omega) (by simp;omega) (by simp;omega) (by simp;omega)];simp only;omega
 have e2:a0z { a with rev:=a.rev+a0e a}=2\/a0z { a with rev:=a.rev+a0e a}=3:=by
  unfold a0z;rw [e1,if_neg (by omega),if_neg (by simp only;omega)];split
  .exact .inl rfl
  .exact .inr rfl
 have e3:a0e { a with rev:=a.rev+a0e a,st:=a0z { a with rev:=a.rev+a0e a}}=0:=by rw [<-e1];unfold a0e;rfl
 refine ⟨{ a with rev:=a.rev+a0e a,st:=a0z { a with rev:=a.rev+a0e a}},?_,⟨rfl,g0y ⟨f.id,f.cur,f.app,by simp only;omega,f.cle,f.exp,by simp only;rw [e3];omega,by rw [e3];omega,f.time,f.pa,?_,fun _=>hx⟩,?_,e3⟩,hp,by omega⟩
 .unfold d0Z;rw [if_neg (by omega),if_neg (by omega),if_pos rfl]
 .rw [i0N { a with rev:=a.rev+a0e a} (a0z { a with rev:=a.rev+a0e a})]
 .simp only;omega
def RvF (m:Nat) (gs:List Au) (i:Nat) (ac:Acc) (gs':List Au) (ac':Acc):Prop:=
 (gs'=gs/\ac'=ac/\(i<m->(gs.getD i Au.zero).st≠1))\/(i<m/\∃b,(gs.getD i Au.zero).st=1/\Cl (gs.getD i Au.zero) b/\0<a0e (gs.getD i Au.zero)/\gs'=gs.set i b/\ac'=ac.reA b.id (a0e (gs.getD i Au.zero)))
abbrev hpP (now:Int) (km gm rm:Bool) (m:Nat) (gs:List Au) (u:Us) (ac:Acc) (nv:Nat) (rv:List ByteArray):a0g:=(1,some (.one false (hcB now (mS km 2) (sS gm 14 m) (mS gm 16) (mS rm 17))))::(6,some (.one false (cdB 2 u)))::(7,some (.one false (acB ac)))::(8,some (.one false (acM ac)))::(bif gm then grO m gs else [])++(bif rm then [(17,some (.one false (rvM nv rv)))] else [])
abbrev hpJ (now:Int) (km gm rm:Bool) (m:Nat) (gs:List Au) (u:Us) (ac:Acc) (nv:Nat) (rv:List ByteArray) (k:Nat) (E:List El):a0g:=(1,some (.one false (hsB now km gm rm m)))::(5,some (.one true hoB))::(6,some (.one false (cdB 2 u)))::(7,some (.one false (acB ac)))::(8,some (.one false (acM ac)))::(13,some (.one true (elK k E)))::(bif gm then [(9,some (.one false (grS m))),(10,some (.fam false (fun x=>x<m) (gaF gs))),(11,some (.one false (grM m gs)))] else [])++(bif rm then [(12,some (.one false (rvM nv rv)))] else [])
theorem q0P (now:Int) (km gm rm:Bool) (m:Nat) (gs:List Au) (u:Us) (ac:Acc) (nv:Nat) (rv:List ByteArray) (k:Nat) (E:List El) (t at_ date:Int) (ref orig:ByteArray) (amt:Int) (hr0:rm=false->nv=0/\rv= []) (hv:rv.length=nv) (hs:a0k (gs.map Au.id) orig<m->gm=true/\(gs.getD (a0k (gs.map Au.id) orig) Au.zero).st≠1):
  FC Tryz.prog 14 61 [.ptr 1 0 0 0,rqV t k at_ date ref orig c0I b0v amt] (hpJ now km gm rm m gs u ac nv rv k E) (a0h (.tup []) (hpP now km gm true m gs u ac (puN nv rv orig) (puK nv rv orig)) 18):=by
 have c1:=q0J now km gm rm m nv rv orig hv hr0;generalize puN nv rv orig=nv' at*;generalize puK nv rv orig=rv' at*;by_cases h2:a0k (gs.map Au.id) orig<m
 .have hfd:a0N false m [.ptrs 10 m] (a0k (gs.map Au.id) orig)= .ptr 10 (a0k (gs.map Au.id) orig) 0 0:=by unfold a0N;rw [decide_eq_true h2];rfl
  have hdec:decide (a0k (gs.map Au.id) orig<m)=true:=decide_eq_true h2;obtain ⟨rfl,hst⟩:=hs h2;clear hr0;cases km<;>cases rm;all_goals refine fEx Tryz.func61 ?_
  all_goals repeat' ((conv=>whnf);first|(rw [hfd,hdec])|refine cOx (l:=i13) c1 ?_|refine a0a ?_|(apply bRx<;>intro h<;>try (exfalso;(try dsimp only at h);omega)))
  all_goals (conv=>whnf)
  all_goals first
   |exact absurd h hst
   |exact rOz [0,1,2,3,4,5,6,7,8,9,10,11,12,13,9,10,11,15]
   |trace_state
 .have hfd:a0N false m [.ptrs 10 m] (a0k (gs.map Au.id) orig)= .nptr:=by unfold a0N;rw [decide_eq_false h2];rfl
  have hdec:decide (a0k (gs.map Au.id) orig<m)=false:=decide_eq_false h2;clear hr0;cases km<;>cases gm<;>cases rm;all_goals refine fEx Tryz.func61 ?_
  all_goals repeat' ((conv=>whnf);first|(rw [hfd,hdec])|refine cOx (l:=i13) c1 ?_|refine a0a ?_|(apply bRx<;>intro h<;>try (exfalso;(try dsimp only at h);omega)))
  all_goals (conv=>whnf)
  all_goals first
   |exact rOz [0,1,2,3,4,5,6,7,8,9,10,11,12,13,9,10,11,15]
   |trace_state
set_option maxHeartbeats 2000000 in
theorem v0i (now:Int) (km rm:Bool) (m:Nat) (gs:List Au) (u:Us) (ac:Acc) (nv:Nat) (rv:List ByteArray) (k:Nat) (E:List El) (t at_ date:Int) (ref orig:ByteArray) (amt:Int) (b:Au) (hr0:rm=false->nv=0/\rv= []) (hv:rv.length=nv) (hg:gs.length=m) (h2:a0k (gs.map Au.id) orig<m) (hst:(gs.getD (a0k (gs.map Au.id) orig) Au.zero).st=1) (hr:d0Z (gs.getD (a0k (gs.map Au.id) orig) Au.zero) 0=(b,a0e (gs.getD (a0k (gs.map Au.id) orig) Au.zero),0)) (hb:b.id=(gs.getD (a0k (gs.map Au.id) orig) Au.zero).id) (hf:0<a0e (gs.getD (a0k (gs.map Au.id) orig) Au.zero)/\a0e (gs.getD (a0k (gs.map Au.id) orig) Au.zero)<=999999999999):
  ∃u',FC Tryz.prog 14 61 [.ptr 1 0 0 0,rqV t k at_ date ref orig c0I b0v amt] (hpJ now km true rm m gs u ac nv rv k E) (a0h (.tup []) (hpP now km true true m (gs.set (a0k (gs.map Au.id) orig) b) u' (ac.reA b.id (a0e (gs.getD (a0k (gs.map Au.id) orig) Au.zero))) (puN nv rv orig) (puK nv rv orig)) 18):=by
 have c1:=q0J now km true rm m nv rv orig hv hr0;have c2:=l0t (gs.getD (a0k (gs.map Au.id) orig) Au.zero) 0;rw [hr] at c2;have c3:=h0F ac b.id (a0e (gs.getD (a0k (gs.map Au.id) orig) Au.zero));have c4:=q0I b.att;obtain ⟨e',u',c5⟩:=u0W u (v0N b.att) (a0e (gs.getD (a0k (gs.map Au.id) orig) Au.zero)) (by omega);have hset:=m0D (a:=b) (by omega:a0k (gs.map Au.id) orig<gs.length);have hids:=c0t (by omega:a0k (gs.map Au.id) orig<gs.length) hb;have hfd:a0N false m [.ptrs 10 m] (a0k (gs.map Au.id) orig)= .ptr 10 (a0k (gs.map Au.id) orig) 0 0:=by unfold a0N;rw [decide_eq_true h2];rfl
 have hdec:decide (a0k (gs.map Au.id) orig<m)=true:=decide_eq_true h2;refine ⟨u',?_⟩;unfold hpP grO;rw [hids];clear hids hr;generalize puN nv rv orig=nv' at*;generalize puK nv rv orig=rv' at*;generalize a0e (gs.getD (a0k (gs.map Au.id) orig) Au.zero)=n at*;generalize ac.reA b.id n=ac' at*;generalize ac.reE b.id n=e1 at*;generalize v0N b.att=d1 at*;generalize y0s b.att=d2 at*;clear hr0;cases km<;>cases rm;all_goals refine fEx Tryz.func61 ?_
 all_goals repeat' ((conv=>whnf);first|(rw [hset])|(rw [hfd,hdec])|refine cOx (l:=i13) c1 ?_|refine cPx c2 ?_|refine cOx (l:= [0,7,8]) c3 ?_|refine cPx c4 ?_|refine cOx (l:= [0,6]) c5 ?_|refine a0a ?_|(apply bRx<;>intro h<;>try (exfalso;(try dsimp only at h);omega)))
 all_goals (conv=>whnf)
 all_goals first
  |exact absurd hst h
  |exact rOz [0,1,2,3,4,5,6,7,8,9,10,11,12,13,9,10,11,15]
  |trace_state
theorem q0Q (now:Int) (km gm rm:Bool) (m:Nat) (gs:List Au) (u:Us) (ac:Acc) (nv:Nat) (rv:List ByteArray) (k:Nat) (E:List El) (t at_ date:Int) (ref orig:ByteArray) (amt:Int) (h0:gm=false->m=0/\gs= []) (hr0:rm=false->nv=0/\rv= []) (hv:rv.length=nv) (hg:gs.length=m) (hc:∀i,i<m->a0D (gs.getD i Au.zero)=0):
  ∃gs' u' ac',RvF m gs (a0k (gs.map Au.id) orig) ac gs' ac'/\FC Tryz.prog 14 61 [.ptr 1 0 0 0,rqV t k at_ date ref orig c0I b0v amt] (hpJ now km gm rm m gs u ac nv rv k E) (a0h (.tup []) (hpP now km gm true m gs' u' ac' (puN nv rv orig) (puK nv rv orig)) 18):=by
 by_cases h2:a0k (gs.map Au.id) orig<m
 .have hgm:gm=true:=by cases gm with|true=>rfl|false=>exfalso;obtain ⟨rfl,_⟩:=h0 rfl;omega
  by_cases hst:(gs.getD (a0k (gs.map Au.id) orig) Au.zero).st=1
  .obtain ⟨b,hr,hcl,hf⟩:=x0e (hc _ h2) hst;obtain ⟨u',hF⟩:=v0i now km rm m gs u ac nv rv k E t at_ date ref orig amt b hr0 hv hg h2 hst hr hcl.id hf;subst hgm;exact ⟨_,u',_,.inr ⟨h2,b,hst,hcl,hf.1,rfl,rfl⟩,hF⟩
  .exact ⟨gs,u,ac,.inl ⟨rfl,rfl,fun _=>hst⟩,q0P now km gm rm m gs u ac nv rv k E t at_ date ref orig amt hr0 hv fun _=>⟨hgm,hst⟩⟩
 .exact ⟨gs,u,ac,.inl ⟨rfl,rfl,fun h=>absurd h h2⟩,q0P now km gm rm m gs u ac nv rv k E t at_ date ref orig amt hr0 hv fun h=>absurd h h2⟩
end
section
attribute [local irreducible] a0G a0H a0q b0H
attribute [local irreducible] b0v
theorem o0W (now:Int) (km gm rm:Bool) (m:Nat) (gs:List Au) (u:Us) (ac:Acc) (nv:Nat) (rv:List ByteArray) (k:Nat) (E:List El) (at_ date:Int) (ref orig:ByteArray) (amt:Int) (code:ByteArray) (U:Nat) (ap:ByteArray) (gm':Bool) (m':Nat) (gs':List Au) (u':Us) (ac':Acc) (hk:E.length=k) (h6:k<=1000) (h95:geB E 95=false) (hgm:gm'=true\/gm'=gm)
  (c1:FC Tryz.prog 14 59 [.ptr 1 0 0 0,rqV 100 k at_ date ref orig c0I b0v amt] (hpI now km gm rm m gs u ac nv rv k E) (a0h (.agg [.str code,.int .i64 U,.str ap]) (hpO now km gm' rm m' gs' u' ac') 17)):
  FC Tryz.prog 14 27 [.ptr 1 0 0 0,rqV 100 k at_ date ref orig c0I b0v amt] (hpJ now km gm rm m gs u ac nv rv k E) (a0h (.agg [.str code,.int .i64 U,.str ap]) (hpP now km gm' rm m' gs' u' ac' nv rv) 18):=by
 have cg:=b0z E k 100 95 hk (by omega);rw [h95] at cg;generalize geV E 95=g at*;rcases hgm with rfl|rfl
 .cases km<;>cases gm<;>cases rm;all_goals refine fEx Tryz.func27 ?_
  all_goals repeat' ((conv=>whnf);first|refine cOx (l:= [0,13]) cg ?_|refine cOx (l:=i14) c1 ?_|refine a0a ?_|(apply bRx<;>intro h<;>try (exfalso;(try dsimp only at h);omega)))
  all_goals (conv=>whnf)
  all_goals exact rOz [0,1,2,3,4,5,6,7,8,9,10,11,12,13,16,17,18,12]
 .cases km<;>cases gm'<;>cases rm;all_goals refine fEx Tryz.func27 ?_
  all_goals repeat' ((conv=>whnf);first|refine cOx (l:= [0,13]) cg ?_|refine cOx (l:=i14) c1 ?_|refine a0a ?_|(apply bRx<;>intro h<;>try (exfalso;(try dsimp only at h);omega)))
  all_goals (conv=>whnf)
  all_goals exact rOz [0,1,2,3,4,5,6,7,8,9,10,11,12,13,16,17,18,12]
theorem q0R (now:Int) (km gm rm:Bool) (m:Nat) (gs:List Au) (u:Us) (ac:Acc) (nv:Nat) (rv:List ByteArray) (k:Nat) (E:List El) (at_ date:Int) (ref orig:ByteArray) (amt:Int) (code:ByteArray) (gm':Bool) (m':Nat) (gs':List Au) (u':Us) (ac':Acc) (hgm:gm'=true\/gm'=gm)
  (c1:FC Tryz.prog 14 60 [.ptr 1 0 0 0,rqV 120 k at_ date ref orig c0I b0v amt] (hpI now km gm rm m gs u ac nv rv k E) (a0h (.str code) (hpO now km gm' rm m' gs' u' ac') 17)):
  FC Tryz.prog 14 27 [.ptr 1 0 0 0,rqV 120 k at_ date ref orig c0I b0v amt] (hpJ now km gm rm m gs u ac nv rv k E) (a0h (.agg [.str code,.int .i64 (0:Nat),.str ⟨#[]⟩]) (hpP now km gm' rm m' gs' u' ac' nv rv) 18):=by
 have c0:=e0c code;rcases hgm with rfl|rfl
 .cases km<;>cases gm<;>cases rm;all_goals refine fEx Tryz.func27 ?_
  all_goals repeat' ((conv=>whnf);first|refine cOx (l:=i14) c1 ?_|refine cPx c0 ?_|refine a0a ?_|(apply bRx<;>intro h<;>try (exfalso;(try dsimp only at h);omega)))
  all_goals (conv=>whnf)
  all_goals exact rOz [0,1,2,3,4,5,6,7,8,9,10,11,12,13,16,17,18,12]
 .cases km<;>cases gm'<;>cases rm;all_goals refine fEx Tryz.func27 ?_
  all_goals repeat' ((conv=>whnf);first|refine cOx (l:=i14) c1 ?_|refine cPx c0 ?_|refine a0a ?_|(apply bRx<;>intro h<;>try (exfalso;(try dsimp only at h);omega)))
  all_goals (conv=>whnf)
  all_goals exact rOz [0,1,2,3,4,5,6,7,8,9,10,11,12,13,16,17,18,12]
theorem o0X (now:Int) (km gm rm:Bool) (m:Nat) (gs:List Au) (u:Us) (ac:Acc) (nv:Nat) (rv:List ByteArray) (k:Nat) (E:List El) (at_ date:Int) (ref orig:ByteArray) (amt:Int) (gs':List Au) (u':Us) (ac':Acc) (nv':Nat) (rv':List ByteArray)
  (c1:FC Tryz.prog 14 61 [.ptr 1 0 0 0,rqV 420 k at_ date ref orig c0I b0v amt] (hpJ now km gm rm m gs u ac nv rv k E) (a0h (.tup []) (hpP now km gm true m gs' u' ac' nv' rv') 18)):
  FC Tryz.prog 14 27 [.ptr 1 0 0 0,rqV 420 k at_ date ref orig c0I b0v amt] (hpJ now km gm rm m gs u ac nv rv k E) (a0h (.agg [.str ⟨#[48,48]⟩,.int .i64 (0:Nat),.str ⟨#[]⟩]) (hpP now km gm true m gs' u' ac' nv' rv') 18):=by
 have c0:=e0c ⟨#[48,48]⟩;cases km<;>cases gm<;>cases rm;all_goals refine fEx Tryz.func27 ?_
 all_goals repeat' ((conv=>whnf);first|refine cOx (l:=i14) c1 ?_|refine cPx c0 ?_|refine a0a ?_|(apply bRx<;>intro h<;>try (exfalso;(try dsimp only at h);omega)))
 all_goals (conv=>whnf)
 all_goals exact rOz [0,1,2,3,4,5,6,7,8,9,10,11,12,13,16,17,18,19]
end
section
attribute [local irreducible] a0G a0H a0q b0H
attribute [local irreducible] b0v
abbrev hpH (now:Int) (km gm rm:Bool) (nr:Nat) (rk:List ByteArray) (rt:List Int) (rE:List (List El)) (m:Nat) (gs:List Au) (u:Us) (ac:Acc) (nv:Nat) (rv:List ByteArray) (k:Nat) (E:List El):a0g:=(0,some (GB glT))::(1,some (.one false (hsB now km gm rm m)))::(4,some (.one true hoM))::(5,some (.one true hoB))::(6,some (.one false (cdB 2 u)))::(7,some (.one false (acB ac)))::(8,some (.one false (acM ac)))::(13,some (.one true (elK k E)))::rpR false km nr rk rt rE++(bif gm then [(9,some (.one false (grS m))),(10,some (.fam false (fun x=>x<m) (gaF gs))),(11,some (.one false (grM m gs)))] else [])++(bif rm then [(12,some (.one false (rvM nv rv)))] else [])
abbrev hpK (now:Int) (gm rm:Bool) (nr:Nat) (rk:List ByteArray) (rt:List Int) (rE:List (List El)) (m:Nat) (gs:List Au) (u:Us) (ac:Acc) (nv:Nat) (rv:List ByteArray) (k:Nat) (E:List El):a0g:=(1,some (.one false (hcB now (.map 18 0) (sS gm 14 m) (mS gm 16) (mS rm 17))))::(6,some (.one false (cdB 2 u)))::(7,some (.one false (acB ac)))::(8,some (.one false (acM ac)))::(18,some (.one false (r0h nr rk rt (.own 19 (rE.map List.length)))))::(19,some (.fam false (fun x=>x<nr) (reF rE)))::(20,some (.one false (elK k E)))::(bif gm then grO m gs else [])++(bif rm then [(17,some (.one false (rvM nv rv)))] else [])
theorem l0w (now:Int) (gm rm:Bool) (nr:Nat) (rk:List ByteArray) (rt:List Int) (rE:List (List El)) (m:Nat) (gs:List Au) (u:Us) (ac:Acc) (nv:Nat) (rv:List ByteArray) (k:Nat) (E:List El) (t at_:Int) (l:List Int) (i kr:Nat) (key:ByteArray) (hk:E.length=k) (hM:MsOk t E l) (ht:t=100\/t=120\/t=420) (hat:0<=at_/\at_<=1000000000) (hn:now<=at_) (h37:geB E 37=true) (h1:(geV E 37).size<=255) (h2:(geV E 56).size<=255) (hkey:kyS t E=key) (hi:a0k rk key=i) (hin:i<nr) (h3:rE.length=nr) (hkr:(rE.getD i []).length=kr) (h6:kr<=1000):
  FC Tryz.prog 14 10 [.ptr 1 0 0 0,.int .i64 at_,.agg [.int .i64 t,.sl 13 0 0 k]] (hpH now true gm rm nr rk rt rE m gs u ac nv rv k E) (a0h (.tup [.agg [.int .i64 (rt.getD i 0),.sl 20 0 0 kr],.int .i64 0]) (hpK at_ gm rm nr rk rt rE m gs u ac nv rv kr (rE.getD i [])) 21):=by
 have hl:=hM.len;have c1:=l0n t E l k hk hM;have c2:=n0P now true gm rm m at_ hat hn;have c3:=t0u t E k hk (by omega) ht h37 h1 h2;have c4:=l0v now gm rm m nr rk rt rE key i kr hi hin h3 hkr h6;rw [hkey] at c3;generalize rE.getD i []=R at*;generalize rt.getD i 0=t2 at*;generalize at_/86400=q at*;rcases ht with rfl|rfl|rfl<;>cases gm<;>cases rm
 all_goals refine fEx Tryz.func10 ?_
 all_goals repeat' ((conv=>whnf);first|refine cOx (l:= [0,13]) c1 ?_|refine cOx (l:=i13) c2 ?_|refine cOx (l:= [0,13]) c3 ?_|refine cOx (l:=i13) c4 ?_|refine a0a ?_|(apply bRx<;>intro h<;>try (exfalso;(try dsimp only at h);omega)))
 all_goals (conv=>whnf)
 all_goals first
  |exact rOz [0,1,2,3,4,5,6,7,8,9,10,11,12,13,9,10,11,12,2,3,16]
  |trace_state
set_option maxHeartbeats 8000000 in
theorem l0x (now:Int) (km gm rm:Bool) (nr:Nat) (rk:List ByteArray) (rt:List Int) (rE:List (List El)) (m:Nat) (gs:List Au) (u:Us) (ac:Acc) (nv:Nat) (rv:List ByteArray) (k:Nat) (E:List El) (t at_:Int) (l:List Int) (key:ByteArray) (gm' rm':Bool) (m':Nat) (gs':List Au) (u':Us) (ac':Acc) (nv':Nat) (rv':List ByteArray) (code:ByteArray) (U:Nat) (ap:ByteArray) (kr:Nat) (R:List El) (hk:E.length=k) (hM:MsOk t E l) (ht:t=100\/t=120\/t=420) (hat:0<=at_/\at_<=1000000000) (hn:now<=at_) (h37:geB E 37=true) (h1:(geV E 37).size<=255) (h2:(geV E 56).size<=255) (hcd:geV E 2=c0I) (hcu:geV E 49=b0v) (hz:(geV E 4).size<=1000000) (hkey:kyS t E=key) (hno:¬a0k rk key<nr) (hrk:rk.length=nr) (hrt:rt.length=nr) (h3:rE.length=nr) (h0:km=false->nr=0/\rk= []/\rt= []/\rE= [])
  (hfl:((t=100\/t=120)/\rm=rm'/\(gm'=true\/(gm=false/\gm'=false)))\/(t=420/\gm=gm'/\rm'=true)) (hco:mdB code=true/\code.size=2) (hU:U<10^12) (h4:U≠0->f0t 4 (dgW 12 U)/\f0t 38 ap) (hR:reE E code U ap=R) (hkr:R.length=kr)
  (c1:FC Tryz.prog 14 27 [.ptr 1 0 0 0,rqV t k at_ (at_/86400) (geV E 37) (geV E 56) c0I b0v (nuV E 4)] (hpJ now km gm rm m gs u ac nv rv k E) (a0h (.agg [.str code,.int .i64 U,.str ap]) (hpP now km gm' rm' m' gs' u' ac' nv' rv') 18)):
  FC Tryz.prog 14 10 [.ptr 1 0 0 0,.int .i64 at_,.agg [.int .i64 t,.sl 13 0 0 k]] (hpH now km gm rm nr rk rt rE m gs u ac nv rv k E) (a0h (.tup [.agg [.int .i64 (t+10),.sl 20 0 0 kr],.int .i64 0]) (hpK at_ gm' rm' (nr+1) (rk++ [key]) (rt++ [t+10]) (rE++ [R]) m' gs' u' ac' nv' rv' kr R) 21):=by
 have hl:=hM.len;have hre:=q0z E code U ap;have d1:=l0n t E l k hk hM;have d2:=n0P now km gm rm m at_ hat hn;have d3:=t0u t E k hk (by omega) ht h37 h1 h2;have d4:=m0C now km gm rm m nr rk rt rE key hrk (fun _=>hno) h3 hrt;have d5:=w0P now km gm rm m E k t at_ (at_/86400) hk (by omega) hcd hz;have d6:=s0x E k t code U ap hk (by omega) ht hco.1 hco.2 hU h4;rw [hR] at hre d6;rw [hkr] at hre d6;have d7:=o0V now km gm' rm' m' nr rk rt rE key (t+10) kr R hkr (by omega) hrk hrt h3 hno h0;rw [hkey] at d3;rw [hcu] at d5;generalize geV E 37=x37 at*;generalize geV E 56=x56 at*;generalize nuV E 4=x4 at*;generalize at_/86400=q at*;clear h0 hkr hR h4 hU hno hM;rcases hfl with ⟨rfl|rfl,rfl,rfl|⟨rfl,rfl⟩⟩|⟨rfl,rfl,rfl⟩
 all_goals cases km<;>cases rm
 all_goals (try cases gm)
 all_goals refine fEx Tryz.func10 ?_
 all_goals repeat' ((conv=>whnf);first|refine cOx (l:= [0,13]) d1 ?_|refine cOx (l:=i13) d2 ?_|refine cOx (l:= [0,13]) d3 ?_|refine cOx (l:=i13) d4 ?_|refine cOx (l:=i14) d5 ?_|refine cOx (l:=i14) c1 ?_|refine cOx (l:= [0,13]) d6 ?_|refine cOx (l:= [0,1,2,3,4,5,6,7,8,18,19,20,21,22]) d7 ?_|refine a0a ?_|(apply bRx<;>intro h<;>try (exfalso;(try dsimp only at h);omega)))
 all_goals (conv=>whnf)
 all_goals first
  |exact rOz [0,1,2,3,4,5,6,7,8,9,10,11,12,13,18,19,20,21,24,25,22]
  |trace_state
end
section
attribute [local irreducible] a0G a0H a0q b0H
attribute [local irreducible] b0v
theorem n0S {a:Au} {t:Int} (h:a0D a=0) (hs:a.st=1) (ht:a.unt<=t):∃b,d0p a t=(b,a0e a,0)/\Cl a b/\0<a0e a/\a0e a<=999999999999:=by
 have hu:=h0J h hs;obtain ⟨f,_,hp,_,_,hx⟩:=b0K hu;have f3:=f.app;have f4:=f.rev;have f5:=f.cle;have f9:=f.pa;have ff:=f.funds;have e1:a0e { a with exp:=a.exp+a0e a}=0:=by
  rw [c0G _ (by simp;omega) (by simp;omega) (by simp;omega) (by simp;omega) (by simp;omega) (by simp;omega) (by simp;omega) (by simp;omega)];simp only;omega
 have e2:a0z { a with exp:=a.exp+a0e a}=4:=by
  unfold a0z;rw [e1,if_neg (by omega),if_pos (by simp only;omega)]
 have e3:a0e { a with exp:=a.exp+a0e a,st:=a0z { a with exp:=a.exp+a0e a}}=0:=by rw [<-e1];unfold a0e;rfl
 refine ⟨{ a with exp:=a.exp+a0e a,st:=a0z { a with exp:=a.exp+a0e a}},?_,⟨rfl,g0y ⟨f.id,f.cur,f.app,f.rev,f.cle,by simp only;omega,by simp only;rw [e3];omega,by rw [e3];omega,f.time,f.pa,?_,fun h4=> ?_⟩,?_,e3⟩,hp,by omega⟩
 .unfold d0p;rw [if_neg (by omega),if_neg (by omega)]
 .rw [i0N { a with exp:=a.exp+a0e a} (a0z { a with exp:=a.exp+a0e a})]
 .simp only [e2] at h4;exact absurd h4 (by decide)
 .simp only [e2];decide
abbrev exC (t:Int) (gs:List Au) (i:Nat):Prop:=(gs.getD i Au.zero).st=1/\(gs.getD i Au.zero).unt<=t
def r0i (t:Int) (p:List Au×Acc) (i:Nat):List Au×Acc:=
 if exC t p.1 i then (p.1.set i (d0p (p.1.getD i Au.zero) t).1,p.2.reA (d0p (p.1.getD i Au.zero) t).1.id (a0e (p.1.getD i Au.zero))) else p
def exR (t:Int) (p:List Au×Acc):Nat->List Au×Acc
 |0=>p
 |i+1=>r0i t (exR t p i) i
def exI (t:Int) (p:List Au×Acc):Nat->List ByteArray
 |0=> []
 |i+1=>if exC t (exR t p i).1 i then exI t p i++ [(d0p ((exR t p i).1.getD i Au.zero) t).1.id] else exI t p i
theorem q0S (t:Int) (p:List Au×Acc):∀i,(exI t p i).length<=i
 |0=>h0Z _
 |i+1=>by
  have:=q0S t p i;unfold exI;split
  .rw [p0P,r0Y];omega
  .omega
theorem g0i (t:Int) (p:List Au×Acc):∀i,(exR t p i).1.length=p.1.length
 |0=>rfl
 |i+1=>by
  unfold exR r0i;split
  .rw [z0X];exact g0i t p i
  .exact g0i t p i
theorem a0T {gs:List Au} {i j:Nat} {b:Au} (hi:i<gs.length):(gs.set i b).getD j Au.zero=if j=i then b else gs.getD j Au.zero:=by
 by_cases e:j=i
 .subst e;rw [if_pos rfl,List.getD,z0M hi];rfl
 .rw [if_neg e,List.getD,z0S (Ne.symm e)];rfl
theorem v0j {t:Int} {p:List Au×Acc} {m:Nat} (hm:p.1.length=m) (hc:∀i,i<m->a0D (p.1.getD i Au.zero)=0):∀i,i<=m->∀j,j<m->a0D ((exR t p i).1.getD j Au.zero)=0
 |0,_=>hc
 |i+1,hi=>by
  intro j hj;have ih:=v0j (t:=t) hm hc i (by omega);unfold exR r0i;split
  .rename_i h;obtain ⟨b,hb,hcl,_⟩:=n0S (ih i (by omega)) h.1 h.2;show a0D (((exR t p i).1.set i _).getD j Au.zero)=0;rw [a0T (by rw [g0i,hm];omega),hb];split
   .exact hcl.ck
   .exact ih j hj
  .exact ih j hj
theorem t0B (t:Int) (p:List Au×Acc) {m:Nat} (hm:p.1.length=m) (hc:∀i,i<m->a0D (p.1.getD i Au.zero)=0):∀i,i<=m->(exR t p i).1.map Au.id=p.1.map Au.id
 |0,_=>rfl
 |i+1,hi=>by
  have ih:=t0B t p hm hc i (by omega);unfold exR r0i;split
  .rename_i h;obtain ⟨b,hb,hcl,_⟩:=n0S (v0j (t:=t) hm hc i (by omega) i (by omega)) h.1 h.2;show ((exR t p i).1.set i _).map Au.id=_;rw [c0t (by rw [g0i,hm];omega) (by rw [hb];exact hcl.id)];exact ih
  .exact ih
abbrev exV (km rm:Bool) (m:Nat) (t:Int) (gs:List Au) (ac:Acc) (k:Nat):VS:=
 ⟨[(1,.int .i64 t),(7,.sl 13 0 0 (exI t (gs,ac) k).length),(30,.sl 9 0 0 m),(31,.int .i64 m),(32,.int .i64 k)],[(1,some (.one false (hsB t km true rm m))),(5,some (.one true hoB)),(7,some (.one false (acB (exR t (gs,ac) k).2))),(8,some (.one false (acM (exR t (gs,ac) k).2))),(9,some (.one true (grS m))),(10,some (.fam false (fun x=>x<m) (gaF (exR t (gs,ac) k).1))),(13,some (.one false (.cols (exI t (gs,ac) k).length [.sc (.strs (exI t (gs,ac) k))])))],14⟩
theorem s0E (now:Int) (km rm:Bool) (m:Nat) (gs:List Au) (ac:Acc) (t:Int) (hm:gs.length=m) (h256:m<=256) (hc:∀i,i<m->a0D (gs.getD i Au.zero)=0) (hat:0<=t/\t<=1000000000) (hn:now<=t):FC Tryz.prog 13 6 [.ptr 1 0 0 0,.int .i64 t] [(1,some (.one false (hsB now km true rm m))),(5,some (.one true hoB)),(7,some (.one false (acB ac))),(8,some (.one false (acM ac))),(9,some (.one true (grS m))),(10,some (.fam false (fun x=>x<m) (gaF gs)))]
  (a0h (.sl 13 0 0 (exI t (gs,ac) m).length) [(1,some (.one false (hsB t km true rm m))),(7,some (.one false (acB (exR t (gs,ac) m).2))),(8,some (.one false (acM (exR t (gs,ac) m).2))),(10,some (.fam false (fun x=>x<m) (gaF (exR t (gs,ac) m).1))),(13,some (.one false (.cols (exI t (gs,ac) m).length [.sc (.strs (exI t (gs,ac) m))])))] 14):=by
 have c0:=n0P now km true rm m t hat hn;generalize t/86400=q at*;cases km<;>cases rm;all_goals refine fEx Tryz.func6 ?_
 all_goals repeat' ((conv=>whnf);first|refine cOx (l:=i13) c0 ?_|refine a0a ?_|(apply bRx<;>intro h<;>try (exfalso;(try dsimp only at h);omega)))
 all_goals (conv=>whnf)
 all_goals first
  |refine a0m (exV false false m t gs ac) (fun k=>k<=m) (fun k=>m-k) 0 [0,1,2,3,4,5,6,7,8,9,10,11,12,13] [.slot 7 [.sc (.strs [])]] wHx (p0V _) ?_
  |refine a0m (exV false true m t gs ac) (fun k=>k<=m) (fun k=>m-k) 0 [0,1,2,3,4,5,6,7,8,9,10,11,12,13] [.slot 7 [.sc (.strs [])]] wHx (p0V _) ?_
  |refine a0m (exV true false m t gs ac) (fun k=>k<=m) (fun k=>m-k) 0 [0,1,2,3,4,5,6,7,8,9,10,11,12,13] [.slot 7 [.sc (.strs [])]] wHx (p0V _) ?_
  |refine a0m (exV true true m t gs ac) (fun k=>k<=m) (fun k=>m-k) 0 [0,1,2,3,4,5,6,7,8,9,10,11,12,13] [.slot 7 [.sc (.strs [])]] wHx (p0V _) ?_
  |trace_state
 all_goals
  intro k hk;have hlI:=q0S t (gs,ac) k;have hck:=v0j (t:=t) (p:=(gs,ac)) hm hc k hk;have hln:(exR t (gs,ac) k).1.length=m:=(g0i t (gs,ac) k).trans hm;have eR:exR t (gs,ac) (k+1)=r0i t (exR t (gs,ac) k) k:=rfl;have eI:exI t (gs,ac) (k+1)=if exC t (exR t (gs,ac) k).1 k then exI t (gs,ac) k++ [(d0p ((exR t (gs,ac) k).1.getD k Au.zero) t).1.id] else exI t (gs,ac) k:=rfl
  by_cases hlt:k<m
  .by_cases hx:exC t (exR t (gs,ac) k).1 k
   .obtain ⟨b,hb,hcl,hf⟩:=n0S (hck k hlt) hx.1 hx.2;unfold r0i at eR;rw [if_pos hx,hb] at eR eI;unfold exV;have c2:=m0B ((exR t (gs,ac) k).1.getD k Au.zero) t;rw [hb] at c2;have c3:=h0F (exR t (gs,ac) k).2 b.id (a0e ((exR t (gs,ac) k).1.getD k Au.zero));have hset:(fun x=>if x=(k:Int).toNat+0 then grB b else gaF (exR t (gs,ac) k).1 x)=gaF ((exR t (gs,ac) k).1.set k b):=m0D (by omega);have hx1:=hx.1;have hx2:=hx.2;generalize exI t (gs,ac) k=I at*;generalize exR t (gs,ac) k=P at*;obtain ⟨G,C⟩:=P;dsimp only at*;repeat' ((conv=>whnf);first|(rw [hset])|refine cPx c2 ?_|refine cOx (l:= [0,7,8]) c3 ?_|refine a0a ?_|(apply bRx<;>intro h<;>try (exfalso;(try dsimp only at h);omega)))
    all_goals (conv=>whnf)
    all_goals first
     |(exfalso;omega)
     |exact absurd hx1 h
     |exact absurd hx2 (Int.not_le.2 h)
     |exact absurd hx1 (by assumption)
     |(refine ⟨k+1,[0,1,2,3,4,5,6,7,8,9,10,11,12,16],[],hlt,by omega,?_⟩
       try dsimp only
       rw [eR,eI,p0P,r0Y];exact ⟨rfl,⟨rfl,rfl,rfl,rfl,congrArg (fun z=>some (SV.int .i64 z)) (a0C (by omega)),trivial⟩,⟨rfl,rfl,rfl,rfl,rfl,rfl,rfl,trivial⟩⟩)
     |trace_state
   .unfold r0i at eR;rw [if_neg hx] at eR eI;unfold exV;generalize exI t (gs,ac) k=I at*;generalize exR t (gs,ac) k=P at*;obtain ⟨G,C⟩:=P;dsimp only at*;repeat' ((conv=>whnf);first|refine a0a ?_|(apply bRx<;>intro h<;>try (exfalso;(try dsimp only at h);omega)))
    all_goals (conv=>whnf)
    all_goals first
     |(exfalso;omega)
     |exact absurd (⟨‹(G.getD ((k:Int).toNat+0) Au.zero).st=1›,Int.not_lt.1 h⟩:exC t G k) hx
     |(refine ⟨k+1,[0,1,2,3,4,5,6,7,8,9,10,11,12,13],[],hlt,by omega,?_⟩
       try dsimp only
       rw [eR,eI];exact ⟨rfl,⟨rfl,rfl,rfl,rfl,congrArg (fun z=>some (SV.int .i64 z)) (a0C (by omega)),trivial⟩,⟨rfl,rfl,rfl,rfl,rfl,rfl,rfl,trivial⟩⟩)
     |trace_state
  .have e:k=m:=by omega
   subst e;unfold exV;generalize exI t (gs,ac) k=I at*;generalize exR t (gs,ac) k=P at*;obtain ⟨G,C⟩:=P;dsimp only at*;repeat' ((conv=>whnf);first|refine a0a ?_|(apply bRx<;>intro h<;>try (exfalso;(try dsimp only at h);omega)))
   all_goals (conv=>whnf)
   all_goals first
    |(exfalso;omega)
    |exact rOz [0,1,2,3,4,5,6,7,8,9,10,11,12,13]
    |trace_state
end
section
structure In (b:Int) (gs:List Au) (ac:Acc) (rv:List ByteArray):Prop where
 ok:ac.Ok
 bal:ac.bal=b
 nd:(gs.map Au.id).Nodup
 ck:∀i,i<gs.length->a0D (gs.getD i Au.zero)=0
 get:∀i,i<gs.length->ac.get (gs.getD i Au.zero).id=a0e (gs.getD i Au.zero)
 ks:∀s∈ac.ks,s∈gs.map Au.id
 sum:ac.vs.sum=(gs.map a0e).sum
 rvd:∀i,i<gs.length->(gs.getD i Au.zero).id∈rv->a0e (gs.getD i Au.zero)=0
theorem i0P {gs:List Au} {i:Nat} (hi:i<gs.length):(gs.map Au.id)[i]? =some (gs.getD i Au.zero).id:=by
 rw [m0i,List.getD,f0N hi];rfl
theorem v0k {gs:List Au} (h:(gs.map Au.id).Nodup) {i j:Nat} (hi:i<gs.length) (hj:j<gs.length) (e:(gs.getD i Au.zero).id=(gs.getD j Au.zero).id):i=j:=by
 have h1:=c0b h (i0P hi);have h2:=c0b h (i0P hj);rw [e] at h1;omega
theorem q0T {gs:List Au} (h:(gs.map Au.id).Nodup) {i:Nat} (hi:i<gs.length):a0k (gs.map Au.id) (gs.getD i Au.zero).id=i:=c0b h (i0P hi)
theorem q0U {gs:List Au} {s:ByteArray} (h:a0k (gs.map Au.id) s<gs.length):(gs.getD (a0k (gs.map Au.id) s) Au.zero).id=s:=by
 have h1:=d0o (l:=gs.map Au.id) (s:=s) (by rw [y0P];exact h);rw [i0P h] at h1;exact Option.some.inj h1
theorem n0T:∀(gs:List Au) (i:Nat) (b:Au),i<gs.length->((gs.set i b).map a0e).sum=(gs.map a0e).sum-a0e (gs.getD i Au.zero)+a0e b
 | [],i,b,h=>absurd h (by simp)
 |y::l,0,b,_=>by
  show (a0e b::l.map a0e).sum=(a0e y::l.map a0e).sum-a0e y+a0e b;rw [u0v,u0v];omega
 |y::l,i+1,b,h=>by
  show (a0e y::(l.set i b).map a0e).sum=(a0e y::l.map a0e).sum-a0e (l.getD i Au.zero)+a0e b;rw [u0v,u0v,n0T l i b (by simpa using h)];omega
theorem In.acc {b:Int} {gs:List Au} {ac:Acc} {rv:List ByteArray} (h:In b gs ac rv) {id:ByteArray} (hi:a0k ac.ks id<ac.n\/(idB id=true/\ac.n<64)) (m:Int):(ac.set id m).Ok/\(ac.set id m).bal=b:=⟨w0z h.ok m hi,(u0J ac id m).1.trans h.bal⟩
theorem In.upd {b:Int} {gs:List Au} {ac:Acc} {rv:List ByteArray} (h:In b gs ac rv) {i:Nat} {a:Au} (hi:i<gs.length) (hid:a.id=(gs.getD i Au.zero).id) (hc:a0D a=0) (hx:a0k ac.ks a.id<ac.n\/(idB a.id=true/\ac.n<64)) (hr:a.id∈rv->a0e a=0):In b (gs.set i a) (ac.set a.id (a0e a)) rv:=by
 have hids:=c0t hi hid;have hln:(gs.set i a).length=gs.length:=z0X;refine ⟨(h.acc hx _).1,(h.acc hx _).2,by rw [hids];exact h.nd,?_,?_,?_,?_,?_⟩
 .intro j hj;rw [a0T hi];split
  .exact hc
  .exact h.ck j (by omega)
 .intro j hj;rw [a0T hi];split
  .show (ac.set a.id (a0e a)).get a.id=_;rw [j0M h.ok _ _ _ hx,if_pos rfl]
  .rename_i hne;show (ac.set a.id (a0e a)).get _=_;rw [j0M h.ok _ _ _ hx,if_neg]
   .exact h.get j (by omega)
   .rw [hid];intro e;exact hne (v0k h.nd (by omega) hi e)
 .intro s hs;rw [hids];rcases t0n _ _ _ hs with rfl|hs
  .rw [hid];exact v0G.2 ⟨i,i0P hi⟩
  .exact h.ks s hs
 .rw [q0k h.ok,h.sum,n0T gs i a hi];have:=h.get i hi;rw [<-hid] at this;omega
 .intro j hj;rw [a0T hi];split
  .exact hr
  .exact h.rvd j (by omega)
theorem j0X {gs:List Au} {a:Au} {j:Nat} (hj:j<(gs++ [a]).length):((gs++ [a]).getD j Au.zero=gs.getD j Au.zero/\j<gs.length)\/((gs++ [a]).getD j Au.zero=a/\j=gs.length):=by
 rw [p0P,r0Y] at hj;by_cases h:j<gs.length
 .exact .inl ⟨by rw [List.getD,List.getD,m0j h],h⟩
 .have e:j=gs.length:=by omega
  subst e;exact .inr ⟨by rw [List.getD,m0f (h0Z _),x0N];rfl,rfl⟩
theorem In.new {b:Int} {gs:List Au} {ac:Acc} {rv:List ByteArray} (h:In b gs ac rv) {a:Au} (hno:¬a.id∈gs.map Au.id) (hc:a0D a=0) (hx:a0k ac.ks a.id<ac.n\/(idB a.id=true/\ac.n<64)) (hr:¬a.id∈rv):In b (gs++ [a]) (ac.set a.id (a0e a)) rv:=by
 have hids:(gs++ [a]).map Au.id=gs.map Au.id++ [a.id]:=by rw [z0W];rfl
 have hmem:∀j,j<gs.length->(gs.getD j Au.zero).id≠a.id:=fun j hj e=>hno (by rw [<-e];exact v0G.2 ⟨j,i0P hj⟩)
 refine ⟨(h.acc hx _).1,(h.acc hx _).2,?_,?_,?_,?_,?_,?_⟩
 .rw [hids];refine z0l.2 ⟨h.nd,by simp,?_⟩;intro x hx y hy e;rw [p0T] at hy;subst hy;subst e;exact hno hx
 .intro j hj;rcases j0X hj with ⟨e,hj⟩|⟨e,_⟩<;>rw [e]
  .exact h.ck j hj
  .exact hc
 .intro j hj;rcases j0X hj with ⟨e,hj⟩|⟨e,_⟩<;>rw [e]
  .show (ac.set a.id (a0e a)).get _=_;rw [j0M h.ok _ _ _ hx,if_neg (hmem j hj)];exact h.get j hj
  .show (ac.set a.id (a0e a)).get _=_;rw [j0M h.ok _ _ _ hx,if_pos rfl]
 .intro s hs;rw [hids];rcases t0n _ _ _ hs with rfl|hs
  .simp
  .exact List.mem_append_left _ (h.ks s hs)
 .rw [q0k h.ok,h.sum,z0W,List.sum_append,List.map_singleton,u0v,List.sum_nil];have:ac.get a.id=0:=e0m h.ok fun hm=>hno (h.ks _ hm)
  omega
 .intro j hj;rcases j0X hj with ⟨e,hj⟩|⟨e,_⟩<;>rw [e]
  .exact h.rvd j hj
  .exact fun hm=>absurd hm hr
theorem In.rev {b:Int} {gs:List Au} {ac:Acc} {rv rv':List ByteArray} (h:In b gs ac rv) (hr:∀i,i<gs.length->(gs.getD i Au.zero).id∈rv'->(gs.getD i Au.zero).id∈rv\/a0e (gs.getD i Au.zero)=0):In b gs ac rv':= { h with rvd:=fun i hi hm=>(hr i hi hm).elim (h.rvd i hi) id}
theorem z0b {ac:Acc} {id:ByteArray} {n:Int} (h:ac.upE id n n=0):ac.newE id=0/\n<=ac.avail/\1<=n/\n<=999999999999:=by
 unfold Acc.upE at h;split at h
 .exact absurd h (by decide)
 .split at h
  .rename_i h2;exact absurd h h2
  .split at h
   .exact absurd h (by decide)
   .rename_i h1 h2 h3;exact ⟨Classical.not_not.1 h2,by omega,by omega,by omega⟩
theorem y0R {ac:Acc} {id:ByteArray} {n:Int} (h:ac.foE id n=0):idB id=true/\(a0k ac.ks id<ac.n\/ac.n<64)/\1<=n/\n<=999999999999:=by
 unfold Acc.foE at h;split at h
 .exact absurd h (by decide)
 .split at h
  .exact absurd h (by decide)
  .split at h
   .exact absurd h (by decide)
   .split at h
    .exact absurd h (by decide)
    .rename_i h1 h2 h3 h4;refine ⟨by simpa using h2,?_,by omega,by omega⟩;by_cases hk:a0k ac.ks id<ac.n
     .exact .inl hk
     .exact .inr (by omega)
theorem In.authorize {b:Int} {gs gs':List Au} {ac ac':Acc} {rv:List ByteArray} {gm gm':Bool} {m m' nv:Nat} {ref:ByteArray} {amt:Int} {a:Au} (h:In b gs ac rv) (hm:gs.length=m) (hv:rv.length=nv) (hai:a.id=ref) (haf:a0e a=amt) (hac:a0D a=0) (hA:AuF m gs ac (decide (a0k rv ref<nv)) (decide (a0k (gs.map Au.id) ref<m)) gm gm' m' gs' ac' ref amt a):In b gs' ac' rv/\m'<=m+1/\gs'.length=m'/\(gm'=true\/(gm'=gm/\m'=m/\gs'=gs)):=by
 rcases hA with ⟨rfl,rfl,rfl,rfl⟩|⟨h1,h2,rfl,rfl,rfl,he,rfl⟩
 .exact ⟨h,by omega,hm,.inr ⟨rfl,rfl,rfl⟩⟩
 .obtain ⟨hn,hav,_⟩:=z0b he;obtain ⟨e1,e2,e3⟩:=u0I hn;have e4:ac.upA ref amt amt=ac.set ref amt:=by
   unfold Acc.upA;rw [if_pos he,Int.min_eq_left hav]
  subst hai;subst haf;rw [e4];refine ⟨h.new (fun hm'=> ?_) hac (.inr ⟨e1,e3⟩) fun hr=> ?_,h0Z _,by rw [p0P,hm];rfl,.inl rfl⟩
  .exact of_decide_eq_false h2 (by have:=b0u.2 hm';rw [y0P] at this;omega)
  .exact of_decide_eq_false h1 (by have:=b0u.2 hr;omega)
end
section
attribute [local irreducible] a0G a0H a0q b0H
attribute [local irreducible] b0v
theorem q0V (now:Int) (km rm:Bool) (m:Nat) (t:Int) (hat:0<=t/\t<=1000000000) (hn:now<=t):FC Tryz.prog 13 6 [.ptr 1 0 0 0,.int .i64 t] [(1,some (.one false (hsB now km false rm m)))]
  (a0h .nsl [(1,some (.one false (hsB t km false rm m)))] 13):=by
 have c0:=n0P now km false rm m t hat hn;generalize t/86400=q at*;cases km<;>cases rm;all_goals refine fEx Tryz.func6 ?_
 all_goals repeat' ((conv=>whnf);first|refine cOx (l:=i13) c0 ?_|refine a0a ?_|(apply bRx<;>intro h<;>try (exfalso;(try dsimp only at h);omega)))
 all_goals (conv=>whnf)
 all_goals first
  |refine a0m (fun _:Unit=>⟨[(7,.nsl),(31,.int .i64 0),(32,.int .i64 0)],[(1,some (.one false (hsB t false false false m)))],13⟩) (fun _=>True) (fun _=>0) () i13 [] wHx trivial ?_
  |refine a0m (fun _:Unit=>⟨[(7,.nsl),(31,.int .i64 0),(32,.int .i64 0)],[(1,some (.one false (hsB t false false true m)))],13⟩) (fun _=>True) (fun _=>0) () i13 [] wHx trivial ?_
  |refine a0m (fun _:Unit=>⟨[(7,.nsl),(31,.int .i64 0),(32,.int .i64 0)],[(1,some (.one false (hsB t true false false m)))],13⟩) (fun _=>True) (fun _=>0) () i13 [] wHx trivial ?_
  |refine a0m (fun _:Unit=>⟨[(7,.nsl),(31,.int .i64 0),(32,.int .i64 0)],[(1,some (.one false (hsB t true false true m)))],13⟩) (fun _=>True) (fun _=>0) () i13 [] wHx trivial ?_
  |trace_state
 all_goals
  intro _ _;repeat' ((conv=>whnf);first|refine a0a ?_|(apply bRx<;>intro h<;>try (exfalso;(try dsimp only at h);omega)))
  all_goals (conv=>whnf)
  all_goals exact rOz i13
theorem t0C (now:Int) (km gm rm:Bool) (m:Nat) (gs:List Au) (id:ByteArray) (hm:gs.length=m) (h0:gm=false->m=0/\gs= []):FC Tryz.prog 13 16 [.ptr 1 0 0 0,.str id] ((1,some (.one true (hsB now km gm rm m)))::(bif gm then [(10,some (.fam true (fun x=>x<m) (gaF gs))),(11,some (.one true (grM m gs)))] else []))
  (a0h (.tup [(gs.getD (a0k (gs.map Au.id) id) Au.zero).s,.bool (decide (a0k (gs.map Au.id) id<m))]) [] 13):=by
 by_cases h2:a0k (gs.map Au.id) id<m
 .have hfd:a0N false m [.ptrs 10 m] (a0k (gs.map Au.id) id)= .ptr 10 (a0k (gs.map Au.id) id) 0 0:=by unfold a0N;rw [decide_eq_true h2];rfl
  have hdec:decide (a0k (gs.map Au.id) id<m)=true:=decide_eq_true h2;rw [hdec];cases gm with
  |false=>exfalso;obtain ⟨rfl,_⟩:=h0 rfl;omega
  |true=>
   clear h0;cases km<;>cases rm;all_goals refine fEx Tryz.func16 ?_
   all_goals repeat' ((conv=>whnf);first|(rw [hfd,hdec])|refine a0a ?_|(apply bRx<;>intro h<;>try (exfalso;(try dsimp only at h);omega)))
   all_goals (conv=>whnf)
   all_goals exact rOz i13
 .have hfd:a0N false m [.ptrs 10 m] (a0k (gs.map Au.id) id)= .nptr:=by unfold a0N;rw [decide_eq_false h2];rfl
  have hdec:decide (a0k (gs.map Au.id) id<m)=false:=decide_eq_false h2;have hz:gs.getD (a0k (gs.map Au.id) id) Au.zero=Au.zero:=by
   rw [List.getD,h0t (by omega)];rfl
  rw [hdec,hz];clear h0;cases km<;>cases gm<;>cases rm;all_goals refine fEx Tryz.func16 ?_
  all_goals repeat' ((conv=>whnf);first|(rw [hfd,hdec])|refine a0a ?_|(apply bRx<;>intro h<;>try (exfalso;(try dsimp only at h);omega)))
  all_goals (conv=>whnf)
  all_goals exact rOz i13
abbrev auR (n:Nat) (L:List Au):Blk:= .cols n [.sc (.strs (L.map Au.id)),.sc (.strs (L.map Au.cur)),.sc (.ints .i64 (L.map Au.app)),.sc (.ints .i64 (L.map Au.rev)),.sc (.ints .i64 (L.map Au.cle)),.sc (.ints .i64 (L.map Au.exp)),.sc (.ints .i64 (L.map Au.st)),.sc (.ints .i64 (L.map Au.att)),.sc (.ints .i64 (L.map Au.unt)),.sc (.ints .i64 (L.map Au.pa))]
theorem x0f {n:Nat} {L:List Au} {a:Au}:(some (HB.one false (.cols (n+1) [.sc (.strs (L.map Au.id++ [a.id])),.sc (.strs (L.map Au.cur++ [a.cur])),.sc (.ints .i64 (L.map Au.app++ [a.app])),.sc (.ints .i64 (L.map Au.rev++ [a.rev])),.sc (.ints .i64 (L.map Au.cle++ [a.cle])),.sc (.ints .i64 (L.map Au.exp++ [a.exp])),.sc (.ints .i64 (L.map Au.st++ [a.st])),.sc (.ints .i64 (L.map Au.att++ [a.att])),.sc (.ints .i64 (L.map Au.unt++ [a.unt])),.sc (.ints .i64 (L.map Au.pa++ [a.pa]))])):Option HB)=some (.one false (auR (n+1) (L++ [a]))):=by simp
theorem q0W {gs:List Au} {k:Nat} (h:k<gs.length):gs.take (k+1)=gs.take k++ [gs.getD k Au.zero]:=by
 rw [List.take_add_one,List.getD,f0N h];rfl
theorem n0U (now:Int) (km rm:Bool) (m:Nat):FC Tryz.prog 13 13 [.ptr 1 0 0 0] [(1,some (.one true (hsB now km false rm m)))] (a0h .nsl [] 13):=by
 cases km<;>cases rm;all_goals refine fEx Tryz.func13 ?_
 all_goals repeat' ((conv=>whnf);first|refine a0a ?_|(apply bRx<;>intro h<;>try (exfalso;(try dsimp only at h);omega)))
 all_goals (conv=>whnf)
 all_goals
  refine a0m (fun _:Unit=>⟨[(3,.nsl),(12,.int .i64 0),(13,.int .i64 0)],[],13⟩) (fun _=>True) (fun _=>0) () i13 [] wHx trivial ?_;intro _ _;repeat' ((conv=>whnf);first|refine a0a ?_|(apply bRx<;>intro h<;>try (exfalso;(try dsimp only at h);omega)))
  all_goals (conv=>whnf)
  all_goals exact rOz i13
set_option maxHeartbeats 2000000 in
theorem q0X (now:Int) (km rm:Bool) (m:Nat) (gs:List Au) (hm:gs.length=m) (h256:m<=256):FC Tryz.prog 13 13 [.ptr 1 0 0 0] [(1,some (.one true (hsB now km true rm m))),(9,some (.one true (grS m))),(10,some (.fam true (fun x=>x<m) (gaF gs)))] (a0h (.sl 13 0 0 m) [(13,some (.one false (auR m gs)))] 14):=by
 cases km<;>cases rm;all_goals refine fEx Tryz.func13 ?_
 all_goals repeat' ((conv=>whnf);first|refine a0a ?_|(apply bRx<;>intro h<;>try (exfalso;(try dsimp only at h);omega)))
 all_goals (conv=>whnf)
 all_goals
  refine a0m (fun k:Nat=>⟨[(3,.sl 13 0 0 k),(11,.sl 9 0 0 m),(12,.int .i64 m),(13,.int .i64 k)],[(9,some (.one true (grS m))),(10,some (.fam true (fun x=>x<m) (gaF gs))),(13,some (.one false (auR k (gs.take k))))],14⟩) (fun k=>k<=m) (fun k=>m-k) 0 [0,1,2,3,4,5,6,7,8,9,10,11,12,13] [.slot 3 [.sc (.strs []),.sc (.strs []),.sc (.ints .i64 []),.sc (.ints .i64 []),.sc (.ints .i64 []),.sc (.ints .i64 []),.sc (.ints .i64 []),.sc (.ints .i64 []),.sc (.ints .i64 []),.sc (.ints .i64 [])]] wHx (p0V _) ?_;intro k hk;by_cases hlt:k<m
  .have e:=q0W (gs:=gs) (k:=k) (by omega);have hr:=x0f (n:=k) (L:=gs.take k) (a:=gs.getD k Au.zero);rw [<-e] at hr;repeat' ((conv=>whnf);first|refine a0a ?_|(apply bRx<;>intro h<;>try (exfalso;(try dsimp only at h);omega)))
   all_goals (conv=>whnf)
   all_goals first
    |(exfalso;omega)
    |exact ⟨k+1,[0,1,2,3,4,5,6,7,8,9,10,11,12,15],[],hlt,by omega,⟨rfl,⟨rfl,rfl,rfl,congrArg (fun z=>some (SV.int .i64 z)) (a0C (by omega)),trivial⟩,⟨rfl,rfl,hr,trivial⟩⟩⟩
    |trace_state
  .have e:k=m:=by omega
   subst e;rw [v0E (by omega)];repeat' ((conv=>whnf);first|refine a0a ?_|(apply bRx<;>intro h<;>try (exfalso;(try dsimp only at h);omega)))
   all_goals (conv=>whnf)
   all_goals first
    |(exfalso;omega)
    |exact rOz [0,1,2,3,4,5,6,7,8,9,10,11,12,13]
    |trace_state
end
section
attribute [local irreducible] a0G a0H a0q b0H
def Rf (j:Nat):ByteArray:=⟨#[48,48,48,48,48,48]⟩++dgW 6 j
abbrev b3:ByteArray:=⟨#[48,48,48,48,48,48]⟩
abbrev b7:ByteArray:=⟨#[48,48,48,48,48,48,48,48,48,48,48,48,48]⟩
abbrev b32:ByteArray:=⟨#[115,104,111,112,98,97,110,107]⟩
abbrev b41:ByteArray:=⟨#[116,49]⟩
abbrev b42:ByteArray:=⟨#[109,49]⟩
def q0Y (ref own am:ByteArray):List El:= [(2,c0I),(3,b3),(4,am),(7,b7),(11,own),(32,b32),(37,ref),(41,b41),(42,b42),(49,b0v)]
def v0l (ref own am:ByteArray):List El:= [(2,c0I),(3,b3),(4,am),(7,b7),(11,own),(32,b32),(37,ref),(39,⟨#[48,48]⟩),(41,b41),(42,b42),(49,b0v)]
def s0F (ref own am:ByteArray):List El:= [(2,c0I),(4,am),(11,own),(32,b32),(37,⟨#[48,48,48,48,48,57]⟩++own),(49,b0v),(56,ref)]
theorem s0G (n:Nat) (hn:n<3):b0C Tryz.prog 8 [.int .u8 n] (.int .i64 (if n=0 then 100 else if n=1 then 120 else 420)):=by
 have h:n=0\/n=1\/n=2:=by omega
 rcases h with rfl|rfl|rfl
 all_goals refine fEx Tryz.func8 ?_
 all_goals repeat' ((conv=>whnf);first|refine a0a ?_|(apply bRx<;>intro h<;>try (exfalso;(try dsimp only at h);omega)))
 all_goals (conv=>whnf)
 all_goals exact a0d rfl
theorem g0j (j:Nat) (own:ByteArray) (U:Nat) (hj:j<6) (hU:U<10^12) (ho:own.size=6):FC Tryz.prog 1 7 [.int .i64 100,.int .i64 j,.str own,.int .i64 U] [] (a0h (.agg [.int .i64 100,.sl 1 0 0 10]) [(1,some (.one false (elK 10 (q0Y (Rf j) own (dgW 12 U)))))] 2):=by
 have c0:=b0J j 6 (by omega) (by decide) (by decide);have c1:=b0J U 12 (by omega) (by decide) (by decide);have w1:IntKind.i64.wrap (j:Int)=j:=a0r (by omega) (by omega);have hr:=b0g 6 j;have z1:b3.size+(dgW 6 j).size<=9223372036854775807:=by rw [hr];decide
 have z2:(⟨#[48,48,48,48,48,57]⟩:ByteArray).size+own.size<=9223372036854775807:=by rw [ho];decide
 unfold Rf;generalize dgW 6 j=r at*;generalize dgW 12 U=a at*;refine fEx Tryz.func7 ?_;repeat' ((conv=>whnf);first|(rw [w1])|refine ⟨z1,?_⟩|refine ⟨z2,?_⟩|refine cPx c0 ?_|refine cPx c1 ?_|refine a0a ?_|(apply bRx<;>intro h<;>try (exfalso;(try dsimp only at h);omega)))
 all_goals (conv=>whnf)
 all_goals first
  |exact rOz [0,5]
  |trace_state
theorem l0y (j:Nat) (own:ByteArray) (U:Nat) (hj:j<6) (hU:U<10^12) (ho:own.size=6):FC Tryz.prog 1 7 [.int .i64 120,.int .i64 j,.str own,.int .i64 U] [] (a0h (.agg [.int .i64 120,.sl 1 0 0 11]) [(1,some (.one false (elK 11 (v0l (Rf j) own (dgW 12 U)))))] 2):=by
 have c0:=b0J j 6 (by omega) (by decide) (by decide);have c1:=b0J U 12 (by omega) (by decide) (by decide);have w1:IntKind.i64.wrap (j:Int)=j:=a0r (by omega) (by omega);have hr:=b0g 6 j;have z1:b3.size+(dgW 6 j).size<=9223372036854775807:=by rw [hr];decide
 have z2:(⟨#[48,48,48,48,48,57]⟩:ByteArray).size+own.size<=9223372036854775807:=by rw [ho];decide
 unfold Rf;generalize dgW 6 j=r at*;generalize dgW 12 U=a at*;refine fEx Tryz.func7 ?_;repeat' ((conv=>whnf);first|(rw [w1])|refine ⟨z1,?_⟩|refine ⟨z2,?_⟩|refine cPx c0 ?_|refine cPx c1 ?_|refine a0a ?_|(apply bRx<;>intro h<;>try (exfalso;(try dsimp only at h);omega)))
 all_goals (conv=>whnf)
 all_goals first
  |exact rOz [0,5]
  |trace_state
set_option maxHeartbeats 2000000 in
theorem g0k (j:Nat) (own:ByteArray) (U:Nat) (hj:j<6) (hU:U<10^12) (ho:own.size=6):FC Tryz.prog 1 7 [.int .i64 420,.int .i64 j,.str own,.int .i64 U] [] (a0h (.agg [.int .i64 420,.sl 1 0 0 7]) [(1,some (.one false (elK 7 (s0F (Rf j) own (dgW 12 U)))))] 2):=by
 have c0:=b0J j 6 (by omega) (by decide) (by decide);have c1:=b0J U 12 (by omega) (by decide) (by decide);have w1:IntKind.i64.wrap (j:Int)=j:=a0r (by omega) (by omega);have hr:=b0g 6 j;have z1:b3.size+(dgW 6 j).size<=9223372036854775807:=by rw [hr];decide
 have z2:(⟨#[48,48,48,48,48,57]⟩:ByteArray).size+own.size<=9223372036854775807:=by rw [ho];decide
 unfold Rf;generalize dgW 6 j=r at*;generalize dgW 12 U=a at*;refine fEx Tryz.func7 ?_;repeat' ((conv=>whnf);first|(rw [w1])|refine ⟨z1,?_⟩|refine ⟨z2,?_⟩|refine cPx c0 ?_|refine cPx c1 ?_|refine a0a ?_|(apply bRx<;>intro h<;>try (exfalso;(try dsimp only at h);omega)))
 all_goals (conv=>whnf)
 all_goals first
  |exact rOz [0,4]
  |trace_state
end
section
theorem s0H {l:List Int} (h:∀x∈l,48<=x/\x<=57):kdB 1 (a0u l):=by
 refine ⟨fun k hk=> ?_,.inl rfl,fun h=>absurd h (by decide)⟩;rw [a0P] at hk;rw [e0o (fun x hx=>by have:=h x hx;omega) k hk,List.getD,f0N hk];have:=h _ (z0R hk);exact .inl ⟨rfl,this⟩
theorem j0Y (w U:Nat):∀x∈h0y w U,48<=x/\x<=57:=fun x hx=>j0P hx
theorem o0Y {n:Int} {i:Nat} {l:List Int} (hd:x0P n i) (h:∀x∈l,48<=x/\x<=57) (hk:dcK.getD i 0=1) (hl:(l.length:Int)=dcL.getD i 0) (hp:1<=dcL.getD i 0):f0t n (a0u l):=by
 refine ⟨i,hd,?_,by rw [a0P];omega,by rw [hk];exact s0H h⟩;rw [a0P];split<;>omega
theorem d0q (j:Nat):Rf j=a0u (List.replicate 6 48++h0y 6 j):=by
 rw [<-c0g];rfl
theorem h0L (j:Nat):(⟨#[48,48,48,48,48,57]⟩:ByteArray)++dgW 6 j=a0u ([48,48,48,48,48,57]++h0y 6 j):=by
 rw [<-c0g];rfl
theorem s0I (j:Nat):∀x∈List.replicate 6 (48:Int)++h0y 6 j,48<=x/\x<=57:=by
 intro x hx;rcases u0r.1 hx with h|h
 .rw [List.eq_of_mem_replicate h];omega
 .exact j0P h
theorem x0g (j:Nat):∀x∈[48,48,48,48,48,(57:Int)]++h0y 6 j,48<=x/\x<=57:=by
 intro x hx;rcases u0r.1 hx with h|h
 .have h2:∀x∈[48,48,48,48,48,(57:Int)],48<=x/\x<=57:=by decide
  exact h2 x h
 .exact j0P h
theorem d0M (j:Nat):(Rf j).size=12:=by rw [d0q,a0P,p0P,a0l];rfl
theorem s0J (j:Nat):((⟨#[48,48,48,48,48,57]⟩:ByteArray)++dgW 6 j).size=12:=by rw [h0L,a0P,p0P,a0l];rfl
theorem y0u:f0t 2 c0I:=⟨0,f0s (by decide),by decide,by decide,by unfold kdB kdC;decide⟩
theorem y0S:f0t 3 b3:=⟨1,f0s (by decide),by decide,by decide,by unfold kdB kdC;decide⟩
theorem y0T:f0t 7 b7:=⟨3,f0s (by decide),by decide,by decide,by unfold kdB kdC;decide⟩
theorem v0m:f0t 32 b32:=⟨7,f0s (by decide),by decide,by decide,by unfold kdB kdC;decide⟩
theorem y0v:f0t 39 ⟨#[48,48]⟩:=⟨10,f0s (by decide),by decide,by decide,by unfold kdB kdC;decide⟩
theorem x0h:f0t 41 b41:=⟨11,f0s (by decide),by decide,by decide,by unfold kdB kdC;decide⟩
theorem x0i:f0t 42 b42:=⟨12,f0s (by decide),by decide,by decide,by unfold kdB kdC;decide⟩
theorem v0n:f0t 49 b0v:=⟨14,f0s (by decide),by decide,by decide,by unfold kdB kdC;decide⟩
theorem x0T (U:Nat):f0t 4 (dgW 12 U):=o0Y (i:=2) (f0s (by decide)) (j0Y 12 U) (by decide) (by rw [a0l];decide) (by decide)
theorem v0o (U:Nat):f0t 11 (dgW 6 U):=o0Y (i:=4) (f0s (by decide)) (j0Y 6 U) (by decide) (by rw [a0l];decide) (by decide)
theorem y0w (U:Nat):f0t 38 (dgW 6 U):=o0Y (i:=9) (f0s (by decide)) (j0Y 6 U) (by decide) (by rw [a0l];decide) (by decide)
theorem x0j (j:Nat):f0t 37 (Rf j):=by rw [d0q];exact o0Y (i:=8) (f0s (by decide)) (s0I j) (by decide) (by rw [p0P,a0l];decide) (by decide)
theorem y0x (j:Nat):f0t 56 (Rf j):=by rw [d0q];exact o0Y (i:=18) (f0s (by decide)) (s0I j) (by decide) (by rw [p0P,a0l];decide) (by decide)
theorem x0k (j:Nat):f0t 37 (⟨#[48,48,48,48,48,57]⟩++dgW 6 j):=by rw [h0L];exact o0Y (i:=8) (f0s (by decide)) (x0g j) (by decide) (by rw [p0P,a0l];decide) (by decide)
theorem t0D (j:Nat):apS (Rf j)=dgW 6 j:=by
 unfold apS;rw [d0q];apply l0p;simp [a0u,w0j,dgW,a0l];exact v0E (by simp [a0l])
theorem l0z (w U:Nat):∀k,k<=w->vaT (dgW w U) k=U/10^(w-k)%10^k
 |0,_=>by simp [vaT,Nat.mod_one]
 |k+1,hk=>by
  have ih:=l0z w U k (by omega);have hb:a0f (dgW w U) (k:Int)=((48+U/10^(w-1-k)%10:Nat):Int):=by
   unfold dgW;rw [e0o (fun x hx=>by have:=j0P hx;omega) k (by rw [a0l];omega),List.getD,d0X w U k (by omega)];rfl
  show 10*vaT (dgW w U) k+(a0f (dgW w U) (k:Int)-48).toNat=_;rw [ih,hb];have e1:w-k=(w-(k+1))+1:=by omega
  have e2:w-1-k=w-(k+1):=by omega
  rw [e2,e1,z0Z,z0Z,<-z0L,z0F (10^k) 10,Nat.mod_mul];omega
theorem v0p {E:List El} {n:Int} {U:Nat} (hb:geB E n=true) (hv:geV E n=dgW 12 U) (hU:U<10^12):nuV E n=U:=by
 have hd:mdB (dgW 12 U)=true:=by
  cases h:mdB (dgW 12 U) with
  |true=>rfl
  |false=>
   exfalso;have hk:=s0H (j0Y 12 U);have:g0x (dgW 12 U) (dgW 12 U).size=true:=by
    have:∀k,k<=(dgW 12 U).size->g0x (dgW 12 U) k=true:=by
     intro k;induction k with
     |zero=>intro _;rfl
     |succ k ih=>
      intro hk2;rcases hk.1 k (by show k<(dgW 12 U).size;omega) with h|h
      .exact f0p (ih (by omega)) h.2.1 h.2.2
      .exact absurd h.1 (by decide)
    exact this _ (h0Z _)
   unfold mdB at h;rw [this] at h;have hs:=b0g 12 U;simp only [y0g,Bool.not_eq_false',decide_eq_true_eq] at h;rw [h] at hs;exact absurd hs (by decide)
 have hs:=b0g 12 U;rw [(u0Q hb (by rw [hv,hs];decide) (by rw [hv];exact hd)).1,hv,hs,l0z 12 U 12 (h0Z _),x0N,Nat.pow_zero,Nat.div_one,z0G hU]
theorem m0F {P:El->Prop} {E:List El} (h:∀x∈E,P x):∀k,k<E.length->P (E.getD k el0):=by
 intro k hk;rw [List.getD,f0N hk];exact h _ (z0R hk)
theorem x0l (j o U:Nat):MsOk 100 (q0Y (Rf j) (dgW 6 o) (dgW 12 U)) rqQ:=by
 refine ⟨.inl ⟨rfl,rfl⟩,?_,?_,?_,(by decide:10<=100)⟩
 .intro k hk;have h9:∀k,k<9->rqQ.getD k 0<rqQ.getD (k+1) 0:=by decide
  rw [<-o0H,<-o0H];exact h9 k (by have:(q0Y (Rf j) (dgW 6 o) (dgW 12 U)).length=10:=rfl;omega)
 .refine m0F (P:=fun x=>f0t x.1 x.2) fun x hx=> ?_
  simp only [q0Y,j0x,List.not_mem_nil,or_false] at hx;rcases hx with rfl|rfl|rfl|rfl|rfl|rfl|rfl|rfl|rfl|rfl
  .exact y0u
  .exact y0S
  .exact x0T U
  .exact y0T
  .exact v0o o
  .exact v0m
  .exact x0j j
  .exact x0h
  .exact x0i
  .exact v0n
 .intro k hk;have:k<10:=hk;have h:k=0\/k=1\/k=2\/k=3\/k=4\/k=5\/k=6\/k=7\/k=8\/k=9:=by omega
  rcases h with rfl|rfl|rfl|rfl|rfl|rfl|rfl|rfl|rfl|rfl<;>rfl
theorem x0m (j o U:Nat):MsOk 120 (v0l (Rf j) (dgW 6 o) (dgW 12 U)) rqA:=by
 refine ⟨.inr (.inl ⟨rfl,rfl⟩),?_,?_,?_,(by decide:11<=100)⟩
 .intro k hk;have h9:∀k,k<10->rqA.getD k 0<rqA.getD (k+1) 0:=by decide
  rw [<-o0H,<-o0H];exact h9 k (by have:(v0l (Rf j) (dgW 6 o) (dgW 12 U)).length=11:=rfl;omega)
 .refine m0F (P:=fun x=>f0t x.1 x.2) fun x hx=> ?_
  simp only [v0l,j0x,List.not_mem_nil,or_false] at hx;rcases hx with rfl|rfl|rfl|rfl|rfl|rfl|rfl|rfl|rfl|rfl|rfl
  .exact y0u
  .exact y0S
  .exact x0T U
  .exact y0T
  .exact v0o o
  .exact v0m
  .exact x0j j
  .exact y0v
  .exact x0h
  .exact x0i
  .exact v0n
 .intro k hk;have:k<11:=hk;have h:k=0\/k=1\/k=2\/k=3\/k=4\/k=5\/k=6\/k=7\/k=8\/k=9\/k=10:=by omega
  rcases h with rfl|rfl|rfl|rfl|rfl|rfl|rfl|rfl|rfl|rfl|rfl<;>rfl
theorem x0n (j o U:Nat):MsOk 420 (s0F (Rf j) (dgW 6 o) (dgW 12 U)) rqR:=by
 refine ⟨.inr (.inr ⟨rfl,rfl⟩),?_,?_,?_,(by decide:7<=100)⟩
 .intro k hk;have h9:∀k,k<6->rqR.getD k 0<rqR.getD (k+1) 0:=by decide
  rw [<-o0H,<-o0H];exact h9 k (by have:(s0F (Rf j) (dgW 6 o) (dgW 12 U)).length=7:=rfl;omega)
 .refine m0F (P:=fun x=>f0t x.1 x.2) fun x hx=> ?_
  simp only [s0F,j0x,List.not_mem_nil,or_false] at hx;rcases hx with rfl|rfl|rfl|rfl|rfl|rfl|rfl
  .exact y0u
  .exact x0T U
  .exact v0o o
  .exact v0m
  .exact x0k o
  .exact v0n
  .exact y0x j
 .intro k hk;have:k<7:=hk;have h:k=0\/k=1\/k=2\/k=3\/k=4\/k=5\/k=6:=by omega
  rcases h with rfl|rfl|rfl|rfl|rfl|rfl|rfl<;>rfl
end
section
theorem s0K {a b:Au} {n u:Int} (h:a0D a=0) (hs:a.st=1) (hr:d0L a n u=(b,0)):a0D b=0/\a0e b=a0e a+n/\a0e a+n<=999999999999/\0<=a0e a:=by
 have hu:=h0J h hs;obtain ⟨f,_,hp,_,_,hx⟩:=b0K hu;have f3:=f.app;have f4:=f.rev;have f5:=f.cle;have ff:=f.funds;have ft:=f.time;unfold d0L at hr;rw [if_neg (by omega)] at hr;split at hr
 .exact absurd (congrArg Prod.snd hr) (by simp)
 .split at hr
  .exact absurd (congrArg Prod.snd hr) (by simp)
  .have hb:b= { a with app:=a.app+n,unt:=u}:=(congrArg Prod.fst hr).symm;have e1:a0e { a with app:=a.app+n,unt:=u}=a0e a+n:=by
    rw [c0G _ (by simp;omega) (by simp;omega) (by simp;omega) (by simp;omega) (by simp;omega) (by simp;omega) (by simp;omega) (by simp;omega)];simp only;omega
   subst hb;refine ⟨g0y ⟨f.id,f.cur,by simp only;omega,f.rev,f.cle,f.exp,by rw [e1];simp only;omega,by omega,by simp only;omega,f.pa,?_,fun _=>hx⟩,e1,by omega,by omega⟩;unfold a0z;rw [e1,if_pos (by omega)];exact hs
theorem q0Z {a:Au} (h:a0D a=0) (hs:a.st≠1):a0e a=0:=by
 have f:=f0w h;have h1:=f.nneg;have h2:=f.st;by_cases hp:0<a0e a
 .exfalso;unfold a0z at h2;rw [if_pos hp] at h2;exact hs h2
 .omega
theorem n0V (j:Nat) (U at_:Int) (hU:1<=U/\U<=999999999999) (ha:0<=at_/\at_<=1000000000):a0D ⟨Rf j,b0v,U,0,0,0,1,at_,at_+86400,0⟩=0/\a0e ⟨Rf j,b0v,U,0,0,0,1,at_,at_+86400,0⟩=U:=by
 have e:a0e ⟨Rf j,b0v,U,0,0,0,1,at_,at_+86400,0⟩=U:=by
  rw [c0G _ (by simp;omega) (by simp;omega) (by simp) (by simp) (by simp) (by simp) (by simp) (by simp)];simp only;omega
 refine ⟨g0y ⟨?_,t0y,hU,by simp,by simp,by simp,by rw [e];simp only;omega,by rw [e];omega,by simp only;omega,by simp,?_,fun _=>rfl⟩,e⟩
 .refine q0F (by rw [show (Au.mk (Rf j) b0v U 0 0 0 1 at_ (at_+86400) 0).id=Rf j from rfl,d0M];decide) (by rw [show (Au.mk (Rf j) b0v U 0 0 0 1 at_ (at_+86400) 0).id=Rf j from rfl,d0M];decide) fun i hi=> ?_
  have hk:kdB 1 (Rf j):=by rw [d0q];exact s0H (s0I j)
  have:=hk.1 i hi;unfold auC;rw [decide_eq_true_eq];rcases this with h|h
  .exact .inr (.inr (.inl h.2))
  .exact absurd h.1 (by decide)
 .unfold a0z;rw [e,if_pos (by omega)]
theorem t0E (j:Nat) (U at_:Int) (hU:1<=U/\U<=999999999999) (ha:0<=at_/\at_<=1000000000):t0x (Rf j) b0v U at_ (at_+86400)=(⟨Rf j,b0v,U,0,0,0,1,at_,at_+86400,0⟩,0):=by
 unfold t0x;dsimp only;rw [if_pos (n0V j U at_ hU ha).1]
theorem z0c {ac:Acc} (hok:ac.Ok) {id:ByteArray} {n:Int} (hn:0<n) (hb:n<=999999999999) (hg:ac.get id=n):ac.reA id n=ac.set id 0/\a0k ac.ks id<ac.n:=by
 have hi:a0k ac.ks id<ac.n:=by
  rcases m0k (a0k ac.ks id) ac.n with h|h
  .exact h
  .exfalso;have:=e0m hok (s:=id) fun hm=>by have:=b0u.2 hm;have:=hok.k;omega
   omega
 have hg':ac.vs.getD (a0k ac.ks id) 0=n:=hg;have he:ac.reE id n=0:=by
  unfold Acc.reE;rw [if_neg (by omega),hg',if_neg (by omega)]
 refine ⟨?_,hi⟩;unfold Acc.reA;rw [if_pos he,hg',Int.sub_self];rfl
theorem In.close {b:Int} {gs:List Au} {ac:Acc} {rv:List ByteArray} (h:In b gs ac rv) {i:Nat} {a:Au} (hi:i<gs.length) (hcl:Cl (gs.getD i Au.zero) a) (hf:0<a0e (gs.getD i Au.zero)):In b (gs.set i a) (ac.reA a.id (a0e (gs.getD i Au.zero))) rv:=by
 have f:=f0w (h.ck i hi);have f1:=f.app;have f2:=f.rev;have f3:=f.cle;have f4:=f.exp;have f5:=f.funds;obtain ⟨e,hx⟩:=z0c (id:=a.id) h.ok hf (by omega) (by rw [hcl.id];exact h.get i hi);rw [e,<-hcl.fu];exact h.upd hi hcl.id hcl.ck (.inl hx) fun _=>hcl.fu
theorem In.expire {b:Int} {gs:List Au} {ac:Acc} {rv:List ByteArray} (h:In b gs ac rv) (t:Int):∀i,i<=gs.length->In b (exR t (gs,ac) i).1 (exR t (gs,ac) i).2 rv
 |0,_=>h
 |i+1,hi=>by
  have ih:=In.expire h t i (by omega);have hl:(exR t (gs,ac) i).1.length=gs.length:=g0i t (gs,ac) i;show In b (r0i t (exR t (gs,ac) i) i).1 (r0i t (exR t (gs,ac) i) i).2 rv;unfold r0i;split
  .rename_i hx;obtain ⟨a,ha,hcl,hf⟩:=n0S (ih.ck i (by omega)) hx.1 hx.2;rw [ha];exact ih.close (by omega) hcl hf.1
  .exact ih
theorem j0Z {n:Nat} {ks:List ByteArray} {key s:ByteArray} (hn:ks.length=n):s∈puK n ks key↔s∈ks\/s=key:=by
 unfold puK;split
 .rename_i h;constructor
  .exact .inl
  .rintro (h2|rfl)
   .exact h2
   .exact b0u.1 (by omega)
 .rw [u0r,p0T]
theorem In.reverse {b:Int} {gs gs':List Au} {ac ac':Acc} {rv:List ByteArray} {m nv:Nat} {orig:ByteArray} (h:In b gs ac rv) (hm:gs.length=m) (hv:rv.length=nv) (hR:RvF m gs (a0k (gs.map Au.id) orig) ac gs' ac'):In b gs' ac' (puK nv rv orig)/\gs'.length=m/\gs'.map Au.id=gs.map Au.id:=by
 rcases hR with ⟨rfl,rfl,hs⟩|⟨hi,a,hst,hcl,hf,rfl,rfl⟩
 .refine ⟨h.rev fun i hi hr=> ?_,hm,rfl⟩;rcases (j0Z hv).1 hr with h1|h1
  .exact .inl h1
  .right;have e:=q0T h.nd hi;rw [h1] at e;rw [e] at hs;exact q0Z (h.ck i hi) (hs (by omega))
 .have h2:=h.close (by omega) hcl hf;refine ⟨h2.rev fun i hi2 hr=> ?_,by rw [z0X];exact hm,c0t (by omega) hcl.id⟩;rcases (j0Z hv).1 hr with h1|h1
  .exact .inl h1
  .right;have hids:=c0t (by omega:a0k (gs.map Au.id) orig<gs.length) hcl.id;have e:=q0T h2.nd hi2;rw [h1,hids] at e;rw [<-e,a0T (by omega),if_pos rfl];exact hcl.fu
theorem In.advise {b:Int} {gs gs':List Au} {ac ac':Acc} {rv:List ByteArray} {gm gm':Bool} {m m' nv:Nat} {ref:ByteArray} {amt:Int} {a:Au} (h:In b gs ac rv) (hm:gs.length=m) (hv:rv.length=nv) (h0:gm=false->m=0/\gs= []) (hai:a.id=ref) (haf:a0e a=amt) (hac:a0D a=0) (ha:1<=amt/\amt<=999999999999) (hA:AvF m gs ac (decide (a0k rv ref<nv)) (decide (a0k (gs.map Au.id) ref<m)) (a0k (gs.map Au.id) ref) gm gm' m' gs' ac' ref amt a):In b gs' ac' rv/\m'<=m+1/\gs'.length=m'/\(gm'=true\/(gm'=gm/\m'=m/\gs'=gs)):=by
 rcases hA with ⟨rfl,rfl,rfl,rfl⟩|⟨h1,h2,rfl,rfl,hL⟩|⟨h1,h2,rfl,rfl,rfl,he,rfl⟩
 .exact ⟨h,by omega,hm,.inr ⟨rfl,rfl,rfl⟩⟩
 .have hi:=of_decide_eq_true h2;have hg:gm'=true:=by
   cases gm' with
   |true=>rfl
   |false=>obtain ⟨rfl,_⟩:=h0 rfl;omega
  rcases hL with ⟨rfl,rfl⟩|⟨x,hst,hmis,hr,hf,rfl,rfl⟩
  .exact ⟨h,by omega,hm,.inl hg⟩
  .obtain ⟨c1,c2,c3,c4⟩:=s0K (h.ck _ (by omega)) hst hr;have hid:x.id=(gs.getD (a0k (gs.map Au.id) ref) Au.zero).id:=(j0W hr).resolve_right fun h=>h.2 rfl
   have hrid:=q0U (gs:=gs) (s:=ref) (by omega);obtain ⟨f1,f2,_⟩:=y0R hf;have a0t:=h.get _ (by omega:a0k (gs.map Au.id) ref<gs.length);rw [<-hid] at a0t;have a0t:ac.vs.getD (a0k ac.ks x.id) 0=a0e (gs.getD (a0k (gs.map Au.id) ref) Au.zero):=a0t;have e:ac.foA x.id (amt-(gs.getD (a0k (gs.map Au.id) ref) Au.zero).app)=ac.set x.id (a0e x):=by
    unfold Acc.foA;rw [if_pos hf,a0t,a0r (by omega) (by omega),c2]
   rw [e];refine ⟨h.upd (by omega) hid c1 (f2.imp id fun h=>⟨f1,h⟩) fun hm'=> ?_,by omega,by rw [z0X];exact hm,.inl hg⟩;exfalso;rw [hid,hrid] at hm';exact of_decide_eq_false h1 (by have:=b0u.2 hm';omega)
 .obtain ⟨f1,f2,f3⟩:=y0R he;have hno:¬ref∈gs.map Au.id:=fun hm'=>of_decide_eq_false h2 (by have:=b0u.2 hm';rw [y0P] at this;omega)
  have a0t:ac.vs.getD (a0k ac.ks ref) 0=0:=e0m h.ok fun hm'=>hno (h.ks _ hm')
  have e:ac.foA ref amt=ac.set ref amt:=by
   unfold Acc.foA;rw [if_pos he,a0t,Int.zero_add,a0r (by omega) (by omega)]
  rw [e];subst hai;subst haf;refine ⟨h.new hno hac (f2.imp id fun h=>⟨f1,h⟩) fun hr=> ?_,h0Z _,by rw [p0P,hm];rfl,.inl rfl⟩;exact of_decide_eq_false h1 (by have:=b0u.2 hr;omega)
end
section
structure St (b:Int) (s:Hs):Prop where
 inv:In b s.gs s.ac s.rv
 gl:s.gs.length=s.ng
 g0:s.gm=false->s.ng=0/\s.gs= []
 r0:s.rm=false->s.nv=0/\s.rv= []
 vl:s.rv.length=s.nv
 kl:s.rk.length=s.nr
 tl:s.rt.length=s.nr
 el:s.rE.length=s.nr
 k0:s.km=false->s.nr=0/\s.rk= []/\s.rt= []/\s.rE= []
 kE:∀i,i<s.nr->(s.rE.getD i []).length<=1000
abbrev hpS (s:Hs) (k:Nat) (E:List El):a0g:=hpH s.now s.km s.gm s.rm s.nr s.rk s.rt s.rE s.ng s.gs s.us s.ac s.nv s.rv k E
abbrev hpT (s:Hs) (k:Nat) (E:List El):a0g:=hpK s.now s.gm s.rm s.nr s.rk s.rt s.rE s.ng s.gs s.us s.ac s.nv s.rv k E
structure Ms (t:Int) (k:Nat) (E:List El) (key ref orig:ByteArray) (U:Nat):Prop where
 t3:t=100\/t=120\/t=420
 len:E.length=k
 k6:k<=1000
 ok:∃l,MsOk t E l
 h37:geB E 37=true
 e37:geV E 37=ref
 e56:geV E 56=orig
 z37:ref.size=12
 z56:orig.size<=255
 e2:geV E 2=c0I
 e49:geV E 49=b0v
 e4:geV E 4=dgW 12 U
 nu:nuV E 4=U
 key:kyS t E=key
theorem ms1 (j o U:Nat) (hU:U<10^12):Ms 100 10 (q0Y (Rf j) (dgW 6 o) (dgW 12 U)) (kyS 100 (q0Y (Rf j) (dgW 6 o) (dgW 12 U))) (Rf j) ⟨#[]⟩ U:=
 ⟨.inl rfl,rfl,by decide,⟨_,x0l j o U⟩,rfl,rfl,rfl,d0M j,by decide,rfl,rfl,rfl,v0p rfl rfl hU,rfl⟩
theorem ms2 (j o U:Nat) (hU:U<10^12):Ms 120 11 (v0l (Rf j) (dgW 6 o) (dgW 12 U)) (kyS 120 (v0l (Rf j) (dgW 6 o) (dgW 12 U))) (Rf j) ⟨#[]⟩ U:=
 ⟨.inr (.inl rfl),rfl,by decide,⟨_,x0m j o U⟩,rfl,rfl,rfl,d0M j,by decide,rfl,rfl,rfl,v0p rfl rfl hU,rfl⟩
theorem ms3 (j o U:Nat) (hU:U<10^12):Ms 420 7 (s0F (Rf j) (dgW 6 o) (dgW 12 U)) (kyS 420 (s0F (Rf j) (dgW 6 o) (dgW 12 U))) (⟨#[48,48,48,48,48,57]⟩++dgW 6 o) (Rf j) U:=
 ⟨.inr (.inr rfl),rfl,by decide,⟨_,x0n j o U⟩,rfl,rfl,rfl,s0J o,by rw [d0M];decide,rfl,rfl,rfl,v0p rfl rfl hU,rfl⟩
theorem t0F {b:Int} {s:Hs} (h:St b s) {t:Int} {k:Nat} {E:List El} {key ref orig:ByteArray} {U:Nat} (hM:Ms t k E key ref orig U) {at_:Int} (hat:0<=at_/\at_<=1000000000) (hn:s.now<=at_) (hin:a0k s.rk key<s.nr):
  s.km=true/\FC Tryz.prog 14 10 [.ptr 1 0 0 0,.int .i64 at_,.agg [.int .i64 t,.sl 13 0 0 k]] (hpS s k E) (a0h (.tup [.agg [.int .i64 (s.rt.getD (a0k s.rk key) 0),.sl 20 0 0 (s.rE.getD (a0k s.rk key) []).length],.int .i64 0]) (hpT { s with now:=at_} (s.rE.getD (a0k s.rk key) []).length (s.rE.getD (a0k s.rk key) [])) 21):=by
 have hk:s.km=true:=by
  cases hkm:s.km with
  |true=>rfl
  |false=>have:=(h.k0 hkm).1;omega
 obtain ⟨l,hl⟩:=hM.ok;refine ⟨hk,?_⟩;have:=l0w s.now s.gm s.rm s.nr s.rk s.rt s.rE s.ng s.gs s.us s.ac s.nv s.rv k E t at_ l _ _ key hM.len hl hM.t3 hat hn hM.h37 (by rw [hM.e37,hM.z37];decide) (by rw [hM.e56];exact hM.z56) hM.key rfl hin h.el rfl (h.kE _ hin);unfold hpS;rw [hk];exact this
theorem x0o {b:Int} {gs:List Au} {ac:Acc} {rv:List ByteArray} (h:In b gs ac rv) (i:Nat) (hi:i<gs.length):(0<=(gs.getD i Au.zero).app/\(gs.getD i Au.zero).app<=999999999999)/\(gs.getD i Au.zero).id.size<=1000:=by
 have f:=f0w (h.ck i hi);have f1:=f.app;refine ⟨by omega,?_⟩;have hid:=f.id;rcases m0k 16 (gs.getD i Au.zero).id.size with h2|h2
 .rw [n0N (.inr h2)] at hid;cases hid
 .omega
structure Nx (b:Int) (s s':Hs) (key:ByteArray) (T:Int) (R:List El) (at_:Int):Prop where
 st:St b s'
 km:s'.km=true
 now:s'.now=at_
 ng:s'.ng<=s.ng+1
 rk:s'.rk=s.rk++ [key]
 nr:s'.nr=s.nr+1
 rt:s'.rt=s.rt++ [T]
 rE:s'.rE=s.rE++ [R]
 rv:∀x∈s.rv,x∈s'.rv
theorem v0q {n:Nat} {rE:List (List El)} {R:List El} (hn:rE.length=n) (hR:R.length<=1000) (h:∀i,i<n->(rE.getD i []).length<=1000):∀i,i<n+1->((rE++ [R]).getD i []).length<=1000:=by
 intro i hi;by_cases h1:i<n
 .rw [List.getD,m0j (by omega)];exact h i h1
 .rw [List.getD,m0f (by omega),show i-rE.length=0 by omega];exact hR
theorem y0y {α:Type} {l:List α} {n:Nat} (h:l.length=n) (x:α):(l++ [x]).length=n+1:=by rw [p0P,h];rfl
theorem x0p {g g':Bool} (h:g'=true\/g'=g):g'=true\/(g=false/\g'=false):=by
 cases g<;>cases g'<;>simp at*
abbrev Hs.nx (s:Hs) (at_:Int) (gm' rm':Bool) (key:ByteArray) (T:Int) (R:List El) (m':Nat) (gs':List Au) (u':Us) (ac':Acc) (nv':Nat) (rv':List ByteArray):Hs:=⟨at_,true,gm',rm',s.nr+1,s.rk++ [key],s.rt++ [T],s.rE++ [R],u',ac',m',gs',nv',rv'⟩
theorem r0a {b:Int} {s:Hs} (h:St b s) {t:Int} {k:Nat} {E:List El} {key ref orig:ByteArray} {U:Nat} (hM:Ms t k E key ref orig U) {at_:Int} (hat:0<=at_/\at_<=1000000000) (hn:s.now<=at_) (hno:¬a0k s.rk key<s.nr)
  {gm' rm':Bool} {m':Nat} {gs':List Au} {u':Us} {ac':Acc} {nv':Nat} {rv':List ByteArray} {code ap:ByteArray} {Ua:Nat} (hI:In b gs' ac' rv') (hgl:gs'.length=m') (hg:gm'=true\/(gm'=s.gm/\m'=s.ng/\gs'=s.gs)) (hr:rm'=true\/(rm'=s.rm/\nv'=s.nv/\rv'=s.rv)) (hvl:rv'.length=nv') (hm:m'<=s.ng+1) (hrv:∀x∈s.rv,x∈rv')
  (hfl:((t=100\/t=120)/\s.rm=rm'/\(gm'=true\/(s.gm=false/\gm'=false)))\/(t=420/\s.gm=gm'/\rm'=true)) (hco:mdB code=true/\code.size=2) (hU:Ua<10^12) (h4:Ua≠0->f0t 4 (dgW 12 Ua)/\f0t 38 ap)
  (c1:FC Tryz.prog 14 27 [.ptr 1 0 0 0,rqV t k at_ (at_/86400) ref orig c0I b0v U] (hpJ s.now s.km s.gm s.rm s.ng s.gs s.us s.ac s.nv s.rv k E) (a0h (.agg [.str code,.int .i64 Ua,.str ap]) (hpP s.now s.km gm' rm' m' gs' u' ac' nv' rv') 18)):
  Nx b s (s.nx at_ gm' rm' key (t+10) (reE E code Ua ap) m' gs' u' ac' nv' rv') key (t+10) (reE E code Ua ap) at_/\FC Tryz.prog 14 10 [.ptr 1 0 0 0,.int .i64 at_,.agg [.int .i64 t,.sl 13 0 0 k]] (hpS s k E) (a0h (.tup [.agg [.int .i64 (t+10),.sl 20 0 0 (reE E code Ua ap).length],.int .i64 0]) (hpT (s.nx at_ gm' rm' key (t+10) (reE E code Ua ap) m' gs' u' ac' nv' rv') (reE E code Ua ap).length (reE E code Ua ap)) 21):=by
 obtain ⟨l,hl⟩:=hM.ok;have hre:=q0z E code Ua ap;refine ⟨⟨⟨hI,hgl,?_,?_,hvl,y0y h.kl _,y0y h.tl _,y0y h.el _,fun h=>absurd (show true=false from h) (by decide),v0q h.el (by omega) h.kE⟩,rfl,rfl,hm,rfl,rfl,rfl,rfl,hrv⟩,?_⟩
 .intro e;have e:gm'=false:=e;rcases hg with e2|⟨e2,e3,e4⟩
  .rw [e] at e2;cases e2
  .have:=h.g0 (by rw [<-e2];exact e);exact ⟨e3.trans this.1,e4.trans this.2⟩
 .intro e;have e:rm'=false:=e;rcases hr with e2|⟨e2,e3,e4⟩
  .rw [e] at e2;cases e2
  .have:=h.r0 (by rw [<-e2];exact e);exact ⟨e3.trans this.1,e4.trans this.2⟩
 .exact l0x s.now s.km s.gm s.rm s.nr s.rk s.rt s.rE s.ng s.gs s.us s.ac s.nv s.rv k E t at_ l key gm' rm' m' gs' u' ac' nv' rv' code Ua ap _ _ hM.len hl hM.t3 hat hn hM.h37 (by rw [hM.e37,hM.z37];decide) (by rw [hM.e56];exact hM.z56) hM.e2 hM.e49 (by rw [hM.e4,b0g];decide) hM.key hno h.kl h.tl h.el h.k0 hfl hco hU h4 rfl rfl (by rw [hM.e37,hM.e56,hM.nu];exact c1)
theorem x0q {E:List El} {n:Int} (h:geB E n=false):geV E n=⟨#[]⟩:=by
 unfold geB at h;unfold geV;rw [if_pos (by simpa using h)]
abbrev nA (j U:Nat) (at_:Int):Au:=⟨Rf j,b0v,U,0,0,0,1,at_,at_+86400,0⟩
theorem t0G {b:Int} {s:Hs} (h:St b s) {k:Nat} {E:List El} {key orig:ByteArray} {j U:Nat} (hM:Ms 100 k E key (Rf j) orig U) (h95:geB E 95=false) (h54:geB E 54=false) {at_:Int} (hat:0<=at_/\at_<=1000000000) (hn:s.now<=at_) (hno:¬a0k s.rk key<s.nr) (hng:s.ng<256) (hU:1<=(U:Int)/\(U:Int)<=999999999999):
  ∃s' code Ua R,Nx b s s' key 110 R at_/\R=reE E code Ua (dgW 6 j)/\(s.rv= []->s.gs= []->s.us=us0->s.ac.upE (Rf j) U U=0->code=⟨#[48,48]⟩/\s'.gs= [nA j U at_])/\FC Tryz.prog 14 10 [.ptr 1 0 0 0,.int .i64 at_,.agg [.int .i64 100,.sl 13 0 0 k]] (hpS s k E) (a0h (.tup [.agg [.int .i64 110,.sl 20 0 0 R.length],.int .i64 0]) (hpT s' R.length R) 21):=by
 have hck:=n0V j U at_ hU hat;obtain ⟨code,Ua,ap,gm',m',gs',u',ac',hA,hAu,hfr,hF⟩:=m0E s.now s.km s.gm s.rm s.ng s.gs s.us s.ac s.nv s.rv k E 100 at_ (at_/86400) (Rf j) orig U (nA j U at_) h.gl h.g0 h.r0 hng hM.len hM.k6 h54 (by rw [x0q h54];decide) (by omega) hU hat (d0M j) h.inv.ok.v (fun i hi=>(x0o h.inv i (by rw [h.gl];exact hi)).1) (t0E j U at_ hU hat) rfl rfl;obtain ⟨i1,i2,i3,i4⟩:=h.inv.authorize h.gl h.vl rfl hck.2 hck.1 hAu;have hgm:gm'=true\/gm'=s.gm:=i4.imp id And.left;have hR:reE E code Ua ap=reE E code Ua (dgW 6 j):=by
  by_cases h0:Ua=0
  .unfold reE;rw [if_pos h0,if_pos h0]
  .rw [hA.2.2.2 h0,t0D]
 have h4:Ua≠0->f0t 4 (dgW 12 Ua)/\f0t 38 ap:=fun h0=>⟨x0T Ua,by rw [hA.2.2.2 h0,t0D];exact y0w j⟩
 obtain ⟨hN,hFC⟩:=r0a h hM hat hn hno i1 i3 i4 (.inr ⟨rfl,rfl,rfl⟩) h.vl i2 (fun x hx=>hx) (.inl ⟨.inl rfl,rfl,x0p hgm⟩) ⟨hA.1,hA.2.1⟩ hA.2.2.1 h4 (o0W s.now s.km s.gm s.rm s.ng s.gs s.us s.ac s.nv s.rv k E at_ (at_/86400) (Rf j) orig U code Ua ap gm' m' gs' u' ac' hM.len hM.k6 h95 hgm hF);refine ⟨_,code,Ua,_,hN,hR,fun e1 e2 e3 e4=> ?_,hFC⟩;have hnv:=h.vl;have hnl:=h.gl;rw [e1] at hnv;rw [e2] at hnl;obtain ⟨q1,q2,_⟩:=hfr (by rw [<-hnv];exact x0I _) (by rw [<-hnl];exact x0I _) e3 e4;exact ⟨q1,q2.trans (by rw [e2];rfl)⟩
theorem x0r {b:Int} {s:Hs} (h:St b s) {k:Nat} {E:List El} {key orig:ByteArray} {j U:Nat} (hM:Ms 120 k E key (Rf j) orig U) (h39:geV E 39=⟨#[48,48]⟩) {at_:Int} (hat:0<=at_/\at_<=1000000000) (hn:s.now<=at_) (hno:¬a0k s.rk key<s.nr) (hng:s.ng<256) (hU:1<=(U:Int)/\(U:Int)<=999999999999):
  ∃s' R,Nx b s s' key 130 R at_/\FC Tryz.prog 14 10 [.ptr 1 0 0 0,.int .i64 at_,.agg [.int .i64 120,.sl 13 0 0 k]] (hpS s k E) (a0h (.tup [.agg [.int .i64 130,.sl 20 0 0 R.length],.int .i64 0]) (hpT s' R.length R) 21):=by
 have hck:=n0V j U at_ hU hat;obtain ⟨code,gm',m',gs',u',ac',hA,hAv,hF⟩:=s0D s.now s.km s.gm s.rm s.ng s.gs s.us s.ac s.nv s.rv k E 120 at_ (at_/86400) (Rf j) orig U (nA j U at_) h.g0 h.r0 hM.len hM.k6 h39 h.gl hng (by omega) hU hat (d0M j) (fun i hi=>x0o h.inv i (by rw [h.gl];exact hi)) (t0E j U at_ hU hat) rfl rfl;obtain ⟨i1,i2,i3,i4⟩:=h.inv.advise h.gl h.vl h.g0 rfl hck.2 hck.1 hU hAv;have hgm:gm'=true\/gm'=s.gm:=i4.imp id And.left;obtain ⟨hN,hFC⟩:=r0a h hM hat hn hno i1 i3 i4 (.inr ⟨rfl,rfl,rfl⟩) h.vl i2 (fun x hx=>hx) (.inl ⟨.inr rfl,rfl,x0p hgm⟩) hA (by decide) (fun h=>absurd rfl h) (q0R s.now s.km s.gm s.rm s.ng s.gs s.us s.ac s.nv s.rv k E at_ (at_/86400) (Rf j) orig U code gm' m' gs' u' ac' hgm hF);exact ⟨_,_,hN,hFC⟩
theorem t0H {b:Int} {s:Hs} (h:St b s) {k:Nat} {E:List El} {key ref:ByteArray} {j U:Nat} (hM:Ms 420 k E key ref (Rf j) U) {at_:Int} (hat:0<=at_/\at_<=1000000000) (hn:s.now<=at_) (hno:¬a0k s.rk key<s.nr):
  ∃s' R,Nx b s s' key 430 R at_/\s'.gs.map Au.id=s.gs.map Au.id/\Rf j∈s'.rv/\FC Tryz.prog 14 10 [.ptr 1 0 0 0,.int .i64 at_,.agg [.int .i64 420,.sl 13 0 0 k]] (hpS s k E) (a0h (.tup [.agg [.int .i64 430,.sl 20 0 0 R.length],.int .i64 0]) (hpT s' R.length R) 21):=by
 obtain ⟨gs',u',ac',hR,hF⟩:=q0Q s.now s.km s.gm s.rm s.ng s.gs s.us s.ac s.nv s.rv k E 420 at_ (at_/86400) ref (Rf j) U h.g0 h.r0 h.vl h.gl (fun i hi=>h.inv.ck i (by rw [h.gl];exact hi));obtain ⟨i1,i3,i5⟩:=h.inv.reverse h.gl h.vl hR;have hg:s.gm=true\/(s.gm=s.gm/\s.ng=s.ng/\gs'=s.gs):=by
  cases e:s.gm with
  |true=>exact .inl rfl
  |false=>
   obtain ⟨e1,e2⟩:=h.g0 e;refine .inr ⟨rfl,rfl,?_⟩;rw [e2];rw [e1] at i3;exact List.eq_nil_of_length_eq_zero i3
 obtain ⟨hN,hFC⟩:=r0a h hM hat hn hno i1 i3 hg (.inl rfl) (w0Q h.vl _) (Nat.le_succ _) (fun x hx=>(j0Z h.vl).2 (.inl hx)) (.inr ⟨rfl,rfl,rfl⟩) ⟨by decide,rfl⟩ (by decide) (fun h=>absurd rfl h) (o0X s.now s.km s.gm s.rm s.ng s.gs s.us s.ac s.nv s.rv k E at_ (at_/86400) ref (Rf j) U gs' u' ac' _ _ hF);exact ⟨_,_,hN,i5,(j0Z h.vl).2 (.inr rfl),hFC⟩
end
section
def s0L (q:Nat):Int:=if q=0 then 100 else if q=1 then 120 else 420
def kOf (q:Nat):Nat:=if q=0 then 10 else if q=1 then 11 else 7
def eOf (q j o U:Nat):List El:=if q=0 then q0Y (Rf j) (dgW 6 o) (dgW 12 U) else if q=1 then v0l (Rf j) (dgW 6 o) (dgW 12 U) else s0F (Rf j) (dgW 6 o) (dgW 12 U)
def e0J (q j o U:Nat):ByteArray:=kyS (s0L q) (eOf q j o U)
theorem y0z {q:Nat} (h:q<3):q=0\/q=1\/q=2:=by omega
theorem r0b (q j o U:Nat) (hq:q<3) (hj:j<6) (hU:U<10^12):FC Tryz.prog 1 7 [.int .i64 (s0L q),.int .i64 j,.str (dgW 6 o),.int .i64 U] [] (a0h (.agg [.int .i64 (s0L q),.sl 1 0 0 (kOf q)]) [(1,some (.one false (elK (kOf q) (eOf q j o U))))] 2):=by
 rcases y0z hq with rfl|rfl|rfl
 .exact g0j j _ U hj hU (b0g 6 o)
 .exact l0y j _ U hj hU (b0g 6 o)
 .exact g0k j _ U hj hU (b0g 6 o)
theorem s0M (q:Nat) (hq:q<3):b0C Tryz.prog 8 [.int .u8 q] (.int .i64 (s0L q)):=s0G q hq
theorem t0I (q j o U:Nat) (hq:q<3) (hU:U<10^12):∃ref orig,Ms (s0L q) (kOf q) (eOf q j o U) (e0J q j o U) ref orig U:=by
 rcases y0z hq with rfl|rfl|rfl
 .exact ⟨_,_,ms1 j o U hU⟩
 .exact ⟨_,_,ms2 j o U hU⟩
 .exact ⟨_,_,ms3 j o U hU⟩
theorem t0J {α:Type} {l:List α} {n:Nat} (h:l.length=n) (x d:α):(l++ [x]).getD n d=x:=by
 rw [List.getD,m0f (by omega),show n-l.length=0 by omega];rfl
theorem s0N {l:List ByteArray} {s:ByteArray} {n:Nat} (h:l.length=n) (hn:¬a0k l s<n):a0k (l++ [s]) s=n:=by
 have hm:¬s∈l:=fun hm=>hn (by have:=b0u.2 hm;omega)
 have h1:a0k (l++ [s]) s<(l++ [s]).length:=b0u.2 (by simp);have h2:=d0o h1;rw [p0P,r0Y] at h1;rcases m0k (a0k (l++ [s]) s) n with h3|h3
 .rw [m0j (by omega)] at h2;exact absurd (v0G.2 ⟨_,h2⟩) hm
 .omega
theorem y0A {b:Int} {s:Hs} (h:St b s) (q j o U:Nat) (hq:q<3) (hU:1<=(U:Int)/\(U:Int)<=999999999999) {at_:Int} (hat:0<=at_/\at_<=1000000000) (hn:s.now<=at_) (hng:s.ng<256):
  ∃s' T R,St b s'/\s'.now=at_/\s'.km=true/\s'.ng<=s.ng+1/\a0k s'.rk (e0J q j o U)<s'.nr/\s'.rt.getD (a0k s'.rk (e0J q j o U)) 0=T/\s'.rE.getD (a0k s'.rk (e0J q j o U)) []=R/\(∀x∈s'.rk,x∈s.rk\/x=e0J q j o U)/\(∀x∈s.rv,x∈s'.rv)/\(q=2->¬e0J q j o U∈s.rk->Rf j∈s'.rv)
   /\FC Tryz.prog 14 10 [.ptr 1 0 0 0,.int .i64 at_,.agg [.int .i64 (s0L q),.sl 13 0 0 (kOf q)]] (hpS s (kOf q) (eOf q j o U)) (a0h (.tup [.agg [.int .i64 T,.sl 20 0 0 R.length],.int .i64 0]) (hpT s' R.length R) 21):=by
 obtain ⟨ref,orig,hM⟩:=t0I q j o U hq (by omega);by_cases hin:a0k s.rk (e0J q j o U)<s.nr
 .obtain ⟨hk,hF⟩:=t0F h hM hat hn hin;exact ⟨{ s with now:=at_},_,_,⟨h.inv,h.gl,h.g0,h.r0,h.vl,h.kl,h.tl,h.el,h.k0,h.kE⟩,rfl,hk,Nat.le_succ _,hin,rfl,rfl,fun x hx=> .inl hx,fun x hx=>hx,fun _ hne=>absurd (b0u.1 (by have:=h.kl;omega)) hne,hF⟩
 .have fin:∀s' T R,Nx b s s' (e0J q j o U) T R at_->(q=2->¬e0J q j o U∈s.rk->Rf j∈s'.rv)->FC Tryz.prog 14 10 [.ptr 1 0 0 0,.int .i64 at_,.agg [.int .i64 (s0L q),.sl 13 0 0 (kOf q)]] (hpS s (kOf q) (eOf q j o U)) (a0h (.tup [.agg [.int .i64 T,.sl 20 0 0 R.length],.int .i64 0]) (hpT s' R.length R) 21)->_:=fun s' T R hN h2 hF=>
   have e:a0k s'.rk (e0J q j o U)=s.nr:=by rw [hN.rk];exact s0N h.kl hin
   (⟨s',T,R,hN.st,hN.now,hN.km,hN.ng,by rw [e,hN.nr];exact Nat.lt_succ_self _,by rw [e,hN.rt];exact t0J h.tl _ _,by rw [e,hN.rE];exact t0J h.el _ _,fun x hx=>by rw [hN.rk] at hx;rcases u0r.1 hx with h|h;exact .inl h;exact .inr (p0T.1 h),hN.rv,h2,hF⟩:∃s' T R,St b s'/\s'.now=at_/\s'.km=true/\s'.ng<=s.ng+1/\a0k s'.rk (e0J q j o U)<s'.nr/\s'.rt.getD (a0k s'.rk (e0J q j o U)) 0=T/\s'.rE.getD (a0k s'.rk (e0J q j o U)) []=R/\(∀x∈s'.rk,x∈s.rk\/x=e0J q j o U)/\(∀x∈s.rv,x∈s'.rv)/\(q=2->¬e0J q j o U∈s.rk->Rf j∈s'.rv)
   /\FC Tryz.prog 14 10 [.ptr 1 0 0 0,.int .i64 at_,.agg [.int .i64 (s0L q),.sl 13 0 0 (kOf q)]] (hpS s (kOf q) (eOf q j o U)) (a0h (.tup [.agg [.int .i64 T,.sl 20 0 0 R.length],.int .i64 0]) (hpT s' R.length R) 21))
  rcases y0z hq with rfl|rfl|rfl
  .obtain ⟨s',code,Ua,R,hN,_,_,hF⟩:=t0G h (ms1 j o U (by omega)) rfl rfl hat hn hin hng hU;exact fin s' _ R hN (fun h=>absurd h (by decide)) hF
  .obtain ⟨s',R,hN,hF⟩:=x0r h (ms2 j o U (by omega)) rfl hat hn hin hng hU;exact fin s' _ R hN (fun h=>absurd h (by decide)) hF
  .obtain ⟨s',R,hN,_,hr,hF⟩:=t0H h (ms3 j o U (by omega)) hat hn hin;exact fin s' _ R hN (fun _ _=>hr) hF
theorem t0K (j o U:Nat):(e0J 2 j o U).extract 10 16=dgW 6 o:=by
 show (dgW 3 42++⟨#[47]⟩++(⟨#[48,48,48,48,48,57]⟩++dgW 6 o)++⟨#[47]⟩++Rf j).extract 10 16=_;rw [h0L,d0q,show (⟨#[47]⟩:ByteArray)=a0u [47] from rfl,show dgW 3 42=a0u [48,52,50] from rfl];simp only [c0g];apply l0p;simp [a0u,w0j,dgW,a0l]
theorem y0B {j o U j' o' U':Nat} (ho:o<10^6) (ho':o'<10^6) (hne:o≠o'):e0J 2 j o U≠e0J 2 j' o' U':=by
 intro e;have h1:=t0K j o U;rw [e,t0K] at h1;have h2:=l0z 6 o 6 (h0Z _);rw [<-h1,l0z 6 o' 6 (h0Z _),x0N,Nat.pow_zero,Nat.div_one,Nat.div_one,z0G ho,z0G ho'] at h2;exact hne h2.symm
theorem t0L {q j o U j' o' U':Nat} (hq:q<2):e0J 2 j o U≠e0J q j' o' U':=by
 intro e;have e2:(e0J 2 j o U).extract 0 3=(e0J q j' o' U').extract 0 3:=by rw [e]
 have ha:∀(x y:ByteArray),x.size=3->(x++y).extract 0 3=x:=fun x y hx=>by
  apply l0p;simp only [w0j,ByteArray.data_append,z0Q,y0i];have:x.data.toList.length=3:=hx;simp [List.extract,List.take_append_of_le_length,this,v0E]
 have hk:∀t E,kyS t E=dgW 3 (t.toNat/10)++(⟨#[47]⟩++(geV E 37++(⟨#[47]⟩++geV E 56))):=fun t E=>by
  unfold kyS;simp only [ByteArray.append_assoc]
 unfold e0J at e2;rw [hk,hk,ha _ _ (b0g _ _),ha _ _ (b0g _ _)] at e2;have h01:q=0\/q=1:=by omega
 have h3:=congrArg (fun x=>vaT x 3) e2;simp only [l0z 3 _ 3 (h0Z _)] at h3;rcases h01 with rfl|rfl<;>revert h3<;>decide
end
section
attribute [local irreducible] a0G a0H a0q b0H
abbrev hs1 (b:Int):Hs:=⟨0,false,false,false,0,[],[],[],us0,Acc.mk0 b 0,0,[],0,[]⟩
theorem y0U (b:Int):St b (hs1 b):=
 ⟨⟨w0y b 0,rfl,z0N,fun i hi=>absurd hi (x0I _),fun i hi=>absurd hi (x0I _),fun s hs=>absurd hs (by simp [Acc.mk0]),rfl,fun i hi=>absurd hi (x0I _)⟩,rfl,fun _=>⟨rfl,rfl⟩,fun _=>⟨rfl,rfl⟩,rfl,rfl,rfl,rfl,fun _=>⟨rfl,rfl,rfl,rfl⟩,fun i hi=>absurd hi (x0I _)⟩
theorem m0G {b:Int} {s:Hs} (h:St b s):s.ac.held=IntKind.i64.wrap (s.gs.map a0e).sum:=by
 unfold Acc.held;rw [h.inv.sum]
theorem y0C (E:List El) (U:Nat) (ap:ByteArray):geV (reE (q0Y (Rf 1) (dgW 6 1) (dgW 12 600)) ⟨#[48,48]⟩ U ap) 39=⟨#[48,48]⟩:=by
 by_cases h:U=0
 .unfold reE;rw [if_pos h];rfl
 .unfold reE;rw [if_neg h];rfl
theorem y0D (j:Nat):idB (Rf j)=true:=by
 have hk:kdB 1 (Rf j):=by rw [d0q];exact s0H (s0I j)
 rw [m0p fun k h=> ?_,d0M]
 .rfl
 .rcases hk.1 k h with h|h
  .exact .inr (.inr (.inl h.2))
  .exact absurd h.1 (by decide)
theorem v0r:(Acc.mk0 1000 0).upE (Rf 1) (600:Nat) (600:Nat)=0:=by
 unfold Acc.upE;have h:(Acc.mk0 1000 0).newE (Rf 1)=0:=by
  unfold Acc.newE;rw [if_neg (by rw [y0D];decide),if_neg (show¬a0k (Acc.mk0 1000 0).ks (Rf 1)<(Acc.mk0 1000 0).n from x0I _),if_neg (by decide)]
 rw [if_neg (by decide),if_neg (by rw [h];decide),if_neg (by decide)]
theorem z0d:∃s' R,St 1000 s'/\s'.km=true/\s'.now=5/\s'.ng<=1/\s'.gs= [nA 1 600 5]/\s'.nr=1/\s'.rk= [e0J 0 1 1 600]/\R.length<=1000/\geV R 39=⟨#[48,48]⟩/\FC Tryz.prog 14 10 [.ptr 1 0 0 0,.int .i64 5,.agg [.int .i64 100,.sl 13 0 0 10]] (hpS (hs1 1000) 10 (q0Y (Rf 1) (dgW 6 1) (dgW 12 600))) (a0h (.tup [.agg [.int .i64 110,.sl 20 0 0 R.length],.int .i64 0]) (hpT s' R.length R) 21):=by
 obtain ⟨s',code,Ua,R,hN,hR,hf,hF⟩:=t0G (y0U 1000) (ms1 1 1 600 (by decide)) rfl rfl (at_:=5) (by decide) (by decide) (x0I _) (by decide) (by decide);obtain ⟨hc,hg⟩:=hf rfl rfl rfl v0r;subst hc;refine ⟨s',R,hN.st,hN.km,hN.now,hN.ng,hg,hN.nr,hN.rk,?_,?_,hF⟩
 .have:=q0z (q0Y (Rf 1) (dgW 6 1) (dgW 12 600)) ⟨#[48,48]⟩ Ua (dgW 6 1);rw [hR];omega
 .rw [hR];exact y0C [] Ua _
theorem z0e {s:Hs} (h:St 1000 s) (hn:s.now=5) (hg:s.gs= [nA 1 600 5]) (hr:s.nr=1) (hk:s.rk= [e0J 0 1 1 600]):∃s' R,St 1000 s'/\s'.ac.held=0/\FC Tryz.prog 14 10 [.ptr 1 0 0 0,.int .i64 6,.agg [.int .i64 420,.sl 13 0 0 7]] (hpS s 7 (s0F (Rf 1) (dgW 6 2) (dgW 12 600))) (a0h (.tup [.agg [.int .i64 430,.sl 20 0 0 R.length],.int .i64 0]) (hpT s' R.length R) 21):=by
 have hno:¬a0k s.rk (e0J 2 1 2 600)<s.nr:=fun hlt=>by
  have:=b0u.1 (show a0k s.rk (e0J 2 1 2 600)<s.rk.length by rw [hk] at*;rw [hr] at hlt;exact hlt);rw [hk,p0T] at this;exact t0L (by decide) this
 obtain ⟨s',R,hN,hi,hv,hF⟩:=t0H h (ms3 1 2 600 (by decide)) (at_:=6) (by decide) (by omega) hno;refine ⟨s',R,hN.st,?_,hF⟩;rw [m0G hN.st];rw [hg] at hi;have hl:s'.gs.length=1:=by have:=congrArg List.length hi;simpa using this
 match hgs:s'.gs,hl with
 | [a],_=>
   rw [hgs] at hi;have hid:a.id=Rf 1:=by simpa using hi
   have hz:=hN.st.inv.rvd 0 (by rw [hgs];exact Nat.zero_lt_one) (by rw [hgs];show a.id∈_;rw [hid];exact hv);rw [hgs] at hz;have hz:a0e a=0:=hz;show IntKind.i64.wrap ([a0e a].sum)=0;rw [hz];decide
end
section
attribute [local irreducible] a0G a0H a0q b0H
set_option maxHeartbeats 4000000 in
theorem h0M:FC Tryz.prog 1 4 [] [(0,some (GB glT))] (a0h (.bool true) [] 1):=by
 obtain ⟨s',R,h1,hkm,hnow,hng,hgs,hnr,hrk,hR,h39,c3⟩:=z0d;obtain ⟨s2,R2,h2,hh2,c6⟩:=z0e h1 hnow hgs hnr hrk;have hh1:s'.ac.held=600:=by rw [m0G h1,hgs];show IntKind.i64.wrap ([a0e (nA 1 600 5)].sum)=600;rw [(n0V 1 ((600:Nat):Int) 5 (by decide) (by decide)).2];decide
 have c1:=n0O 1000 (by decide);have c2:=g0j 1 (dgW 6 1) 600 (by decide) (by decide) (b0g 6 1);have c5:=g0k 1 (dgW 6 2) 600 (by decide) (by decide) (b0g 6 2);rw [show dgW 6 1=⟨#[48,48,48,48,48,49]⟩ from rfl] at c2 c3;rw [show dgW 6 2=⟨#[48,48,48,48,48,50]⟩ from rfl] at c5 c6;have c4:=b0z R R.length 110 39 rfl (by omega);rw [h39] at c4;generalize geB R 39=g39 at*;have v1:=h1.inv.ok.v;have v2:=h2.inv.ok.v;clear h1 h2 hgs hnr hrk h39;obtain ⟨now,km,gm,rm,nr,rk,rt,rE,us,ac,ng,gs,nv,rv⟩:=s';obtain ⟨now2,km2,gm2,rm2,nr2,rk2,rt2,rE2,us2,ac2,ng2,gs2,nv2,rv2⟩:=s2;dsimp only at*;subst hkm;have d1:=f0x now true gm rm ng ac v1;have d2:=f0x now2 true gm2 rm2 ng2 ac2 v2;rw [hh1] at d1;rw [hh2] at d2;generalize q0Y (Rf 1) ⟨#[48,48,48,48,48,49]⟩ (dgW 12 600)=E1 at*;generalize s0F (Rf 1) ⟨#[48,48,48,48,48,50]⟩ (dgW 12 600)=E2 at*;cases gm<;>cases rm<;>cases gm2<;>cases rm2;all_goals refine fEx Tryz.func4 ?_
 all_goals repeat' ((conv=>whnf);first|refine cOx (l:= [0]) c1 ?_|refine cOx (l:= [0]) c2 ?_|refine cOx (l:= [0,1,0,0,2,3,4,5,6,0,0,0,0,7]) c3 ?_|refine cOx (l:= [0,14]) c4 ?_|refine cOx (l:= [0,1,12,13,2,3,4,5,6,8,9,10,11]) d1 ?_|refine cOx (l:= [0]) c5 ?_|refine cOx (l:= [0,1,12,13,2,3,4,5,6,8,9,10,11,16]) c6 ?_|refine cOx (l:= [0,1,21,22,2,3,4,5,6,17,18,19,20]) d2 ?_|refine a0a ?_|(apply bRx<;>intro h<;>try (exfalso;(try dsimp only at h);omega)))
 all_goals (conv=>whnf)
 all_goals exact rOz [0]
end
section
attribute [local irreducible] a0G a0H a0q b0H
theorem l0A (a:Au):b0C Tryz.prog 15 [a.s] (.int .i64 (g0q a)):=by
 refine fEx Tryz.func15 ?_;have c:=e0b a;have f:=e0a a;unfold g0q;by_cases h0:a0D a=0
 .rw [if_pos h0];rw [h0] at c;repeat' ((conv=>whnf);first|refine cPx c ?_|refine cPx f ?_|refine a0a ?_|(apply bRx<;>intro h<;>try (exfalso;(try dsimp only at h);omega)))
  all_goals (conv=>whnf)
  all_goals exact a0d rfl
 .rw [if_neg h0];generalize a0D a=e at*;repeat' ((conv=>whnf);first|refine cPx c ?_|refine cPx f ?_|refine a0a ?_|(apply bRx<;>intro h<;>try (exfalso;(try dsimp only at h);omega)))
  all_goals (conv=>whnf)
  all_goals first
   |exact absurd h h0
   |exact a0d rfl
theorem y0E {α:Type} (f:Au->α) (gs:List Au) (j:Nat):(gs.map f).getD j (f Au.zero)=f (gs.getD j Au.zero):=by
 simp only [List.getD,m0i];cases gs[j]?<;>rfl
abbrev auL (gs:List Au) (j:Nat):SV:= .agg [.str ((gs.map Au.id).getD j ⟨#[]⟩),.str ((gs.map Au.cur).getD j ⟨#[]⟩),.int .i64 ((gs.map Au.app).getD j 0),.int .i64 ((gs.map Au.rev).getD j 0),.int .i64 ((gs.map Au.cle).getD j 0),.int .i64 ((gs.map Au.exp).getD j 0),.int .i64 ((gs.map Au.st).getD j 0),.int .i64 ((gs.map Au.att).getD j 0),.int .i64 ((gs.map Au.unt).getD j 0),.int .i64 ((gs.map Au.pa).getD j 0)]
theorem t0M (gs:List Au) (j:Nat):auL gs j=(gs.getD j Au.zero).s:=by
 show SV.agg [.str ((gs.map Au.id).getD j (Au.id Au.zero)),.str ((gs.map Au.cur).getD j (Au.cur Au.zero)),.int .i64 ((gs.map Au.app).getD j (Au.app Au.zero)),.int .i64 ((gs.map Au.rev).getD j (Au.rev Au.zero)),.int .i64 ((gs.map Au.cle).getD j (Au.cle Au.zero)),.int .i64 ((gs.map Au.exp).getD j (Au.exp Au.zero)),.int .i64 ((gs.map Au.st).getD j (Au.st Au.zero)),.int .i64 ((gs.map Au.att).getD j (Au.att Au.zero)),.int .i64 ((gs.map Au.unt).getD j (Au.unt Au.zero)),.int .i64 ((gs.map Au.pa).getD j (Au.pa Au.zero))]=_;simp only [y0E]
theorem y0F (gs:List Au) (j:Nat):b0C Tryz.prog 14 [auL gs j] (.int .i64 (a0D (gs.getD j Au.zero))):=by rw [t0M];exact e0b _
theorem y0G (gs:List Au) (j:Nat):b0C Tryz.prog 15 [auL gs j] (.int .i64 (g0q (gs.getD j Au.zero))):=by rw [t0M];exact l0A _
theorem r0c {a:Au} (h:a0D a=0):g0q a=a0e a:=by unfold g0q;rw [if_pos h]
end
section
structure Lp (bal:Int) (n:Nat) (k:Nat) (s:Hs) (now:Int) (bs:List Bool):Prop where
 st:St bal s
 kn:k<=n
 nw:s.now<=now
 n0:0<=now/\now<=65535*k
 ng:s.ng<=k
 bl:bs.length=6
 rv:∀j,j<6->bs.getD j false=true->Rf j∈s.rv
 ky:∀o,k<o->o<10^6->∀j U,¬e0J 2 j o U∈s.rk
 fl:s.km=false->s.gm=false/\s.rm=false
theorem Lp.msg {bal:Int} {n k:Nat} {s s':Hs} {now now':Int} {bs bs':List Bool} (h:Lp bal n k s now bs) (hk:k<n) (h30:n<=30) (hw:now<=now'/\now'<=now+65535) {q j U:Nat} (hq:q<3) (hs:St bal s') (hn:s'.now=now') (hkm:s'.km=true) (hng:s'.ng<=s.ng+1) (hrk:∀x∈s'.rk,x∈s.rk\/x=e0J q j (k+1) U) (hrv:∀x∈s.rv,x∈s'.rv) (hrf:q=2->¬e0J q j (k+1) U∈s.rk->Rf j∈s'.rv)
  (hbl:bs'.length=6) (hbs:∀i,i<6->bs'.getD i false=true->bs.getD i false=true\/(i=j/\q=2)):Lp bal n (k+1) s' now' bs':=by
 have h0:=h.n0;have h1:=h.ng;refine ⟨hs,hk,by omega,by omega,by omega,hbl,fun i hi hb=> ?_,fun o ho ho6 i V hm=> ?_,fun e=>by rw [hkm] at e;cases e⟩
 .rcases hbs i hi hb with h2|⟨rfl,rfl⟩
  .exact hrv _ (h.rv i hi h2)
  .exact hrf rfl (h.ky (k+1) (by omega) (by omega) i U)
 .rcases hrk _ hm with h2|h2
  .exact h.ky o (by omega) ho6 i V h2
  .by_cases h3:q=2
   .subst h3;exact y0B ho6 (by omega) (by omega) h2
   .exact t0L (by omega) h2
theorem Lp.exp {bal:Int} {n k:Nat} {s s':Hs} {now now':Int} {bs:List Bool} (h:Lp bal n k s now bs) (hk:k<n) (hw:now<=now'/\now'<=now+65535) (hs:St bal s') (hn:s'.now=now') (hng:s'.ng=s.ng) (hrk:s'.rk=s.rk) (hrv:s'.rv=s.rv) (hfl:s'.km=s.km/\s'.gm=s.gm/\s'.rm=s.rm):Lp bal n (k+1) s' now' bs:=by
 have h0:=h.n0;have h1:=h.ng;exact ⟨hs,hk,by omega,by omega,by omega,h.bl,fun i hi hb=>by rw [hrv];exact h.rv i hi hb,fun o ho ho6 i V hm=>h.ky o (by omega) ho6 i V (by rw [<-hrk];exact hm),by rw [hfl.1,hfl.2.1,hfl.2.2];exact h.fl⟩
theorem x0s {b:Int} {s:Hs} (h:St b s) (t:Int):St b { s with now:=t,gs:=(exR t (s.gs,s.ac) s.ng).1,ac:=(exR t (s.gs,s.ac) s.ng).2}:=by
 refine ⟨h.inv.expire t s.ng (by rw [h.gl];exact h0Z _),(g0i t (s.gs,s.ac) s.ng).trans h.gl,fun e=> ?_,h.r0,h.vl,h.kl,h.tl,h.el,h.k0,h.kE⟩;obtain ⟨e1,e2⟩:=h.g0 e;refine ⟨e1,?_⟩;show (exR t (s.gs,s.ac) s.ng).1= [];rw [e1];exact e2
theorem x0t {b:Int} {s:Hs} (h:St b s) (t:Int):St b { s with now:=t}:=⟨h.inv,h.gl,h.g0,h.r0,h.vl,h.kl,h.tl,h.el,h.k0,h.kE⟩
def opS (gs:List Au) (j:Nat):Int:=IntKind.i64.wrap ((gs.take j).map a0e).sum
theorem s0O {gs:List Au} {j:Nat} (hj:j<gs.length) (hc:a0D (gs.getD j Au.zero)=0):IntKind.i64.wrap (opS gs j+g0q (gs.getD j Au.zero))=opS gs (j+1):=by
 unfold opS;rw [r0c hc,n0C,q0W hj,z0W,List.sum_append,List.map_singleton,u0v,List.sum_nil,Int.add_zero]
theorem v0s {b:Int} {s:Hs} (h:St b s):opS s.gs s.ng=s.ac.held:=by
 rw [m0G h];unfold opS;rw [v0E (by rw [h.gl];exact h0Z _)]
theorem r0d {b:Int} {s:Hs} (h:St b s) {j:Nat} (hr:Rf j∈s.rv) (hi:a0k (s.gs.map Au.id) (Rf j)<s.ng):g0q (s.gs.getD (a0k (s.gs.map Au.id) (Rf j)) Au.zero)=0:=by
 have hi:a0k (s.gs.map Au.id) (Rf j)<s.gs.length:=by rw [h.gl];exact hi
 rw [r0c (h.inv.ck _ hi)];exact h.inv.rvd _ hi (by rw [q0U hi];exact hr)
end
section
attribute [local irreducible] a0G a0H a0q b0H
def sel:List Nat->Code->Code
 | [],c=>c
 |0::p,.seq a _=>sel p a
 |_::p,.seq _ b=>sel p b
 |_::p,.block _ c=>sel p c
 |_::p,.loop c=>sel p c
 |_,c=>c
abbrev ddB (n:Nat) (dk dr da dw:List Int):Blk:= .cols n [.sc (.ints .u8 dk),.sc (.ints .u8 dr),.sc (.ints .i64 da),.sc (.ints .u16 dw)]
abbrev sh:List Nat:= [0,2,3,4,5,6,7,8,9,10,11,12,13]
abbrev shH (H:a0g):a0g:=H.map fun p=>(rho sh 15 p.1,p.2.map (HB.ren (rho sh 15)))
abbrev hpL (s:Hs) (n:Nat) (dk dr da dw:List Int) (bs:List Bool):a0g:=(0,some (GB glT))::(1,some (.one true (ddB n dk dr da dw)))::(14,some (.one false (.cols 6 [.sc (.bools bs)])))::shH ((1,some (.one false (hsB s.now s.km s.gm s.rm s.ng)))::(4,some (.one false hoM))::(5,some (.one false hoB))::(6,some (.one false (cdB 2 s.us)))::(7,some (.one false (acB s.ac)))::(8,some (.one false (acM s.ac)))::rpR false s.km s.nr s.rk s.rt s.rE++(bif s.gm then [(9,some (.one false (grS s.ng))),(10,some (.fam false (fun x=>x<s.ng) (gaF s.gs))),(11,some (.one false (grM s.ng s.gs)))] else [])++(bif s.rm then [(12,some (.one false (rvM s.nv s.rv)))] else []))
abbrev LpV (bal:Int) (n:Nat) (dk dr da dw:List Int) (x:Nat×Hs×Int×List Bool):VS:=⟨[(0,.int .i64 bal),(1,.sl 1 0 0 n),(5,.ptr 2 0 0 0),(7,.int .i64 x.2.2.1),(8,.ptr 14 0 0 0),(9,.int .i64 x.1)],hpL x.2.1 n dk dr da dw x.2.2.2,15⟩
abbrev LpI (bal:Int) (n:Nat) (x:Nat×Hs×Int×List Bool):Prop:=Lp bal n x.1 x.2.1 x.2.2.1 x.2.2.2
noncomputable abbrev LpC:Code:=lpc Tryz.f3 0
noncomputable def reC:Code:=sel [1,0,0,1,1,1,1,1,1,1,1] LpC
noncomputable def inC:Code:=sel [1,1] LpC
abbrev AuV (bal:Int) (n:Nat) (dk dr da dw:List Int) (k:Nat) (s:Hs) (now:Int) (bs:List Bool) (j:Nat):VS:=⟨[(0,.int .i64 bal),(1,.sl 1 0 0 n),(5,.ptr 2 0 0 0),(7,.int .i64 now),(8,.ptr 14 0 0 0),(9,.int .i64 k),(23,.int .i64 (opS s.gs j)),(24,.sl 15 0 0 s.ng),(25,.int .i64 j)],(15,some (.one false (auR s.ng s.gs)))::hpL s n dk dr da dw bs,16⟩
abbrev ReV (bal:Int) (n:Nat) (dk dr da dw:List Int) (k:Nat) (s:Hs) (now:Int) (bs:List Bool) (j:Nat):VS:=⟨[(0,.int .i64 bal),(1,.sl 1 0 0 n),(5,.ptr 2 0 0 0),(7,.int .i64 now),(8,.ptr 14 0 0 0),(9,.int .i64 k),(29,.int .i64 j)],hpL s n dk dr da dw bs,15⟩
abbrev LpK (bal:Int) (n:Nat) (dk dr da dw:List Int) (K:Exit->VS->Prop) (x:Nat×Hs×Int×List Bool):Exit->VS->Prop:=lpK 2 (LpV bal n dk dr da dw) (LpI bal n) (fun x=>n-x.1) K x
abbrev TlK (bal:Int) (n:Nat) (dk dr da dw:List Int) (K:Exit->VS->Prop) (x:Nat×Hs×Int×List Bool):Exit->VS->Prop:=f0V 2 (v0V (fun v k=>b0y Tryz.prog T 2 reC v k) (f0V 1 (v0V (fun v k=>b0y Tryz.prog T 2 inC v k) (lpK 2 (LpV bal n dk dr da dw) (LpI bal n) (fun x=>n-x.1) K x))))
theorem fl5 {km gm rm:Bool} (h:km=false->gm=false/\rm=false):(km=false/\gm=false/\rm=false)\/(km=true/\gm=false/\rm=false)\/(km=true/\gm=false/\rm=true)\/(km=true/\gm=true/\rm=false)\/(km=true/\gm=true/\rm=true):=by
 cases km<;>cases gm<;>cases rm<;>simp at*
abbrev RvK (bal:Int) (n:Nat) (dk dr da dw:List Int) (K:Exit->VS->Prop) (x:Nat×Hs×Int×List Bool):Exit->VS->Prop:=f0V 4 (f0V 1 (v0V (fun v k=>b0y Tryz.prog T 2 inC v k) (lpK 2 (LpV bal n dk dr da dw) (LpI bal n) (fun x=>n-x.1) K x)))
set_option maxHeartbeats 4000000 in
theorem x0u (bal:Int) (n:Nat) (dk dr da dw:List Int) (K:Exit->VS->Prop) (x:Nat×Hs×Int×List Bool) (s:Hs) (now:Int) (bs:List Bool) (hk:x.1<n) (h30:n<=30) (h:Lp bal n (x.1+1) s now bs) (l:List Nat) (u:List Up) (vs:VS)
  (hw:upK u vs (fun v=>Weak 2 l v (ReV bal n dk dr da dw x.1 s now bs 0))):a0H 2 (b0y Tryz.prog T 2 (lpc Tryz.f3 2)) vs (RvK bal n dk dr da dw K x):=by
 refine j0y (ReV bal n dk dr da dw x.1 s now bs) (fun j=>j<=6) (fun j=>6-j) 0 l u hw (p0V _) ?_;intro j hj;obtain ⟨k,sx,nx,bx⟩:=x;dsimp only at hk h⊢;have fl:=h.fl;by_cases hlt:j<6
 .have cA:=t0C s.now s.km s.gm s.rm s.ng s.gs (Rf j) h.st.gl h.st.g0;have cD:=b0J j 6 (by omega) (by decide) (by decide);have hr:=b0g 6 j;have z1:b3.size+(dgW 6 j).size<=9223372036854775807:=by rw [hr];decide
  have hbl:j<bs.length:=by rw [h.bl];exact hlt
  have cO:=l0A (s.gs.getD (a0k (s.gs.map Au.id) (Rf j)) Au.zero);have hA:bs.getD j false=true->decide (a0k (s.gs.map Au.id) (Rf j)<s.ng)=true->g0q (s.gs.getD (a0k (s.gs.map Au.id) (Rf j)) Au.zero)=0:=fun hb hx=>r0d h.st (h.rv j hlt hb) (of_decide_eq_true hx)
  generalize s.gs.getD (a0k (s.gs.map Au.id) (Rf j)) Au.zero=A at*;generalize decide (a0k (s.gs.map Au.id) (Rf j)<s.ng)=fd at*;generalize g0q A=oA at*;unfold Rf at cA;clear h hw;obtain ⟨now0,km,gm,rm,nr,rk,rt,rE,us,ac,ng,gs,nv,rv⟩:=s;dsimp only at*;generalize dgW 6 j=r at*;rcases fl5 fl with ⟨rfl,rfl,rfl⟩|⟨rfl,rfl,rfl⟩|⟨rfl,rfl,rfl⟩|⟨rfl,rfl,rfl⟩|⟨rfl,rfl,rfl⟩
  all_goals repeat' ((conv=>whnf);first|refine cOx (l:= [0,2,3,4,5,6,7,8,9,10,11,12,13]) cA ?_|refine ⟨z1,?_⟩|refine cPx cD ?_|refine cPx cO ?_|refine a0a ?_|(apply bRx<;>intro h<;>try (exfalso;(try dsimp only at h);omega)))
  all_goals (conv=>whnf)
  all_goals first
   |(exfalso;omega)
   |exact absurd (hA (by assumption) (by assumption)) h
   |exact ⟨j+1,[0,1,2,3,4,5,6,7,8,9,10,11,12,13,14],[],hlt,by dsimp only;omega,⟨rfl,⟨rfl,rfl,rfl,rfl,rfl,rfl,congrArg (fun z=>some (SV.int .i64 z)) (d0J (by omega)),trivial⟩,by (repeat' (first|exact trivial|exact gwk rfl|constructor))⟩⟩
   |trace_state
 .obtain rfl:j=6:=by omega
  clear hw;obtain ⟨now0,km,gm,rm,nr,rk,rt,rE,us,ac,ng,gs,nv,rv⟩:=s;have hx:LpI bal n (k+1,⟨now0,km,gm,rm,nr,rk,rt,rE,us,ac,ng,gs,nv,rv⟩,now,bs):=h;dsimp only at fl;rcases fl5 fl with ⟨rfl,rfl,rfl⟩|⟨rfl,rfl,rfl⟩|⟨rfl,rfl,rfl⟩|⟨rfl,rfl,rfl⟩|⟨rfl,rfl,rfl⟩
  all_goals repeat' ((conv=>whnf);first|refine a0a ?_|(apply bRx<;>intro h<;>try (exfalso;(try dsimp only at h);omega)))
  all_goals (conv=>whnf)
  all_goals first
   |(exfalso;omega)
   |exact ⟨_,[0,1,2,3,4,5,6,7,8,9,10,11,12,13,14],[],hx,by dsimp only;omega,⟨rfl,⟨rfl,rfl,rfl,rfl,rfl,congrArg (fun z=>some (SV.int .i64 z)) (d0J (by omega)),trivial⟩,by (repeat' (first|exact trivial|exact gwk rfl|constructor))⟩⟩
   |trace_state
set_option maxHeartbeats 4000000 in
theorem f0R (bal:Int) (n:Nat) (dk dr da dw:List Int) (K:Exit->VS->Prop) (x:Nat×Hs×Int×List Bool) (s:Hs) (now:Int) (bs:List Bool) (hk:x.1<n) (h30:n<=30) (h:Lp bal n (x.1+1) s now bs) (l:List Nat) (u:List Up) (vs:VS)
  (hw:upK u vs (fun v=>Weak 2 l v (AuV bal n dk dr da dw x.1 s now bs 0))):a0H 2 (b0y Tryz.prog T 2 (lpc Tryz.f3 1)) vs (TlK bal n dk dr da dw K x):=by
 refine j0y (AuV bal n dk dr da dw x.1 s now bs) (fun j=>j<=s.ng) (fun j=>s.ng-j) 0 l u hw (p0V _) ?_;intro j hj;have h30g:s.ng<=31:=by have:=h.ng;omega
 obtain ⟨k,sx,nx,bx⟩:=x;dsimp only at hk h⊢;by_cases hlt:j<s.ng
 .have hck:=h.st.inv.ck j (by rw [h.st.gl];exact hlt);have c1:=y0F s.gs j;have c2:=y0G s.gs j;have e2:=s0O (gs:=s.gs) (j:=j) (by rw [h.st.gl];exact hlt) hck;rw [hck] at c1;have fl:=h.fl;clear h hw;obtain ⟨now0,km,gm,rm,nr,rk,rt,rE,us,ac,ng,gs,nv,rv⟩:=s;dsimp only at*;rcases fl5 fl with ⟨rfl,rfl,rfl⟩|⟨rfl,rfl,rfl⟩|⟨rfl,rfl,rfl⟩|⟨rfl,rfl,rfl⟩|⟨rfl,rfl,rfl⟩
  all_goals repeat' ((conv=>whnf);first|refine cPx c1 ?_|refine cPx c2 ?_|refine a0a ?_|(apply bRx<;>intro h<;>try (exfalso;(try dsimp only at h);omega)))
  all_goals (conv=>whnf)
  all_goals first
   |exact ⟨j+1,[0,1,2,3,4,5,6,7,8,9,10,11,12,13,14,15],[],hlt,by dsimp only;omega,⟨rfl,⟨rfl,rfl,rfl,rfl,rfl,rfl,congrArg (fun z=>some (SV.int .i64 z)) e2,rfl,congrArg (fun z=>some (SV.int .i64 z)) (d0J (by omega)),trivial⟩,by (repeat' (first|exact trivial|exact gwk rfl|constructor))⟩⟩
   |(exfalso;omega)
   |trace_state
 .obtain rfl:j=s.ng:=by omega
  have e3:=v0s h.st;have d1:=f0x s.now s.km s.gm s.rm s.ng s.ac h.st.inv.ok.v;rw [h.st.inv.bal,<-e3] at d1;have d2:=fun i=>t0C s.now s.km s.gm s.rm s.ng s.gs (Rf i) h.st.gl h.st.g0
  have d3:∀i,i<6->bs.getD i false=true->a0k (s.gs.map Au.id) (Rf i)<s.ng->g0q (s.gs.getD (a0k (s.gs.map Au.id) (Rf i)) Au.zero)=0:=fun i hi hb hx=>r0d h.st (h.rv i hi hb) hx
  obtain ⟨now0,km,gm,rm,nr,rk,rt,rE,us,ac,ng,gs,nv,rv⟩:=s;dsimp only at*;have fl:=h.fl;have hx:LpI bal n (k+1,⟨now0,km,gm,rm,nr,rk,rt,rE,us,ac,ng,gs,nv,rv⟩,now,bs):=h;rcases fl5 fl with ⟨rfl,rfl,rfl⟩|⟨rfl,rfl,rfl⟩|⟨rfl,rfl,rfl⟩|⟨rfl,rfl,rfl⟩|⟨rfl,rfl,rfl⟩
  all_goals repeat' ((conv=>whnf);first|refine cOx (l:= [0,2,3,4,5,6,7,8,9,10,11,12,13]) d1 ?_|refine a0a ?_|(apply bRx<;>intro h<;>try (exfalso;(try dsimp only at h);omega)))
  all_goals (conv=>whnf)
  all_goals first
   |(exfalso;omega)
   |(exfalso;simp at h;done)
   |exact x0u bal n dk dr da dw K (k,sx,nx,bx) _ now bs hk h30 hx [0,1,2,3,4,5,6,7,8,9,10,11,12,13,14] [] _ ⟨rfl,⟨rfl,rfl,rfl,rfl,rfl,rfl,rfl,trivial⟩,(by (repeat' (first|exact trivial|exact rfl|exact gwk rfl|constructor));first|done|fail)⟩
   |trace_state
end
section
attribute [local irreducible] a0G a0H a0q b0H
set_option maxHeartbeats 4000000 in
theorem x0v (bal:Int) (n:Nat) (dk dr da dw:List Int) (K:Exit->VS->Prop) (hK:∀v,v0W T 2 [.tmp 4] (a0h (.bool true) [] 2) .ret v->K .ret v) (k:Nat) (s:Hs) (now:Int) (bs:List Bool) (hk:k<n) (hU:da.getD k 0<1\/9999999999<da.getD k 0):b0y Tryz.prog T 2 LpC (LpV bal n dk dr da dw (k,s,now,bs)) (LpK bal n dk dr da dw K (k,s,now,bs)):=by
 have hU:da.getD ((k:Int).toNat+0) 0<1\/9999999999<da.getD ((k:Int).toNat+0) 0:=hU;have c0:=h0M;repeat' ((conv=>whnf);first|refine cOx (l:= [0]) c0 ?_|refine a0a ?_|(apply bRx<;>intro h<;>try (exfalso;(try dsimp only at h);omega)))
 all_goals (conv=>whnf)
 all_goals first
  |(exfalso;dsimp only at*;omega)
  |(refine hK _ ?_;(conv=>whnf);exact rOz [0,1])
abbrev auN:List BCol:= [.sc (.strs []),.sc (.strs []),.sc (.ints .i64 []),.sc (.ints .i64 []),.sc (.ints .i64 []),.sc (.ints .i64 []),.sc (.ints .i64 []),.sc (.ints .i64 []),.sc (.ints .i64 []),.sc (.ints .i64 [])]
set_option maxHeartbeats 4000000 in
theorem x0w (bal:Int) (n:Nat) (dk dr da dw:List Int) (K:Exit->VS->Prop) (k:Nat) (s:Hs) (now now':Int) (bs:List Bool) (hx:LpI bal n (k,s,now,bs)) (hk:k<n) (h30:n<=30) (hU:1<=da.getD k 0/\da.getD k 0<=9999999999)
  (e3:(dk.getD k 0).tmod 4=3) (hw:now<=now'/\now'<=now+65535) (et:IntKind.i64.wrap (now+IntKind.i64.wrap (dw.getD k 0))=now'):b0y Tryz.prog T 2 LpC (LpV bal n dk dr da dw (k,s,now,bs)) (LpK bal n dk dr da dw K (k,s,now,bs)):=by
 have hU:1<=da.getD ((k:Int).toNat+0) 0/\da.getD ((k:Int).toNat+0) 0<=9999999999:=hU;have e3:(dk.getD ((k:Int).toNat+0) 0).tmod 4=3:=e3;have et:IntKind.i64.wrap (now+IntKind.i64.wrap (dw.getD ((k:Int).toNat+0) 0))=now':=et;have hx:Lp bal n k s now bs:=hx;have h0:=hx.n0;have hnow:=hx.nw;have hng:=hx.ng;have hat:0<=now'/\now'<=1000000000:=by omega
 have fl:=hx.fl;have g0:=hx.st.g0;have c0:=s0E s.now s.km s.rm s.ng s.gs s.ac now' hx.st.gl (by omega) (fun i hi=>hx.st.inv.ck i (by rw [hx.st.gl];exact hi)) hat (by omega);have c1:=q0V s.now s.km s.rm s.ng now' hat (by omega);have hs:=x0s hx.st now';have hid:s.gs.map Au.id=(exR now' (s.gs,s.ac) s.ng).1.map Au.id:=(t0B now' (s.gs,s.ac) hx.st.gl (fun i hi=>hx.st.inv.ck i (by rw [hx.st.gl];exact hi)) s.ng (h0Z _)).symm;have a0:=n0U now' s.km s.rm s.ng;have a1:=q0X now' s.km s.rm s.ng (exR now' (s.gs,s.ac) s.ng).1 ((g0i now' (s.gs,s.ac) s.ng).trans hx.st.gl) (by omega);have hN:Lp bal n (k+1) { s with now:=now',gs:=(exR now' (s.gs,s.ac) s.ng).1,ac:=(exR now' (s.gs,s.ac) s.ng).2} now' bs:=hx.exp hk hw hs rfl rfl rfl rfl ⟨rfl,rfl,rfl⟩;have hN0:Lp bal n (k+1) { s with now:=now'} now' bs:=hx.exp hk hw (x0t hx.st now') rfl rfl rfl rfl ⟨rfl,rfl,rfl⟩;clear hx hs h0 hnow hng;obtain ⟨now0,km,gm,rm,nr,rk,rt,rE,us,ac,ng,gs,nv,rv⟩:=s;dsimp only at*;generalize (exI now' (gs,ac) ng).length=lx at*;generalize exR now' (gs,ac) ng=X at*;rcases fl5 fl with ⟨rfl,rfl,rfl⟩|⟨rfl,rfl,rfl⟩|⟨rfl,rfl,rfl⟩|⟨rfl,rfl,rfl⟩|⟨rfl,rfl,rfl⟩
 all_goals try (obtain ⟨rfl,rfl⟩:=g0 rfl)
 all_goals repeat' ((conv=>whnf);first|(rw [et])|(rw [e3])|refine cOx (l:= [0,2,3,4,5,6,7,8,9,10,11,12,13]) c0 ?_|refine cOx (l:= [0,2,3,4,5,6,7,8,9,10,11,12,13]) c1 ?_|refine cOx (l:= [0,2,3,4,5,6,7,8,9,10,11,12,13]) a0 ?_|refine cOx (l:= [0,2,3,4,5,6,7,8,9,10,11,12,13]) a1 ?_|refine a0a ?_|(apply bRx<;>intro h<;>try (exfalso;(try dsimp only at h);omega)))
 all_goals (conv=>whnf)
 all_goals first
  |exact f0R bal n dk dr da dw K _ _ now' bs hk h30 hN [0,1,2,3,4,5,6,7,8,9,10,11,12,13,14,17] [] _ ⟨rfl,⟨rfl,rfl,rfl,rfl,rfl,rfl,rfl,rfl,rfl,trivial⟩,(by (repeat' (first|exact trivial|exact rfl|exact gwk rfl|exact congrArg (fun z=>some (HB.one false (Blk.obj (ObjS.map false false ng [.strs z] [.ptrs 11 ng] (List.range ng) ng)))) hid|constructor));first|done|fail)⟩
  |exact f0R bal n dk dr da dw K _ _ now' bs hk h30 hN0 [0,1,2,3,4,5,6,7,8,9,10,11,12,13,14,16] [.slot 24 auN] _ ⟨rfl,⟨rfl,rfl,rfl,rfl,rfl,rfl,rfl,rfl,rfl,trivial⟩,(by (repeat' (first|exact trivial|exact rfl|exact gwk rfl|constructor));first|done|fail)⟩
  |(exfalso;dsimp only at*;omega)
  |trace_state
end
section
attribute [local irreducible] a0G a0H a0q b0H
theorem n0W {bs:List Bool} {kk i:Nat} {b:Bool} (hl:bs.length=6) (hi:i<6) (h:(bs.set kk b).getD i false=true):bs.getD i false=true\/(i=kk/\b=true):=by
 by_cases e:i=kk
 .subst e;rw [List.getD,z0M (by omega)] at h;exact .inr ⟨rfl,h⟩
 .rw [List.getD,z0S (Ne.symm e)] at h;exact .inl h
set_option maxHeartbeats 8000000 in
theorem x0x (bal:Int) (n:Nat) (dk dr da dw:List Int) (K:Exit->VS->Prop) (k:Nat) (s:Hs) (now now':Int) (bs:List Bool) (q kk U:Nat) (hx:LpI bal n (k,s,now,bs)) (hk:k<n) (h30:n<=30) (eU:da.getD k 0=U) (hU:1<=(U:Int)/\(U:Int)<=9999999999) (hq:q<3) (hkk:kk<6)
  (eq:(dk.getD k 0).tmod 4=q) (ek:IntKind.i64.wrap ((dr.getD k 0).tmod 6)=kk) (hw:now<=now'/\now'<=now+65535) (et:IntKind.i64.wrap (now+IntKind.i64.wrap (dw.getD k 0))=now'):b0y Tryz.prog T 2 LpC (LpV bal n dk dr da dw (k,s,now,bs)) (LpK bal n dk dr da dw K (k,s,now,bs)):=by
 have eU:da.getD ((k:Int).toNat+0) 0=U:=eU;have eq:(dk.getD ((k:Int).toNat+0) 0).tmod 4=q:=eq;have ek:IntKind.i64.wrap ((dr.getD ((k:Int).toNat+0) 0).tmod 6)=kk:=ek;have et:IntKind.i64.wrap (now+IntKind.i64.wrap (dw.getD ((k:Int).toNat+0) 0))=now':=et;have e1:IntKind.i64.wrap ((k:Int)+1)=((k+1:Nat):Int):=d0J (by omega);have hx:Lp bal n k s now bs:=hx;have h0:=hx.n0;have hnow:=hx.nw;have hng:=hx.ng;have hat:0<=now'/\now'<=1000000000:=by omega
 have fl:=hx.fl;have hbl:=hx.bl;have hbk:kk<bs.length:=by omega
 obtain ⟨s',ty,R,hs,hn',hkm,hng',hin,hT,hR,hrk,hrv,hrf,cH⟩:=y0A hx.st q kk (k+1) U hq (by omega) hat (by omega) (by omega);obtain ⟨ref,orig,hM⟩:=t0I q kk (k+1) U hq (by omega);obtain ⟨_,cH2⟩:=t0F hs hM hat (by omega) hin;have hRl:R.length<=1000:=by rw [<-hR];exact hs.kE _ hin
 rw [hT,hR] at cH2;have hN:∀bs',bs'.length=6->(∀i,i<6->bs'.getD i false=true->bs.getD i false=true\/(i=kk/\q=2))->Lp bal n (k+1) s' now' bs':=fun bs' h1 h2=>hx.msg hk h30 hw hq hs hn' hkm hng' hrk hrv hrf h1 h2
 have c1:=s0M q hq;have c2:=b0J (k+1) 6 (by omega) (by decide) (by decide);have c3:=r0b q kk (k+1) U hq hkk (by omega);rw [<-eU] at c3;have cS:=s0q R R.length ty rfl (by omega);have cA:=f0x s'.now s'.km s'.gm s'.rm s'.ng s'.ac hs.inv.ok.v;have a0:=n0U s'.now s'.km s'.rm s'.ng;have a1:=q0X s'.now s'.km s'.rm s'.ng s'.gs hs.gl (by omega);have g0:=hs.g0;clear hx hs h0 hnow hng hin hT hR hrk hrv hrf hM;obtain ⟨now0,km,gm,rm,nr,rk,rt,rE,us,ac,ng,gs,nv,rv⟩:=s;obtain ⟨now1,km1,gm1,rm1,nr1,rk1,rt1,rE1,us1,ac1,ng1,gs1,nv1,rv1⟩:=s';dsimp only at*;subst hn' hkm;generalize s0L q=tq at*;generalize eOf q kk (k+1) U=E at*;generalize kOf q=ke at*;generalize dgW 6 (k+1)=own at*;generalize ac1.held=hd at*;have hbs:∀b,(bs.set kk b).length=6:=fun b=>by rw [z0X];exact hbl
 rcases fl5 fl with ⟨rfl,rfl,rfl⟩|⟨rfl,rfl,rfl⟩|⟨rfl,rfl,rfl⟩|⟨rfl,rfl,rfl⟩|⟨rfl,rfl,rfl⟩
 all_goals cases gm1<;>cases rm1
 all_goals try (obtain ⟨rfl,rfl⟩:=g0 rfl)
 all_goals repeat' ((conv=>whnf);first|(rw [ek,et])|(rw [eq])|(rw [e1])|refine cPx c1 ?_|refine cPx c2 ?_|refine cOx (l:= [0]) c3 ?_|refine cOx (l:= [0,2,3,4,5,6,7,8,9,10,11,12,13,16]) cH ?_|refine cOx (l:= [0,2,22,23,5,6,7,8,9,18,19,20,21]) cA ?_|refine cOx (l:= [0,2,22,23,5,6,7,8,9,18,19,20,21,16]) cH2 ?_|refine cOx (l:= [0,2,30,31,5,6,7,8,9,26,27,28,29]) cA ?_|refine cOx (l:= [0,24,32]) cS ?_|refine cOx (l:= [0,2,30,31,5,6,7,8,9,26,27,28,29]) a0 ?_|refine cOx (l:= [0,2,30,31,5,6,7,8,9,26,27,28,29]) a1 ?_|refine a0a ?_|(apply bRx<;>intro h<;>try (exfalso;(try dsimp only at h);omega)))
 all_goals (conv=>whnf)
 all_goals first
  |exact f0R bal n dk dr da dw K _ _ _ _ hk h30 (hN (bs.set kk true) (hbs _) (fun i hi hb=>(n0W hbl hi hb).elim .inl (fun e=> .inl (by rw [e.1];exact h)))) [0,1,2,30,31,5,6,7,8,9,26,27,28,29,14,34] [] _ ⟨rfl,⟨rfl,rfl,rfl,rfl,rfl,rfl,rfl,rfl,rfl,trivial⟩,(by (repeat' (first|exact trivial|exact rfl|exact gwk rfl|constructor));first|done|fail)⟩
  |exact f0R bal n dk dr da dw K _ _ _ _ hk h30 (hN (bs.set kk (decide ((q:Int)=2))) (hbs _) (fun i hi hb=>(n0W hbl hi hb).imp id (fun e=>⟨e.1,by have:=of_decide_eq_true e.2;omega⟩))) [0,1,2,30,31,5,6,7,8,9,26,27,28,29,14,34] [] _ ⟨rfl,⟨rfl,rfl,rfl,rfl,rfl,rfl,rfl,rfl,rfl,trivial⟩,(by (repeat' (first|exact trivial|exact rfl|exact gwk rfl|constructor));first|done|fail)⟩
  |exact f0R bal n dk dr da dw K _ _ _ _ hk h30 (hN (bs.set kk true) (hbs _) (fun i hi hb=>(n0W hbl hi hb).elim .inl (fun e=> .inl (by rw [e.1];exact h)))) [0,1,2,30,31,5,6,7,8,9,26,27,28,29,14,34] [.slot 24 auN] _ ⟨rfl,⟨rfl,rfl,rfl,rfl,rfl,rfl,rfl,rfl,rfl,trivial⟩,(by (repeat' (first|exact trivial|exact rfl|exact gwk rfl|constructor));first|done|fail)⟩
  |exact f0R bal n dk dr da dw K _ _ _ _ hk h30 (hN (bs.set kk (decide ((q:Int)=2))) (hbs _) (fun i hi hb=>(n0W hbl hi hb).imp id (fun e=>⟨e.1,by have:=of_decide_eq_true e.2;omega⟩))) [0,1,2,30,31,5,6,7,8,9,26,27,28,29,14,34] [.slot 24 auN] _ ⟨rfl,⟨rfl,rfl,rfl,rfl,rfl,rfl,rfl,rfl,rfl,trivial⟩,(by (repeat' (first|exact trivial|exact rfl|exact gwk rfl|constructor));first|done|fail)⟩
  |(exfalso;dsimp only at*;omega)
  |trace_state
end
section
attribute [local irreducible] a0G a0H a0q b0H
theorem b6:∀j,j<6->[false,false,false,false,false,false].getD j false=false:=by decide
theorem t0N {x:Int} {m:Nat} (hx:0<=x) (hm:0<m):∃q:Nat,x.tmod m=q/\q<m:=by
 refine ⟨(x.tmod m).toNat,?_,?_⟩<;>rw [v0u hx]
 .have:=Int.emod_nonneg x (show (m:Int)≠0 by omega);omega
 .have:=Int.emod_nonneg x (show (m:Int)≠0 by omega);have:=Int.emod_lt_of_pos x (show (0:Int)<m by omega);omega
noncomputable def enC:Code:=sel [1,1,1,1,1,1,1] (match Tryz.f3.body with|some c=>c|none=> .skip)
abbrev EnK:Exit->VS->Prop:=f0V 0 (v0V (fun v k=>b0y Tryz.prog T 2 enC v k) (v0W T 2 Tryz.f3.results.toList (a0h (.bool true) [] 2)))
theorem x0y (bal:Int) (n:Nat) (dk dr da dw:List Int) (k:Nat) (s:Hs) (now:Int) (bs:List Bool) (hk:¬k<n):b0y Tryz.prog T 2 LpC (LpV bal n dk dr da dw (k,s,now,bs)) (LpK bal n dk dr da dw EnK (k,s,now,bs)):=by
 have c0:=h0M;repeat' ((conv=>whnf);first|refine cOx (l:= [0]) c0 ?_|refine a0a ?_|(apply bRx<;>intro h<;>try (exfalso;(try dsimp only at h);omega)))
 all_goals (conv=>whnf)
 all_goals first
  |(exfalso;dsimp only at*;omega)
  |exact rOz [0,1]
theorem v0t (bal:Int) (n:Nat) (dk dr da dw:List Int) (h30:n<=30) (hdk:∀i,0<=dk.getD i 0) (hdr:∀i,0<=dr.getD i 0) (hdw:∀i,0<=dw.getD i 0/\dw.getD i 0<=65535) (l:List Nat) (u:List Up) (vs:VS) (hw:upK u vs (fun v=>Weak 2 l v (LpV bal n dk dr da dw (0,hs1 bal,0,[false,false,false,false,false,false])))):a0H 2 (b0y Tryz.prog T 2 LpC) vs EnK:=by
 refine j0y (LpV bal n dk dr da dw) (LpI bal n) (fun x=>n-x.1) (0,hs1 bal,0,[false,false,false,false,false,false]) l u hw ⟨y0U bal,p0V _,Int.le_refl 0,⟨Int.le_refl 0,by simp⟩,h0Z 0,rfl,fun j hj h=>absurd (b6 j hj) (by rw [h];decide),fun o _ _ j U h=>(by cases h),fun _=>⟨rfl,rfl⟩⟩ ?_;rintro ⟨k,s,now,bs⟩ hI;have hI':Lp bal n k s now bs:=hI;have hkn:=hI'.kn;have h0:=hI'.n0;by_cases hk:k<n
 .by_cases hU:da.getD k 0<1\/9999999999<da.getD k 0
  .exact x0v bal n dk dr da dw EnK (fun v h=>h) k s now bs hk hU
  .have hw:=hdw k;have ew:IntKind.i64.wrap (dw.getD k 0)=dw.getD k 0:=a0r (by omega) (by omega);have et:IntKind.i64.wrap (now+IntKind.i64.wrap (dw.getD k 0))=now+dw.getD k 0:=by rw [ew];exact a0r (by omega) (by omega)
   obtain ⟨q,eq,hq⟩:=t0N (m:=4) (hdk k) (by decide);by_cases hq3:q=3
   .subst hq3;exact x0w bal n dk dr da dw EnK k s now _ bs hI hk h30 (by omega) eq (by omega) et
   .obtain ⟨kk,ek,hkk⟩:=t0N (m:=6) (hdr k) (by decide);exact x0x bal n dk dr da dw EnK k s now _ bs q kk (da.getD k 0).toNat hI hk h30 (by omega) (by omega) (by omega) hkk eq ((congrArg IntKind.i64.wrap ek).trans (a0r (by omega) (by omega))) (by omega) et
 .exact x0y bal n dk dr da dw k s now bs hk
set_option maxHeartbeats 4000000 in
theorem l0B (bal:Int) (n:Nat) (dk dr da dw:List Int) (hn:n<=9223372036854775807) (hdk:∀i,0<=dk.getD i 0) (hdr:∀i,0<=dr.getD i 0) (hdw:∀i,0<=dw.getD i 0/\dw.getD i 0<=65535):FC Tryz.prog 2 3 [.int .i64 bal,.sl 1 0 0 n] [(0,some (GB glT)),(1,some (.one true (ddB n dk dr da dw)))] (a0h (.bool true) [] 2):=by
 have c0:=h0M;by_cases hx:n<=30/\0<=bal/\bal<=999999999999
 .have c1:=n0O bal hx.2;refine fEx Tryz.func3 ?_;repeat' ((conv=>whnf);first|refine cOx (l:= [0]) c0 ?_|refine cOx (l:= [0]) c1 ?_|refine a0a ?_|(apply bRx<;>intro h<;>try (exfalso;(try dsimp only at h);omega)))
  all_goals (conv=>whnf)
  all_goals first
   |exact v0t bal n dk dr da dw hx.1 hdk hdr hdw [0,1,2,0,0,3,4,5,6,7,0,0,0,0,8] [] _ ⟨rfl,⟨rfl,rfl,rfl,rfl,rfl,rfl,trivial⟩,⟨gwk rfl,rfl,rfl,rfl,rfl,rfl,rfl,rfl,rfl,trivial⟩⟩
   |(exfalso;omega)
   |trace_state
 .refine fEx Tryz.func3 ?_;repeat' ((conv=>whnf);first|refine cOx (l:= [0]) c0 ?_|refine a0a ?_|(apply bRx<;>intro h<;>try (exfalso;(try dsimp only at h);omega)))
  all_goals (conv=>whnf)
  all_goals first
   |exact rOz [0,1]
   |(exfalso;omega)
   |trace_state
end
end Go.Proofs.YtedoefigabpmpaaGreatDoor
namespace Go.Proofs.YtedoefigabpmpaaGreatDoor
open Go.RowKit Go.Sy
theorem z0f {n:Int} (h:(Lit.int .u8 n).wf=true):0<=n/\n<=255:=by
 simp only [Lit.wf,e0z,decide_eq_true_eq] at h;exact h
theorem y0H {n:Int} (h:(Lit.int .u16 n).wf=true):0<=n/\n<=65535:=by
 simp only [Lit.wf,e0z,decide_eq_true_eq] at h;exact h
theorem topHolds_fc (n0:Int) (hw0:(Lit.int .i64 n0).wf=true) (l1:Nat) (hl1:l1<=maxLen) (q1_0:List Int) (eq1_0:q1_0.length=l1) (wq1_0:∀x∈q1_0,(Lit.int .u8 x).wf=true) (q1_1:List Int) (eq1_1:q1_1.length=l1) (wq1_1:∀x∈q1_1,(Lit.int .u8 x).wf=true) (q1_2:List Int) (eq1_2:q1_2.length=l1) (wq1_2:∀x∈q1_2,(Lit.int .i64 x).wf=true) (q1_3:List Int) (eq1_3:q1_3.length=l1) (wq1_3:∀x∈q1_3,(Lit.int .u16 x).wf=true):
  FC Tryz.prog 2 3 [.int .i64 n0,.sl 1 0 0 l1] [(0,some (GB glT)),(1,some (.one true (.cols l1 [.sc (.ints .u8 q1_0),.sc (.ints .u8 q1_1),.sc (.ints .i64 q1_2),.sc (.ints .u16 q1_3)])))] (a0h (.bool true) [] 2):=by
 have g8:∀(q:List Int),(∀x∈q,(Lit.int .u8 x).wf=true)->∀i,0<=q.getD i 0:=fun q h i=>by
  rw [List.getD];cases e:q[i]? with
  |none=>exact Int.le_refl 0
  |some x=>exact (z0f (h x (u0u e))).1
 have g16:∀i,0<=q1_3.getD i 0/\q1_3.getD i 0<=65535:=fun i=>by
  rw [List.getD];cases e:q1_3[i]? with
  |none=>exact ⟨Int.le_refl 0,by decide⟩
  |some x=>exact y0H (wq1_3 x (u0u e))
 exact l0B n0 l1 q1_0 q1_1 q1_2 q1_3 (w0q hl1 (by decide)) (g8 _ wq1_0) (g8 _ wq1_1) g16
end Go.Proofs.YtedoefigabpmpaaGreatDoor
