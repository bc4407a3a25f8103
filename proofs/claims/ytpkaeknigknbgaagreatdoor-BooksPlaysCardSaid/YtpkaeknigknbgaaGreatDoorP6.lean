/- Several texts in one: Bp2. -/
import Derived.Test.YtpkaeknigknbgaaGreatDoorP5
set_option linter.unusedVariables false
set_option linter.unusedSimpArgs false
set_option maxRecDepth 100000
namespace Go.Sy
abbrev i1A:=@List.take_add_one
abbrev i1S:=@List.length_filter_le
abbrev i1b:=@List.filter_cons
abbrev i1h:=@List.filter_append
abbrev i1m:=@List.getElem_take
abbrev i1x:=@List.drop_eq_getElem_cons
abbrev j1T:=@List.append_nil
abbrev j1U:=@List.filter_nil
end Go.Sy
namespace Go.Proofs.YtpkaeknigknbgaaGreatDoor
open Go.RowKit Go.Sy
section
attribute [local irreducible] a0q a0r a0j a0R
def idI (ps:List ByteArray) (s:ByteArray) (n:Nat):Int:=if a0l ps s<n then (a0l ps s:Int) else-1
theorem sidx_le (s:ByteArray):∀l:List ByteArray,a0l l s<=l.length
 | []=>m0D _
 |x::l=>by
  have:=sidx_le s l;simp only [a0l,y0x];cases seq x s<;>simp only [cond_true,cond_false]<;>omega
theorem r0Y {a b:ByteArray}:seq a b=true↔a=b:=by unfold seq;exact decide_eq_true_iff
theorem w0h {s:ByteArray}:∀(l:List ByteArray) (j:Nat),j<a0l l s->¬l.getD j ⟨#[]⟩=s
 | [],j,h=>by simp [a0l] at h
 |x::l,j,h=>by
  simp only [a0l] at h;cases hx:seq x s with
  |true=>rw [hx] at h;simp at h
  |false=>
   rw [hx] at h;simp only [cond_false] at h;cases j with
   |zero=>intro e;rw [r0Y.2 (show x=s from e)] at hx;cases hx
   |succ j=>exact w0h l j (by omega)
theorem d0f {s:ByteArray}:∀(l:List ByteArray),a0l l s<l.length->l.getD (a0l l s) ⟨#[]⟩=s
 | [],h=>by simp [a0l] at h
 |x::l,h=>by
  simp only [a0l] at h⊢;cases hx:seq x s with
  |true=>exact r0Y.1 hx
  |false=>
   rw [hx] at h;simp only [cond_false,y0x] at h⊢;exact d0f l (by omega)
theorem f0Z {s:ByteArray} {l:List ByteArray} {k:Nat} (hk:k<l.length) (h:l.getD k ⟨#[]⟩=s) (hlo:∀j,j<k->¬l.getD j ⟨#[]⟩=s):a0l l s=k:=by
 rcases h1q (a0l l s) k with q|q|q
 .exact absurd (d0f l (by omega)) (hlo _ q)
 .exact q
 .exact absurd h (w0h l k q)
theorem k0g (n:Nat) (ps:List ByteArray) (s:ByteArray) (hl:ps.length=n) (hn:n<=100000):FC Tryz.prog 2 120 [.sl 1 0 0 n,.str s] [(1,some (.one true (.cols n [.sc (.strs ps)])))] (a0f (.int .i64 (idI ps s n)) [] 2):=by
 refine fEx Tryz.func120 ?_;repeat' ((conv=>whnf);first|refine a0a ?_|(apply bRx<;>intro h<;>try (exfalso;(try dsimp only at h);omega)))
 all_goals (conv=>whnf)
 refine a0O (fun k:Nat=>⟨[(0,.sl 1 0 0 n),(1,.str s),(6,.sl 1 0 0 n),(7,.int .i64 n),(8,.int .i64 k)],[(1,some (.one true (.cols n [.sc (.strs ps)])))],2⟩) (fun k=>k<=n/\∀j,j<k->¬ps.getD j ⟨#[]⟩=s) (fun k=>n-k) 0 [0,1] [] wHx ⟨z0h _,fun j hj=>by omega⟩ ?_;rintro k ⟨hk,hlo⟩;by_cases hk2:k<n
 .by_cases q:ps.getD k ⟨#[]⟩=s
  .have hi:idI ps s n=(k:Int):=by
    have e:=f0Z (by omega) q hlo;unfold idI;rw [e,if_pos hk2]
   rw [hi];repeat' ((conv=>whnf);first|refine a0a ?_|(apply bRx<;>intro h<;>try (exfalso;(try dsimp only at h);omega)))
   all_goals (conv=>whnf)
   all_goals (try simp only [c0J] at*)
   all_goals first
    |exact rOx [0,1] a0b
    |(exfalso;first|omega|contradiction|exact absurd q.symm (by assumption))
    |trace_state
  .have hnx:∀j,j<k+1->¬ps.getD j ⟨#[]⟩=s:=fun j hj=>by
    by_cases e:j=k
    .subst e;exact q
    .exact hlo j (by omega)
   repeat' ((conv=>whnf);first|refine a0a ?_|(apply bRx<;>intro h<;>try (exfalso;(try dsimp only at h);omega)))
   all_goals (conv=>whnf)
   all_goals (try simp only [c0J] at*)
   all_goals first
    |exact ⟨k+1,[0,1],[],⟨hk2,hnx⟩,(show n-(k+1)<n-k by omega),⟨rfl,⟨rfl,rfl,rfl,rfl,congrArg (fun z=>some (SV.int .i64 z)) (a0i (by omega)),trivial⟩,⟨rfl,trivial⟩⟩⟩
    |(exfalso;first|omega|contradiction|exact q ((by assumption:s=_).symm))
    |trace_state
 .have e:k=n:=by omega
  subst e;have hi:idI ps s k= -1:=by
   unfold idI;rw [if_neg];intro q;exact hlo _ q (d0f ps (by omega))
  rw [hi];repeat' ((conv=>whnf);first|refine a0a ?_|(apply bRx<;>intro h<;>try (exfalso;(try dsimp only at h);omega)))
  all_goals (conv=>whnf)
  all_goals first
   |exact rOx [0,1] a0b
   |(exfalso;omega)
   |trace_state
theorem o0D (n:Nat) (ps:List ByteArray) (s:ByteArray) (hl:ps.length=n) (hn:n<=100000):FC Tryz.prog 2 86 [.sl 1 0 0 n,.str s] [(1,some (.one true (.cols n [.sc (.strs ps)])))] (a0f (.bool (decide (0<=idI ps s n))) [] 2):=by
 have c:=k0g n ps s hl hn;refine fEx Tryz.func86 ?_;repeat' ((conv=>whnf);first|refine cOx (l:= [0,1]) c ?_|refine a0a ?_|(apply bRx<;>intro h<;>try (exfalso;(try dsimp only at h);omega)))
 all_goals (conv=>whnf)
 all_goals exact rOx [0,1] a0b
theorem e0O {P:Program} {f:FuncId} {fn:Func} (h:P.funcs[f]? =some fn) (hb:fn.body.isSome=true) (hn:(fn.name=="runtime.NumGoroutine")=false):d0M P f:=by
 obtain ⟨c,hc⟩:=h1j.1 hb;exact ⟨fn,c,h,hc,hn⟩
theorem z0m (n:Nat) (l:List ByteArray) (hn:n<4611686018427387904):FC Tryz.prog 2 87 [.sl 1 0 0 n] [(1,some (.one false (.cols n [.sc (.strs l)])))] (a0f (.tup []) [(1,some (.one false (.cols n [.sc (.strs (sortS l))])))] 2):=
 y0F ⟨fun blk off cap ss W hH hblk hsz=>AnyM.slices_Sort_string Tryz.sortS blk off cap ss W hH hblk hsz,fun p cap W=>AnyM.slices_Sort_string_none Tryz.sortS p cap W⟩ (e0O Tryz.func87 (by kernel_rfl) (by kernel_rfl)) n l hn
structure Bk where
 n:Nat
 ps:List ByteArray
 m:Nat
 cs:List ByteArray
 vs:List (List Int)
 bs:List Nat
 ck:Nat
abbrev bkM (ro:Bool) (b:Bk):Option HB:=some (.one ro (.obj (.map false false b.m [.strs b.cs] [.arrs 16 .i64 b.vs] b.bs b.ck)))
abbrev bkP (ro:Bool) (b:Bk):Option HB:=some (.one ro (.cols b.n [.sc (.strs b.ps)]))
abbrev bkC (ro:Bool) (hp hm n:Nat):Option HB:=some (.one ro (.cells [.sl hp 0 0 n,.map hm 0]))
def nwE (ps:List ByteArray) (k:Nat):Int:=if nmB (ps.getD k ⟨#[]⟩)=false then 5 else if 0<=idI (ps.take k) (ps.getD k ⟨#[]⟩) k then 7 else 0
def nwK (ps:List ByteArray):Nat->Int
 |0=>0
 |k+1=>if nwK ps k≠0 then nwK ps k else nwE ps k
theorem m0V {ps:List ByteArray} {k:Nat} (h0:nwK ps k=0) (h1:nwE ps k≠0):∀n,k<n->nwK ps n=nwE ps k
 |0,h=>by omega
 |n+1,h=>by
  simp only [nwK];by_cases e:k=n
  .subst e;rw [if_neg (by omega)]
  .rw [m0V h0 h1 n (by omega),if_pos h1]
def b0R (ps:List ByteArray):Int:=if 16<ps.length then 3 else nwK ps ps.length
def nwB (ps:List ByteArray):Bk:=⟨ps.length,sortS ps,0,[],[],[],0⟩
def t0I (ps:List ByteArray):SV->a0h->Nat->Prop:=if b0R ps≠0 then a0f (.tup [.nptr,.int .i64 (b0R ps)]) [] 2 else a0f (.tup [.ptr 2 0 0 0,.int .i64 0]) [(2,bkC false 3 4 ps.length),(3,bkP false (nwB ps)),(4,bkM false (nwB ps))] 5
theorem o0E {ps:List ByteArray} {k:Nat} (hk:k<ps.length):ps.take (k+1)=ps.take k++ [ps.getD k ⟨#[]⟩]:=by
 rw [i1a hk,List.getD,j0I hk];rfl
theorem c1w (ps:List ByteArray) (n:Nat) (hl:ps.length=n) (hn:n<=100000):FC Tryz.prog 2 49 [.sl 1 0 0 n] [(1,some (.one true (.cols n [.sc (.strs ps)])))] (t0I ps):=by
 unfold t0I b0R;by_cases h16:16<n
 .rw [hl,if_pos h16,if_pos (by decide)];refine fEx Tryz.func49 ?_;repeat' ((conv=>whnf);first|refine a0a ?_|(apply bRx<;>intro h<;>try (exfalso;(try dsimp only at h);omega)))
  all_goals (conv=>whnf)
  all_goals first
   |exact rOx [0,1] a0b
   |(exfalso;omega)
   |trace_state
 rw [hl,if_neg h16];refine fEx Tryz.func49 ?_;repeat' ((conv=>whnf);first|refine a0a ?_|(apply bRx<;>intro h<;>try (exfalso;(try dsimp only at h);omega)))
 all_goals (conv=>whnf)
 refine a0O (fun k:Nat=>⟨[(4,.ptr 2 0 0 0),(13,.sl 1 0 0 n),(14,.int .i64 n),(15,.int .i64 k)],[(1,some (.one true (.cols n [.sc (.strs ps)]))),(2,bkC false 3 4 k),(3,some (.one false (.cols k [.sc (.strs (ps.take k))]))),(4,bkM false (nwB ps))],5⟩) (fun k=>k<=n/\nwK ps k=0) (fun k=>n-k) 0 [0,1,3,4,2] [.cell 3 0 [.sc (.strs [])]] wHx ⟨z0h _,rfl⟩ ?_;rintro k ⟨hk,h0⟩;by_cases hk2:k<n
 .have c1:=l0A (ps.getD k ⟨#[]⟩);have c2:=o0D k (ps.take k) (ps.getD k ⟨#[]⟩) (by rw [d1I];omega) (by omega);have hE:nwE ps k=if nmB (ps.getD k ⟨#[]⟩)=false then 5 else if 0<=idI (ps.take k) (ps.getD k ⟨#[]⟩) k then 7 else 0:=rfl
  have hst:=fun h=>m0V h0 h n hk2
  have hs0:nwE ps k=0->nwK ps (k+1)=0:=fun h=>by simp only [nwK];rw [if_neg (by omega)];exact h
  have htk:=o0E (ps:=ps) (k:=k) (by omega);cases hnm:nmB (ps.getD k ⟨#[]⟩) with
  |false=>
   rw [hnm] at c1;rw [hnm,if_pos rfl] at hE;rw [hst (by omega),hE,if_pos (by decide)];repeat' ((conv=>whnf);first|refine cPx c1 ?_|refine cOx (l:= [0,3]) c2 ?_|refine a0a ?_|(apply bRx<;>intro h<;>try (exfalso;(try dsimp only at h);omega)))
   all_goals (conv=>whnf)
   all_goals first
    |exact rOx [0,1] a0b
    |(exfalso;omega)
    |trace_state
  |true=>
   rw [hnm] at c1;rw [hnm,if_neg (by simp)] at hE;by_cases hin:0<=idI (ps.take k) (ps.getD k ⟨#[]⟩) k
   .rw [if_pos hin] at hE;rw [decide_eq_true hin] at c2;rw [hst (by omega),hE,if_pos (by decide)];repeat' ((conv=>whnf);first|refine cPx c1 ?_|refine cOx (l:= [0,3]) c2 ?_|refine a0a ?_|(apply bRx<;>intro h<;>try (exfalso;(try dsimp only at h);omega)))
    all_goals (conv=>whnf)
    all_goals first
     |exact rOx [0,1] a0b
     |(exfalso;omega)
     |trace_state
   .rw [if_neg hin] at hE;rw [decide_eq_false hin] at c2;have hr:(some (HB.one false (.cols (k+1) [.sc (.strs (ps.take k++ [ps.getD k ⟨#[]⟩]))])):Option HB)=some (.one false (.cols (k+1) [.sc (.strs (ps.take (k+1)))])):=by rw [htk]
    repeat' ((conv=>whnf);first|refine cPx c1 ?_|refine cOx (l:= [0,3]) c2 ?_|refine a0a ?_|(apply bRx<;>intro h<;>try (exfalso;(try dsimp only at h);omega)))
    all_goals (conv=>whnf)
    all_goals first
     |exact ⟨k+1,[0,1,2,6,4],[],⟨hk2,hs0 hE⟩,(show n-(k+1)<n-k by omega),⟨rfl,⟨rfl,rfl,rfl,congrArg (fun z=>some (SV.int .i64 z)) (a0i (by omega)),trivial⟩,⟨rfl,rfl,hr,rfl,trivial⟩⟩⟩
     |(exfalso;omega)
     |trace_state
 .have e:k=n:=by omega
  subst e;have eT:ps.take k=ps:=by rw [<-hl,e1e]
  rw [eT,if_neg (by omega)];have c3:=z0m k ps (by omega);repeat' ((conv=>whnf);first|refine cOx (l:= [0,3]) c3 ?_|refine a0a ?_|(apply bRx<;>intro h<;>try (exfalso;(try dsimp only at h);omega)))
  all_goals (conv=>whnf)
  all_goals first
   |exact a0H (l:= [0,1,2,3,4]) rfl rfl ⟨rfl,by rw [<-hl];rfl,rfl,trivial⟩ (a0c (a0c (a0c a0b)))
   |(exfalso;omega)
   |trace_state
end
section
attribute [local irreducible] a0q a0r a0j a0R sortI
theorem k0h (s:ByteArray):a0V Tryz.prog 54 [.str s] (.bool (h0u s)):=by
 by_cases h:s.size<1\/40<s.size
 .rw [o0v h];refine fEx Tryz.func54 ?_;repeat' ((conv=>whnf);first|refine a0a ?_|(apply bRx<;>intro h<;>try (exfalso;(try dsimp only at h);omega)))
  all_goals (conv=>whnf)
  all_goals first
   |exact a0d rfl
   |(exfalso;omega)
 refine fEx Tryz.func54 ?_;repeat' ((conv=>whnf);first|refine a0a ?_|(apply bRx<;>intro h<;>try (exfalso;(try dsimp only at h);omega)))
 all_goals (conv=>whnf)
 all_goals first
  |(exfalso;omega)
  |skip
 refine a0o (fun k:Nat=>⟨[(0,.str s),(3,.int .i64 k)],[],1⟩) (fun k=>k<=s.size/\v0O s k) (fun k=>s.size-k) 0 [0] [] wHx ⟨by omega,fun i hi=>by omega⟩ ?_;rintro k ⟨hk,hc⟩;repeat' ((conv=>whnf);first|refine a0a ?_|(apply bRx<;>intro h<;>try (exfalso;(try dsimp only at h);omega)))
 all_goals (conv=>whnf)
 all_goals first
  |exact a0d (by rw [v0N (k:=k) (by omega) (by omega)];rfl)
  |exact ⟨k+1,[0],[],⟨by omega,l0E hc (by omega)⟩,by omega,⟨rfl,⟨rfl,congrArg (fun z=>some (SV.int .i64 z)) (a0i (by omega)),trivial⟩,trivial⟩⟩
  |skip
 have e:k=s.size:=by omega
 subst e;exact a0d (by rw [r0R (by omega) (by omega) hc];rfl)
theorem a1V (l:List ByteArray) (n i:Nat) (hl:l.length=n) (hi:i<=n) (hn:n<=1000000) (s:ByteArray):FC Tryz.prog 2 55 [.sl 1 0 0 i,.str s] [(1,some (.one true (.cols n [.sc (.strs l)])))] (a0f (.bool (decide (a0l l s<i))) [] 2):=by
 refine fEx Tryz.func55 ?_;repeat' ((conv=>whnf);first|refine a0a ?_|(apply bRx<;>intro h<;>try (exfalso;(try dsimp only at h);omega)))
 all_goals (conv=>whnf)
 refine a0o (fun k:Nat=>⟨[(0,.sl 1 0 0 i),(1,.str s),(5,.int .i64 k)],[(1,some (.one true (.cols n [.sc (.strs l)])))],2⟩) (fun k=>k<=i/\∀j,j<k->¬l.getD j ⟨#[]⟩=s) (fun k=>i-k) 0 [0,1] [] wHx ⟨z0h _,fun j hj=>absurd hj (h1E _)⟩ ?_;rintro k ⟨hk,hlo⟩;by_cases hk2:k<i
 .by_cases he:l.getD k ⟨#[]⟩=s
  .have he':l.getD ((k:Int).toNat+0) ⟨#[]⟩=s:=he;have e:=f0Z (k:=k) (by omega) he hlo;rw [e,decide_eq_true hk2];repeat' ((conv=>whnf);first|refine a0a ?_|(apply bRx<;>intro h<;>try (exfalso;(try dsimp only at h);omega)))
   all_goals (conv=>whnf)
   all_goals first
    |exact rOx [0,1] a0b
    |(exfalso;omega)
    |(exfalso;exact h he)
    |trace_state
  .have he':¬l.getD ((k:Int).toNat+0) ⟨#[]⟩=s:=he;repeat' ((conv=>whnf);first|refine a0a ?_|(apply bRx<;>intro h<;>try (exfalso;(try dsimp only at h);omega)))
   all_goals (conv=>whnf)
   all_goals first
    |(exfalso;omega)
    |(exfalso;exact he h)
    |exact ⟨k+1,[0,1],[],⟨hk2,fun j hj=>by
      by_cases q:j=k
      .rw [q];exact he
      .exact hlo j (by omega)⟩,(show i-(k+1)<i-k by omega),⟨rfl,⟨rfl,rfl,congrArg (fun z=>some (SV.int .i64 z)) (a0i (by omega)),trivial⟩,⟨rfl,trivial⟩⟩⟩
    |trace_state
 .have e:k=i:=by omega
  subst e;have hx:¬a0l l s<k:=fun q=>hlo _ q (d0f l (by omega))
  rw [decide_eq_false hx];repeat' ((conv=>whnf);first|refine a0a ?_|(apply bRx<;>intro h<;>try (exfalso;(try dsimp only at h);omega)))
  all_goals (conv=>whnf)
  all_goals first
   |exact rOx [0,1] a0b
   |(exfalso;omega)
   |trace_state
def poM (L:List Lp):Prop:=∀x∈L,-1000000000000<=x.n/\x.n<=1000000000000
theorem r0Z {L:List Lp} (h:poM L) (k:Nat):poM (L.take k):=fun x hx=>h x (List.mem_of_mem_take hx)
theorem a1W {L:List Lp} (h:poM L) (k:Nat): -1000000000000<=(L.getD k lp0).n/\(L.getD k lp0).n<=1000000000000:=by
 by_cases hk:k<L.length
 .rw [List.getD,j0I hk];exact h _ (b1P hk)
 .rw [List.getD,p0J (by omega)];exact ⟨by decide,by decide⟩
theorem z0n {L:List Lp} {k:Nat} (hk:k<L.length) (a c:ByteArray):lgS (L.take (k+1)) a c=lgS (L.take k) a c+if (L.getD k lp0).a=a/\(L.getD k lp0).c=c then (L.getD k lp0).n else 0:=by
 rw [i1A,j0I hk,h0P,List.getD,j0I hk];simp [lgS]
theorem g1d {L:List Lp} (h:poM L) (c:ByteArray): -1000000000000*(L.length:Int)<=lgC L c/\lgC L c<=1000000000000*(L.length:Int):=by
 induction L with
 |nil=>exact ⟨by simp [lgC],by simp [lgC]⟩
 |cons x L ih=>
  have i1:=ih (fun y hy=>h y (by simp [hy]));have i2:=h x (by simp);simp only [lgC,y0x];have e:((L.length+1:Nat):Int)=(L.length:Int)+1:=by omega
  rw [e];split<;>omega
section
variable (L:List Lp) (n:Nat) (hn:L.length=n) (h6:n<=1000000) (hM:poM L) (c:ByteArray)
include hn h6 hM
theorem w0i (a:ByteArray) (ha:a≠⟨#[]⟩):FC Tryz.prog 2 73 [.sl 1 0 0 n,.str a,.str c] [(1,some (.one true (poB n L)))] (a0f (.int .i64 (lgS L a c)) [] 2):=by
 refine fEx Tryz.func73 ?_;repeat' ((conv=>whnf);first|refine a0a ?_|(apply bRx<;>intro h<;>try (exfalso;(try dsimp only at h);omega)))
 all_goals (conv=>whnf)
 refine a0o (fun k:Nat=>⟨[(0,.sl 1 0 0 n),(1,.str a),(2,.str c),(7,.int .i64 (lgS (L.take k) a c)),(8,.int .i64 k)],[(1,some (.one true (poB n L)))],2⟩) (fun k=>k<=n) (fun k=>n-k) 0 [0,1] [] wHx (z0h _) ?_;intro k hk;have b1:=q0l (M:=1000000000000) a c (r0Z hM k) (by decide);rw [d1I] at b1;by_cases hk2:k<n
 .have hs:=z0n (L:=L) (k:=k) (by omega) a c;have b2:=a1W hM k;have q1:(L.map Lp.n).getD ((k:Int).toNat+0) 0=(L.getD k lp0).n:=y0N L k;have q2:(L.map Lp.a).getD ((k:Int).toNat+0) ⟨#[]⟩=(L.getD k lp0).a:=f1D L k;have q3:(L.map Lp.c).getD ((k:Int).toNat+0) ⟨#[]⟩=(L.getD k lp0).c:=c1d L k;by_cases he:(L.getD k lp0).a=a/\(L.getD k lp0).c=c
  .rw [if_pos he] at hs;have q4:IntKind.i64.wrap (lgS (L.take k) a c+(L.getD k lp0).n)=lgS (L.take (k+1)) a c:=by rw [hs];exact a0m (by omega) (by omega)
   obtain ⟨e1,e2⟩:=he;repeat' ((conv=>whnf);first|(simp only [q1,q2,q3,q4])|refine a0a ?_|(apply bRx<;>intro h<;>try (exfalso;(try dsimp only at h);omega)))
   all_goals (conv=>whnf)
   all_goals first
    |(exfalso;omega)
    |(exfalso;exact h e1)
    |(exfalso;exact h e2)
    |(exfalso;exact ha h)
    |exact ⟨k+1,[0,1],[],hk2,(show n-(k+1)<n-k by omega),⟨rfl,⟨rfl,rfl,rfl,rfl,congrArg (fun z=>some (SV.int .i64 z)) (a0i (by omega)),trivial⟩,⟨rfl,trivial⟩⟩⟩
    |trace_state
  .rw [if_neg he,i1Z] at hs;repeat' ((conv=>whnf);first|(simp only [q1,q2,q3])|refine a0a ?_|(apply bRx<;>intro h<;>try (exfalso;(try dsimp only at h);omega)))
   all_goals (conv=>whnf)
   all_goals first
    |(exfalso;omega)
    |(exfalso;exact ha h)
    |(exfalso;rename_i h2 _;exact he ⟨h,h2⟩)
    |exact ⟨k+1,[0,1],[],hk2,(show n-(k+1)<n-k by omega),⟨rfl,⟨rfl,rfl,rfl,by rw [hs];rfl,congrArg (fun z=>some (SV.int .i64 z)) (a0i (by omega)),trivial⟩,⟨rfl,trivial⟩⟩⟩
    |trace_state
 .have e:k=n:=by omega
  have eL:L.take k=L:=by rw [e,<-hn,e1e]
  rw [eL,e];repeat' ((conv=>whnf);first|refine a0a ?_|(apply bRx<;>intro h<;>try (exfalso;(try dsimp only at h);omega)))
  all_goals (conv=>whnf)
  all_goals first
   |exact rOx [0,1] a0b
   |(exfalso;omega)
   |trace_state
theorem z0o:FC Tryz.prog 2 73 [.sl 1 0 0 n,.str ⟨#[]⟩,.str c] [(1,some (.one true (poB n L)))] (a0f (.int .i64 (lgC L c)) [] 2):=by
 refine fEx Tryz.func73 ?_;repeat' ((conv=>whnf);first|refine a0a ?_|(apply bRx<;>intro h<;>try (exfalso;(try dsimp only at h);omega)))
 all_goals (conv=>whnf)
 refine a0o (fun k:Nat=>⟨[(0,.sl 1 0 0 n),(1,.str ⟨#[]⟩),(2,.str c),(7,.int .i64 (lgC (L.take k) c)),(8,.int .i64 k)],[(1,some (.one true (poB n L)))],2⟩) (fun k=>k<=n) (fun k=>n-k) 0 [0,1] [] wHx (z0h _) ?_;intro k hk;have b1:=g1d (r0Z hM k) c;rw [d1I] at b1;by_cases hk2:k<n
 .have hs:=m0M (L:=L) (k:=k) (by omega) c;have b2:=a1W hM k;have q1:(L.map Lp.n).getD ((k:Int).toNat+0) 0=(L.getD k lp0).n:=y0N L k;have q3:(L.map Lp.c).getD ((k:Int).toNat+0) ⟨#[]⟩=(L.getD k lp0).c:=c1d L k;by_cases he:(L.getD k lp0).c=c
  .rw [if_pos he] at hs;have q4:IntKind.i64.wrap (lgC (L.take k) c+(L.getD k lp0).n)=lgC (L.take (k+1)) c:=by rw [hs];exact a0m (by omega) (by omega)
   repeat' ((conv=>whnf);first|(simp only [q1,q3,q4])|refine a0a ?_|(apply bRx<;>intro h<;>try (exfalso;(try dsimp only at h);omega)))
   all_goals (conv=>whnf)
   all_goals first
    |(exfalso;omega)
    |(exfalso;exact h he)
    |(exfalso;exact h rfl)
    |exact ⟨k+1,[0,1],[],hk2,(show n-(k+1)<n-k by omega),⟨rfl,⟨rfl,rfl,rfl,rfl,congrArg (fun z=>some (SV.int .i64 z)) (a0i (by omega)),trivial⟩,⟨rfl,trivial⟩⟩⟩
    |trace_state
  .rw [if_neg he,i1Z] at hs;repeat' ((conv=>whnf);first|(simp only [q1,q3])|refine a0a ?_|(apply bRx<;>intro h<;>try (exfalso;(try dsimp only at h);omega)))
   all_goals (conv=>whnf)
   all_goals first
    |(exfalso;omega)
    |(exfalso;exact he h)
    |(exfalso;rename_i h2;exact he h2)
    |exact ⟨k+1,[0,1],[],hk2,(show n-(k+1)<n-k by omega),⟨rfl,⟨rfl,rfl,rfl,by rw [hs];rfl,congrArg (fun z=>some (SV.int .i64 z)) (a0i (by omega)),trivial⟩,⟨rfl,trivial⟩⟩⟩
    |trace_state
 .have e:k=n:=by omega
  have eL:L.take k=L:=by rw [e,<-hn,e1e]
  rw [eL,e];repeat' ((conv=>whnf);first|refine a0a ?_|(apply bRx<;>intro h<;>try (exfalso;(try dsimp only at h);omega)))
  all_goals (conv=>whnf)
  all_goals first
   |exact rOx [0,1] a0b
   |(exfalso;omega)
   |trace_state
end
end
section
attribute [local irreducible] a0q a0r a0j a0R sortI
abbrev rlC (ro:Bool) (a e:Nat) (s:Lg):Option HB:=some (.one ro (.cells [.sl a 0 0 s.na,.sl e 0 0 s.ne,.nsl,.nsl]))
abbrev rlE (ro:Bool) (f:Nat) (s:Lg):Option HB:=some (.one ro (k0N f s))
theorem z0p {E:List Le} {k:Nat} (hk:k<E.length):m0Q (E.take (k+1))=m0Q (E.take k)++(E.getD k le0).ps:=by
 rw [i1A,j0I hk,List.getD,j0I hk];exact r0Q _ _
theorem e1H (n m:Nat) (A B:List Lp) (hB:B.length=m):(.cols (n+m) [.sc (.strs (A.map Lp.a++seg 0 m (B.map Lp.a))),.sc (.ints .i64 (A.map Lp.n++seg 0 m (B.map Lp.n))),.sc (.strs (A.map Lp.c++seg 0 m (B.map Lp.c)))]:Blk)=poB (n+m) (A++B):=by
 unfold poB;rw [c0R (by rw [b1M,hB]),c0R (by rw [b1M,hB]),c0R (by rw [b1M,hB]),f1T,f1T,f1T]
section
variable (s:Lg) (hs:LgOk s)
include hs
theorem c1x:FC Tryz.prog 5 74 [.ptr 1 0 0 0] [(1,rlC true 2 3 s),(3,rlE true 4 s),(4,c0n true s)] (a0f (.sl 5 0 0 (m0Q s.ent).length) [(5,some (.one false (poB (m0Q s.ent).length (m0Q s.ent))))] 6):=by
 have hne:=hs.ne;have h512:=hs.e512;refine fEx Tryz.func74 ?_;repeat' ((conv=>whnf);first|refine a0a ?_|(apply bRx<;>intro h<;>try (exfalso;(try dsimp only at h);omega)))
 all_goals (conv=>whnf)
 refine a0o (fun x:Nat×Nat×List Lp=>⟨[(0,.ptr 1 0 0 0),(3,.sl 5 0 0 x.2.1),(4,.int .i64 x.1)],[(5,some (.one false (poB x.2.1 x.2.2))),(1,rlC true 2 3 s),(3,rlE true 4 s),(4,c0n true s)],6⟩) (fun x=>x.1<=s.ne/\x.2.2=m0Q (s.ent.take x.1)/\x.2.2.length=x.2.1/\x.2.1<=16*x.1) (fun x=>s.ne-x.1) (0,0,[]) [0,1,2,3,4,5] [.slot 3 [.sc (.strs []),.sc (.ints .i64 []),.sc (.strs [])]] wHx ⟨z0h _,rfl,rfl,z0h _⟩ ?_;rintro ⟨k,m,A⟩ ⟨hk,hA,hm,hm2⟩;dsimp only at hk hA hm hm2;by_cases hk2:k<s.ne
 .have hmem:s.ent.getD k le0∈s.ent:=by rw [List.getD,j0I (by omega)];exact b1P _
  obtain ⟨e1,e2,e3,e4,e5,e6,e7⟩:=hs.ent _ hmem;have q1:(s.ent.map Le.np).getD ((k:Int).toNat+0) 0=(s.ent.getD k le0).np:=c1l s.ent k;have hA2:A++(s.ent.getD k le0).ps=m0Q (s.ent.take (k+1)):=by rw [z0p (by omega),hA]
  have hpo:=e1H m (s.ent.getD k le0).np A (s.ent.getD k le0).ps e3;repeat' ((conv=>whnf);first|(simp only [q1])|(refine a0g ⟨hk2,(by show 0+(s.ent.getD k le0).np<=(s.ent.getD k le0).np;omega),by omega,by omega⟩ ?_)|refine a0a ?_|(apply bRx<;>intro h<;>try (exfalso;(try dsimp only at h);omega)))
  all_goals (conv=>whnf)
  all_goals first
   |(exfalso;omega)
   |exact ⟨(k+1,m+(s.ent.getD k le0).np,A++(s.ent.getD k le0).ps),[0,1,2,3,4,6],[],⟨hk2,hA2,by dsimp only;rw [y0A,hm,e3],by dsimp only;omega⟩,(show s.ne-(k+1)<s.ne-k by omega),⟨rfl,⟨rfl,rfl,congrArg (fun z=>some (SV.int .i64 z)) (a0i (by omega)),trivial⟩,⟨by rw [<-hpo];rfl,rfl,rfl,rfl,trivial⟩⟩⟩
   |trace_state
 .have e:k=s.ne:=by omega
  have eA:A=m0Q s.ent:=by rw [hA,e,<-hne,e1e]
  subst eA;subst hm;repeat' ((conv=>whnf);first|refine a0a ?_|(apply bRx<;>intro h<;>try (exfalso;(try dsimp only at h);omega)))
  all_goals (conv=>whnf)
  all_goals first
   |exact rOx [0,1,2,3,4,5] (a0c a0b)
   |(exfalso;omega)
   |trace_state
theorem q0r (h1:∀e∈s.ent,poM e.ps):poM (m0Q s.ent)/\(m0Q s.ent).length<=8192:=by
 refine ⟨fun x hx=> ?_,?_⟩
 .obtain ⟨e,he,hx⟩:=List.mem_flatMap.1 hx;exact h1 e he x hx
 .have key:∀E:List Le,(∀e∈E,e.ps.length<=16)->(m0Q E).length<=16*E.length:=by
   intro E;induction E with
   |nil=>intro _;exact m0D _
   |cons e E ih=>
    intro h;have:=ih (fun x hx=>h x (by simp [hx]));have h2:=h e (by simp);show (e.ps++m0Q E).length<=_;rw [y0A,y0x];omega
  have:=key s.ent (fun e he=>by have:=hs.ent e he;rw [this.n];exact this.n16);have h2:=hs.e512;have h3:=hs.ne;omega
theorem w0j (c:ByteArray):s.bal ⟨#[]⟩ c=0:=by
 rw [hs.bal];refine a1M (fun x hx h=> ?_);obtain ⟨e,he,hx⟩:=List.mem_flatMap.1 hx;obtain ⟨k1,_⟩:=d0t.1 (hs.ent e he).ps x hx;rw [h.1] at k1;have:=(c0z (hs.lab _ k1)).1;exact absurd this (by decide)
theorem k0i (h1:∀e∈s.ent,poM e.ps) (a c:ByteArray):FC Tryz.prog 5 35 [.ptr 1 0 0 0,.str a,.str c] [(1,rlC true 2 3 s),(3,rlE true 4 s),(4,c0n true s)] (a0f (.int .i64 (s.bal a c)) [] 5):=by
 by_cases hz:a=⟨#[]⟩
 .subst hz;rw [w0j s hs];refine fEx Tryz.func35 ?_;repeat' ((conv=>whnf);first|refine a0a ?_|(apply bRx<;>intro h<;>try (exfalso;(try dsimp only at h);omega)))
  all_goals (conv=>whnf)
  all_goals first
   |exact rOx [0,1,2,3,4] a0b
   |(exfalso;exact h rfl)
   |trace_state
 .obtain ⟨k1,k2⟩:=q0r s hs h1;have c1:=c1x s hs;have c2:=w0i (m0Q s.ent) _ rfl (by omega) k1 c a hz;rw [hs.bal];generalize m0Q s.ent=A at*;generalize lgS A a c=V at*;generalize hm:A.length=m at*;refine fEx Tryz.func35 ?_;repeat' ((conv=>whnf);first|refine cOx (l:= [0,1,2,3,4]) c1 ?_|refine cOx (l:= [0,5]) c2 ?_|refine a0a ?_|(apply bRx<;>intro h<;>try (exfalso;(try dsimp only at h);omega)))
  all_goals (conv=>whnf)
  all_goals first
   |exact rOx [0,1,2,3,4] a0b
   |(exfalso;exact hz h)
   |trace_state
theorem o0F (id:ByteArray):FC Tryz.prog 5 97 [.ptr 1 0 0 0,.str id] [(1,rlC true 2 3 s),(3,rlE true 4 s)] (a0f (.tup [(if inL id s.ids then .agg [.str ((s.ent.map Le.id).getD (a0l s.ids id) ⟨#[]⟩),.int .i64 ((s.ent.map Le.date).getD (a0l s.ids id) 0),.sl 4 (a0l s.ids id) 0 ((s.ent.map Le.np).getD (a0l s.ids id) 0)] else .agg [.str ⟨#[]⟩,.int .i64 0,.nsl]),.bool (decide (inL id s.ids))]) [] 5):=by
 have hne:=hs.ne;have h512:=hs.e512;have hl:s.ids.length=s.ne:=by show (s.ent.map Le.id).length=_;rw [b1M,hne]
 refine fEx Tryz.func97 ?_;repeat' ((conv=>whnf);first|refine a0a ?_|(apply bRx<;>intro h<;>try (exfalso;(try dsimp only at h);omega)))
 all_goals (conv=>whnf)
 refine a0o (fun k:Nat=>⟨[(0,.ptr 1 0 0 0),(1,.str id),(4,.ptr 5 0 0 0),(6,.int .i64 k)],[(1,rlC true 2 3 s),(3,rlE true 4 s),(5,some (.one false (.cells [.str ⟨#[]⟩,.int .i64 0,.nsl])))],6⟩) (fun k=>k<=s.ne/\∀j,j<k->¬s.ids.getD j ⟨#[]⟩=id) (fun k=>s.ne-k) 0 [0,1,2,3,4,5] [] wHx ⟨z0h _,fun j hj=>absurd hj (h1E _)⟩ ?_;rintro k ⟨hk,hlo⟩;by_cases hk2:k<s.ne
 .by_cases he:s.ids.getD k ⟨#[]⟩=id
  .have e:=f0Z (k:=k) (by omega) he hlo;have hin:inL id s.ids:=by show a0l s.ids id<_;omega
   rw [if_pos hin,decide_eq_true hin,e];have he':(s.ent.map Le.id).getD ((k:Int).toNat+0) ⟨#[]⟩=id:=he;repeat' ((conv=>whnf);first|refine a0a ?_|(apply bRx<;>intro h<;>try (exfalso;(try dsimp only at h);omega)))
   all_goals (conv=>whnf)
   all_goals first
    |(exfalso;omega)
    |(exfalso;exact h he)
    |exact rOx [0,1,2,3,4] a0b
    |trace_state
  .have he':¬(s.ent.map Le.id).getD ((k:Int).toNat+0) ⟨#[]⟩=id:=he;repeat' ((conv=>whnf);first|refine a0a ?_|(apply bRx<;>intro h<;>try (exfalso;(try dsimp only at h);omega)))
   all_goals (conv=>whnf)
   all_goals first
    |(exfalso;omega)
    |(exfalso;exact he h)
    |exact ⟨k+1,[0,1,2,3,4,5],[],⟨hk2,fun j hj=>by
      by_cases q:j=k
      .rw [q];exact he
      .exact hlo j (by omega)⟩,(show s.ne-(k+1)<s.ne-k by omega),⟨rfl,⟨rfl,rfl,rfl,congrArg (fun z=>some (SV.int .i64 z)) (a0i (by omega)),trivial⟩,⟨rfl,rfl,rfl,trivial⟩⟩⟩
    |trace_state
 .have e:k=s.ne:=by omega
  have hin:¬inL id s.ids:=fun q=>by
   have q':a0l s.ids id<s.ids.length:=q;exact hlo _ (by omega) (d0f s.ids q')
  rw [if_neg hin,decide_eq_false hin];repeat' ((conv=>whnf);first|refine a0a ?_|(apply bRx<;>intro h<;>try (exfalso;(try dsimp only at h);omega)))
  all_goals (conv=>whnf)
  all_goals first
   |(exfalso;omega)
   |exact rOx [0,1,2,3,4] a0b
   |trace_state
end
end
section
attribute [local irreducible] a0q a0r a0j a0R sortI
abbrev x0H:ByteArray:=⟨#[48,49,50,51,52,53,54,55,56,57]⟩
theorem o0G {d:Nat} (h:d<10):x0H.extract d (d+1)=a0C [((48+d:Nat):Int)]:=by
 rcases (show d=0\/d=1\/d=2\/d=3\/d=4\/d=5\/d=6\/d=7\/d=8\/d=9 by omega) with rfl|rfl|rfl|rfl|rfl|rfl|rfl|rfl|rfl|rfl<;>kernel_rfl
theorem g0l (a b:List Int):a0C (a++b)=a0C a++a0C b:=by
 unfold a0C;apply ByteArray.ext;simp [f1T]
theorem w0k {u:Nat} (h:u<10):dec u=a0C [((48+u:Nat):Int)]:=by
 unfold dec;rw [show d0i u=1 by rw [d0i,if_pos h]];simp only [p0i,h1T,j1J h]
theorem a1X {u:Nat} (h:¬u<10):dec u=dec (u/10)++a0C [((48+u%10:Nat):Int)]:=by
 unfold dec;rw [show d0i u=d0i (u/10)+1 by rw [d0i,if_neg h],p0i,g0l]
theorem k0j (u:Nat):b0S (u:Int)=dec u:=by
 unfold b0S;rw [if_neg (by omega),y0u]
theorem z0q {u:Nat} (h:0<u):b0S (-(u:Int))=⟨#[45]⟩++dec u:=by
 unfold b0S dec;rw [if_pos (by omega),Int.natAbs_neg,Int.natAbs_natCast,show (45::p0i (d0i u) u:List Int)= [45]++p0i (d0i u) u from rfl,g0l];rfl
attribute [local irreducible] ByteArray.extract seq
theorem s0a:∀(b u:Nat),u<=b->u<=4611686018427387904->a0V Tryz.prog 119 [.int .i64 u] (.str (dec u)):=by
 intro b;induction b with
 |zero=>
  intro u hb hu;obtain rfl:u=0:=by omega
  have e:dec 0=x0H.extract 0 1:=by rw [w0k (by decide),o0G (d:=0) (by decide)]
  rw [e];refine fEx Tryz.func119 ?_;repeat' ((conv=>whnf);first|refine a0a ?_|(apply bRx<;>intro h<;>try (exfalso;(try dsimp only at h);omega)))
  all_goals (conv=>whnf)
  all_goals first
   |(exfalso;omega)
   |exact a0d rfl
   |trace_state
 |succ b ih=>
  intro u hb hu;by_cases hs:u<10
  .have e:dec u=x0H.extract ((u:Int).toNat) ((IntKind.i64.wrap ((u:Int)+1)).toNat):=by
    rw [a0m (by omega) (by omega),show ((u:Int)+1).toNat=u+1 by omega,y0u,o0G hs,w0k hs]
   rw [e];have w1:IntKind.i64.wrap ((u:Int)+1)=(u:Int)+1:=a0m (by omega) (by omega);refine fEx Tryz.func119 ?_;repeat' ((conv=>whnf);first|(refine a0g ⟨by omega,by rw [w1];omega,by rw [w1];show _<=(10:Int);omega⟩ ?_)|refine a0a ?_|(apply bRx<;>intro h<;>try (exfalso;(try dsimp only at h);omega)))
   all_goals (conv=>whnf)
   all_goals first
    |(exfalso;omega)
    |exact a0d rfl
    |trace_state
  .have c1:=ih (u/10) (by omega) (by omega);have t1:(u:Int).tdiv 10=((u/10:Nat):Int):=by rw [i1U (by omega)];omega
   have t2:(u:Int).tmod 10=((u%10:Nat):Int):=by rw [i1T (by omega)];omega
   have w1:IntKind.i64.wrap ((u/10:Nat):Int)=((u/10:Nat):Int):=a0m (by omega) (by omega);have w2:IntKind.i64.wrap ((u%10:Nat):Int)=((u%10:Nat):Int):=a0m (by omega) (by omega);have w3:IntKind.i64.wrap (((u%10:Nat):Int)+1)=((u%10+1:Nat):Int):=a0m (by omega) (by omega);have e:dec u=dec (u/10)++x0H.extract (((u%10:Nat):Int).toNat) (((u%10+1:Nat):Int).toNat):=by
    rw [y0u,y0u,o0G (by omega),a1X hs]
   have hz:=a0A (u/10:Nat) (by omega) (by omega);rw [k0j] at hz;rw [e];have hx:(x0H.extract (((u%10:Nat):Int).toNat) (((u%10+1:Nat):Int).toNat)).size=1:=by
    rw [y0u,y0u,o0G (by omega),c0Q];rfl
   generalize dec (u/10)=D at*;refine fEx Tryz.func119 ?_;repeat' ((conv=>whnf);first|(simp only [t1,t2,w1,w2,w3])|refine cPx c1 ?_|(refine a0g ⟨by omega,by omega,by show _<=(10:Int);omega⟩ ?_)|(refine a0g (by rw [hx];omega) ?_)|refine a0a ?_|(apply bRx<;>intro h<;>try (exfalso;(try dsimp only at h);omega)))
   all_goals (conv=>whnf)
   all_goals first
    |(exfalso;omega)
    |exact a0d rfl
    |trace_state
theorem l0M (n:Int) (h1: -4611686018427387904<=n) (h2:n<=4611686018427387904):a0V Tryz.prog 119 [.int .i64 n] (.str (b0S n)):=by
 by_cases h:0<=n
 .have e:n=(n.toNat:Int):=by omega
  rw [e,k0j];exact s0a n.toNat n.toNat (m0D _) (by omega)
 .have e:n= -((-n).toNat:Int):=by omega
  have c1:=s0a (-n).toNat (-n).toNat (m0D _) (by omega);have e2:b0S n=⟨#[45]⟩++dec (-n).toNat:=by
   conv=>lhs;rw [e]
   rw [z0q (by omega)]
  rw [e2];have w1:IntKind.i64.wrap (0-n)=((-n).toNat:Int):=by rw [a0m (by omega) (by omega)];omega
  have hz:=a0A ((-n).toNat:Nat) (by omega) (by omega);rw [k0j] at hz;generalize dec (-n).toNat=D at*;refine fEx Tryz.func119 ?_;repeat' ((conv=>whnf);first|(simp only [w1])|refine cPx c1 ?_|(refine a0g (by rw [lgz];omega) ?_)|refine a0a ?_|(apply bRx<;>intro h<;>try (exfalso;(try dsimp only at h);omega)))
  all_goals (conv=>whnf)
  all_goals first
   |(exfalso;omega)
   |exact a0d rfl
   |trace_state
theorem z0r (id:ByteArray) (d:Int) (L:List Lp) (n:Nat) (hn:L.length=n) (h16:n<=16) (hi:id.size<=40) (hd:0<=d/\d<=99999) (hz:c1q L) (hb:v0F L):
  FC Tryz.prog 2 85 [.agg [.str id,.int .i64 d,.sl 1 0 0 n]] [(1,some (.one true (poB n L)))] (a0f (.str (leT ⟨id,d,L,n⟩ n)) [] 2):=by
 have c1:=l0M d (by omega) (by omega);have hds:=a0A d (by omega) (by omega);have hT:=h0c (e:=⟨id,d,L,n⟩) hi hd hz hb;unfold poB;refine fEx Tryz.func85 ?_;repeat' ((conv=>whnf);first|refine cPx c1 ?_|(refine a0g ?_ ?_;(simp only [b1U,lgz,y0u,e1f];omega))|refine a0a ?_|(apply bRx<;>intro h<;>try (exfalso;(try dsimp only at h);omega)))
 all_goals (conv=>whnf)
 refine a0o (fun k:Nat=>⟨[(1,.ptr 2 0 0 0),(3,.str (leT ⟨id,d,L,n⟩ k)),(4,.int .i64 k)],[(1,some (.one true (poB n L))),(2,some (.one false (.cells [.str id,.int .i64 d,.sl 1 0 0 n])))],3⟩) (fun k=>k<=n) (fun k=>n-k) 0 [0,1,2] [] wHx (z0h _) ?_;intro k hk;unfold poB;have hTk:=hT k;have hTe:leT ⟨id,d,L,n⟩ (k+1)=leT ⟨id,d,L,n⟩ k++poT ⟨(L.map Lp.a).getD k ⟨#[]⟩,(L.map Lp.n).getD k 0,(L.map Lp.c).getD k ⟨#[]⟩⟩:=by rw [<-j0Z];rfl
 have hTk1:=hT (k+1);by_cases hk2:k<n
 .have h1:=q0j hz k;have h2:=v0Q hb k;rw [j0Z] at h1 h2;dsimp only at h1 h2;have h3:=r0T h1.1 h1.2 h2;rw [a1Q] at hTe;have c3:=l0M ((L.map Lp.n).getD k 0) (by omega) (by omega);have h4:=a0A ((L.map Lp.n).getD k 0) (by omega) (by omega);have q1:(L.map Lp.n).getD ((k:Int).toNat+0) 0=(L.map Lp.n).getD k 0:=rfl;have q2:(L.map Lp.a).getD ((k:Int).toNat+0) ⟨#[]⟩=(L.map Lp.a).getD k ⟨#[]⟩:=rfl;have q3:(L.map Lp.c).getD ((k:Int).toNat+0) ⟨#[]⟩=(L.map Lp.c).getD k ⟨#[]⟩:=rfl;generalize hT1:leT ⟨id,d,L,n⟩ (k+1)=T1 at*;generalize hT0:leT ⟨id,d,L,n⟩ k=T at*;repeat' ((conv=>whnf);first|refine cPx c3 ?_|(refine a0g ?_ ?_;(simp only [b1U,lgz,y0u,e1f];omega))|refine a0a ?_|(apply bRx<;>intro h<;>try (exfalso;(try dsimp only at h);omega)))
  all_goals (conv=>whnf)
  all_goals first
   |(exfalso;omega)
   |(subst hT1;exact ⟨k+1,[0,1,2],[],hk2,(show n-(k+1)<n-k by omega),⟨rfl,⟨rfl,by rw [hTe];rfl,congrArg (fun z=>some (SV.int .i64 z)) (a0i (by omega)),trivial⟩,⟨rfl,rfl,trivial⟩⟩⟩)
   |trace_state
 have ek:k=n:=by omega
 subst ek;generalize leT ⟨id,d,L,k⟩ k=T at*;repeat' ((conv=>whnf);first|refine a0a ?_|(apply bRx<;>intro h<;>try (exfalso;(try dsimp only at h);omega)))
 all_goals (conv=>whnf)
 all_goals first
  |exact rOx [0,1] a0b
  |(exfalso;omega)
  |trace_state
end
section
attribute [local irreducible] a0q a0r a0j a0R sortI
abbrev rlA (ro:Bool) (s:Lg):Option HB:=some (.one ro (.cols s.na [.sc (.strs s.acc)]))
attribute [local irreducible] seq ByteArray.extract
section
variable (s:Lg) (hs:LgOk s) (h1:∀e∈s.ent,poM e.ps) (id:ByteArray) (d:Int) (L:List Lp) (n:Nat) (hn:L.length=n) (h0:lgE s ⟨id,d,L,n⟩=0) (hM:poM L)
include hs h1 hn h0 hM
theorem q0s:FC Tryz.prog 6 137 [.ptr 1 0 0 0,.sl 5 0 0 n] [(1,rlC true 2 3 s),(2,rlA true s),(3,rlE true 4 s),(4,c0n true s),(5,some (.one true (poB n L)))] (a0f (.int .i64 0) [] 6):=by
 obtain ⟨⟨k1,k2,k3,k4,k5,k6,k7⟩,hni,hrg,h5⟩:=i0G hn h0;dsimp only at k1 k2 k3 k4 k5 k6 k7 hni hrg;have hna:=hs.na;have hn5:=hs.n512;have hpo:∀k,k<n->(L.map Lp.a).getD k ⟨#[]⟩∈s.acc/\e0q ((L.map Lp.n).getD k 0) ((L.map Lp.c).getD k ⟨#[]⟩)=0:=fun k hk=>by
  rw [f1D,y0N,c1d];exact d0t.1 k6 _ (by rw [List.getD,j0I (by omega)];exact b1P _)
 have hbal:=g0W.1 k7;have hr:=v0L hrg hs.rng;refine fEx Tryz.func137 ?_;repeat' ((conv=>whnf);first|refine a0a ?_|(apply bRx<;>intro h<;>try (exfalso;(try dsimp only at h);omega)))
 all_goals (conv=>whnf)
 all_goals first
  |(exfalso;omega)
  |skip
 refine a0o (fun k:Nat=>⟨[(0,.ptr 1 0 0 0),(1,.sl 5 0 0 n),(5,.int .i64 k)],[(1,rlC true 2 3 s),(2,rlA true s),(3,rlE true 4 s),(4,c0n true s),(5,some (.one true (poB n L)))],6⟩) (fun k=>k<=n) (fun k=>n-k) 0 [0,1,2,3,4,5] [] wHx (z0h _) ?_;intro k hk;by_cases hk2:k<n
 .obtain ⟨a1,a2⟩:=hpo k hk2;have c1:=a1V s.acc s.na s.na hna (m0D _) (by omega) ((L.map Lp.a).getD k ⟨#[]⟩);rw [decide_eq_true (by rw [<-hna];exact f0T.2 a1)] at c1;have c2:=j0U ((L.map Lp.n).getD k 0) ((L.map Lp.c).getD k ⟨#[]⟩);rw [a2] at c2;repeat' ((conv=>whnf);first|refine cOx (l:= [0,2]) c1 ?_|refine cPx c2 ?_|refine a0a ?_|(apply bRx<;>intro h<;>try (exfalso;(try dsimp only at h);omega)))
  all_goals (conv=>whnf)
  all_goals first
   |(exfalso;omega)
   |exact ⟨k+1,[0,1,2,3,4,5],[],hk2,(show n-(k+1)<n-k by omega),⟨rfl,⟨rfl,rfl,congrArg (fun z=>some (SV.int .i64 z)) (a0i (by omega)),trivial⟩,⟨rfl,rfl,rfl,rfl,rfl,trivial⟩⟩⟩
   |trace_state
 repeat' ((conv=>whnf);first|refine a0a ?_|(apply bRx<;>intro h<;>try (exfalso;(try dsimp only at h);omega)))
 all_goals (conv=>whnf)
 all_goals first
  |(exfalso;omega)
  |skip
 refine a0o (fun k:Nat=>⟨[(0,.ptr 1 0 0 0),(1,.sl 5 0 0 n),(7,.int .i64 k)],[(1,rlC true 2 3 s),(2,rlA true s),(3,rlE true 4 s),(4,c0n true s),(5,some (.one true (poB n L)))],6⟩) (fun k=>k<=n) (fun k=>n-k) 0 [0,1,2,3,4,5] [] wHx (z0h _) ?_;intro j hj;by_cases hj2:j<n
 .have c1:=z0o L n hn (by omega) hM ((L.map Lp.c).getD j ⟨#[]⟩);rw [hbal] at c1;repeat' ((conv=>whnf);first|refine cOx (l:= [0,5]) c1 ?_|refine a0a ?_|(apply bRx<;>intro h<;>try (exfalso;(try dsimp only at h);omega)))
  all_goals (conv=>whnf)
  all_goals first
   |(exfalso;omega)
   |exact ⟨j+1,[0,1,2,3,4,5],[],hj2,(show n-(j+1)<n-j by omega),⟨rfl,⟨rfl,rfl,congrArg (fun z=>some (SV.int .i64 z)) (a0i (by omega)),trivial⟩,⟨rfl,rfl,rfl,rfl,rfl,trivial⟩⟩⟩
   |trace_state
 repeat' ((conv=>whnf);first|refine a0a ?_|(apply bRx<;>intro h<;>try (exfalso;(try dsimp only at h);omega)))
 all_goals (conv=>whnf)
 all_goals first
  |(exfalso;omega)
  |skip
 refine a0o (fun k:Nat=>⟨[(0,.ptr 1 0 0 0),(1,.sl 5 0 0 n),(8,.int .i64 k)],[(1,rlC true 2 3 s),(2,rlA true s),(3,rlE true 4 s),(4,c0n true s),(5,some (.one true (poB n L)))],6⟩) (fun k=>k<=n) (fun k=>n-k) 0 [0,1,2,3,4,5] [] wHx (z0h _) ?_;intro i hi;by_cases hi2:i<n
 .obtain ⟨a1,a2⟩:=hpo i hi2;have hne:(L.map Lp.a).getD i ⟨#[]⟩≠⟨#[]⟩:=fun q=>by
   have:=(c0z (hs.lab _ a1)).1;rw [q] at this;exact absurd this (by decide)
  have c1:=k0i s hs h1 ((L.map Lp.a).getD i ⟨#[]⟩) ((L.map Lp.c).getD i ⟨#[]⟩);have c2:=w0i L n hn (by omega) hM ((L.map Lp.c).getD i ⟨#[]⟩) ((L.map Lp.a).getD i ⟨#[]⟩) hne;have b1:=hs.rng ((L.map Lp.a).getD i ⟨#[]⟩) ((L.map Lp.c).getD i ⟨#[]⟩);have b2:=hr ((L.map Lp.a).getD i ⟨#[]⟩) ((L.map Lp.c).getD i ⟨#[]⟩);have w1:IntKind.i64.wrap (s.bal ((L.map Lp.a).getD i ⟨#[]⟩) ((L.map Lp.c).getD i ⟨#[]⟩)+lgS L ((L.map Lp.a).getD i ⟨#[]⟩) ((L.map Lp.c).getD i ⟨#[]⟩))=s.bal ((L.map Lp.a).getD i ⟨#[]⟩) ((L.map Lp.c).getD i ⟨#[]⟩)+lgS L ((L.map Lp.a).getD i ⟨#[]⟩) ((L.map Lp.c).getD i ⟨#[]⟩):=a0m (by omega) (by omega);generalize s.bal ((L.map Lp.a).getD i ⟨#[]⟩) ((L.map Lp.c).getD i ⟨#[]⟩)=X at*;generalize lgS L ((L.map Lp.a).getD i ⟨#[]⟩) ((L.map Lp.c).getD i ⟨#[]⟩)=Y at*;repeat' ((conv=>whnf);first|(simp only [w1])|refine cOx (l:= [0,1,2,3,4]) c1 ?_|refine cOx (l:= [0,5]) c2 ?_|refine a0a ?_|(apply bRx<;>intro h<;>try (exfalso;(try dsimp only at h);omega)))
  all_goals (conv=>whnf)
  all_goals first
   |(exfalso;omega)
   |exact ⟨i+1,[0,1,2,3,4,5],[],hi2,(show n-(i+1)<n-i by omega),⟨rfl,⟨rfl,rfl,congrArg (fun z=>some (SV.int .i64 z)) (a0i (by omega)),trivial⟩,⟨rfl,rfl,rfl,rfl,rfl,trivial⟩⟩⟩
   |trace_state
 repeat' ((conv=>whnf);first|refine a0a ?_|(apply bRx<;>intro h<;>try (exfalso;(try dsimp only at h);omega)))
 all_goals (conv=>whnf)
 all_goals first
  |(exfalso;omega)
  |exact rOx [0,1,2,3,4,5] a0b
  |trace_state
theorem z0s:FC Tryz.prog 6 101 [.ptr 1 0 0 0,.agg [.str id,.int .i64 d,.sl 5 0 0 n]] [(1,rlC false 2 3 s),(2,rlA true s),(3,rlE false 4 s),(4,c0n false s),(5,some (.one false (poB n L)))]
  (a0f (.int .i64 0) [(1,rlC false 2 6 (lgP s ⟨id,d,L,n⟩)),(6,rlE false 7 (lgP s ⟨id,d,L,n⟩)),(7,c0n false (lgP s ⟨id,d,L,n⟩))] 8):=by
 obtain ⟨⟨k1,k2,k3,k4,k5,k6,k7⟩,hni,hrg,h5⟩:=i0G hn h0;dsimp only at k1 k2 k3 k4 k5 k6 k7 hni hrg;have hne:=hs.ne;have c1:=k0h id;rw [k1] at c1;have c2:=o0F s hs id;have hin:¬inL id s.ids:=fun q=>hni (f0T.1 q)
 rw [if_neg hin,decide_eq_false hin] at c2;have c3:=q0s s hs h1 id d L n hn h0 hM;unfold rlE;rw [o0x];refine fEx Tryz.func101 ?_;repeat' ((conv=>whnf);first|refine cPx c1 ?_|refine cOx (l:= [0,1,2,3,4]) c2 ?_|refine cOx (l:= [0,1,2,3,4,5]) c3 ?_|refine a0a ?_|(apply bRx<;>intro h<;>try (exfalso;(try dsimp only at h);omega)))
 all_goals (conv=>whnf)
 all_goals first
  |(exfalso;omega)
  |skip
 have e1:seg 0 s.ne (s.ent.map Le.id)=s.ent.map Le.id:=c0R (by rw [b1M,hne]);have e2:seg 0 s.ne (s.ent.map Le.date)=s.ent.map Le.date:=c0R (by rw [b1M,hne]);have e3:seg 0 s.ne (i0a 4 (s.ent.map Le.np))=i0a 4 (s.ent.map Le.np):=c0R (by rw [b0s,b1M,hne]);simp only [e1,e2,e3,a1J];refine e0z (l:= [0,1,2,3,4,5,11,12]) [.relab (gdR 12 s.ne [⟨4,5,enF (s.ent++ [⟨id,d,L,n⟩])⟩]) (fun _=>0) [(11,some (.one false (.cols (s.ne+1) [.sc (.strs (s.ent.map Le.id++ [id])),.sc (.ints .i64 (s.ent.map Le.date++ [d])),.own 12 (s.ent.map Le.np++ [n])]))),(12+0,some (.fam false (fun x=>x<s.ne+1) (enF (s.ent++ [⟨id,d,L,n⟩]))))] [4,5] 1] ?_ (a0c (a0c (a0u a0b)));exact ⟨h0d (by rw [b1M];exact hs.ne) (by show (s.ent.map Le.id++ [id]).length=s.ne+1;simp [hs.ne]) (by show (s.ent.map Le.date++ [d]).length=s.ne+1;simp [hs.ne]) (by omega) rfl rfl (fun q hq=>hq) rfl (by decide) (by decide) (by decide) (fun q hq=>v0X q (by rw [hs.ne];exact hq)) (by rw [<-hs.ne];exact v0Y),rfl,rfl,rfl,rfl,rfl,trivial⟩
end
end
section
attribute [local irreducible] a0q a0r a0j a0R
theorem z0t (dom:Nat->Prop) (F:Nat->Blk) (i:Nat) (id:ByteArray) (d:Int) (L:List Lp) (n:Nat) (hi:dom i) (hF:F i=poB n L) (hn:L.length=n) (h1:1<=n) (h2:n<=1000000):
  FC Tryz.prog 2 234 [.agg [.str id,.int .i64 d,.sl 1 i 0 n]] [(1,some (.fam true dom F))] (a0f (.agg [.str id,.int .i64 d,.sl 2 0 0 n]) [(2,some (.one false (poB n L)))] 3):=by
 have c0:=j0G [(1,⟨i,dom,F⟩)] (by exact ⟨⟨by decide,by decide,_,_,rfl,hi,hF,.inl rfl⟩,trivial⟩) (by exact ⟨rfl,trivial⟩) (by exact ⟨rfl,trivial⟩) (a0c a0b) (i0p id d L n hn h1 h2);have e:SV.mems (fmu [(1,⟨i,dom,F⟩)]) [.agg [.str id,.int .i64 d,.sl 1 0 0 n]]= [.agg [.str id,.int .i64 d,.sl 1 i 0 n]]:=by
  show [SV.agg [.str id,.int .i64 d,.sl 1 (0+i) 0 n]]=_;rw [a1J]
 rw [e] at c0;exact c0
abbrev e1I (s:Lg):Blk:= .obj (.map false false s.ns [.strs s.st] [.sc (.bools (List.replicate s.ns true))] (List.range s.ns) s.ns)
attribute [local irreducible] seq ByteArray.extract lgE
theorem q0t {n ix:Nat} (h:ix<n):((List.range n).map Int.ofNat).getD ix 0=(ix:Int):=by
 rw [List.getD,v0g,h1Q h];rfl
end
section
attribute [local irreducible] a0q a0r a0j a0R
theorem f0a {H:a0h} {n a:Nat} {F:Nat->Blk} (ha:a<n) (hta:a0s H a=some (.one false (.cols 0 [.sc (.strs []),.sc (.ints .i64 []),.svs []]))):
  Relab H n (fun _ _=>none) (fun _=>0) [(a,some (.one false (.cols 0 [.sc (.strs []),.sc (.ints .i64 []),.own n []]))),(n+0,some (.fam false (fun x=>x<0) F))] [] 1:=by
 refine f0w (n:=n) (th:=a) [⟨0,0,F⟩] ha hta (d0q ⟨⟨fun _=>rfl,fun i hi=>a0E _⟩,⟨fun _=>rfl,fun i hi=>a0E _⟩,⟨fun _=>rfl,fun i hi=>absurd hi (h1E _)⟩,trivial⟩)
def nmE (A:List ByteArray):List ByteArray->Int
 | []=>0
 |a::L=>if h0u a=false then 5 else if inL a A then 7 else nmE (A++ [a]) L
def u0e (L:List ByteArray):Int:=if 512<L.length then 3 else nmE [] L
def lg0 (L:List ByteArray):Lg:=⟨L.length,L,0,[],0,[],fun _ _=>0,0⟩
theorem w0l:∀(L A:List ByteArray),nmE A L=0->A.Nodup->(A++L).Nodup/\∀a∈L,h0u a=true
 | [],A,_,hA=>⟨by simpa using hA,by simp⟩
 |a::L,A,h,hA=>by
  simp only [nmE] at h;split at h
  .cases h
  .rename_i h1;split at h
   .cases h
   .rename_i h2;have h2':a∉A:=fun hm=>h2 (f0T.2 hm)
    have hA2:(A++ [a]).Nodup:=h1Z.2 ⟨hA,by simp,fun x hx y hy e=>by simp at hy;subst hy;subst e;exact h2' hx⟩;obtain ⟨i1,i2⟩:=w0l L (A++ [a]) h hA2;rw [i1V] at i1;refine ⟨i1,fun x hx=> ?_⟩;rcases v0e.1 hx with rfl|hx
    .simpa using h1
    .exact i2 x hx
theorem e1J {L:List ByteArray} (h:u0e L=0):LgOk (lg0 L):=by
 unfold u0e at h;split at h
 .cases h
 rename_i h1;obtain ⟨i1,i2⟩:=w0l L [] h h1M;exact ⟨rfl,by show L.length<=512;omega,(by rw [h1T] at i1;exact i1),i2,rfl,by show (0:Nat)<=512;omega,h1M,(fun e he=>absurd he (h1l)),rfl,m0D _,(fun x hx=>absurd hx (h1l)),fun a c=>rfl,fun a c=>by show (-4503599627370496:Int)<=0/\(0:Int)<=4503599627370496;omega,by show (0:Int)<=0/\(0:Int)<18446744073709551616;omega⟩
theorem c1y {L:List ByteArray} {k:Nat} (hk:k<L.length):nmE (L.take k) (L.drop k)=if h0u (L.getD k ⟨#[]⟩)=false then 5 else if inL (L.getD k ⟨#[]⟩) (L.take k) then 7 else nmE (L.take (k+1)) (L.drop (k+1)):=by
 rw [i1x hk];simp only [nmE];rw [List.getD,j0I hk,i1A,j0I hk];rfl
theorem c1z {L:List ByteArray} {k:Nat} (hk:k<L.length) (hix:a0l (L.take k) (L.getD k ⟨#[]⟩)=k):
  (some (HB.one false (.obj (.map false false (if a0l (L.take k) (L.getD k ⟨#[]⟩)<k then k else k+1) [.strs (a0U (a0l (L.take k) (L.getD k ⟨#[]⟩)) (L.getD k ⟨#[]⟩) (L.take k))] [.sc (.bools (a0U (a0l (L.take k) (L.getD k ⟨#[]⟩)) true (List.replicate k true)))] (if a0l (L.take k) (L.getD k ⟨#[]⟩)<k then List.range k else List.range k++ [k]) (if a0l (L.take k) (L.getD k ⟨#[]⟩)<k then k else k+1)))):Option HB)
   =some (.one false (.obj (.map false false (k+1) [.strs (L.take (k+1))] [.sc (.bools (List.replicate (k+1) true))] (List.range (k+1)) (k+1)))):=by
 rw [hix];simp only [i1K,if_false];rw [b0V (l:=L.take k) (by rw [d1I];omega),b0V (l:=List.replicate k true) (by simp),i1Q,List.replicate_succ',i1A,List.getD,j0I hk];rfl
attribute [local irreducible] seq ByteArray.extract nmE
abbrev nwH (n k:Nat) (L:List ByteArray):a0h:= [(1,some (.one true (.cols n [.sc (.strs L)]))),(2,some (.one false (.obj (.map false false k [.strs (L.take k)] [.sc (.bools (List.replicate k true))] (List.range k) k)))),(3,some (.one false (.obj (.map false false 0 [.strs []] [.sc (.ints .i64 [])] [] 0)))),(4,some (.one false (.obj (.map false false 0 [.strs []] [.sc (.bools [])] [] 0)))),(5,some (.one false (.obj (.map true false 0 [.strs [],.strs []] [.sc (.ints .i64 [])] [] 0)))),(6,some (.one false (.cells [.map 2 0,.nsl,.map 3 0,.map 4 0,.map 5 0,.int .u64 0])))]
theorem w0m (L:List ByteArray) (n:Nat) (hn:L.length=n) (h:u0e L=0):FC Tryz.prog 2 22 [.sl 1 0 0 n] [(1,some (.one true (.cols n [.sc (.strs L)])))]
  (a0f (.tup [.ptr 2 0 0 0,.int .i64 0]) [(7,z0e false (lg0 L)),(2,some (.one false (.cells (lgF 3 4 5 6 7 (lg0 L))))),(3,some (.one false (k0M (lg0 L)))),(4,some (.one false (k0N 8 (lg0 L)))),(5,some (.one false (t0F (lg0 L)))),(6,some (.one false (e1I (lg0 L)))),(8,c0n false (lg0 L))] 9):=by
 have h512:n<=512:=by
  unfold u0e at h;split at h
  .cases h
  .omega
 have e:u0e L=nmE [] L:=by unfold u0e;rw [if_neg (by omega)]
 rw [e] at h;refine t0l (x:=⟨[],[],[],0⟩) ⟨[],rfl,rfl,rfl,List.Pairwise.nil,fun a c=>rfl,z0h _⟩ ?_;unfold lg0;rw [hn];refine fEx Tryz.func22 ?_;repeat' ((conv=>whnf);first|refine a0a ?_|(apply bRx<;>intro h<;>try (exfalso;(try dsimp only at h);omega)))
 all_goals (conv=>whnf)
 all_goals first
  |(exfalso;omega)
  |skip
 refine a0o (fun k:Nat=>⟨[(4,.ptr 6 0 0 0),(16,.sl 1 0 0 n),(17,.int .i64 n),(18,.int .i64 k)],nwH n k L,7⟩) (fun k=>k<=n/\nmE [] L=nmE (L.take k) (L.drop k)) (fun k=>n-k) 0 [0,1,2,3,4,5,6] [] wHx ⟨z0h _,by simp⟩ ?_;rintro k ⟨hk,hE⟩;unfold nwH;by_cases hk2:k<n
 .rw [c1y (by omega)] at hE;have c1:=l0F (L.getD k ⟨#[]⟩);have hrep:=v0W k (a0l (L.take k) (L.getD k ⟨#[]⟩));have hle:=Go.Sy.sidx_le (L.take k) (L.getD k ⟨#[]⟩);have hlk:(L.take k).length=k:=by rw [d1I];omega
  by_cases g1:h0u (L.getD k ⟨#[]⟩)=false
  .rw [if_pos g1] at hE;omega
  rw [if_neg g1] at hE;have g1':h0u (L.getD k ⟨#[]⟩)=true:=by simpa using g1
  rw [g1'] at c1;by_cases g2:inL (L.getD k ⟨#[]⟩) (L.take k)
  .rw [if_pos g2] at hE;omega
  rw [if_neg g2] at hE;unfold inL at g2;rw [decide_eq_false (by omega)] at hrep;have hrow:=c1z (L:=L) (k:=k) (by omega) (by omega);repeat' ((conv=>whnf);first|refine cPx c1 ?_|(simp only [f0J,hrep])|refine a0a ?_|(apply bRx<;>intro h<;>try (exfalso;(try dsimp only at h);omega)))
  all_goals (conv=>whnf)
  all_goals first
   |exact ⟨k+1,[0,1,2,3,4,5,6],[],⟨hk2,hE⟩,(show n-(k+1)<n-k by omega),⟨rfl,⟨rfl,rfl,rfl,congrArg (fun z=>some (SV.int .i64 z)) (a0i (by omega)),trivial⟩,⟨rfl,hrow,rfl,rfl,rfl,rfl,trivial⟩⟩⟩
   |(exfalso;omega)
 have ek:k=n:=by omega
 subst ek;rw [show L.take k=L by rw [<-hn,e1e]];repeat' ((conv=>whnf);first|refine a0a ?_|(apply bRx<;>intro h<;>try (exfalso;(try dsimp only at h);omega)))
 all_goals (conv=>whnf)
 all_goals first
  |(exfalso;omega)
  |exact e0z (l:= [0,1,6,2,7,3,4,5,8]) [.cell 6 1 [.sc (.strs []),.sc (.ints .i64 []),.svs []],.relab (fun _ _=>none) (fun _=>0) [(7,some (.one false (.cols 0 [.sc (.strs []),.sc (.ints .i64 []),.own 8 []]))),(8+0,some (.fam false (fun x=>x<0) (enF [])))] [] 1] ⟨f0a (n:=8) (a:=7) (by decide) rfl,rfl,rfl,rfl,rfl,rfl,rfl,rfl,rfl,rfl,trivial⟩ (a0c (a0c (a0c (a0c (a0c (a0c (a0u a0b)))))))
end
section
attribute [local irreducible] a0q a0r a0j a0R sortI
theorem z0u (s:ByteArray) (hs:s.size<=9223372036854775000):a0V Tryz.prog 84 [.str s] (.int .u64 (j0V 14695981039346656037 s s.size)):=by
 refine fEx Tryz.func84 ?_;repeat' ((conv=>whnf);first|refine a0a ?_|(apply bRx<;>intro h<;>try (exfalso;(try dsimp only at h);omega)))
 all_goals (conv=>whnf)
 refine a0o (fun k:Nat=>⟨[(0,.str s),(3,.int .u64 (j0V 14695981039346656037 s k)),(4,.int .i64 k)],[],1⟩) (fun k=>k<=s.size) (fun k=>s.size-k) 0 [0] [] wHx (by omega) ?_;intro k hk;have bb:=g0K s (k:Int);repeat' ((conv=>whnf);first|refine a0a ?_|(apply bRx<;>intro h<;>try (exfalso;(try dsimp only at h);omega)))
 all_goals (conv=>whnf)
 .refine ⟨k+1,[0],[],by omega,by omega,⟨rfl,⟨rfl,?_,congrArg (fun z=>some (SV.int .i64 z)) (a0i (by omega)),trivial⟩,trivial⟩⟩;refine congrArg (fun z=>some (SV.int .u64 z)) ?_;show IntKind.u64.wrap (b1n .u64 (j0V 14695981039346656037 s k) (IntKind.u64.wrap (a0e s (k:Int)))*1099511628211)=j0V 14695981039346656037 s (k+1);have e1:IntKind.u64.wrap (a0e s (k:Int))=a0e s (k:Int):=q0f (by omega) (by omega);rw [e1];rfl
 .have e:k=s.size:=by omega
  subst e;exact a0d rfl
theorem o0H (p:Int) (s:ByteArray) (hs:s.size<=9223372036854700000):a0V Tryz.prog 45 [.int .u64 p,.str s] (.int .u64 (chI p s)):=by
 have z8:=g0Z p;have c1:=z0u (v0J p++s) (by rw [b1U];omega);rw [b1U,z8,c1j] at c1;refine fEx Tryz.func45 ?_;repeat' ((conv=>whnf);first|refine a0a ?_|(apply bRx<;>intro h<;>try (exfalso;(try dsimp only at h);omega)))
 all_goals (conv=>whnf)
 refine a0o (fun k:Nat=>⟨[(0,.int .u64 p),(1,.str s),(5,.str (a0C (beL p k))),(6,.int .i64 (7-(k:Int)))],[],1⟩) (fun k=>k<=8) (fun k=>8-k) 0 [0] [] wHx (by omega) ?_;intro k hk;have bz:(a0C (beL p k)).size=k:=by rw [c0Q,c0U]
 by_cases hlt:k<8
 .have es:IntKind.u64.wrap (IntKind.i64.wrap (8*(7-(k:Int))))=((56-8*k:Nat):Int):=by rw [a0m (by omega) (by omega),q0f (by omega) (by omega)];omega
  have z1:∀x:Int,(a0C (seg 0 1 [x])).size=1:=fun x=>rfl
  repeat' ((conv=>whnf);first|(refine a0g ?_ ?_;(show (a0C (beL p k)).size+(a0C (seg 0 1 [_])).size<=_;rw [z1];omega))|refine a0a ?_|(apply bRx<;>intro h<;>try (exfalso;(try dsimp only at h);omega)))
  all_goals (conv=>whnf)
  all_goals first
   |(exfalso;omega)
   |skip
  refine ⟨k+1,[0],[],by omega,by omega,⟨rfl,⟨rfl,rfl,?_,?_,trivial⟩,trivial⟩⟩
  .refine congrArg (fun z=>some (SV.str z)) ?_;show a0C (beL p k)++a0C [IntKind.u8.wrap (u0c .u64 p (IntKind.u64.wrap (IntKind.i64.wrap (8*(7-(k:Int))))))]=_;rw [es,<-g0l];rfl
  .refine congrArg (fun z=>some (SV.int .i64 z)) ?_;rw [a0m (by omega) (by omega)];omega
 .have e:k=8:=by omega
  subst e;repeat' ((conv=>whnf);first|refine cPx c1 ?_|(refine a0g (show (a0C (beL p 8)).size+s.size<=9223372036854775807 from by omega) ?_)|refine a0a ?_|(apply bRx<;>intro h<;>try (exfalso;(try dsimp only at h);omega)))
  all_goals (conv=>whnf)
  all_goals first
   |exact a0d rfl
   |(exfalso;omega)
attribute [local irreducible] seq ByteArray.extract
def w0n (E:List Le):Int:=E.foldl (fun h e=>chI h (leT e e.np)) 0
theorem s0b (E:List Le) (e:Le):w0n (E++ [e])=chI (w0n E) (leT e e.np):=by unfold w0n;rw [List.foldl_append];rfl
section
variable (s:Lg) (hs:LgOk s)
include hs
theorem w0o (i:Nat) (hi:i<s.ne):FC Tryz.prog 2 85 [.agg [.str (s.ent.getD i le0).id,.int .i64 (s.ent.getD i le0).date,.sl 1 i 0 (s.ent.getD i le0).np]] [(1,c0n true s)] (a0f (.str (leT (s.ent.getD i le0) (s.ent.getD i le0).np)) [] 2):=by
 have hne:=hs.ne;have hmem:s.ent.getD i le0∈s.ent:=by rw [List.getD,j0I (by omega)];exact b1P _
 have e1:=hs.ent _ hmem;have hsz:c1q (s.ent.getD i le0).ps:=fun x hx=>by
  obtain ⟨h1,h2⟩:=d0t.1 e1.ps x hx;exact ⟨(c0z (hs.lab _ h1)).2,(h0e (e0Y h2).1)⟩
 have c:=z0r (s.ent.getD i le0).id (s.ent.getD i le0).date (s.ent.getD i le0).ps (s.ent.getD i le0).np e1.n e1.n16 (c0z e1.id).2 e1.d hsz (r0P e1.ps);have c0:=j0G [(1,⟨i,fun x=>x<s.ne,enF s.ent⟩)] (by exact ⟨⟨by decide,by decide,_,_,rfl,hi,rfl,.inl rfl⟩,trivial⟩) (by exact ⟨rfl,trivial⟩) (by exact trivial) a0b c;have e:SV.mems (fmu [(1,⟨i,fun x=>x<s.ne,enF s.ent⟩)]) [.agg [.str (s.ent.getD i le0).id,.int .i64 (s.ent.getD i le0).date,.sl 1 0 0 (s.ent.getD i le0).np]]= [.agg [.str (s.ent.getD i le0).id,.int .i64 (s.ent.getD i le0).date,.sl 1 i 0 (s.ent.getD i le0).np]]:=by
  show [SV.agg [_,_,.sl 1 (0+i) 0 _]]=_;rw [a1J];rfl
 rw [e] at c0;exact c0
theorem t0J (hd:s.dig=w0n s.ent):FC Tryz.prog 5 46 [.ptr 1 0 0 0] [(1,rlC true 2 3 s),(3,rlE true 4 s),(4,c0n true s)] (a0f (.int .u64 s.dig) [] 5):=by
 have hne:=hs.ne;have h512:=hs.e512;rw [hd];refine fEx Tryz.func46 ?_;repeat' ((conv=>whnf);first|refine a0a ?_|(apply bRx<;>intro h<;>try (exfalso;(try dsimp only at h);omega)))
 all_goals (conv=>whnf)
 refine a0o (fun k:Nat=>⟨[(0,.ptr 1 0 0 0),(3,.int .u64 (w0n (s.ent.take k))),(4,.int .i64 k)],[(1,rlC true 2 3 s),(3,rlE true 4 s),(4,c0n true s)],5⟩) (fun k=>k<=s.ne) (fun k=>s.ne-k) 0 [0,1,2,3,4] [] wHx (z0h _) ?_;intro k hk;by_cases hk2:k<s.ne
 .have c1:=w0o s hs k hk2;have hmem:s.ent.getD k le0∈s.ent:=by rw [List.getD,j0I (by omega)];exact b1P _
  have e1:=hs.ent _ hmem;have hsz:c1q (s.ent.getD k le0).ps:=fun x hx=>by
   obtain ⟨h1,h2⟩:=d0t.1 e1.ps x hx;exact ⟨(c0z (hs.lab _ h1)).2,(h0e (e0Y h2).1)⟩
  have hT:=(h0c (e:=s.ent.getD k le0) (c0z e1.id).2 e1.d hsz (r0P e1.ps) (s.ent.getD k le0).np).1;have h16:=e1.n16;have c2:=o0H (w0n (s.ent.take k)) (leT (s.ent.getD k le0) (s.ent.getD k le0).np) (by omega);have hA:chI (w0n (s.ent.take k)) (leT (s.ent.getD k le0) (s.ent.getD k le0).np)=w0n (s.ent.take (k+1)):=by
   rw [i1A,j0I (show k<s.ent.length by omega),List.getD,j0I (show k<s.ent.length by omega)];exact (s0b _ _).symm
  rw [hA] at c2;generalize leT (s.ent.getD k le0) (s.ent.getD k le0).np=T at*;have q1:=e1x s.ent k;have q2:=c1k s.ent k;have q3:=c1l s.ent k;rw [<-q1,<-q2,<-q3] at c1;repeat' ((conv=>whnf);first|refine cOx (l:= [0,4]) c1 ?_|refine cPx c2 ?_|refine a0a ?_|(apply bRx<;>intro h<;>try (exfalso;(try dsimp only at h);omega)))
  all_goals (conv=>whnf)
  all_goals first
   |(exfalso;omega)
   |exact ⟨k+1,[0,1,2,3,4],[],hk2,(show s.ne-(k+1)<s.ne-k by omega),⟨rfl,⟨rfl,rfl,congrArg (fun z=>some (SV.int .i64 z)) (a0i (by omega)),trivial⟩,⟨rfl,rfl,rfl,trivial⟩⟩⟩
   |trace_state
 .have e:k=s.ne:=by omega
  have eL:s.ent.take k=s.ent:=by rw [e,<-hne,e1e]
  rw [eL];repeat' ((conv=>whnf);first|refine a0a ?_|(apply bRx<;>intro h<;>try (exfalso;(try dsimp only at h);omega)))
  all_goals (conv=>whnf)
  all_goals first
   |(exfalso;omega)
   |exact rOx [0,1,2,3,4] a0b
   |trace_state
end
end
section
attribute [local irreducible] a0q a0r a0j a0R
abbrev z16:List Int:=List.replicate 16 0
abbrev Bk.ix (b:Bk) (c:ByteArray):Nat:=a0l b.cs c
abbrev Bk.row (b:Bk) (c:ByteArray):List Int:=b.vs.getD (a0l b.cs c) z16
abbrev bkH (b:Bk):a0h:= [(1,bkC true 2 3 b.n),(2,bkP true b),(3,bkM false b)]
abbrev bkR (b:Bk):a0h:= [(1,bkC true 2 3 b.n),(2,bkP true b),(3,bkM true b)]
def Bk.put (b:Bk) (c:ByteArray) (r:List Int):Bk:=
 ⟨b.n,b.ps,if a0l b.cs c<b.m then b.m else b.m+1,a0U (a0l b.cs c) c b.cs,a0U (a0l b.cs c) r b.vs,if a0l b.cs c<b.m then b.bs else b.bs++ [b.ck],if a0l b.cs c<b.m then b.ck else b.ck+1⟩
def Bk.del (b:Bk) (c:ByteArray):Bk:=
 ⟨b.n,b.ps,if a0l b.cs c<b.m then b.m-1 else b.m,b.cs.eraseIdx (a0l b.cs c),b.vs.eraseIdx (a0l b.cs c),b.bs.eraseIdx (a0l b.cs c),b.ck⟩
structure Bk.Ok (b:Bk):Prop where
 n:b.n<=16
 ps:b.ps.length=b.n
 len:∀i,(b.vs.getD i z16).length=16
 bd:∀i j,-4503599627370496<=(b.vs.getD i z16).getD j 0/\(b.vs.getD i z16).getD j 0<=4503599627370496
def k0k (x:Int):Bool:=decide (-4503599627370496<=x)&&decide (x<=4503599627370496)
theorem o0I {x:Int}:k0k x=true↔-4503599627370496<=x/\x<=4503599627370496:=by unfold k0k;simp
theorem a1Y {x:Int}:k0k x=false↔¬(-4503599627370496<=x/\x<=4503599627370496):=by rw [<-o0I];simp
theorem h0U (x:Int):a0V Tryz.prog 249 [.int .i64 x] (.bool (k0k x)):=by
 by_cases h: -4503599627370496<=x/\x<=4503599627370496
 .rw [o0I.2 h];refine fEx Tryz.func249 ?_;repeat' ((conv=>whnf);first|refine a0a ?_|(apply bRx<;>intro h<;>try (exfalso;(try dsimp only at h);omega)))
  all_goals (conv=>whnf)
  all_goals first
   |exact a0d rfl
   |(refine a0d (congrArg SV.bool ?_);simp;omega)
   |(exfalso;omega)
   |trace_state
 .rw [a1Y.2 h];refine fEx Tryz.func249 ?_;repeat' ((conv=>whnf);first|refine a0a ?_|(apply bRx<;>intro h<;>try (exfalso;(try dsimp only at h);omega)))
  all_goals (conv=>whnf)
  all_goals first
   |exact a0d rfl
   |(refine a0d (congrArg SV.bool ?_);simp;omega)
   |(exfalso;omega)
   |trace_state
abbrev h0i (r:List Int) (F T:Nat) (a:Int):List Int:=(r.set F (r.getD F 0-a)).set T (r.getD T 0+a)
def mvE (b:Bk) (f t c:ByteArray) (a:Int):Int:=
 if idI b.ps f b.n<0\/idI b.ps t b.n<0 then 6
 else if idI b.ps f b.n=idI b.ps t b.n then 4
 else if e0q a c≠0 then e0q a c
 else if a<0 then 4
 else if k0k ((b.row c).getD (a0l b.ps f) 0-a)=true/\k0k ((b.row c).getD (a0l b.ps t) 0+a)=true then 0 else 4
def Bk.mv1 (b:Bk) (c:ByteArray) (r:List Int):Bk:=if r=z16 then (b.put c r).del c else b.put c r
def Bk.mv (b:Bk) (f t c:ByteArray) (a:Int):Bk:=if mvE b f t c a=0 then b.mv1 c (h0i (b.row c) (a0l b.ps f) (a0l b.ps t) a) else b
theorem i0r {b:Bk} {f t c:ByteArray} {a:Int} (h:mvE b f t c a≠0):b.mv f t c a=b:=if_neg h
theorem i0s {ps:List ByteArray} {s:ByteArray} {n:Nat} (h:a0l ps s<n):idI ps s n=(a0l ps s:Int):=if_pos h
theorem h0j {ps:List ByteArray} {s:ByteArray} {n:Nat} (h:¬a0l ps s<n):idI ps s n= -1:=if_neg h
theorem z0v (b:Bk) (hb:b.Ok) (f t c:ByteArray) (a:Int):FC Tryz.prog 4 243 [.ptr 1 0 0 0,.str f,.str t,.agg [.int .i64 a,.str c]] (bkH b) (a0f (.int .i64 (mvE b f t c a)) [(3,bkM false (b.mv f t c a))] 4):=by
 have hn:=hb.n;have c1:=k0g b.n b.ps f hb.ps (by omega);have c2:=k0g b.n b.ps t hb.ps (by omega);have c3:=j0T a c;by_cases h1:a0l b.ps f<b.n
 case neg=>
  have e:mvE b f t c a=6:=by unfold mvE;rw [h0j h1,if_pos (Or.inl (by decide))]
  rw [i0r (by rw [e];decide),e];rw [h0j h1] at c1;refine fEx Tryz.func243 ?_;repeat' ((conv=>whnf);first|refine cOx (l:= [0,2]) c1 ?_|refine cOx (l:= [0,2]) c2 ?_|refine a0a ?_|(apply bRx<;>intro h<;>try (exfalso;(try dsimp only at h);omega)))
  all_goals (conv=>whnf)
  all_goals first
   |exact rOx [0,1,2,3] (a0c a0b)
   |(exfalso;omega)
   |trace_state
 by_cases h2:a0l b.ps t<b.n
 case neg=>
  have e:mvE b f t c a=6:=by unfold mvE;rw [h0j h2,if_pos (Or.inr (by decide))]
  rw [i0r (by rw [e];decide),e];rw [h0j h2] at c2;refine fEx Tryz.func243 ?_;repeat' ((conv=>whnf);first|refine cOx (l:= [0,2]) c1 ?_|refine cOx (l:= [0,2]) c2 ?_|refine a0a ?_|(apply bRx<;>intro h<;>try (exfalso;(try dsimp only at h);omega)))
  all_goals (conv=>whnf)
  all_goals first
   |exact rOx [0,1,2,3] (a0c a0b)
   |(exfalso;omega)
   |trace_state
 have e0:mvE b f t c a=if a0l b.ps f=a0l b.ps t then 4 else if e0q a c≠0 then e0q a c else if a<0 then 4 else if k0k ((b.row c).getD (a0l b.ps f) 0-a)=true/\k0k ((b.row c).getD (a0l b.ps t) 0+a)=true then 0 else 4:=by
  unfold mvE;rw [i0s h1,i0s h2,if_neg (by omega)];by_cases q:a0l b.ps f=a0l b.ps t
  .rw [if_pos q,if_pos (by omega)]
  .rw [if_neg q,if_neg (by omega)]
 rw [i0s h1] at c1;rw [i0s h2] at c2;by_cases h3:a0l b.ps f=a0l b.ps t
 .rw [if_pos h3] at e0;rw [i0r (by rw [e0];decide),e0];refine fEx Tryz.func243 ?_;repeat' ((conv=>whnf);first|refine cOx (l:= [0,2]) c1 ?_|refine cOx (l:= [0,2]) c2 ?_|refine a0a ?_|(apply bRx<;>intro h<;>try (exfalso;(try dsimp only at h);omega)))
  all_goals (conv=>whnf)
  all_goals first
   |exact rOx [0,1,2,3] (a0c a0b)
   |(exfalso;omega)
   |trace_state
 rw [if_neg h3] at e0;by_cases h4:e0q a c=0
 case neg=>
  rw [if_pos h4] at e0;rw [i0r (by rw [e0];exact h4),e0];refine fEx Tryz.func243 ?_;repeat' ((conv=>whnf);first|refine cOx (l:= [0,2]) c1 ?_|refine cOx (l:= [0,2]) c2 ?_|refine cPx c3 ?_|refine a0a ?_|(apply bRx<;>intro h<;>try (exfalso;(try dsimp only at h);omega)))
  all_goals (conv=>whnf)
  all_goals first
   |exact rOx [0,1,2,3] (a0c a0b)
   |(exfalso;omega)
   |trace_state
 rw [if_neg (by simpa using h4)] at e0;rw [h4] at c3;have ham:=m0O a c;rw [h4] at ham;have hlen:=hb.len (a0l b.cs c);have hbd:=hb.bd (a0l b.cs c);have hF: -4503599627370496<=(b.row c).getD (a0l b.ps f) 0/\(b.row c).getD (a0l b.ps f) 0<=4503599627370496:=hbd (a0l b.ps f);have hT: -4503599627370496<=(b.row c).getD (a0l b.ps t) 0/\(b.row c).getD (a0l b.ps t) 0<=4503599627370496:=hbd (a0l b.ps t);by_cases h5:a<0
 .rw [if_pos h5] at e0;rw [i0r (by rw [e0];decide),e0];refine fEx Tryz.func243 ?_;repeat' ((conv=>whnf);first|refine cOx (l:= [0,2]) c1 ?_|refine cOx (l:= [0,2]) c2 ?_|refine cPx c3 ?_|refine a0a ?_|(apply bRx<;>intro h<;>try (exfalso;(try dsimp only at h);omega)))
  all_goals (conv=>whnf)
  all_goals first
   |exact rOx [0,1,2,3] (a0c a0b)
   |(exfalso;omega)
   |trace_state
 rw [if_neg h5] at e0;have g1:IntKind.i64.wrap ((b.row c).getD (a0l b.ps f) 0-a)=(b.row c).getD (a0l b.ps f) 0-a:=a0m (by omega) (by omega);have g2:((b.row c).set (a0l b.ps f) ((b.row c).getD (a0l b.ps f) 0-a)).getD (a0l b.ps t) 0=(b.row c).getD (a0l b.ps t) 0:=by
  rw [List.getD,h1J h3];rfl
 have g3:IntKind.i64.wrap ((b.row c).getD (a0l b.ps t) 0+a)=(b.row c).getD (a0l b.ps t) 0+a:=a0m (by omega) (by omega);have g4:(h0i (b.row c) (a0l b.ps f) (a0l b.ps t) a).getD (a0l b.ps f) 0=(b.row c).getD (a0l b.ps f) 0-a:=by
  unfold h0i;rw [List.getD,h1J (fun e=>h3 e.symm),h1C (by rw [hlen];omega)];rfl
 have g5:(h0i (b.row c) (a0l b.ps f) (a0l b.ps t) a).getD (a0l b.ps t) 0=(b.row c).getD (a0l b.ps t) 0+a:=by
  unfold h0i;rw [List.getD,h1C (by rw [h1N,hlen];omega)];rfl
 by_cases h6:k0k ((b.row c).getD (a0l b.ps f) 0-a)=true/\k0k ((b.row c).getD (a0l b.ps t) 0+a)=true
 case neg=>
  rw [if_neg h6] at e0;rw [i0r (by rw [e0];decide),e0];refine fEx Tryz.func243 ?_;repeat' ((conv=>whnf);first|refine cOx (l:= [0,2]) c1 ?_|refine cOx (l:= [0,2]) c2 ?_|refine cPx c3 ?_|refine cPx (h0U _) ?_|refine a0a ?_|(apply bRx<;>intro h<;>try (exfalso;(try dsimp only at h);omega)))
  all_goals (conv=>whnf)
  all_goals (try simp only [c0J,y0u,g1,g2,g3,g4,g5] at*)
  all_goals first
   |exact rOx [0,1,2,3] (a0c a0b)
   |(exfalso;omega)
   |(exfalso;exact h6 ⟨by assumption,by assumption⟩)
   |trace_state
 rw [if_pos h6] at e0;have e1:b.mv f t c a=b.mv1 c (h0i (b.row c) (a0l b.ps f) (a0l b.ps t) a):=by unfold Bk.mv;rw [if_pos e0]
 rw [e1,e0];have h61:=h6.1;have h62:=h6.2;by_cases h7:h0i (b.row c) (a0l b.ps f) (a0l b.ps t) a=z16
 .unfold Bk.mv1;rw [if_pos h7];refine fEx Tryz.func243 ?_;repeat' ((conv=>whnf);first|refine cOx (l:= [0,2]) c1 ?_|refine cOx (l:= [0,2]) c2 ?_|refine cPx c3 ?_|refine cPx (h0U _) ?_|refine a0a ?_|(apply bRx<;>intro h<;>try (exfalso;(try dsimp only at h);omega)))
  all_goals (conv=>whnf)
  all_goals (try simp only [c0J,y0u,g1,g2,g3,g4,g5] at*)
  all_goals first
   |exact rOx [0,1,2,3] (a0c a0b)
   |(exfalso;omega)
   |(exfalso;exact bnf h61 (by assumption))
   |(exfalso;exact bnf h62 (by assumption))
   |contradiction
   |trace_state
 .unfold Bk.mv1;rw [if_neg h7];refine fEx Tryz.func243 ?_;repeat' ((conv=>whnf);first|refine cOx (l:= [0,2]) c1 ?_|refine cOx (l:= [0,2]) c2 ?_|refine cPx c3 ?_|refine cPx (h0U _) ?_|refine a0a ?_|(apply bRx<;>intro h<;>try (exfalso;(try dsimp only at h);omega)))
  all_goals (conv=>whnf)
  all_goals (try simp only [c0J,y0u,g1,g2,g3,g4,g5] at*)
  all_goals first
   |exact rOx [0,1,2,3] (a0c a0b)
   |(exfalso;omega)
   |(exfalso;exact bnf h61 (by assumption))
   |(exfalso;exact bnf h62 (by assumption))
   |contradiction
   |trace_state
end
section
attribute [local irreducible] a0q a0r a0j a0R
def isD (d:Int):Bool:=decide (0<=d)&&decide (d<=99999)
theorem f0b {d:Int}:isD d=true↔0<=d/\d<=99999:=by unfold isD;simp
theorem a1Z {d:Int}:isD d=false↔d<0\/99999<d:=by
 unfold isD;rw [Bool.and_eq_false_iff,decide_eq_false_iff_not,decide_eq_false_iff_not];omega
theorem d0X (d:Int):a0V Tryz.prog 48 [.int .i64 d] (.bool (isD d)):=by
 unfold isD;by_cases h1:0<=d<;>by_cases h2:d<=99999;all_goals simp only [h1,h2,decide_true,decide_false,i1g,i1O,h1i,h1z]
 all_goals refine fEx Tryz.func48 ?_
 all_goals repeat' ((conv=>whnf);first|refine a0a ?_|(apply bRx<;>intro h<;>try (exfalso;(try dsimp only at h);omega)))
 all_goals (conv=>whnf)
 all_goals first
  |exact a0d rfl
  |exact a0d (congrArg SV.bool (by simp;omega))
  |(exfalso;omega)
  |trace_state
def wkI (d:Int):Int:=if isD d=true then (d+3)%7 else-1
theorem i0H {a b:Int} (h:0<=a):a.tmod b=a%b:=by rw [i1T h]
theorem s0c {a b:Int} (h:0<=a):a.tdiv b=a/b:=by rw [i1U h]
theorem q0u (d:Int):a0V Tryz.prog 213 [.int .i64 d] (.int .i64 (wkI d)):=by
 have c:=d0X d;unfold wkI;cases h:isD d with
 |true=>
  have hd:=f0b.1 h;rw [h] at c;rw [if_pos rfl];refine fEx Tryz.func213 ?_;repeat' ((conv=>whnf);first|refine cPx c ?_|refine a0a ?_|(apply bRx<;>intro h<;>try (exfalso;(try dsimp only at h);omega)))
  all_goals (conv=>whnf)
  all_goals first
   |exact a0d (congrArg (SV.int .i64) (by rw [a0m (n:=d+3) (by omega) (by omega),i0H (by omega)]))
   |(exfalso;omega)
   |trace_state
 |false=>
  rw [h] at c;rw [if_neg (by simp)];refine fEx Tryz.func213 ?_;repeat' ((conv=>whnf);first|refine cPx c ?_|refine a0a ?_|(apply bRx<;>intro h<;>try (exfalso;(try dsimp only at h);omega)))
  all_goals (conv=>whnf)
  all_goals first
   |exact a0d rfl
   |(exfalso;omega)
   |trace_state
def okT (t:Int):Bool:=decide (0<=t)&&(decide (t<=1099511627776)&&isD (t/86400))
def g0m (t:Int):Int:=if okT t=true then t/86400 else-1
def w0p (t:Int):Int:=if okT t=true then t%86400 else-1
theorem e0s {t:Int}:okT t=true↔0<=t/\t<=1099511627776/\isD (t/86400)=true:=by unfold okT;simp
theorem w0q (t:Int):a0V Tryz.prog 237 [.int .i64 t] (.tup [.int .i64 (g0m t),.int .i64 (w0p t)]):=by
 have c:=d0X (t/86400);unfold g0m w0p;by_cases h1:0<=t
 .by_cases h2:t<=1099511627776
  .have e1:IntKind.i64.wrap (t.tdiv 86400)=t/86400:=by rw [s0c h1,a0m (by omega) (by omega)]
   have e2:t.tmod 86400=t%86400:=i0H h1;cases h3:isD (t/86400) with
   |true=>
    have hk:okT t=true:=e0s.2 ⟨h1,h2,h3⟩;rw [h3] at c;rw [if_pos hk,if_pos hk];refine fEx Tryz.func237 ?_;repeat' ((conv=>whnf);first|(simp only [e1])|refine cPx c ?_|refine a0a ?_|(apply bRx<;>intro h<;>try (exfalso;(try dsimp only at h);omega)))
    all_goals (conv=>whnf)
    all_goals (try simp only [e2])
    all_goals first
     |exact a0d rfl
     |(exfalso;omega)
     |trace_state
   |false=>
    have hk:¬okT t=true:=fun q=>by have:=(e0s.1 q).2.2;rw [h3] at this;cases this
    rw [h3] at c;rw [if_neg hk,if_neg hk];refine fEx Tryz.func237 ?_;repeat' ((conv=>whnf);first|(simp only [e1])|refine cPx c ?_|refine a0a ?_|(apply bRx<;>intro h<;>try (exfalso;(try dsimp only at h);omega)))
    all_goals (conv=>whnf)
    all_goals first
     |exact a0d rfl
     |(exfalso;omega)
     |trace_state
  .have hk:¬okT t=true:=fun q=>h2 (e0s.1 q).2.1
   rw [if_neg hk,if_neg hk];refine fEx Tryz.func237 ?_;repeat' ((conv=>whnf);first|refine a0a ?_|(apply bRx<;>intro h<;>try (exfalso;(try dsimp only at h);omega)))
   all_goals (conv=>whnf)
   all_goals first
    |exact a0d rfl
    |(exfalso;omega)
    |trace_state
 .have hk:¬okT t=true:=fun q=>h1 (e0s.1 q).1
  rw [if_neg hk,if_neg hk];refine fEx Tryz.func237 ?_;repeat' ((conv=>whnf);first|refine a0a ?_|(apply bRx<;>intro h<;>try (exfalso;(try dsimp only at h);omega)))
  all_goals (conv=>whnf)
  all_goals first
   |exact a0d rfl
   |(exfalso;omega)
   |trace_state
abbrev tmM (ro:Bool) (n:Nat) (ks:List Int):Option HB:=some (.one ro (.obj (.map false false n [.ints .i64 ks] [.sc (.bools (List.replicate n true))] (List.range n) n)))
abbrev w0r (ro:Bool) (h:Nat):Option HB:=some (.one ro (.cells [.map h 0]))
theorem s0d {n:Nat} {ks:List Int} (hn:ks.length=n) (d:Int):(List.replicate n true).getD (a0G ks d) false=decide (d∈ks):=by
 by_cases h:d∈ks
 .rw [decide_eq_true h,List.getD,i1f,if_pos (by have:=a0W.2 h;omega)];rfl
 .rw [decide_eq_false h,List.getD,i1f,if_neg (fun q=>h (a0W.1 (by omega)))];rfl
def i0I (hs:List Int) (d:Int):Bool:=isD d&&(decide ((d+3)%7<5)&& !decide (d∈hs))
theorem f0c (n:Nat) (ks:List Int) (hn:ks.length=n) (d:Int):FC Tryz.prog 3 199 [.ptr 1 0 0 0,.int .i64 d] [(1,w0r true 2),(2,tmM true n ks)] (a0f (.bool (i0I ks d)) [] 3):=by
 have c1:=d0X d;have c2:=q0u d;have hg:=s0d hn d;unfold i0I;cases h:isD d with
 |false=>
  rw [h] at c1;rw [h1z];refine fEx Tryz.func199 ?_;repeat' ((conv=>whnf);first|refine cPx c1 ?_|refine cPx c2 ?_|refine a0a ?_|(apply bRx<;>intro h<;>try (exfalso;(try dsimp only at h);omega)))
  all_goals (conv=>whnf)
  all_goals first
   |exact rOx [0,1,2] a0b
   |(exfalso;omega)
   |trace_state
 |true=>
  have hd:=f0b.1 h;unfold wkI at c2;rw [if_pos h] at c2;rw [h] at c1;rw [h1i];by_cases q:(d+3)%7<5
  .rw [decide_eq_true q,h1i];refine fEx Tryz.func199 ?_;repeat' ((conv=>whnf);first|refine cPx c1 ?_|refine cPx c2 ?_|refine a0a ?_|(apply bRx<;>intro h<;>try (exfalso;(try dsimp only at h);omega)))
   all_goals (conv=>whnf)
   all_goals (try simp only [hg] at*)
   all_goals first
    |exact rOx [0,1,2] a0b
    |(exfalso;omega)
    |trace_state
  .rw [decide_eq_false q,h1z];refine fEx Tryz.func199 ?_;repeat' ((conv=>whnf);first|refine cPx c1 ?_|refine cPx c2 ?_|refine a0a ?_|(apply bRx<;>intro h<;>try (exfalso;(try dsimp only at h);omega)))
   all_goals (conv=>whnf)
   all_goals first
    |exact rOx [0,1,2] a0b
    |(exfalso;omega)
    |trace_state
def nxK (p:Int->Bool):Nat->Int->Int
 |0,_=> -1
 |k+1,d=>if p d=true then d else nxK p k (d+1)
def nxI (hs:List Int) (d:Int):Int:=nxK (i0I hs) (100000-d).toNat d
def nxV (x:Int):SV:=if x<0 then .tup [.int .i64 0,.int .i64 4] else .tup [.int .i64 x,.int .i64 0]
theorem w0s {hs:List Int} {d:Int} (h:i0I hs d=true) (hd:d<=99999):nxI hs d=d:=by
 unfold nxI;obtain ⟨k,hk⟩:∃k,(100000-d).toNat=k+1:=⟨(99999-d).toNat,by omega⟩;rw [hk];exact if_pos h
theorem b1a {hs:List Int} {d:Int} (h:i0I hs d=false) (hd:d<=99999):nxI hs d=nxI hs (d+1):=by
 unfold nxI;obtain ⟨k,hk⟩:∃k,(100000-d).toNat=k+1:=⟨(99999-d).toNat,by omega⟩;rw [hk,show (100000-(d+1)).toNat=k by omega];simp only [nxK,h,h1K,if_false]
theorem m0W {hs:List Int} {d:Int} (hd:99999<d):nxI hs d= -1:=by
 unfold nxI;rw [show (100000-d).toNat=0 by omega];rfl
theorem z0w (n:Nat) (ks:List Int) (hn:ks.length=n) (d:Int):FC Tryz.prog 3 247 [.ptr 1 0 0 0,.int .i64 d] [(1,w0r true 2),(2,tmM true n ks)] (a0f (if isD d=true then nxV (nxI ks d) else nxV (-1)) [] 3):=by
 have c1:=d0X d;cases h:isD d with
 |false=>
  rw [h] at c1;rw [if_neg (by simp)];refine fEx Tryz.func247 ?_;repeat' ((conv=>whnf);first|refine cPx c1 ?_|refine a0a ?_|(apply bRx<;>intro h<;>try (exfalso;(try dsimp only at h);omega)))
  all_goals (conv=>whnf)
  all_goals first
   |exact rOx [0,1,2] a0b
   |(exfalso;omega)
   |trace_state
 |true=>
  have hd:=f0b.1 h;rw [h] at c1;rw [if_pos rfl];obtain ⟨a,ea⟩:=j1C hd.1;subst ea;generalize hX:nxI ks (a:Int)=X;refine fEx Tryz.func247 ?_;repeat' ((conv=>whnf);first|refine cPx c1 ?_|refine a0a ?_|(apply bRx<;>intro h<;>try (exfalso;(try dsimp only at h);omega)))
  all_goals (conv=>whnf)
  refine a0O (fun k:Nat=>⟨[(0,.ptr 1 0 0 0),(1,.int .i64 k)],[(1,w0r true 2),(2,tmM true n ks)],3⟩) (fun k=>k<=100000/\nxI ks (k:Int)=X) (fun k=>100000-k) a [0,1,2] [] wHx ⟨by omega,hX⟩ ?_;rintro k ⟨hk,hx⟩;have c:=f0c n ks hn k;by_cases hk2:k<=99999
  .cases hb:i0I ks k with
   |true=>
    rw [w0s hb (by omega)] at hx;subst hx;rw [hb] at c;unfold nxV;rw [if_neg (by omega)];repeat' ((conv=>whnf);first|refine cOx (l:= [0,1,2]) c ?_|refine a0a ?_|(apply bRx<;>intro h<;>try (exfalso;(try dsimp only at h);omega)))
    all_goals (conv=>whnf)
    all_goals first
     |exact rOx [0,1,2] a0b
     |(exfalso;omega)
     |trace_state
   |false=>
    rw [b1a hb (by omega)] at hx;rw [hb] at c;repeat' ((conv=>whnf);first|refine cOx (l:= [0,1,2]) c ?_|refine a0a ?_|(apply bRx<;>intro h<;>try (exfalso;(try dsimp only at h);omega)))
    all_goals (conv=>whnf)
    all_goals first
     |exact ⟨k+1,[0,1,2],[],⟨by omega,hx⟩,(show 100000-(k+1)<100000-k by omega),⟨rfl,⟨rfl,congrArg (fun z=>some (SV.int .i64 z)) (a0i (by omega)),trivial⟩,⟨rfl,rfl,trivial⟩⟩⟩
     |(exfalso;omega)
     |trace_state
  .rw [m0W (by omega)] at hx;subst hx;repeat' ((conv=>whnf);first|refine a0a ?_|(apply bRx<;>intro h<;>try (exfalso;(try dsimp only at h);omega)))
   all_goals (conv=>whnf)
   all_goals first
    |exact rOx [0,1,2] a0b
    |(exfalso;omega)
    |trace_state
def ddL (l:List Int) (k:Nat):List Int:=(l.take k).foldl (fun s d=>if d∈s then s else s++ [d]) []
theorem s0e {l:List Int} {k:Nat} (h:k<l.length):ddL l (k+1)=if l.getD k 0∈ddL l k then ddL l k else ddL l k++ [l.getD k 0]:=by
 unfold ddL;rw [i1A,j0I h,List.foldl_append];simp only [Option.toList_some,List.foldl_cons,List.foldl_nil,List.getD,j0I h,Option.getD_some]
theorem q0v {l:List Int} {x:Int}:∀k,k<=l.length->(x∈ddL l k↔x∈l.take k)
 |0,_=>by simp [ddL]
 |k+1,h=>by
  rw [s0e h,i1A,j0I h];have ih:=q0v (l:=l) (x:=x) k (by omega);have e:l.getD k 0=l[k]:=by rw [List.getD,j0I h];rfl
  have ih2:=q0v (l:=l) (x:=l[k]) k (by omega);rw [e];split
  .rename_i q;simp only [e1n,ih,Option.mem_toList,Option.some.injEq];constructor
   .exact .inl
   .rintro (g|g)
    .exact g
    .subst g;exact ih2.1 q
  .simp only [e1n,ih,Option.mem_toList,Option.some.injEq,y0E];exact ⟨fun g=>g.imp id Eq.symm,fun g=>g.imp id Eq.symm⟩
def ddS (l:List Int):List Int:=ddL l l.length
theorem c1A {l:List Int} {x:Int}:x∈ddS l↔x∈l:=by unfold ddS;rw [q0v _ (m0D _),e1e]
theorem q0w (l:List Int) (d:Int):i0I (ddS l) d=i0I l d:=by
 unfold i0I;have:decide (d∈ddS l)=decide (d∈l):=decide_eq_decide.2 c1A;rw [this]
theorem b1b (l:List Int) (d:Int):nxI (ddS l) d=nxI l d:=by
 unfold nxI;rw [show i0I (ddS l)=i0I l from funext (q0w l)]
def x0I (l:List Int):Nat->Bool
 |0=>true
 |k+1=>x0I l k&&isD (l.getD k 0)
theorem f0d {l:List Int} {k:Nat} (h:isD (l.getD k 0)=false):∀n,k<n->x0I l n=false
 |0,q=>by omega
 |n+1,q=>by
  simp only [x0I];by_cases e:k=n
  .subst e;rw [h,i1O]
  .rw [f0d h n (by omega),h1z]
def p0j (l:List Int) (n:Nat):Int:=if 400<n then 3 else if x0I l n=true then 0 else 4
def f1F (l:List Int) (n:Nat):SV->a0h->Nat->Prop:=if p0j l n=0 then a0f (.tup [.ptr 2 0 0 0,.int .i64 0]) [(2,w0r false 3),(3,tmM false (ddS l).length (ddS l))] 4 else a0f (.tup [.nptr,.int .i64 (p0j l n)]) [] 2
theorem e1K {m:Nat} {s:List Int} (hm:s.length=m) (x:Int):(some (HB.one false (.obj (.map false false (if a0G s x<m then m else m+1) [.ints .i64 (a0U (a0G s x) x s)] [.sc (.bools (a0U (a0G s x) true (List.replicate m true)))] (if a0G s x<m then List.range m else List.range m++ [m]) (if a0G s x<m then m else m+1)))):Option HB)=tmM false (if x∈s then s else s++ [x]).length (if x∈s then s else s++ [x]):=by
 rw [m0R];by_cases h:x∈s
 .have hi:=a0W.2 h;rw [if_pos h,if_pos hi,if_pos (by omega),if_pos (by omega),hm];unfold a0U;rw [List.length_replicate,if_pos (by omega),List.set_replicate_self]
 .have hi:¬a0G s x<s.length:=fun q=>h (a0W.1 q)
  rw [if_neg h,if_neg hi,if_neg (by omega),if_neg (by omega)];unfold a0U;have e:List.replicate m true++ [true]=List.replicate (m+1) true:=List.replicate_succ'.symm;rw [List.length_replicate,if_neg (by omega),y0A,hm,g1z,<-i1Q,e]
theorem w0t (l:List Int) (n:Nat) (hl:l.length=n):FC Tryz.prog 2 19 [.sl 1 0 0 n] [(1,some (.one true (.cols n [.sc (.ints .i64 l)])))] (f1F l n):=by
 unfold f1F p0j;by_cases h4:400<n
 .rw [if_pos h4,if_neg (by decide)];refine fEx Tryz.func19 ?_;repeat' ((conv=>whnf);first|refine a0a ?_|(apply bRx<;>intro h<;>try (exfalso;(try dsimp only at h);omega)))
  all_goals (conv=>whnf)
  all_goals first
   |exact rOx [0,1] a0b
   |(exfalso;omega)
   |trace_state
 rw [if_neg h4];refine fEx Tryz.func19 ?_;repeat' ((conv=>whnf);first|refine a0a ?_|(apply bRx<;>intro h<;>try (exfalso;(try dsimp only at h);omega)))
 all_goals (conv=>whnf)
 all_goals first
  |(exfalso;omega)
  |skip
 refine a0O (fun k:Nat=>⟨[(4,.ptr 3 0 0 0),(13,.sl 1 0 0 n),(14,.int .i64 n),(15,.int .i64 k)],[(1,some (.one true (.cols n [.sc (.ints .i64 l)]))),(2,tmM false (ddL l k).length (ddL l k)),(3,w0r false 2)],4⟩) (fun k=>k<=n/\x0I l k=true) (fun k=>n-k) 0 [0,1,2,3] [] wHx ⟨z0h _,rfl⟩ ?_;rintro k ⟨hk,hh⟩;by_cases hk2:k<n
 .have c:=d0X (l.getD k 0);have hs:=s0e (l:=l) (k:=k) (by omega);cases hb:isD (l.getD k 0) with
  |false=>
   rw [hb] at c;rw [if_neg (by rw [if_neg (by rw [f0d hb n hk2];simp)];decide),if_neg (by rw [f0d hb n hk2];simp)];repeat' ((conv=>whnf);first|refine cPx c ?_|refine a0a ?_|(apply bRx<;>intro h<;>try (exfalso;(try dsimp only at h);omega)))
   all_goals (conv=>whnf)
   all_goals first
    |exact rOx [0,1] a0b
    |(exfalso;omega)
    |trace_state
  |true=>
   rw [hb] at c;have ht:=e1K (s:=ddL l k) rfl (l.getD k 0);rw [<-hs] at ht;have hh2:x0I l (k+1)=true:=by simp only [x0I,hh,hb,i1g]
   repeat' ((conv=>whnf);first|refine cPx c ?_|refine a0a ?_|(apply bRx<;>intro h<;>try (exfalso;(try dsimp only at h);omega)))
   all_goals (conv=>whnf)
   all_goals (try simp only [c0J,y0u,e1f] at*)
   all_goals first
    |exact ⟨k+1,[0,1,2,3],[],⟨hk2,hh2⟩,(show n-(k+1)<n-k by omega),⟨rfl,⟨rfl,rfl,rfl,congrArg (fun z=>some (SV.int .i64 z)) (a0i (by omega)),trivial⟩,⟨rfl,ht,rfl,trivial⟩⟩⟩
    |(exfalso;omega)
    |trace_state
 .have e:k=n:=by omega
  subst e;rw [if_pos (by rw [if_pos hh])];unfold ddS;rw [hl];repeat' ((conv=>whnf);first|refine a0a ?_|(apply bRx<;>intro h<;>try (exfalso;(try dsimp only at h);omega)))
  all_goals (conv=>whnf)
  all_goals first
   |exact rOx [0,1,3,2] (a0c (a0c a0b))
   |(exfalso;omega)
   |trace_state
end
section
attribute [local irreducible] a0q a0r a0j a0R
def s0f (b:Bk) (p c:ByteArray):Int:=if a0l b.ps p<b.n then (b.row c).getD (a0l b.ps p) 0 else 0
theorem c1B (n:Nat) (ks:List ByteArray) (vs:List (List Int)) (bs:List Nat) (ck:Nat):FC Tryz.prog 2 140 [.map 1 0] [] (a0f (.fn 165 [.ptr 2 0 0 0]) [(2,some (.one false (.cells [.map 1 0])))] 3):=by
 refine fEx Tryz.func140 ?_;repeat' ((conv=>whnf);first|refine a0a ?_|(apply bRx<;>intro h<;>try (exfalso;(try dsimp only at h);omega)))
 all_goals (conv=>whnf)
 all_goals exact rOx [0,1,2] (a0c a0b)
theorem w0u {n:Nat} {ks:List ByteArray} (vs:List (List Int)) (bs:List Nat) (ck:Nat) (hn:n<=100000) (hz:∀s∈ks,s.size<=9223372036854775807) (hnd:ks.Nodup):
  FC Tryz.prog 3 139 [.fn 165 [.ptr 2 0 0 0]] [(1,some (.one true (.obj (.map false false n [.strs ks] [.arrs 16 .i64 vs] bs ck)))),(2,some (.one true (.cells [.map 1 0])))] (a0f (.sl 3 0 0 n) [(3,some (.one false (.cols n [.sc (.strs (sortS ks))])))] 4):=
 w0b (ρ:=Tryz.keys140_ren) (ρ':=Tryz.sorted_ren) rfl rfl rfl { Tryz.keys140 with} Tryz.sorted
  (fun m=>⟨fun blk off cap ss W hH hblk hsz=>callsIn_wide.2 (AnyM.slices_Sort_string Tryz.sortS blk off cap ss W hH hblk hsz),fun p cap W=>callsIn_wide.2 (AnyM.slices_Sort_string_none Tryz.sortS p cap W)⟩)
  (e0O Tryz.func139 (by kernel_rfl) (by kernel_rfl)) (enters_of Tryz.func87 (by kernel_rfl) rfl) (enters_of Tryz.func165 (by kernel_rfl) rfl) Tryz.underlying9 hn hz hnd
structure Bk.Cok (b:Bk):Prop where
 m:b.m<=100000
 sz:∀s∈b.cs,s.size<=9223372036854775807
 nd:b.cs.Nodup
theorem k0Q (b:Bk) (hc:b.Cok):FC Tryz.prog 4 109 [.ptr 1 0 0 0] (bkR b) (a0f (.sl 4 0 0 b.m) [(4,some (.one false (.cols b.m [.sc (.strs (sortS b.cs))])))] 5):=by
 have c1:=c1B b.m b.cs b.vs b.bs b.ck;have c2:=w0u (n:=b.m) (ks:=b.cs) b.vs b.bs b.ck hc.m hc.sz hc.nd;refine fEx Tryz.func109 ?_;repeat' ((conv=>whnf);first|refine cOx (l:= [0,3]) c1 ?_|refine cOx (l:= [0,3,4]) c2 ?_|refine a0a ?_|(apply bRx<;>intro h<;>try (exfalso;(try dsimp only at h);omega)))
 all_goals (conv=>whnf)
 all_goals exact rOx [0,1,2,3,5] (a0c a0b)
end
section
attribute [local irreducible] a0q a0r a0j a0R
structure Px where
 p:ByteArray
 a:Int
 c:ByteArray
def px0:Px:=⟨⟨#[]⟩,0,⟨#[]⟩⟩
structure PxC where
 p:List ByteArray
 a:List Int
 c:List ByteArray
def b0e (L:List Px):PxC:=⟨L.map Px.p,L.map Px.a,L.map Px.c⟩
theorem k0l (L:List Px) (x:Px):b0e (L++ [x])=⟨(b0e L).p++ [x.p],(b0e L).a++ [x.a],(b0e L).c++ [x.c]⟩:=by simp [b0e]
abbrev pxB (n:Nat) (q:PxC):Blk:= .cols n [.sc (.strs q.p),.sc (.ints .i64 q.a),.sc (.strs q.c)]
def liR (r:List Int) (ps:List ByteArray) (c:ByteArray):Nat->List Px
 |0=> []
 |i+1=>if r.getD i 0=0 then liR r ps c i else liR r ps c i++ [⟨ps.getD i ⟨#[]⟩,r.getD i 0,c⟩]
def liA (b:Bk) (cs:List ByteArray):Nat->List Px
 |0=> []
 |k+1=>liA b cs k++liR (b.row (cs.getD k ⟨#[]⟩)) b.ps (cs.getD k ⟨#[]⟩) b.n
def Bk.list (b:Bk):List Px:=liA b (sortS b.cs) b.m
theorem q0x (r:List Int) (ps:List ByteArray) (c:ByteArray):∀i,(liR r ps c i).length<=i
 |0=>m0D _
 |i+1=>by
  have:=q0x r ps c i;simp only [liR];split<;>simp<;>omega
theorem q0y (b:Bk) (cs:List ByteArray):∀k,(liA b cs k).length<=k*b.n
 |0=>by simp [liA]
 |k+1=>by
  have:=q0y b cs k;have h2:=q0x (b.row (cs.getD k ⟨#[]⟩)) b.ps (cs.getD k ⟨#[]⟩) b.n;simp only [liA,y0A];rw [Nat.succ_mul];omega
theorem z0x (b:Bk) (hb:b.Ok) (hc:b.Cok):FC Tryz.prog 4 75 [.ptr 1 0 0 0] (bkR b) (a0f (.sl 4 0 0 b.list.length) [(4,some (.one false (pxB b.list.length (b0e b.list))))] 5):=by
 have hn:=hb.n;have hm:=hc.m;have c1:=k0Q b hc;refine fEx Tryz.func75 ?_;repeat' ((conv=>whnf);first|refine cOx (l:= [0,1,2,3]) c1 ?_|refine a0a ?_|(apply bRx<;>intro h<;>try (exfalso;(try dsimp only at h);omega)))
 all_goals (conv=>whnf)
 refine a0O (fun x:Nat×Nat×List Px=>⟨[(0,.ptr 1 0 0 0),(12,.sl 4 0 0 b.m),(13,.int .i64 b.m),(14,.int .i64 x.1),(3,.sl 5 0 0 x.2.1)],(4,some (.one false (.cols b.m [.sc (.strs (sortS b.cs))])))::(5,some (.one false (pxB x.2.1 (b0e x.2.2))))::bkR b,6⟩) (fun x=>x.1<=b.m/\x.2.2=liA b (sortS b.cs) x.1/\x.2.2.length=x.2.1) (fun x=>b.m-x.1) (0,0,[]) [0,1,2,3,4,5] [.slot 3 [.sc (.strs []),.sc (.ints .i64 []),.sc (.strs [])]] wHx ⟨z0h _,rfl,rfl⟩ ?_;rintro ⟨k,m,L⟩ ⟨hk,hL,hl⟩;dsimp only at hk hL hl;by_cases hk2:k<b.m
 .have hstep:liA b (sortS b.cs) (k+1)=L++liR (b.row ((sortS b.cs).getD k ⟨#[]⟩)) b.ps ((sortS b.cs).getD k ⟨#[]⟩) b.n:=by rw [hL];rfl
  repeat' ((conv=>whnf);first|refine a0a ?_|(apply bRx<;>intro h<;>try (exfalso;(try dsimp only at h);omega)))
  all_goals (conv=>whnf)
  all_goals (try simp only [c0J] at*)
  all_goals first
   |(exfalso;omega)
   |skip
  refine a0O (fun x:Nat×Nat×List Px=>⟨[(0,.ptr 1 0 0 0),(12,.sl 4 0 0 b.m),(13,.int .i64 b.m),(14,.int .i64 k),(3,.sl 5 0 0 x.2.1),(5,.str ((sortS b.cs).getD k ⟨#[]⟩)),(6,.ptr 6 0 0 0),(27,.sl 2 0 0 b.n),(28,.int .i64 b.n),(29,.int .i64 x.1)],(4,some (.one false (.cols b.m [.sc (.strs (sortS b.cs))])))::(5,some (.one false (pxB x.2.1 (b0e x.2.2))))::(6,some (.one false (.cols 16 [.sc (.ints .i64 (b.row ((sortS b.cs).getD k ⟨#[]⟩)))])))::bkR b,7⟩) (fun x=>x.1<=b.n/\x.2.2=L++liR (b.row ((sortS b.cs).getD k ⟨#[]⟩)) b.ps ((sortS b.cs).getD k ⟨#[]⟩) x.1/\x.2.2.length=x.2.1) (fun x=>b.n-x.1) (0,m,L) [0,1,2,3,4,5,6] [] wHx ⟨z0h _,(j1T L).symm,hl⟩ ?_;rintro ⟨i,m2,L2⟩ ⟨hi,hL2,hl2⟩;dsimp only at hi hL2 hl2;have hmb:m2<=1600016:=by
   have b1:=q0y b (sortS b.cs) k;have b2:=q0x (b.row ((sortS b.cs).getD k ⟨#[]⟩)) b.ps ((sortS b.cs).getD k ⟨#[]⟩) i;have b3:k*b.n<=100000*16:=Nat.mul_le_mul (by omega) hn;rw [<-hl2,hL2,y0A,hL];omega
  by_cases hi2:i<b.n
  .by_cases hz:(b.row ((sortS b.cs).getD k ⟨#[]⟩)).getD i 0=0
   .have h3:L2=L++liR (b.row ((sortS b.cs).getD k ⟨#[]⟩)) b.ps ((sortS b.cs).getD k ⟨#[]⟩) (i+1):=by simp only [liR];rw [if_pos hz];exact hL2
    repeat' ((conv=>whnf);first|refine a0a ?_|(apply bRx<;>intro h<;>try (exfalso;(try dsimp only at h);omega)))
    all_goals (conv=>whnf)
    all_goals (try simp only [c0J,y0u] at*)
    all_goals first
     |exact ⟨(i+1,m2,L2),[0,1,2,3,4,5,6],[],⟨hi2,h3,hl2⟩,(show b.n-(i+1)<b.n-i by omega),⟨rfl,⟨rfl,rfl,rfl,rfl,rfl,rfl,rfl,rfl,rfl,congrArg (fun z=>some (SV.int .i64 z)) (a0i (by omega)),trivial⟩,⟨rfl,rfl,rfl,rfl,rfl,rfl,trivial⟩⟩⟩
     |(exfalso;omega)
     |contradiction
     |trace_state
   .have h3:L2++ [⟨b.ps.getD i ⟨#[]⟩,(b.row ((sortS b.cs).getD k ⟨#[]⟩)).getD i 0,(sortS b.cs).getD k ⟨#[]⟩⟩]=L++liR (b.row ((sortS b.cs).getD k ⟨#[]⟩)) b.ps ((sortS b.cs).getD k ⟨#[]⟩) (i+1):=by simp only [liR];rw [if_neg hz,hL2,i1V]
    have h4:(L2++ [(⟨b.ps.getD i ⟨#[]⟩,(b.row ((sortS b.cs).getD k ⟨#[]⟩)).getD i 0,(sortS b.cs).getD k ⟨#[]⟩⟩:Px)]).length=m2+1:=by rw [y0A,hl2];rfl
    have h5:=k0l L2 ⟨b.ps.getD i ⟨#[]⟩,(b.row ((sortS b.cs).getD k ⟨#[]⟩)).getD i 0,(sortS b.cs).getD k ⟨#[]⟩⟩;have h6:(some (HB.one false (pxB (m2+1) ⟨(b0e L2).p++ [b.ps.getD i ⟨#[]⟩],(b0e L2).a++ [(b.row ((sortS b.cs).getD k ⟨#[]⟩)).getD i 0],(b0e L2).c++ [(sortS b.cs).getD k ⟨#[]⟩]⟩)):Option HB)=some (.one false (pxB (m2+1) (b0e (L2++ [⟨b.ps.getD i ⟨#[]⟩,(b.row ((sortS b.cs).getD k ⟨#[]⟩)).getD i 0,(sortS b.cs).getD k ⟨#[]⟩⟩])))):=by rw [h5]
    repeat' ((conv=>whnf);first|refine a0a ?_|(apply bRx<;>intro h<;>try (exfalso;(try dsimp only at h);omega)))
    all_goals (conv=>whnf)
    all_goals (try simp only [c0J,y0u] at*)
    all_goals first
     |exact ⟨(i+1,m2+1,_),[0,1,2,3,4,8,6],[],⟨hi2,h3,h4⟩,(show b.n-(i+1)<b.n-i by omega),⟨rfl,⟨rfl,rfl,rfl,rfl,rfl,rfl,rfl,rfl,rfl,congrArg (fun z=>some (SV.int .i64 z)) (a0i (by omega)),trivial⟩,⟨rfl,h6,rfl,rfl,rfl,rfl,trivial⟩⟩⟩
     |(exfalso;omega)
     |contradiction
     |trace_state
  .have ei:i=b.n:=by omega
   subst ei;repeat' ((conv=>whnf);first|refine a0a ?_|(apply bRx<;>intro h<;>try (exfalso;(try dsimp only at h);omega)))
   all_goals (conv=>whnf)
   all_goals (try simp only [c0J] at*)
   all_goals first
    |exact ⟨(k+1,m2,L2),[0,1,2,3,4,5],[],⟨hk2,hL2.trans hstep.symm,hl2⟩,(show b.m-(k+1)<b.m-k by omega),⟨rfl,⟨rfl,rfl,rfl,congrArg (fun z=>some (SV.int .i64 z)) (a0i (by omega)),rfl,trivial⟩,⟨rfl,rfl,rfl,rfl,rfl,trivial⟩⟩⟩
    |(exfalso;omega)
    |trace_state
 .have e:k=b.m:=by omega
  subst e;have e2:L=b.list:=hL;subst e2;rw [hl];repeat' ((conv=>whnf);first|refine a0a ?_|(apply bRx<;>intro h<;>try (exfalso;(try dsimp only at h);omega)))
  all_goals (conv=>whnf)
  all_goals first
   |exact rOx [0,1,2,3,5] (a0c a0b)
   |(exfalso;omega)
   |trace_state
end
section
attribute [local irreducible] a0q a0r a0j a0R
theorem k0m (l:List Int) (i k:Nat) (x:Int) (h:i<l.length):(l.set i x).getD k 0=if k=i then x else l.getD k 0:=by
 by_cases e:k=i
 .subst e;rw [if_pos rfl,List.getD,h1C h];rfl
 .rw [if_neg e,List.getD,h1J (fun q=>e q.symm)];rfl
end
section
attribute [local irreducible] a0q a0r a0j a0R
end
section
attribute [local irreducible] a0q a0r a0j a0R
end
section
attribute [local irreducible] a0q a0r a0j a0R
end
section
attribute [local irreducible] a0q a0r a0j a0R
end
section
attribute [local irreducible] a0q a0r a0j a0R
def g1D (f t:ByteArray) (n d:Int):Int:=
 if d0k f=false\/d0k t=false\/f=t then 11 else if n<1\/1099511627776<n\/d<1\/1099511627776<d then 4 else 0
attribute [irreducible] g1D
end
section
attribute [local irreducible] a0q a0r a0j a0R
end
section
attribute [local irreducible] a0q a0r a0j a0R
end
section
attribute [local irreducible] a0q a0r a0j a0R
end
section
attribute [local irreducible] a0q a0r a0j a0R
end
section
attribute [local irreducible] a0q a0r a0j a0R
end
section
attribute [local irreducible] a0q a0r a0j a0R
structure Rt where
 f:ByteArray
 t:ByteArray
 n:Int
 d:Int
def Rt.z:Rt:=⟨⟨#[]⟩,⟨#[]⟩,0,0⟩
def Rt.sv (r:Rt):SV:= .agg [.str r.f,.str r.t,.int .i64 r.n,.int .i64 r.d]
structure RL where
 f:List ByteArray
 t:List ByteArray
 n:List Int
 d:List Int
 l:Nat
def RL.at (q:RL) (i:Nat):Rt:=⟨q.f.getD i ⟨#[]⟩,q.t.getD i ⟨#[]⟩,q.n.getD i 0,q.d.getD i 0⟩
def RL.H (q:RL):a0h:= [(0,some (GB glT)),(1,some (.one true (.cols q.l [.sc (.strs q.f),.sc (.strs q.t),.sc (.ints .i64 q.n),.sc (.ints .i64 q.d)])))]
def RL.fits (q:RL) (f t:ByteArray) (i:Nat):Prop:=(q.at i).f=f/\(q.at i).t=t/\g1D (q.at i).f (q.at i).t (q.at i).n (q.at i).d=0
instance (q:RL) (f t:ByteArray) (i:Nat):Decidable (q.fits f t i):=by unfold RL.fits;infer_instance
end
section
attribute [local irreducible] a0q a0r a0j a0R
end
section
attribute [local irreducible] a0q a0r a0j a0R
end
section
attribute [local irreducible] a0q a0r a0j a0R
theorem k0n (j:Nat):z16.getD j 0=0:=by
 rw [List.getD,i1f];split<;>rfl
end
section
attribute [local irreducible] a0q a0r a0j a0R
def g1E:ByteArray:=⟨#[69,85,82]⟩
def g1W:ByteArray:=⟨#[85,83,68]⟩
def p3:List ByteArray:= [⟨#[97]⟩,⟨#[98]⟩,⟨#[99]⟩]
def k1:Bk:=⟨3,p3,1,[g1E],[[-100,100,0,0,0,0,0,0,0,0,0,0,0,0,0,0]],[0],1⟩
def k2:Bk:=⟨3,p3,1,[g1E],[[-100,70,30,0,0,0,0,0,0,0,0,0,0,0,0,0]],[0],1⟩
theorem z0y (s:ByteArray):sortS [s]= [s]:=r0W (List.Perm.refl _) (i1e _ _)
end
section
structure BkC (b:Bk):Prop where
 cl:b.cs.length=b.m
 vl:b.vs.length=b.m
 nd:b.cs.Nodup
theorem k0o {b:Bk} (h:BkC b) {c:ByteArray} {j:Nat} (hj:b.cs[j]? =some c):b.row c=b.vs.getD j z16:=by
 unfold Bk.row;rw [Go.Sy.sidx_of_get h.nd hj]
theorem l0N {b:Bk} (h:BkC b) {c:ByteArray} (hc:¬c∈b.cs):b.row c=z16:=by
 unfold Bk.row;have:¬a0l b.cs c<b.cs.length:=fun q=>hc (Go.Sy.sidx_lt.1 q)
 rw [List.getD,p0J (by rw [h.vl,<-h.cl];omega)];rfl
theorem e1L {b:Bk} (h:BkC b) {P:List Int->Prop} (hz:P z16) (hr:∀c,P (b.row c)) (i:Nat):P (b.vs.getD i z16):=by
 by_cases e:i<b.m
 .have hj:b.cs[i]? =some (b.cs[i]'(by rw [h.cl];exact e)):=j0I _;have:=hr (b.cs[i]'(by rw [h.cl];exact e));rw [k0o h hj] at this;exact this
 .rw [List.getD,p0J (by rw [h.vl];omega)];exact hz
theorem w0v {b:Bk} (h:BkC b) (c:ByteArray) (r:List Int):BkC (b.put c r):=by
 have hle:=Go.Sy.sidx_le b.cs c;by_cases e:a0l b.cs c<b.m
 .have e2:a0l b.cs c<b.cs.length:=by rw [h.cl];exact e
  refine ⟨?_,?_,?_⟩
  .show (a0U _ _ _).length=if _ then _ else _
   rw [if_pos e,e0V,if_pos e2];exact h.cl
  .show (a0U _ _ _).length=if _ then _ else _
   rw [if_pos e];unfold a0U;rw [if_pos (by rw [h.vl];exact e),h1N];exact h.vl
  .show (a0U _ _ _).Nodup;rw [e0V,if_pos e2];exact h.nd
 .have e2:¬a0l b.cs c<b.cs.length:=by rw [h.cl];exact e
  refine ⟨?_,?_,?_⟩
  .show (a0U _ _ _).length=if _ then _ else _
   rw [if_neg e,e0V,if_neg e2,y0A,h.cl];rfl
  .show (a0U _ _ _).length=if _ then _ else _
   rw [if_neg e];unfold a0U;rw [if_neg (by rw [h.vl];exact e),y0A,h.vl];rfl
  .show (a0U _ _ _).Nodup;rw [e0V,if_neg e2];refine h1Z.2 ⟨h.nd,by simp,fun x hx y hy=> ?_⟩;simp only [y0E] at hy;subst hy;intro q;subst q;exact e2 (Go.Sy.sidx_lt.2 hx)
theorem w0w {b:Bk} (h:BkC b) (c:ByteArray) (r:List Int) (c':ByteArray):(b.put c r).row c'=if c'=c then r else b.row c':=by
 have hC:=w0v h c r;have hle:=Go.Sy.sidx_le b.cs c;by_cases e:a0l b.cs c<b.m
 .have e2:a0l b.cs c<b.cs.length:=by rw [h.cl];exact e
  have ecs:(b.put c r).cs=b.cs:=by show a0U _ _ _=_;rw [e0V,if_pos e2]
  have evs:(b.put c r).vs=b.vs.set (a0l b.cs c) r:=by show a0U _ _ _=_;unfold a0U;rw [if_pos (by rw [h.vl];exact e)]
  show (b.put c r).vs.getD (a0l (b.put c r).cs c') z16=_;rw [ecs,evs];by_cases q:c'=c
  .subst q;rw [if_pos rfl,List.getD,h1C (by rw [h.vl];exact e)];rfl
  .rw [if_neg q];have:a0l b.cs c≠a0l b.cs c':=fun w=>by
    have g1:=Go.Sy.sidx_get e2;have g2:=Go.Sy.sidx_get (l:=b.cs) (s:=c') (by rw [<-w];exact e2);rw [<-w,g1] at g2;exact q (Option.some.inj g2).symm
   rw [List.getD,h1J this];rfl
 .have e2:¬a0l b.cs c<b.cs.length:=by rw [h.cl];exact e
  have ecs:(b.put c r).cs=b.cs++ [c]:=by show a0U _ _ _=_;rw [e0V,if_neg e2]
  have evs:(b.put c r).vs=b.vs++ [r]:=by show a0U _ _ _=_;unfold a0U;rw [if_neg (by rw [h.vl];exact e)]
  by_cases q:c'=c
  .subst q;rw [if_pos rfl,k0o hC (j:=b.m) (by rw [ecs,v0k (by rw [h.cl];omega),h.cl,h1P];rfl),evs,List.getD,v0k (by rw [h.vl];omega),h.vl,h1P];rfl
  .rw [if_neg q];by_cases hm:c'∈b.cs
   .obtain ⟨j,hj⟩:=h1S.1 hm;have hjl:j<b.m:=by rw [<-h.cl];exact (g1A.1 hj).1
    rw [k0o h hj,k0o hC (j:=j) (by rw [ecs,v0f (by rw [h.cl];exact hjl)];exact hj),evs,List.getD,v0f (by rw [h.vl];exact hjl)];rfl
   .rw [l0N h hm,l0N hC (by rw [ecs];simp [hm,q])]
theorem w0x {b:Bk} (h:BkC b) (c:ByteArray) (r:List Int) (s:ByteArray):s∈(b.put c r).cs↔s∈b.cs\/s=c:=by
 show s∈a0U _ _ _↔_;rw [e0V];split
 .rename_i e;exact ⟨.inl,fun q=>q.elim id (fun q=>by subst q;exact Go.Sy.sidx_lt.1 e)⟩
 .simp
theorem e1M {b:Bk} (h:BkC b) (c:ByteArray):BkC (b.del c):=by
 by_cases e:a0l b.cs c<b.m
 .refine ⟨?_,?_,?_⟩
  .show (b.cs.eraseIdx _).length=if _ then _ else _
   rw [if_pos e,List.length_eraseIdx_of_lt (by rw [h.cl];exact e),h.cl]
  .show (b.vs.eraseIdx _).length=if _ then _ else _
   rw [if_pos e,List.length_eraseIdx_of_lt (by rw [h.vl];exact e),h.vl]
  .exact h.nd.sublist (i1n _ _)
 .refine ⟨?_,?_,?_⟩
  .show (b.cs.eraseIdx _).length=if _ then _ else _
   rw [if_neg e,h1o (by rw [h.cl];omega),h.cl]
  .show (b.vs.eraseIdx _).length=if _ then _ else _
   rw [if_neg e,h1o (by rw [h.vl];omega),h.vl]
  .exact h.nd.sublist (i1n _ _)
theorem q0z {b:Bk} (h:BkC b) (c s:ByteArray):s∈(b.del c).cs↔s∈b.cs/\s≠c:=by
 show s∈b.cs.eraseIdx _↔_;constructor
 .intro q;refine ⟨(i1n _ _).subset q,fun w=> ?_⟩;subst w;obtain ⟨j,hj⟩:=h1S.1 q;rw [f1E] at hj;by_cases e:j<a0l b.cs s
  .rw [if_pos e] at hj;have:=Go.Sy.sidx_of_get h.nd hj;omega
  .rw [if_neg e] at hj;have:=Go.Sy.sidx_of_get h.nd hj;omega
 .rintro ⟨q,w⟩;obtain ⟨j,hj⟩:=h1S.1 q;have hne:j≠a0l b.cs c:=fun e=>by
   have hl:a0l b.cs c<b.cs.length:=by rw [<-e];exact (g1A.1 hj).1
   have g:=Go.Sy.sidx_get hl;rw [<-e,hj] at g;exact w (Option.some.inj g)
  refine h1S.2 ?_;by_cases e:j<a0l b.cs c
  .exact ⟨j,by rw [f1E,if_pos e];exact hj⟩
  .exact ⟨j-1,by rw [f1E,if_neg (by omega),show j-1+1=j by omega];exact hj⟩
theorem c1C {b:Bk} (h:BkC b) (c c':ByteArray):(b.del c).row c'=if c'=c then z16 else b.row c':=by
 have hC:=e1M h c;by_cases q:c'=c
 .subst q;rw [if_pos rfl,l0N hC (fun w=>((q0z h c' c').1 w).2 rfl)]
 .rw [if_neg q];by_cases hm:c'∈b.cs
  .obtain ⟨j,hj⟩:=h1S.1 hm;have hne:j≠a0l b.cs c:=fun e=>by
    have hl:a0l b.cs c<b.cs.length:=by rw [<-e];exact (g1A.1 hj).1
    have g:=Go.Sy.sidx_get hl;rw [<-e,hj] at g;exact q (Option.some.inj g)
   rw [k0o h hj];have ecs:(b.del c).cs=b.cs.eraseIdx (a0l b.cs c):=rfl;have evs:(b.del c).vs=b.vs.eraseIdx (a0l b.cs c):=rfl;by_cases e:j<a0l b.cs c
   .rw [k0o hC (j:=j) (by rw [ecs,f1E,if_pos e];exact hj),evs,List.getD,f1E,if_pos e];rfl
   .rw [k0o hC (j:=j-1) (by rw [ecs,f1E,if_neg (by omega),show j-1+1=j by omega];exact hj),evs,List.getD,f1E,if_neg (by omega),show j-1+1=j by omega];rfl
  .rw [l0N h hm,l0N hC (fun w=>hm ((q0z h c c').1 w).1)]
theorem g1e {b:Bk} (h:BkC b) (c:ByteArray) (r:List Int):BkC (b.mv1 c r):=by
 unfold Bk.mv1;split
 .exact e1M (w0v h c r) c
 .exact w0v h c r
theorem h0V {b:Bk} (h:BkC b) (c:ByteArray) (r:List Int) (c':ByteArray):(b.mv1 c r).row c'=if c'=c then r else b.row c':=by
 unfold Bk.mv1;by_cases e:r=z16
 .rw [if_pos e,c1C (w0v h c r),w0w h];by_cases q:c'=c
  .rw [if_pos q,if_pos q,e]
  .rw [if_neg q,if_neg q]
 .rw [if_neg e,w0w h]
theorem w0y {b:Bk} (h:BkC b) (c:ByteArray) (r:List Int) (s:ByteArray):s∈(b.mv1 c r).cs↔(s∈b.cs/\s≠c)\/(s=c/\r≠z16):=by
 unfold Bk.mv1;by_cases e:r=z16
 .rw [if_pos e,q0z (w0v h c r),w0x h];constructor
  .rintro ⟨q|q,w⟩
   .exact .inl ⟨q,w⟩
   .exact absurd q w
  .rintro (q|q)
   .exact ⟨.inl q.1,q.2⟩
   .exact absurd e q.2
 .rw [if_neg e,w0x h];constructor
  .rintro (q|q)
   .by_cases w:s=c
    .exact .inr ⟨w,e⟩
    .exact .inl ⟨q,w⟩
   .exact .inr ⟨q,e⟩
  .rintro (q|q)
   .exact .inl q.1
   .exact .inr q.1
structure BkI (b:Bk) (B:Int):Prop where
 C:BkC b
 n16:b.n<=16
 psl:b.ps.length=b.n
 nz:∀c,c∈b.cs->b.row c≠z16
 c3:∀c,c∈b.cs->d0k c=true
 rl:∀c,(b.row c).length=16
 rb:∀c j,-B<=(b.row c).getD j 0/\(b.row c).getD j 0<=B
 rs:∀c,(b.row c).sum=0
 rt:∀c j,b.n<=j->(b.row c).getD j 0=0
theorem BkI.ok {b:Bk} {B:Int} (h:BkI b B) (hB:B<=4503599627370496):b.Ok:=by
 have h0:=h.rb ⟨#[]⟩ 0;refine ⟨h.n16,h.psl,e1L h.C (P:=fun r=>r.length=16) rfl h.rl,fun i j=> ?_⟩;refine e1L h.C (P:=fun r=> -4503599627370496<=r.getD j 0/\r.getD j 0<=4503599627370496) ?_ (fun c=> ?_) i
 .show _<=z16.getD j 0/\z16.getD j 0<=_;rw [k0n];decide
 .show-4503599627370496<=(b.row c).getD j 0/\(b.row c).getD j 0<=4503599627370496;have:=h.rb c j;omega
theorem BkI.cok {b:Bk} {B:Int} (h:BkI b B) (hm:b.m<=100000):b.Cok:=by
 refine ⟨hm,fun s hs=> ?_,h.C.nd⟩;have:=h.c3 s hs;unfold d0k at this;simp only [k0P,decide_eq_true_eq] at this;omega
theorem c1D {b:Bk} {B:Int} (h:BkI b B) (c:ByteArray):c∈b.cs↔b.row c≠z16:=
 ⟨h.nz c,fun q=>Classical.byContradiction fun w=>q (l0N h.C w)⟩
theorem w0z (l:List Int) (i:Nat) (x:Int) (h:i<l.length):(l.set i x).sum=l.sum-l.getD i 0+x:=by
 induction l generalizing i with
 |nil=>simp at h
 |cons y l ih=>
  cases i with
  |zero=>simp only [List.set_cons_zero,List.sum_cons,List.getD_cons_zero];omega
  |succ i=>
   simp only [y0x] at h;simp only [List.set_cons_succ,List.sum_cons,i1w];rw [ih i (by omega)];omega
theorem o0J {r:List Int} {F T:Nat} {a:Int} (hl:r.length=16) (hF:F<16) (hT:T<16) (hne:F≠T) (j:Nat):(h0i r F T a).getD j 0=r.getD j 0+((if j=F then-a else 0)+(if j=T then a else 0)):=by
 unfold h0i;rw [k0m _ _ _ _ (by rw [h1N,hl];exact hT),k0m _ _ _ _ (by rw [hl];exact hF)];by_cases e:j=T
 .subst e;rw [if_pos rfl,if_neg (fun q=>hne q.symm),if_pos rfl];omega
 .rw [if_neg e,if_neg e];by_cases e2:j=F
  .subst e2;rw [if_pos rfl,if_pos rfl];omega
  .rw [if_neg e2,if_neg e2];omega
theorem w0A {r:List Int} {F T:Nat} {a:Int} (hl:r.length=16) (hF:F<16) (hT:T<16) (hne:F≠T):(h0i r F T a).sum=r.sum:=by
 unfold h0i;rw [w0z _ _ _ (by rw [h1N,hl];exact hT),w0z _ _ _ (by rw [hl];exact hF),k0m _ _ _ _ (by rw [hl];exact hF),if_neg (fun q=>hne q.symm)];omega
end
section
def stE (b:Bk) (f t c:ByteArray) (a:Int):Int:=
 if idI b.ps f b.n<0\/idI b.ps t b.n<0 then 6
 else if idI b.ps f b.n=idI b.ps t b.n then 4
 else if e0q a c≠0 then e0q a c
 else if a<0 then 4 else 0
theorem w0B {b:Bk} {f t c:ByteArray} {a:Int} (h:stE b f t c a=0):a0l b.ps f<b.n/\a0l b.ps t<b.n/\a0l b.ps f≠a0l b.ps t/\d0k c=true/\0<=a/\a<=4503599627370496/\e0q a c=0:=by
 unfold stE at h;split at h
 .cases h
 .rename_i h1;split at h
  .cases h
  .rename_i h2;split at h
   .rename_i h3;exact absurd h h3
   .rename_i h3;split at h
    .cases h
    .rename_i h4;have h3':e0q a c=0:=by simpa using h3
     have hm:=m0O a c;rw [h3'] at hm;have g1:a0l b.ps f<b.n:=by
      rcases a1K (a0l b.ps f) b.n with q|q
      .exact q
      .exact absurd (Or.inl (by rw [h0j (by omega)];decide)) h1
     have g2:a0l b.ps t<b.n:=by
      rcases a1K (a0l b.ps t) b.n with q|q
      .exact q
      .exact absurd (Or.inr (by rw [h0j (by omega)];decide)) h1
     rw [i0s g1,i0s g2] at h2;rcases hm with hm|hm
     .omega
     .exact ⟨g1,g2,by omega,hm.2.1,by omega,hm.2.2.2,h3'⟩
theorem b1c (b:Bk) (f t c:ByteArray) (a:Int):mvE b f t c a=if stE b f t c a≠0 then stE b f t c a else if k0k ((b.row c).getD (a0l b.ps f) 0-a)=true/\k0k ((b.row c).getD (a0l b.ps t) 0+a)=true then 0 else 4:=by
 unfold mvE stE;split
 .rfl
 .split
  .rfl
  .split
   .rfl
   .split
    .rfl
    .rfl
theorem g1f {b:Bk} {B B':Int} (h:BkI b B) {f t c:ByteArray} {a:Int} (hs:stE b f t c a=0) (hB:B<=B') (h1: -B'<=(b.row c).getD (a0l b.ps f) 0-a/\(b.row c).getD (a0l b.ps f) 0-a<=B') (h2: -B'<=(b.row c).getD (a0l b.ps t) 0+a/\(b.row c).getD (a0l b.ps t) 0+a<=B'):BkI (b.mv1 c (h0i (b.row c) (a0l b.ps f) (a0l b.ps t) a)) B':=by
 obtain ⟨hF,hT,hne,hc,ha,_⟩:=w0B hs;have hn:=h.n16;have hps:(b.mv1 c (h0i (b.row c) (a0l b.ps f) (a0l b.ps t) a)).ps=b.ps:=by unfold Bk.mv1;split<;>rfl
 have hnn:(b.mv1 c (h0i (b.row c) (a0l b.ps f) (a0l b.ps t) a)).n=b.n:=by unfold Bk.mv1;split<;>rfl
 have hg:=o0J (a:=a) (h.rl c) (show a0l b.ps f<16 by omega) (show a0l b.ps t<16 by omega) hne;refine ⟨g1e h.C _ _,by rw [hnn];exact hn,by rw [hps,hnn];exact h.psl,fun s q=> ?_,fun s q=> ?_,fun s=> ?_,fun s j=> ?_,fun s=> ?_,fun s j q=> ?_⟩
 .rw [w0y h.C] at q;rw [h0V h.C];rcases q with q|q
  .rw [if_neg q.2];exact h.nz s q.1
  .rw [if_pos q.1];exact q.2
 .rw [w0y h.C] at q;rcases q with q|q
  .exact h.c3 s q.1
  .rw [q.1];exact hc
 .rw [h0V h.C];split
  .rw [h1N,h1N];exact h.rl c
  .exact h.rl s
 .rw [h0V h.C];split
  .rw [hg j];have:=h.rb c j;by_cases e1:j=a0l b.ps f
   .rw [if_pos e1,if_neg (by omega),e1];omega
   .by_cases e2:j=a0l b.ps t
    .rw [if_neg e1,if_pos e2,e2];omega
    .rw [if_neg e1,if_neg e2];omega
  .have:=h.rb s j;omega
 .rw [h0V h.C];split
  .rw [w0A (h.rl c) (by omega) (by omega) hne];exact h.rs c
  .exact h.rs s
 .rw [hnn] at q;rw [h0V h.C];split
  .rw [hg j,if_neg (by omega),if_neg (by omega),h.rt c j q];rfl
  .exact h.rt s j q
theorem z0z (b:Bk) (f t c:ByteArray) (a:Int):(b.mv f t c a).ps=b.ps/\(b.mv f t c a).n=b.n:=by
 unfold Bk.mv Bk.mv1;split
 .split<;>exact ⟨rfl,rfl⟩
 .exact ⟨rfl,rfl⟩
theorem g1F (b:Bk) (f t c:ByteArray) (a:Int):(b.mv f t c a).m<=b.m+1:=by
 have hp:∀r,(b.put c r).m<=b.m+1:=fun r=>by
  unfold Bk.put;dsimp only;split<;>omega
 have hd:∀b':Bk,(b'.del c).m<=b'.m:=fun b'=>by
  unfold Bk.del;dsimp only;split<;>omega
 unfold Bk.mv Bk.mv1;split
 .split
  .exact f1X (hd _) (hp _)
  .exact hp _
 .omega
theorem g1G {b:Bk} (h:BkI b 4503599627370496) (f t c:ByteArray) (a:Int):BkI (b.mv f t c a) 4503599627370496:=by
 by_cases e:mvE b f t c a=0
 .have e2:=e;rw [b1c] at e2;by_cases s:stE b f t c a=0
  .rw [if_neg (by simpa using s)] at e2;split at e2
   .rename_i g;rw [o0I,o0I] at g;unfold Bk.mv;rw [if_pos e];exact g1f h s (Int.le_refl _) g.1 g.2
   .cases e2
  .rw [if_pos s] at e2;exact absurd e2 s
 .rw [i0r e];exact h
def dM (b:Bk) (f t c:ByteArray) (a:Int) (c':ByteArray) (j:Nat):Int:=if stE b f t c a=0/\c'=c then (if j=a0l b.ps f then-a else 0)+(if j=a0l b.ps t then a else 0) else 0
theorem e1N {b:Bk} {B:Int} (h:BkI b B) {f t c:ByteArray} {a:Int} (he:mvE b f t c a=stE b f t c a) (c':ByteArray) (j:Nat):((b.mv f t c a).row c').getD j 0=(b.row c').getD j 0+dM b f t c a c' j:=by
 unfold dM;by_cases s:stE b f t c a=0
 .obtain ⟨hF,hT,hne,hc,ha,_⟩:=w0B s;have hn:=h.n16;unfold Bk.mv;rw [if_pos (by rw [he];exact s),h0V h.C];by_cases q:c'=c
  .rw [if_pos q,if_pos ⟨s,q⟩,o0J (h.rl c) (by omega) (by omega) hne,q]
  .rw [if_neg q,if_neg (fun w=>q w.2)];omega
 .rw [i0r (by rw [he];exact s),if_neg (fun w=>s w.1)];omega
structure Mv where
 f:ByteArray
 t:ByteArray
 a:Int
 c:ByteArray
abbrev Bk.go (b:Bk) (m:Mv):Bk:=b.mv m.f m.t m.c m.a
def Bk.all (b:Bk) (M:List Mv):Bk:=M.foldl Bk.go b
end
section
attribute [local irreducible] a0q a0r a0j a0R
end
section
attribute [local irreducible] a0q a0r a0j a0R
theorem o0K {k:Nat} (h:k<9223372036854775807):IntKind.i64.wrap ((k:Int)+1)=((k+1:Nat):Int):=by rw [a0m (by omega) (by omega)];rfl
theorem s0g (ps:List ByteArray) (n:Nat) (hl:ps.length=n):FC Tryz.prog 2 49 [.sl 1 0 0 n] [(1,some (.one true (.cols n [.sc (.strs ps)])))] (t0I ps):=by
 by_cases h16:16<n
 .unfold t0I b0R;rw [hl,if_pos h16,if_pos (by decide)];refine fEx Tryz.func49 ?_;repeat' ((conv=>whnf);first|refine a0a ?_|(apply bRx<;>intro h<;>try (exfalso;(try dsimp only at h);omega)))
  all_goals (conv=>whnf)
  all_goals first
   |exact rOx [0,1] a0b
   |(exfalso;omega)
   |trace_state
 .exact c1w ps n hl (by omega)
theorem m0X {ps:List ByteArray}:∀{n k:Nat},nwK ps n=0->k<=n->nwK ps k=0
 |0,k,h,hk=>by rw [show k=0 by omega];rfl
 |n+1,k,h,hk=>by
  have h0:nwK ps n=0:=by
   simp only [nwK] at h;by_cases q:nwK ps n=0
   .exact q
   .rw [if_pos q] at h;exact h
  by_cases e:k=n+1
  .rw [e];exact h
  .exact m0X h0 (by omega)
theorem h0k {ps:List ByteArray} (h:b0R ps=0):ps.length<=16/\ps.Nodup/\∀s∈ps,nmB s=true:=by
 unfold b0R at h;split at h
 .cases h
 .have hE:∀k,k<ps.length->nwE ps k=0:=fun k hk=>by
   have h1:=m0X h (show k+1<=ps.length from hk);have h0:=m0X h (show k<=ps.length by omega);simp only [nwK] at h1
   rwa [if_neg (by simpa using h0)] at h1
  refine ⟨by omega,?_,fun s hs=> ?_⟩
  .refine h1u.2 fun i j hi hj hij e=> ?_
   have:=hE j hj;unfold nwE at this;split at this
   .cases this
   .split at this
    .cases this
    .rename_i g;have gj:ps.getD j ⟨#[]⟩=ps[j]:=by rw [List.getD,j0I hj];rfl
     have hm:ps[j]∈ps.take j:=by
      rw [<-e];exact h1x.2 ⟨i,by rw [d1I];omega,by rw [i1m]⟩
     have hlt:=Go.Sy.sidx_lt.2 hm;rw [d1I,j1S (by omega)] at hlt;rw [gj] at g;unfold idI at g;rw [if_pos hlt] at g;omega
  .obtain ⟨k,hk,rfl⟩:=h1A hs;have:=hE k hk;unfold nwE at this;have gj:ps.getD k ⟨#[]⟩=ps[k]:=by rw [List.getD,j0I hk];rfl
   rw [gj] at this;cases q:nmB ps[k] with
   |true=>rfl
   |false=>rw [q,if_pos rfl] at this;cases this
theorem c1E {ps:List ByteArray} (h:b0R ps=0):BkI (nwB ps) 0:=by
 have hr:∀c,(nwB ps).row c=z16:=fun c=>rfl
 refine ⟨⟨rfl,rfl,h1M⟩,(h0k h).1,b0K ps,fun c q=>absurd q (h1l),fun c q=>absurd q (h1l),fun c=>rfl,fun c j=> ?_,fun c=>rfl,fun c j _=> ?_⟩
 .rw [hr,k0n];decide
 .rw [hr,k0n]
abbrev bkX (ro:Bool) (np:Nat) (ps:List ByteArray) (b:Bk):a0h:= [(1,bkC true 2 3 np),(2,some (.one true (.cols np [.sc (.strs ps)]))),(3,bkM ro b)]
theorem o0L {b:Bk} (h:BkI b 4503599627370496) {np:Nat} {ps:List ByteArray} (hn:b.n=np) (hp:b.ps=ps) (f t c:ByteArray) (a:Int):FC Tryz.prog 4 243 [.ptr 1 0 0 0,.str f,.str t,.agg [.int .i64 a,.str c]] (bkX false np ps b) (a0f (.int .i64 (mvE b f t c a)) [(3,bkM false (b.mv f t c a))] 4):=by
 subst hn hp;exact z0v b (h.ok (Int.le_refl _)) f t c a
theorem w0C {b:Bk} (h:BkI b 4503599627370496) {np:Nat} {ps:List ByteArray} (hn:b.n=np) (hp:b.ps=ps) (hm:b.m<=100000):FC Tryz.prog 4 75 [.ptr 1 0 0 0] (bkX true np ps b) (a0f (.sl 4 0 0 b.list.length) [(4,some (.one false (pxB b.list.length (b0e b.list))))] 5):=by
 subst hn hp;exact z0x b (h.ok (Int.le_refl _)) (h.cok hm)
theorem BkI.up {b:Bk} {B B':Int} (h:BkI b B) (hB:B<=B'):BkI b B':=by
 have g:=h.rb;exact ⟨h.C,h.n16,h.psl,h.nz,h.c3,h.rl,fun c j=>by have:=g c j;omega,h.rs,h.rt⟩
end
section
attribute [local irreducible] a0q a0r a0j a0R
theorem s0h {α:Type} {l:List α} {n:Nat} (h:l.length=n):seg 0 n l=l:=by
 unfold seg;rw [j1d,i1D (by omega)]
theorem w0D (n:Nat) (l:List ByteArray) (hl:l.length=n) (hn:n<=1000000):FC Tryz.prog 2 50 [.sl 1 0 0 n] [(1,some (.one true (.cols n [.sc (.strs l)])))] (a0f (.sl 2 0 0 n) [(2,some (.one false (.cols n [.sc (.strs l)])))] 3):=by
 cases n with
 |zero=>
  obtain rfl:=i1j hl;refine r0y rfl ?_;refine fEx Tryz.func50 ?_;repeat' ((conv=>whnf);first|refine a0a ?_|(apply bRx<;>intro h<;>try (exfalso;(try dsimp only at h);omega))|(refine And.intro ?_ ?_))
  all_goals (conv=>whnf)
  all_goals first
   |exact d0R (fun _ _ _ h=> .inl h) (rOx [0,1] a0b)
   |exact d0R (fun _ _ _ h=> .inr h) (rOx [0,1,3] (a0c a0b))
   |decide
 |succ n=>
  refine fEx Tryz.func50 ?_;repeat' ((conv=>whnf);first|refine a0a ?_|(apply bRx<;>intro h<;>try (exfalso;(try dsimp only at h);omega)))
  all_goals (conv=>whnf)
  all_goals (rw [a1J (n+1),s0h hl];exact rOx [0,1,3] (a0c a0b))
abbrev bk0:Bk:=⟨0,[],0,[],[],[],0⟩
abbrev f1G (b:Bk):Blk:= .obj (.map false false b.m [.strs b.cs] [.arrs 16 .i64 b.vs] b.bs b.ck)
abbrev cyC (ro:Bool) (hc hp hb hd np:Nat) (cut:Int):Option HB:=some (.one ro (.cells [.ptr hc 0 0 0,.int .i64 cut,.sl hp 0 0 np,.map hb 0,.map hd 0]))
abbrev cyP (ro:Bool) (n:Nat) (ps:List ByteArray):Option HB:=some (.one ro (.cols n [.sc (.strs ps)]))
abbrev cyB (ro:Bool) (h m:Nat) (ds:List Int):Option HB:=some (.one ro (.obj (.map false false m [.ints .i64 ds] [.ptrs h m] (List.range m) m)))
def f7 (hp hm np:Nat) (x:Nat):Blk:= .cells [.sl hp x 0 np,.map hm x]
def f8 (np:Nat) (sp:List ByteArray) (x:Nat):Blk:= .cols np [.sc (.strs sp)]
def f9 (B:List Bk) (x:Nat):Blk:=f1G (B.getD x bk0)
abbrev fmB (ro:Bool) (m:Nat) (f:Nat->Blk):Option HB:=some (.fam ro (fun x=>x<m) f)
def cnE (cut:Int) (ps:List ByteArray):Int:=if cut<0\/86400<cut then 4 else b0R ps
def cnO (cut:Int) (ps:List ByteArray) (n:Nat):SV->a0h->Nat->Prop:=if cnE cut ps=0 then a0f (.tup [.ptr 3 0 0 0,.int .i64 0]) [(3,cyC false 1 4 5 6 n cut),(4,cyP false n ps),(5,cyB false 7 0 []),(6,tmM false 0 []),(7,fmB false 0 (f7 8 9 n)),(8,fmB false 0 (f8 n (sortS ps))),(9,fmB false 0 (f9 []))] 10 else a0f (.tup [.nptr,.int .i64 (cnE cut ps)]) [] 3
theorem b1d (cut:Int) (ps:List ByteArray) (n:Nat) (hl:ps.length=n):FC Tryz.prog 3 20 [.ptr 1 0 0 0,.int .i64 cut,.sl 2 0 0 n] [(2,some (.one true (.cols n [.sc (.strs ps)])))] (cnO cut ps n):=by
 have c1:=s0g ps n hl;unfold cnO cnE;by_cases h:cut<0\/86400<cut
 .rw [if_pos h,if_neg (by decide)];refine fEx Tryz.func20 ?_;repeat' ((conv=>whnf);first|refine a0a ?_|(apply bRx<;>intro h<;>try (exfalso;(try dsimp only at h);omega)))
  all_goals (conv=>whnf)
  all_goals first
   |exact rOx [0,1,2] a0b
   |(exfalso;omega)
   |trace_state
 rw [if_neg h];unfold t0I at c1;by_cases he:b0R ps=0
 .rw [if_neg (by rw [he];simp)] at c1;rw [if_pos he];have c2:=w0D n ps hl (by have:=(h0k he).1;omega);refine fEx Tryz.func20 ?_;repeat' ((conv=>whnf);first|refine cOx (l:= [0,2]) c1 ?_|refine cOx (l:= [0,2]) c2 ?_|refine a0a ?_|(apply bRx<;>intro h<;>try (exfalso;(try dsimp only at h);omega)))
  all_goals (conv=>whnf)
  all_goals first
   |(exfalso;omega)
   |exact e0z (l:= [0,1,2,9,6,7,8,10,11,12]) [.relab (fun _ _=>none) (fun _=>0) ((7,cyB false 10 0 [])::gdN 10 0 0 [⟨0,0,f7 11 12 n⟩,⟨0,0,f8 n (sortS ps)⟩,⟨0,0,f9 []⟩]) [] 3] ⟨f0w (n:=10) (th:=7) [⟨0,0,f7 11 12 n⟩,⟨0,0,f8 n (sortS ps)⟩,⟨0,0,f9 []⟩] (by decide) rfl (m0E rfl (fun i hi=>by omega)),rfl,rfl,⟨rfl,rfl,rfl,rfl,rfl,rfl,rfl,trivial⟩⟩ (a0c (a0c (a0c (a0c (a0u (a0u (a0u a0b)))))))
   |trace_state
 .rw [if_pos he] at c1;rw [if_neg he];generalize b0R ps=e at*;refine fEx Tryz.func20 ?_;repeat' ((conv=>whnf);first|refine cOx (l:= [0,2]) c1 ?_|refine a0a ?_|(apply bRx<;>intro h<;>try (exfalso;(try dsimp only at h);omega)))
  all_goals (conv=>whnf)
  all_goals first
   |exact rOx [0,1,2] a0b
   |(exfalso;omega)
   |trace_state
end
section
attribute [local irreducible] a0q a0r a0j a0R
theorem b1e (p:Int->Bool):∀(k:Nat) (d:Int),nxK p k d<0\/(d<=nxK p k d/\nxK p k d<d+(k:Int)/\p (nxK p k d)=true)
 |0,d=> .inl (by simp [nxK])
 |k+1,d=>by
  simp only [nxK];split
  .rename_i h;exact .inr ⟨by omega,by omega,h⟩
  .rcases b1e p k (d+1) with h|⟨h1,h2,h3⟩
   .exact .inl h
   .exact .inr ⟨by omega,by omega,h3⟩
theorem w0E {hs:List Int} {d:Int} (h:¬nxI hs d<0):d<=nxI hs d/\nxI hs d<=99999/\i0I hs (nxI hs d)=true:=by
 rcases b1e (i0I hs) (100000-d).toNat d with q|⟨h1,h2,h3⟩
 .exact absurd q h
 .have h4:=h3;unfold i0I at h4;simp only [k0P] at h4;exact ⟨h1,(f0b.1 h4.1).2,h3⟩
def ofI (hs:List Int) (cut t:Int):Int:=if g0m t<0 then-1 else if i0I hs (g0m t)=true/\w0p t<cut then g0m t else nxI hs (g0m t+1)
def ofV (x:Int):SV:=if x<0 then .tup [.int .i64 0,.int .i64 14] else .tup [.int .i64 x,.int .i64 0]
abbrev cyR (np hn:Nat) (cut:Int) (hs:List Int):a0h:= [(1,cyC true 2 4 5 6 np cut),(2,w0r true 3),(3,tmM true hn hs)]
theorem s0i (np hn:Nat) (cut:Int) (hs:List Int) (hh:hs.length=hn) (d:Int) (hd:0<=d) (hd2:d<=99999):FC Tryz.prog 10 241 [.ptr 1 0 0 0,.int .i64 d] (cyR np hn cut hs) (a0f (ofV (nxI hs (d+1))) [] 10):=by
 have e:IntKind.i64.wrap (d+1)=d+1:=a0m (by omega) (by omega);have c:=z0w hn hs hh (d+1);have hv:(if isD (d+1)=true then nxV (nxI hs (d+1)) else nxV (-1))=nxV (nxI hs (d+1)):=by
  cases h:isD (d+1) with
  |true=>rw [if_pos rfl]
  |false=>rw [if_neg (by simp),m0W (by have:=a1Z.1 h;omega)]
 rw [hv] at c;unfold nxV at c;unfold ofV;by_cases h:nxI hs (d+1)<0
 .rw [if_pos h] at c⊢;refine fEx Tryz.func241 ?_;repeat' ((conv=>whnf);first|(simp only [e])|refine cOx (l:= [0,2,3]) c ?_|refine a0a ?_|(apply bRx<;>intro h<;>try (exfalso;(try dsimp only at h);omega)))
  all_goals (conv=>whnf)
  all_goals first
   |exact rOx [0,1,2,3,4,5,6,7,8,9] a0b
   |(exfalso;omega)
   |trace_state
 .rw [if_neg h] at c⊢;refine fEx Tryz.func241 ?_;repeat' ((conv=>whnf);first|(simp only [e])|refine cOx (l:= [0,2,3]) c ?_|refine a0a ?_|(apply bRx<;>intro h<;>try (exfalso;(try dsimp only at h);omega)))
  all_goals (conv=>whnf)
  all_goals first
   |exact rOx [0,1,2,3,4,5,6,7,8,9] a0b
   |(exfalso;omega)
   |trace_state
theorem m0Y {t:Int} (h:¬g0m t<0):okT t=true/\0<=g0m t/\g0m t<=99999/\0<=w0p t:=by
 unfold g0m w0p at*;by_cases q:okT t=true
 .rw [if_pos q] at h⊢;rw [if_pos q];have:=f0b.1 (e0s.1 q).2.2;exact ⟨q,this.1,this.2,by omega⟩
 .rw [if_neg q] at h;omega
theorem g1g (np hn:Nat) (cut:Int) (hs:List Int) (hh:hs.length=hn) (t:Int):FC Tryz.prog 10 240 [.ptr 1 0 0 0,.int .i64 t] (cyR np hn cut hs) (a0f (ofV (ofI hs cut t)) [] 10):=by
 have c1:=w0q t;unfold ofI;by_cases h:g0m t<0
 .rw [if_pos h];generalize g0m t=d at*;refine fEx Tryz.func240 ?_;repeat' ((conv=>whnf);first|refine cPx c1 ?_|refine a0a ?_|(apply bRx<;>intro h<;>try (exfalso;(try dsimp only at h);omega)))
  all_goals (conv=>whnf)
  all_goals first
   |exact rOx [0,1,2,3,4,5,6,7,8,9] a0b
   |(exfalso;omega)
   |trace_state
 .have hd:=m0Y h;rw [if_neg h];have c2:=f0c hn hs hh (g0m t);have c3:=s0i np hn cut hs hh (g0m t) hd.2.1 hd.2.2.1;generalize g0m t=d at*;generalize w0p t=s at*;cases hb:i0I hs d with
  |true=>
   rw [hb] at c2;by_cases hq:s<cut
   .rw [if_pos ⟨rfl,hq⟩];unfold ofV;rw [if_neg h];refine fEx Tryz.func240 ?_;repeat' ((conv=>whnf);first|refine cPx c1 ?_|refine cOx (l:= [0,2,3]) c2 ?_|refine a0a ?_|(apply bRx<;>intro h<;>try (exfalso;(try dsimp only at h);omega)))
    all_goals (conv=>whnf)
    all_goals first
     |exact rOx [0,1,2,3,4,5,6,7,8,9] a0b
     |(exfalso;omega)
     |trace_state
   .rw [if_neg (fun w=>hq w.2)];unfold ofV at c3⊢;by_cases hx:nxI hs (d+1)<0
    .rw [if_pos hx] at c3⊢;refine fEx Tryz.func240 ?_;repeat' ((conv=>whnf);first|refine cPx c1 ?_|refine cOx (l:= [0,2,3]) c2 ?_|refine cOx (l:= [0,1,2,3,4,5,6,7,8,9]) c3 ?_|refine a0a ?_|(apply bRx<;>intro h<;>try (exfalso;(try dsimp only at h);omega)))
     all_goals (conv=>whnf)
     all_goals first
      |exact rOx [0,1,2,3,4,5,6,7,8,9] a0b
      |(exfalso;omega)
      |trace_state
    .rw [if_neg hx] at c3⊢;refine fEx Tryz.func240 ?_;repeat' ((conv=>whnf);first|refine cPx c1 ?_|refine cOx (l:= [0,2,3]) c2 ?_|refine cOx (l:= [0,1,2,3,4,5,6,7,8,9]) c3 ?_|refine a0a ?_|(apply bRx<;>intro h<;>try (exfalso;(try dsimp only at h);omega)))
     all_goals (conv=>whnf)
     all_goals first
      |exact rOx [0,1,2,3,4,5,6,7,8,9] a0b
      |(exfalso;omega)
      |trace_state
  |false=>
   rw [hb] at c2;rw [if_neg (fun w=>by simp at w)];unfold ofV at c3⊢;by_cases hx:nxI hs (d+1)<0
   .rw [if_pos hx] at c3⊢;refine fEx Tryz.func240 ?_;repeat' ((conv=>whnf);first|refine cPx c1 ?_|refine cOx (l:= [0,2,3]) c2 ?_|refine cOx (l:= [0,1,2,3,4,5,6,7,8,9]) c3 ?_|refine a0a ?_|(apply bRx<;>intro h<;>try (exfalso;(try dsimp only at h);omega)))
    all_goals (conv=>whnf)
    all_goals first
     |exact rOx [0,1,2,3,4,5,6,7,8,9] a0b
     |(exfalso;omega)
     |trace_state
   .rw [if_neg hx] at c3⊢;refine fEx Tryz.func240 ?_;repeat' ((conv=>whnf);first|refine cPx c1 ?_|refine cOx (l:= [0,2,3]) c2 ?_|refine cOx (l:= [0,1,2,3,4,5,6,7,8,9]) c3 ?_|refine a0a ?_|(apply bRx<;>intro h<;>try (exfalso;(try dsimp only at h);omega)))
    all_goals (conv=>whnf)
    all_goals first
     |exact rOx [0,1,2,3,4,5,6,7,8,9] a0b
     |(exfalso;omega)
     |trace_state
end
section
attribute [local irreducible] a0q a0r a0j a0R sortI
theorem z0A (n:Nat) (l:List Int) (hn:n<4611686018427387904):FC Tryz.prog 2 214 [.sl 1 0 0 n] [(1,some (.one false (.cols n [.sc (.ints .i64 l)])))] (a0f (.tup []) [(1,some (.one false (.cols n [.sc (.ints .i64 (sortI l))])))] 2):=
 y0G ⟨fun blk off cap ss W hH hblk hsz=>AnyM.slices_Sort_int Tryz.sortI blk off cap ss W hH hblk hsz,fun p cap W=>AnyM.slices_Sort_int_none Tryz.sortI p cap W⟩ (e0O Tryz.func214 (by kernel_rfl) (by kernel_rfl)) n l hn
def opL (ds cd:List Int) (sn:List Nat):List Int:=(sn.reverse.map (fun i=>ds.getD i 0)).filter (fun t=> !decide (t∈cd))
def h0W (ds cd:List Int):List Int:=sortI (ds.filter (fun t=> !decide (t∈cd)))
theorem c1F {ds cd:List Int} {i:Nat} {sn:List Nat} (h:decide (ds.getD i 0∈cd)=false):opL ds cd (i::sn)=opL ds cd sn++ [ds.getD i 0]:=by
 unfold opL;rw [List.reverse_cons,f1T,i1h];simp only [e1F,h1W,i1b,j1U,h,Bool.not_false,if_true]
theorem e1O {ds cd:List Int} {i:Nat} {sn:List Nat} (h:decide (ds.getD i 0∈cd)=true):opL ds cd (i::sn)=opL ds cd sn:=by
 unfold opL;rw [List.reverse_cons,f1T,i1h];simp only [e1F,h1W,i1b,j1U,h,Bool.not_true,h1K,if_false,j1T]
theorem c1G (ds cd:List Int) (sn:List Nat):(opL ds cd sn).length<=sn.length:=by
 unfold opL;refine f1X (i1S _ _) ?_;simp
theorem e1P {m:Nat} {ds cd:List Int} {sn:List Nat} (hk:ds.length=m) (hd:sn.Nodup) (hl:∀i∈sn,i<m) (ha:∀i,i<m->i∈sn):sortI (opL ds cd sn)=h0W ds cd:=by
 unfold h0W opL;refine k0e (List.Perm.filter _ ?_);have:=((List.reverse_perm sn).trans (l0x hd hl ha)).map (fun i=>ds.getD i 0)
 rwa [<-hk,f0R] at this
abbrev opR (np m nc:Nat) (cut:Int) (ds cd:List Int):a0h:= [(1,cyC true 2 4 5 6 np cut),(5,cyB true 7 m ds),(6,tmM true nc cd)]
theorem c1H (np m nc:Nat) (cut:Int) (ds cd:List Int) (hds:ds.length=m) (hcd:cd.length=nc) (hm:m<=100000):FC Tryz.prog 10 212 [.ptr 1 0 0 0] (opR np m nc cut ds cd) (a0f (.sl 10 0 0 (h0W ds cd).length) [(10,some (.one false (.cols (h0W ds cd).length [.sc (.ints .i64 (h0W ds cd))])))] 11):=by
 refine fEx Tryz.func212 ?_;repeat' ((conv=>whnf);first|refine a0a ?_|(apply bRx<;>intro h<;>try (exfalso;(try dsimp only at h);omega)))
 all_goals (conv=>whnf)
 refine a0o (fun sn:List Nat=>⟨[(0,.ptr 1 0 0 0),(11,.ptr 10 0 0 0),(3,.sl 11 0 0 (opL ds cd sn).length)],(10,some (.one false (.obj (.iter 5 0 (List.range m) m sn))))::(11,some (.one false (.cols (opL ds cd sn).length [.sc (.ints .i64 (opL ds cd sn))])))::opR np m nc cut ds cd,12⟩) (fun sn=>sn.Nodup/\∀i∈sn,i<m) (fun sn=>m-sn.length) [] [0,1,2,3,4,5,6,7,8,9,10,11] [.slot 3 [.sc (.ints .i64 [])]] wHx ⟨h1M,by simp⟩ ?_;rintro sn ⟨hnd,hb⟩;have hsl:=e0P _ sn hnd hb;have htl:=c1G ds cd sn;have cs:=z0A (opL ds cd sn).length (opL ds cd sn) (by omega);have hg:∀d,(List.replicate nc true).getD (a0G cd d) false=decide (d∈cd):=s0d hcd;repeat' ((conv=>whnf);first|(refine ⟨⟨rfl,rfl⟩,fun i hi hni=> ?_,fun hall=> ?_⟩)|refine cOx (l:= [0,11]) cs ?_|refine a0a ?_|(apply bRx<;>intro h<;>try (exfalso;(try dsimp only at h);omega)))
 all_goals (conv=>whnf)
 all_goals (try simp only [hg] at h)
 .have hlt:=c0k hnd hb hi hni;refine ⟨i::sn,[0,1,2,3,4,5,6,7,8,9,10,13],[],⟨h1t.2 ⟨hni,hnd⟩,fun x hx=> ?_⟩,by simp only [y0x];omega,?_⟩
  .rcases v0e.1 hx with rfl|hx
   .exact hi
   .exact hb x hx
  .rw [c1F (by simpa using h),y0A];exact ⟨rfl,⟨rfl,rfl,rfl,trivial⟩,⟨rfl,rfl,rfl,rfl,rfl,trivial⟩⟩
 .have hlt:=c0k hnd hb hi hni;refine ⟨i::sn,[0,1,2,3,4,5,6,7,8,9,10,11],[],⟨h1t.2 ⟨hni,hnd⟩,fun x hx=> ?_⟩,by simp only [y0x];omega,?_⟩
  .rcases v0e.1 hx with rfl|hx
   .exact hi
   .exact hb x hx
  .rw [e1O (by simpa using h)];exact ⟨rfl,⟨rfl,rfl,rfl,trivial⟩,⟨rfl,rfl,rfl,rfl,rfl,trivial⟩⟩
 .have ed:=e1P (cd:=cd) hds hnd hb hall;have el:(opL ds cd sn).length=(h0W ds cd).length:=by rw [<-ed,e0S]
  rw [ed,el];exact rOx [0,1,2,3,4,5,6,7,8,9,11] (a0c a0b)
theorem w0F {B:List Bk} {m i np:Nat} {sp:List ByteArray} (hi:i<m) (h:BkI (B.getD i bk0) 4503599627370496) (hn:(B.getD i bk0).n=np) (hp:(B.getD i bk0).ps=sp) (hm:(B.getD i bk0).m<=100000):FC Tryz.prog 4 75 [.ptr 1 i 0 0] [(1,fmB true m (f7 2 3 np)),(2,fmB true m (f8 np sp)),(3,fmB true m (f9 B))] (a0f (.sl 4 0 0 (B.getD i bk0).list.length) [(4,some (.one false (pxB (B.getD i bk0).list.length (b0e (B.getD i bk0).list))))] 5):=by
 have c:=j0G [(1,⟨i,fun x=>x<m,f7 2 3 np⟩),(2,⟨i,fun x=>x<m,f8 np sp⟩),(3,⟨i,fun x=>x<m,f9 B⟩)] (by
  refine ⟨⟨by decide,by decide,_,_,rfl,hi,?_,.inl rfl⟩,⟨by decide,by decide,_,_,rfl,hi,rfl,.inl rfl⟩,⟨by decide,by decide,_,_,rfl,hi,rfl,.inl rfl⟩,trivial⟩;show Blk.cells [.sl 2 i 0 np,.map 3 i]= .cells [.sl 2 (0+i) 0 np,.map 3 (0+i)];rw [a1J]) (by exact ⟨rfl,rfl,rfl,trivial⟩) (by exact ⟨rfl,trivial⟩) (a0c a0b) (w0C h hn hp hm)
 have e:SV.mems (fmu [(1,⟨i,fun x=>x<m,f7 2 3 np⟩),(2,⟨i,fun x=>x<m,f8 np sp⟩),(3,⟨i,fun x=>x<m,f9 B⟩)]) [.ptr 1 0 0 0]= [.ptr 1 i 0 0]:=by
  show [SV.ptr 1 (0+i) 0 0]=_;rw [a1J]
 rw [e] at c;exact c
theorem w0G:a0V Tryz.prog 75 [.nptr] .nsl:=by
 refine fEx Tryz.func75 ?_;repeat' ((conv=>whnf);first|refine a0a ?_|(apply bRx<;>intro h<;>try (exfalso;(try dsimp only at h);omega)))
 all_goals (conv=>whnf)
 all_goals exact a0d rfl
def h0v (ds:List Int) (B:List Bk) (d:Int):List Px:=if d∈ds then (B.getD (a0G ds d) bk0).list else []
structure BksI (ds:List Int) (B:List Bk) (m np:Nat) (sp:List ByteArray):Prop where
 dl:ds.length=m
 bl:B.length=m
 nd:ds.Nodup
 I:∀i,i<m->BkI (B.getD i bk0) 4503599627370496/\(B.getD i bk0).n=np/\(B.getD i bk0).ps=sp/\(B.getD i bk0).m<=100000
abbrev psR (np m:Nat) (cut:Int) (ds:List Int) (B:List Bk) (sp:List ByteArray):a0h:= [(1,cyC true 2 4 5 6 np cut),(5,cyB true 7 m ds),(7,fmB true m (f7 8 9 np)),(8,fmB true m (f8 np sp)),(9,fmB true m (f9 B))]
theorem f0e {np m:Nat} {ds:List Int} {B:List Bk} {sp:List ByteArray} (hb:BksI ds B m np sp) (cut:Int) (d:Int):FC Tryz.prog 10 36 [.ptr 1 0 0 0,.int .i64 d] (psR np m cut ds B sp) (a0f (.sl 10 0 0 (h0v ds B d).length) [(10,some (.one false (pxB (h0v ds B d).length (b0e (h0v ds B d)))))] 11):=by
 unfold h0v;by_cases h:d∈ds
 .have hi:a0G ds d<m:=by rw [<-hb.dl];exact a0W.2 h
  obtain ⟨b1,b2,b3,b4⟩:=hb.I _ hi;rw [if_pos h];have c:=w0F (B:=B) hi b1 b2 b3 b4;have hfd:d0L false m [.ptrs 7 m] (a0G ds d)= .ptr 7 (a0G ds d) 0 0:=by
   show (bif decide (a0G ds d<m) then SV.ptr 7 (a0G ds d) 0 0 else .nptr)=_;rw [decide_eq_true hi];rfl
  refine fEx Tryz.func36 ?_;repeat' ((conv=>whnf);first|(rw [hfd])|refine cOx (l:= [0,7,8,9]) c ?_|refine a0a ?_|(apply bRx<;>intro h<;>try (exfalso;(try dsimp only at h);omega)))
  all_goals (conv=>whnf)
  all_goals first
   |exact rOx [0,1,2,3,4,5,6,7,8,9,10] (a0c a0b)
   |(exfalso;omega)
   |trace_state
 .have hi:¬a0G ds d<m:=by rw [<-hb.dl];exact fun q=>h (a0W.1 q)
  rw [if_neg h];refine r0y rfl ?_;have hfd:d0L false m [.ptrs 7 m] (a0G ds d)= .nptr:=by
   show (bif decide (a0G ds d<m) then SV.ptr 7 (a0G ds d) 0 0 else .nptr)=_;rw [decide_eq_false hi];rfl
  have c:=w0G;refine fEx Tryz.func36 ?_;repeat' ((conv=>whnf);first|(rw [hfd])|refine cPx c ?_|refine a0a ?_|(apply bRx<;>intro h<;>try (exfalso;(try dsimp only at h);omega)))
  all_goals (conv=>whnf)
  all_goals first
   |exact d0R (fun _ _ _ h=> .inl h) (rOx [0,1,2,3,4,5,6,7,8,9] a0b)
   |(exfalso;omega)
   |trace_state
end
section
attribute [local irreducible] a0q a0r a0j a0R sortI
def clE (hs ds cd:List Int) (d:Int):Int:=if i0I hs d=false then 14 else if d∈cd then 23 else if 0<(h0W ds cd).length/\(h0W ds cd).getD 0 0<d then 8 else 0
abbrev clH (np m hn nc:Nat) (cut:Int) (hs ds cd:List Int) (B:List Bk) (sp:List ByteArray):a0h:= [(1,cyC true 2 4 5 6 np cut),(2,w0r true 3),(3,tmM true hn hs),(5,cyB true 7 m ds),(6,tmM false nc cd),(7,fmB true m (f7 8 9 np)),(8,fmB true m (f8 np sp)),(9,fmB true m (f9 B))]
def clO (hs ds cd:List Int) (B:List Bk) (d:Int):SV->a0h->Nat->Prop:=if clE hs ds cd d=0 then a0f (.tup [.sl 10 0 0 (h0v ds B d).length,.int .i64 0]) [(6,tmM false (cd++ [d]).length (cd++ [d])),(10,some (.one false (pxB (h0v ds B d).length (b0e (h0v ds B d)))))] 11 else a0f (.tup [.nsl,.int .i64 (clE hs ds cd d)]) [(6,tmM false cd.length cd)] 10
theorem z0B {np m hn nc:Nat} {hs ds cd:List Int} {B:List Bk} {sp:List ByteArray} (hb:BksI ds B m np sp) (hh:hs.length=hn) (hc:cd.length=nc) (hm:m<=100000) (cut d:Int):FC Tryz.prog 10 211 [.ptr 1 0 0 0,.int .i64 d] (clH np m hn nc cut hs ds cd B sp) (clO hs ds cd B d):=by
 subst hc;have c1:=f0c hn hs hh d;have c2:=c1H np m cd.length cut ds cd hb.dl rfl hm;have c3:=f0e hb cut d;have hg:=s0d (n:=cd.length) (ks:=cd) rfl d;have hput:=e1K (s:=cd) rfl d;unfold clO clE;cases hq:i0I hs d with
 |false=>
  rw [hq] at c1;rw [if_pos rfl,if_neg (by decide)];refine fEx Tryz.func211 ?_;repeat' ((conv=>whnf);first|refine cOx (l:= [0,2,3]) c1 ?_|refine a0a ?_|(apply bRx<;>intro h<;>try (exfalso;(try dsimp only at h);omega)))
  all_goals (conv=>whnf)
  all_goals first
   |exact rOx [0,1,2,3,4,5,6,7,8,9] (a0c a0b)
   |(exfalso;omega)
   |trace_state
 |true=>
  rw [hq] at c1;rw [if_neg (show¬true=false by simp)];by_cases hd:d∈cd
  .rw [decide_eq_true hd] at hg;rw [if_pos hd,if_neg (by decide)];refine fEx Tryz.func211 ?_;repeat' ((conv=>whnf);first|refine cOx (l:= [0,2,3]) c1 ?_|refine a0a ?_|(apply bRx<;>intro h<;>try (exfalso;(try dsimp only at h);omega)))
   all_goals (conv=>whnf)
   all_goals first
    |exact rOx [0,1,2,3,4,5,6,7,8,9] (a0c a0b)
    |(exfalso;rw [hg] at h;cases h;done)
    |trace_state
  .rw [decide_eq_false hd] at hg;rw [if_neg hd] at hput⊢;have hol:(h0W ds cd).length<=100000:=by
    unfold h0W;rw [e0S];exact f1X (i1S _ _) (by rw [hb.dl];exact hm)
   generalize h0W ds cd=S at*;by_cases hS:0<S.length/\S.getD 0 0<d
   .rw [if_pos hS,if_neg (by decide)];refine fEx Tryz.func211 ?_;repeat' ((conv=>whnf);first|refine cOx (l:= [0,2,3]) c1 ?_|refine cOx (l:= [0,1,2,3,4,5,6,7,8,9]) c2 ?_|refine a0a ?_|(apply bRx<;>intro h<;>try (exfalso;(try dsimp only at h);omega)))
    all_goals (conv=>whnf)
    all_goals first
     |exact rOx [0,1,2,3,4,5,6,7,8,9] (a0c a0b)
     |(exfalso;rw [hg] at h;cases h;done)
     |exact absurd hS.2 h
     |exact absurd ⟨by omega,h⟩ hS
     |(exfalso;omega)
     |trace_state
   .rw [if_neg hS,if_pos rfl];refine fEx Tryz.func211 ?_;repeat' ((conv=>whnf);first|refine cOx (l:= [0,2,3]) c1 ?_|refine cOx (l:= [0,1,2,3,4,5,6,7,8,9]) c2 ?_|refine cOx (l:= [0,1,2,3,4,5,6,7,8,9]) c3 ?_|refine a0a ?_|(apply bRx<;>intro h<;>try (exfalso;(try dsimp only at h);omega)))
    all_goals (conv=>whnf)
    all_goals first
     |exact a0H (l:= [0,1,2,3,4,5,6,7,8,9,10]) rfl rfl ⟨hput,rfl,trivial⟩ (a0c (a0c a0b))
     |exact a0H (l:= [0,1,2,3,4,5,6,7,8,9,11]) rfl rfl ⟨hput,rfl,trivial⟩ (a0c (a0c a0b))
     |(exfalso;rw [hg] at h;cases h;done)
     |exact absurd hS.2 h
     |exact absurd ⟨by omega,h⟩ hS
     |(exfalso;omega)
     |trace_state
end
section
attribute [local irreducible] a0q a0r a0j a0R sortI
theorem e1Q {B:List Bk} {i:Nat} (hi:i<B.length) (b:Bk) (x:Nat):(if x=i then f1G b else f9 B x)=f9 (B.set i b) x:=by
 unfold f9;by_cases e:x=i
 .subst e;rw [if_pos rfl,List.getD,h1C hi];rfl
 .rw [if_neg e,List.getD,List.getD,h1J (fun q=>e q.symm)]
theorem w0H {B:List Bk} {m i np:Nat} {sp:List ByteArray} (hi:i<m) (hB:B.length=m) (h:BkI (B.getD i bk0) 4503599627370496) (hn:(B.getD i bk0).n=np) (hp:(B.getD i bk0).ps=sp) (f t c:ByteArray) (a:Int):FC Tryz.prog 4 243 [.ptr 1 i 0 0,.str f,.str t,.agg [.int .i64 a,.str c]] [(1,fmB true m (f7 2 3 np)),(2,fmB true m (f8 np sp)),(3,fmB false m (f9 B))] (a0f (.int .i64 (mvE (B.getD i bk0) f t c a)) [(3,fmB false m (f9 (B.set i ((B.getD i bk0).mv f t c a))))] 4):=by
 have c0:=j0G [(1,⟨i,fun x=>x<m,f7 2 3 np⟩),(2,⟨i,fun x=>x<m,f8 np sp⟩),(3,⟨i,fun x=>x<m,f9 B⟩)] (by
  refine ⟨⟨by decide,by decide,_,_,rfl,hi,?_,.inl rfl⟩,⟨by decide,by decide,_,_,rfl,hi,rfl,.inl rfl⟩,⟨by decide,by decide,_,_,rfl,hi,rfl,.inr ⟨rfl,_,rfl⟩⟩,trivial⟩;show Blk.cells [.sl 2 i 0 np,.map 3 i]= .cells [.sl 2 (0+i) 0 np,.map 3 (0+i)];rw [a1J]) (by exact ⟨rfl,rfl,rfl,trivial⟩) (by exact ⟨rfl,trivial⟩) (a0c a0b) (o0L h hn hp f t c a)
 have e:SV.mems (fmu [(1,⟨i,fun x=>x<m,f7 2 3 np⟩),(2,⟨i,fun x=>x<m,f8 np sp⟩),(3,⟨i,fun x=>x<m,f9 B⟩)]) [.ptr 1 0 0 0,.str f,.str t,.agg [.int .i64 a,.str c]]= [.ptr 1 i 0 0,.str f,.str t,.agg [.int .i64 a,.str c]]:=by
  show [SV.ptr 1 (0+i) 0 0,.str f,.str t,.agg [.int .i64 a,.str c]]=_;rw [a1J]
 rw [e] at c0;have e2:f9 (B.set i ((B.getD i bk0).mv f t c a))=fun x=>if x=i then f1G ((B.getD i bk0).mv f t c a) else f9 B x:=funext fun x=>(e1Q (by omega) _ x).symm
 rw [e2];exact c0
abbrev w0I (h5 h7 h8 h9 np m:Nat) (ds:List Int) (B:List Bk) (sp:List ByteArray):a0h:= [(h5,cyB false h7 m ds),(h7,fmB false m (f7 h8 h9 np)),(h8,fmB false m (f8 np sp)),(h9,fmB false m (f9 B))]
theorem q0A {np m:Nat} {ds:List Int} (hds:ds.length=m) (cut d:Int) (h:d∈ds):FC Tryz.prog 10 242 [.ptr 1 0 0 0,.int .i64 d] [(1,cyC true 2 4 5 6 np cut),(5,cyB true 7 m ds)] (a0f (.tup [.ptr 7 (a0G ds d) 0 0,.int .i64 0]) [] 10):=by
 have hi:a0G ds d<m:=by rw [<-hds];exact a0W.2 h
 have hfd:d0L false m [.ptrs 7 m] (a0G ds d)= .ptr 7 (a0G ds d) 0 0:=by
  show (bif decide (a0G ds d<m) then SV.ptr 7 (a0G ds d) 0 0 else .nptr)=_;rw [decide_eq_true hi];rfl
 have hdec:decide (a0G ds d<m)=true:=decide_eq_true hi;refine fEx Tryz.func242 ?_;repeat' ((conv=>whnf);first|(rw [hfd,hdec])|refine a0a ?_|(apply bRx<;>intro h<;>try (exfalso;(try dsimp only at h);omega)))
 all_goals (conv=>whnf)
 all_goals first
  |exact rOx [0,1,2,3,4,5,6,7,8,9] a0b
  |(exfalso;omega)
  |trace_state
theorem q0B {np m:Nat} {ds:List Int} {pr:List ByteArray} (hds:ds.length=m) (hp:pr.length=np) (he:b0R pr=0) (cut d:Int) (h:¬d∈ds):FC Tryz.prog 10 242 [.ptr 1 0 0 0,.int .i64 d] [(1,cyC true 2 4 5 6 np cut),(4,cyP true np pr),(5,cyB true 7 m ds)] (a0f (.tup [.ptr 10 0 0 0,.int .i64 0]) [(10,bkC false 11 12 np),(11,cyP false np (sortS pr)),(12,bkM false (nwB pr))] 13):=by
 subst hp;have hi:¬a0G ds d<m:=by rw [<-hds];exact fun q=>h (a0W.1 q)
 have hdec:decide (a0G ds d<m)=false:=decide_eq_false hi;have hfd:d0L false m [.ptrs 7 m] (a0G ds d)= .nptr:=by
  show (bif decide (a0G ds d<m) then SV.ptr 7 (a0G ds d) 0 0 else .nptr)=_;rw [hdec];rfl
 have c:=s0g pr pr.length rfl;unfold t0I at c;rw [if_neg (by rw [he];simp)] at c;refine fEx Tryz.func242 ?_;repeat' ((conv=>whnf);first|(rw [hfd,hdec])|refine cOx (l:= [0,4]) c ?_|refine a0a ?_|(apply bRx<;>intro h<;>try (exfalso;(try dsimp only at h);omega)))
 all_goals (conv=>whnf)
 all_goals first
  |exact rOx [0,1,2,3,4,5,6,7,8,9,10,11,12] (a0c (a0c (a0c a0b)))
  |(exfalso;omega)
  |trace_state
end
section
attribute [local irreducible] a0q a0r a0j a0R sortI
def mvF (hs cd:List Int):Nat->Int->Int
 |0,_=> -1
 |k+1,x=>if x<0 then-1 else if x∈cd then mvF hs cd k (nxI hs (x+1)) else x
@[irreducible] def mvD (hs cd:List Int) (x:Int):Int:=mvF hs cd 100001 x
theorem q0C {hs cd:List Int} {x:Int} (h:x<0):∀k,mvF hs cd k x= -1
 |0=>rfl
 |k+1=>by simp only [mvF];rw [if_pos h]
def ofP (x:Int):Int:=if x<0 then 0 else x
def ofQ (x:Int):Int:=if x<0 then 14 else 0
theorem s0j (x:Int):ofV x= .tup [.int .i64 (ofP x),.int .i64 (ofQ x)]:=by unfold ofV ofP ofQ;split<;>rfl
theorem b1f {hs:List Int} {cut t:Int}:ofI hs cut t<=99999:=by
 unfold ofI;split
 .omega
 .rename_i h;have:=m0Y h;split
  .omega
  .by_cases q:nxI hs (g0m t+1)<0
   .omega
   .exact (w0E q).2.1
def c0c (ds:List Int) (B:List Bk) (pr:List ByteArray) (d:Int):Bk:=if d∈ds then B.getD (a0G ds d) bk0 else nwB pr
def i0z (ds:List Int) (d:Int):List Int:=if d∈ds then ds else ds++ [d]
def o0M (ds:List Int) (B:List Bk) (d:Int) (b:Bk):List Bk:=if d∈ds then B.set (a0G ds d) b else B++ [b]
def mvX (hs ds cd:List Int) (B:List Bk) (pr:List ByteArray) (D:Int) (f t c:ByteArray) (a:Int):Int:=if D<0 then 14 else mvE (c0c ds B pr D) f t c a
def mvO (np m:Nat) (hs ds cd:List Int) (B:List Bk) (pr:List ByteArray) (D:Int) (f t c:ByteArray) (a:Int):SV->a0h->Nat->Prop:=
 if mvX hs ds cd B pr D f t c a=0 then a0f (.tup [.int .i64 D,.int .i64 0]) (w0I 5 10 11 12 np (i0z ds D).length (i0z ds D) (o0M ds B D ((c0c ds B pr D).mv f t c a)) (sortS pr)) 13
 else a0f (.tup [.int .i64 0,.int .i64 (mvX hs ds cd B pr D f t c a)]) (w0I 5 7 8 9 np m ds B (sortS pr)) 10
abbrev mvH (np m hn nc:Nat) (cut:Int) (hs ds cd:List Int) (B:List Bk) (pr:List ByteArray):a0h:=(1,cyC true 2 4 5 6 np cut)::(2,w0r true 3)::(3,tmM true hn hs)::(4,cyP true np pr)::(6,tmM true nc cd)::w0I 5 7 8 9 np m ds B (sortS pr)
theorem w0J {B:List Bk} {q:Nat} (h:q<B.length) (b:Bk):f9 (B++ [b]) q=f9 B q:=by
 unfold f9;rw [List.getD,List.getD,v0f h]
theorem w0K {B:List Bk} {m:Nat} (h:B.length=m) (b:Bk):f9 (B++ [b]) m=f1G b:=by
 unfold f9;rw [List.getD,v0k (by omega),<-h,h1P];rfl
theorem z0C {np m:Nat} {hs ds cd:List Int} {B:List Bk} {pr:List ByteArray} {D:Int} {f t c:ByteArray} {a:Int} (h:D<0):mvO np m hs ds cd B pr D f t c a=a0f (.tup [.int .i64 0,.int .i64 14]) (w0I 5 7 8 9 np m ds B (sortS pr)) 10:=by
 unfold mvO mvX;rw [if_pos h,if_neg (by decide)]
theorem w0L {np m:Nat} {hs ds cd:List Int} {B:List Bk} {pr:List ByteArray} {D:Int} {f t c:ByteArray} {a:Int} (h:¬D<0) (he:¬mvE (c0c ds B pr D) f t c a=0):mvO np m hs ds cd B pr D f t c a=a0f (.tup [.int .i64 0,.int .i64 (mvE (c0c ds B pr D) f t c a)]) (w0I 5 7 8 9 np m ds B (sortS pr)) 10:=by
 unfold mvO mvX;rw [if_neg h,if_neg he]
theorem c1I {np m:Nat} {hs ds cd:List Int} {B:List Bk} {pr:List ByteArray} {D:Int} {f t c:ByteArray} {a:Int} (h:¬D<0) (he:mvE (c0c ds B pr D) f t c a=0) (hd:D∈ds) (hm:ds.length=m):mvO np m hs ds cd B pr D f t c a=a0f (.tup [.int .i64 D,.int .i64 0]) (w0I 5 10 11 12 np m ds (B.set (a0G ds D) ((c0c ds B pr D).mv f t c a)) (sortS pr)) 13:=by
 unfold mvO mvX i0z o0M;rw [if_neg h,if_pos he,if_pos hd,if_pos hd,hm]
theorem c1J {np m:Nat} {hs ds cd:List Int} {B:List Bk} {pr:List ByteArray} {D:Int} {f t c:ByteArray} {a:Int} (h:¬D<0) (he:mvE (c0c ds B pr D) f t c a=0) (hd:¬D∈ds) (hm:ds.length=m):mvO np m hs ds cd B pr D f t c a=a0f (.tup [.int .i64 D,.int .i64 0]) (w0I 5 10 11 12 np (m+1) (ds++ [D]) (B++ [(c0c ds B pr D).mv f t c a]) (sortS pr)) 13:=by
 unfold mvO mvX i0z o0M;rw [if_neg h,if_pos he,if_neg hd,if_neg hd,y0A,hm];rfl
theorem z0D {n m h h':Nat} {R:Nat->Nat->Option (Nat×Nat)} (hn:n<=h') (h1:∀q,q<m->R h' q=some (h,q)):∀i,i<m->SLe n R ((BCol.svs (d0I h m)).at i) ((BCol.ptrs h' m).at i):=by
 intro i hi;have e1:(BCol.svs (d0I h m)).at i= .ptr h i 0 0:=e0b hi;rw [e1];exact c0G hn (h1 i hi)
theorem w0M {ds:List Int} {m:Nat} (hm:ds.length=m) {D:Int} (hd:D∈ds):(some (HB.one false (.obj (.map false false (if a0G ds D<m then m else m+1) [.ints .i64 (a0U (a0G ds D) D ds)] [.svs (a0U (a0G ds D) (.ptr 7 (a0G ds D) 0 0) (d0I 7 m))] (if a0G ds D<m then List.range m else List.range m++ [m]) (if a0G ds D<m then m else m+1)))):Option HB)=some (.one false (.obj (.map false false m [.ints .i64 ds] [.svs (d0I 7 m)] (List.range m) m))):=by
 have hi:=a0W.2 hd;rw [m0R,if_pos hi,if_pos (by omega),if_pos (by omega),y0C (by omega)]
theorem w0N {ds:List Int} {m h:Nat} (hm:ds.length=m) {D:Int} (hd:¬D∈ds):(some (HB.one false (.obj (.map false false (if a0G ds D<m then m else m+1) [.ints .i64 (a0U (a0G ds D) D ds)] [.svs (a0U (a0G ds D) (.ptr h 0 0 0) (d0I 7 m))] (if a0G ds D<m then List.range m else List.range m++ [m]) (if a0G ds D<m then m else m+1)))):Option HB)=some (.one false (.obj (.map false false (m+1) [.ints .i64 (ds++ [D])] [.svs (d0I 7 m++ [.ptr h 0 0 0])] (List.range (m+1)) (m+1)))):=by
 have hi:¬a0G ds D<ds.length:=fun q=>hd (a0W.1 q)
 have e:a0G ds D=m:=by have:=w0c ds D;omega
 rw [m0R,if_neg hi,if_neg (by omega),if_neg (by omega),e,y0D,i1Q]
theorem k0p {h5 h7 h8 h9 np m:Nat} {ds:List Int} {B:List Bk} {sp:List ByteArray}:d0A (w0I h5 h7 h8 h9 np m ds B sp):=a0c (a0u (a0u (a0u a0b)))
abbrev odD (n np:Nat) (B:List Bk) (sp:List ByteArray):List RD:= [⟨7,f7 (n+1) (n+2) np⟩,⟨8,f8 np sp⟩,⟨9,f9 B⟩]
theorem c1K {H:a0h} {n m np:Nat} {ds:List Int} {B:List Bk} {sp:List ByteArray} (hn:10<=n) (h5:a0s H 5=some (.one false (.obj (.map false false m [.ints .i64 ds] [.svs (d0I 7 m)] (List.range m) m)))) (h7:a0s H 7=fmB false m (f7 8 9 np)) (h8:a0s H 8=fmB false m (f8 np sp)) (h9:a0s H 9=fmB false m (f9 B)):
  Relab H n (rdR n m (odD n np B sp)) (fun _=>0) ((5,cyB false n m ds)::rdN n m 0 (odD n np B sp)) [7,8,9] 3:=by
 have r0:∀q,q<m->rdR n m (odD n np B sp) n q=some (7,q):=fun q hq=>i0q (D:=odD n np B sp) (i:=0) (d:=⟨7,f7 (n+1) (n+2) np⟩) rfl hq
 have r1:∀q,q<m->rdR n m (odD n np B sp) (n+1) q=some (8,q):=fun q hq=>i0q (D:=odD n np B sp) (i:=1) (d:=⟨8,f8 np sp⟩) rfl hq
 have r2:∀q,q<m->rdR n m (odD n np B sp) (n+2) q=some (9,q):=fun q hq=>i0q (D:=odD n np B sp) (i:=2) (d:=⟨9,f9 B⟩) rfl hq
 exact o0C (n:=n) (th:=5) (odD n np B sp) (by omega) h5 (m0E rfl (z0D (by omega) r0))
  ⟨⟨(show (7:Nat)≠5 by decide),_,_,h7,fun q hq=>⟨hq,b0l ⟨e0Q (by omega) (r1 q hq),p0K (by omega) (r2 q hq),trivial⟩⟩⟩,⟨(show (8:Nat)≠5 by decide),_,_,h8,fun q hq=>⟨hq,.inl rfl⟩⟩,⟨(show (9:Nat)≠5 by decide),_,_,h9,fun q hq=>⟨hq,.inl rfl⟩⟩,trivial⟩ rfl
abbrev nwD (n h np:Nat) (B:List Bk) (sp:List ByteArray):List GD:= [⟨7,h,f7 (n+1) (n+2) np⟩,⟨8,h+1,f8 np sp⟩,⟨9,h+2,f9 B⟩]
theorem c1L {H:a0h} {n m np h:Nat} {ds:List Int} {B:List Bk} {b:Bk} {sp:List ByteArray} (hn:10<=n) (hh:10<=h) (hB:B.length=m) (h5:a0s H 5=some (.one false (.obj (.map false false (m+1) [.ints .i64 ds] [.svs (d0I 7 m++ [.ptr h 0 0 0])] (List.range (m+1)) (m+1))))) (h7:a0s H 7=fmB false m (f7 8 9 np)) (h8:a0s H 8=fmB false m (f8 np sp)) (h9:a0s H 9=fmB false m (f9 B)) (k7:a0s H h=bkC false (h+1) (h+2) np) (k8:a0s H (h+1)=cyP false np sp) (k9:a0s H (h+2)=bkM false b) (hdist:v0h (nwD n h np (B++ [b]) sp)=true):
  Relab H n (gdR n m (nwD n h np (B++ [b]) sp)) (fun _=>0) ((5,cyB false n (m+1) ds)::gdN n (m+1) 0 (nwD n h np (B++ [b]) sp)) [7,h,8,h+1,9,h+2] 3:=by
 have r0:∀q,q<m->gdR n m (nwD n h np (B++ [b]) sp) n q=some (7,q):=fun q hq=>e0j (D:=nwD n h np (B++ [b]) sp) (i:=0) (d:=⟨7,h,f7 (n+1) (n+2) np⟩) rfl hq
 have r1:∀q,q<m->gdR n m (nwD n h np (B++ [b]) sp) (n+1) q=some (8,q):=fun q hq=>e0j (D:=nwD n h np (B++ [b]) sp) (i:=1) (d:=⟨8,h+1,f8 np sp⟩) rfl hq
 have r2:∀q,q<m->gdR n m (nwD n h np (B++ [b]) sp) (n+2) q=some (9,q):=fun q hq=>e0j (D:=nwD n h np (B++ [b]) sp) (i:=2) (d:=⟨9,h+2,f9 (B++ [b])⟩) rfl hq
 have s0:gdR n m (nwD n h np (B++ [b]) sp) n m=some (h,0):=d0D (D:=nwD n h np (B++ [b]) sp) (i:=0) (d:=⟨7,h,f7 (n+1) (n+2) np⟩) rfl;have s1:gdR n m (nwD n h np (B++ [b]) sp) (n+1) m=some (h+1,0):=d0D (D:=nwD n h np (B++ [b]) sp) (i:=1) (d:=⟨8,h+1,f8 np sp⟩) rfl;have s2:gdR n m (nwD n h np (B++ [b]) sp) (n+2) m=some (h+2,0):=d0D (D:=nwD n h np (B++ [b]) sp) (i:=2) (d:=⟨9,h+2,f9 (B++ [b])⟩) rfl;exact f0v (n:=n) (th:=5) (nwD n h np (B++ [b]) sp) (by omega) h5 (m0E rfl (r0C (by omega) r0 s0))
  ⟨⟨(show (7:Nat)≠5 by decide),(show h≠5 by omega),⟨_,_,h7,fun q hq=>⟨hq,b0l ⟨e0Q (by omega) (r1 q hq),p0K (by omega) (r2 q hq),trivial⟩⟩⟩,_,k7,b0l ⟨e0Q (by omega) s1,p0K (by omega) s2,trivial⟩⟩,
    ⟨(show (8:Nat)≠5 by decide),(show h+1≠5 by omega),⟨_,_,h8,fun q hq=>⟨hq,.inl rfl⟩⟩,_,k8,.inl rfl⟩,
    ⟨(show (9:Nat)≠5 by decide),(show h+2≠5 by omega),⟨_,_,h9,fun q hq=>⟨hq,.inl (w0J (by rw [hB];exact hq) b)⟩⟩,_,k9,.inl (w0K hB b)⟩,trivial⟩ hdist
set_option maxHeartbeats 1000000 in
theorem w0O {np m hn nc:Nat} {hs ds cd:List Int} {B:List Bk} {pr:List ByteArray} (hb:BksI ds B m np (sortS pr)) (hh:hs.length=hn) (hc:cd.length=nc) (hp:pr.length=np) (he:b0R pr=0) (cut t:Int) (f g c:ByteArray) (a:Int):FC Tryz.prog 10 235 [.ptr 1 0 0 0,.int .i64 t,.str f,.str g,.agg [.int .i64 a,.str c]] (mvH np m hn nc cut hs ds cd B pr) (mvO np m hs ds cd B pr (mvD hs cd (ofI hs cut t)) f g c a):=by
 have c1:=g1g np hn cut hs hh t;rw [s0j] at c1;have hX:=b1f (hs:=hs) (cut:=cut) (t:=t);have hg:∀d,(List.replicate nc true).getD (a0G cd d) false=decide (d∈cd):=s0d hc;generalize ofI hs cut t=X at*;have hD:mvF hs cd 100001 X=mvD hs cd X:=by unfold mvD;rfl
 generalize mvD hs cd X=D at*;obtain ⟨K0,hK⟩:∃K:Nat,K=100001:=⟨_,rfl⟩;rw [<-hK] at hD;refine fEx Tryz.func235 ?_;repeat' ((conv=>whnf);first|refine cOx (l:= [0,1,2,3,4,5,6,7,8,9]) c1 ?_|refine a0a ?_|(apply bRx<;>intro h<;>try (exfalso;(try dsimp only at h);omega)))
 all_goals (conv=>whnf)
 refine a0o (fun x:Nat×Int=>⟨[(0,.ptr 1 0 0 0),(2,.str f),(3,.str g),(9,.ptr 10 0 0 0),(12,.int .i64 (ofP x.2)),(13,.int .i64 (ofQ x.2))],(10,some (.one false (.cells [.int .i64 a,.str c])))::mvH np m hn nc cut hs ds cd B pr,11⟩) (fun x=>mvF hs cd x.1 x.2=D/\x.2<=99999/\(x.2<0\/100001-x.2<=(x.1:Int))) (fun x=>x.1) (K0,X) [0,1,2,3,4,5,6,7,8,9,10] [] wHx ⟨hD,hX,by dsimp only;omega⟩ ?_;rintro ⟨k,x⟩ ⟨hF,hx,hk⟩;dsimp only at hF hx hk;clear hD hX hK c1;by_cases h0:x<0
 .have e1:ofP x=0:=if_pos h0;have e2:ofQ x=14:=if_pos h0;dsimp only;rw [e1,e2];rw [q0C h0] at hF;subst hF;rw [z0C (by decide)];repeat' ((conv=>whnf);first|refine a0a ?_|(apply bRx<;>intro h<;>try (exfalso;(try dsimp only at h);omega)))
  all_goals (conv=>whnf)
  all_goals first
   |exact rOx [0,1,2,3,4,5,6,7,8,9] k0p
   |(exfalso;omega)
   |trace_state
 .have e1:ofP x=x:=if_neg h0;have e2:ofQ x=0:=if_neg h0;dsimp only;rw [e1,e2];obtain ⟨k,rfl⟩:∃j,k=j+1:=⟨k-1,by omega⟩;simp only [mvF] at hF;rw [if_neg h0] at hF;have hgx:=hg x;by_cases hxc:x∈cd
  .rw [if_pos hxc] at hF;rw [decide_eq_true hxc] at hgx;have c2:=s0i np hn cut hs hh x (by omega) hx;rw [s0j] at c2;have hN:nxI hs (x+1)<=99999/\(nxI hs (x+1)<0\/x+1<=nxI hs (x+1)):=by
    by_cases q:nxI hs (x+1)<0
    .exact ⟨by omega,.inl q⟩
    .have:=w0E q;exact ⟨this.2.1,.inr this.1⟩
   generalize nxI hs (x+1)=y at*;repeat' ((conv=>whnf);first|refine cOx (l:= [0,1,2,3,4,5,6,7,8,9]) c2 ?_|refine a0a ?_|(apply bRx<;>intro h<;>try (exfalso;(try dsimp only at h);omega)))
   all_goals (conv=>whnf)
   all_goals first
    |exact ⟨(k,y),[0,1,2,3,4,5,6,7,8,9,10],[],⟨hF,hN.1,by dsimp only;omega⟩,Nat.lt_succ_self k,⟨rfl,⟨rfl,rfl,rfl,rfl,rfl,rfl,trivial⟩,⟨rfl,rfl,rfl,rfl,rfl,rfl,rfl,rfl,rfl,rfl,trivial⟩⟩⟩
    |(exfalso;rw [hgx] at h;cases h;done)
    |(exfalso;omega)
    |trace_state
  .rw [if_neg hxc] at hF;rw [decide_eq_false hxc] at hgx;subst hF;by_cases hd:x∈ds
   .have hi:a0G ds x<m:=by rw [<-hb.dl];exact a0W.2 hd
    obtain ⟨b1,b2,b3,b4⟩:=hb.I _ hi;have c3:=q0A (np:=np) hb.dl cut x hd;have c4:=w0H hi hb.bl b1 b2 b3 f g c a;have hat:c0c ds B pr x=B.getD (a0G ds x) bk0:=if_pos hd;have hput:=w0M hb.dl hd;rw [<-hat] at c4;by_cases hz:mvE (c0c ds B pr x) f g c a=0
    .rw [c1I h0 hz hd hb.dl];rw [hz] at c4;generalize (c0c ds B pr x).mv f g c a=b' at*;repeat' ((conv=>whnf);first|refine cOx (l:= [0,1,2,3,4,5,6,7,8,9]) c3 ?_|refine cOx (l:= [0,7,8,9]) c4 ?_|refine a0a ?_|(apply bRx<;>intro h<;>try (exfalso;(try dsimp only at h);omega)))
     all_goals (conv=>whnf)
     all_goals first
      |exact e0z (l:= [0,1,2,3,4,5,6,7,8,9,11,12,13]) [.relab (rdR 11 m (odD 11 np (B.set (a0G ds x) b') (sortS pr))) (fun _=>0) ((5,cyB false 11 m ds)::rdN 11 m 0 (odD 11 np (B.set (a0G ds x) b') (sortS pr))) [7,8,9] 3] ⟨c1K (n:=11) (by decide) hput rfl rfl rfl,rfl,rfl,⟨rfl,rfl,rfl,rfl,trivial⟩⟩ k0p
      |(exfalso;rw [hgx] at h;cases h;done)
      |(exfalso;omega)
      |trace_state
    .rw [w0L h0 hz];have hbs:mvE (c0c ds B pr x) f g c a≠0:=hz;have hmv:(c0c ds B pr x).mv f g c a=c0c ds B pr x:=if_neg hz;have hset:B.set (a0G ds x) (c0c ds B pr x)=B:=by
      rw [hat];refine h1s fun j=> ?_
      rw [h1r];split
      .rename_i e;subst e;rw [if_pos (by rw [hb.bl];exact hi),List.getD,j0I (by rw [hb.bl];exact hi)];rfl
      .rfl
     rw [hmv,hset] at c4;generalize mvE (c0c ds B pr x) f g c a=e at*;repeat' ((conv=>whnf);first|refine cOx (l:= [0,1,2,3,4,5,6,7,8,9]) c3 ?_|refine cOx (l:= [0,7,8,9]) c4 ?_|refine a0a ?_|(apply bRx<;>intro h<;>try (exfalso;(try dsimp only at h);omega)))
     all_goals (conv=>whnf)
     all_goals first
      |exact rOx [0,1,2,3,4,5,6,7,8,9] k0p
      |(exfalso;rw [hgx] at h;cases h;done)
      |(exfalso;omega)
      |trace_state
   .have c3:=q0B hb.dl hp he cut x hd;have hat:c0c ds B pr x=nwB pr:=if_neg hd;have c4:=o0L ((c1E he).up (B':=4503599627370496) (by decide)) hp rfl f g c a;have hput:=w0N (h:=11) hb.dl hd;rw [<-hat] at c4;by_cases hz:mvE (c0c ds B pr x) f g c a=0
    .rw [c1J h0 hz hd hb.dl];rw [hz] at c4;rw [hat] at c4;rw [hat];have hsp:(nwB pr).ps=sortS pr:=rfl;generalize hbb:(nwB pr).mv f g c a=b' at*;repeat' ((conv=>whnf);first|refine cOx (l:= [0,1,2,3,4,5,6,7,8,9]) c3 ?_|refine cOx (l:= [0,11,12,13]) c4 ?_|refine a0a ?_|(apply bRx<;>intro h<;>try (exfalso;(try dsimp only at h);omega)))
     all_goals (conv=>whnf)
     all_goals first
      |exact e0z (l:= [0,1,2,3,4,5,6,7,8,9,14,15,16]) [.relab (gdR 14 m (nwD 14 11 np (B++ [b']) (sortS pr))) (fun _=>0) ((5,cyB false 14 (m+1) (ds++ [x]))::gdN 14 (m+1) 0 (nwD 14 11 np (B++ [b']) (sortS pr))) [7,11,8,12,9,13] 3] ⟨c1L (n:=14) (h:=11) (by decide) (by decide) hb.bl hput rfl rfl rfl rfl rfl rfl rfl,rfl,rfl,⟨rfl,rfl,rfl,rfl,trivial⟩⟩ k0p
      |(exfalso;rw [hgx] at h;cases h;done)
      |(exfalso;omega)
      |trace_state
    .rw [w0L h0 hz];rw [hat] at c4 hz⊢;generalize mvE (nwB pr) f g c a=e at*;repeat' ((conv=>whnf);first|refine cOx (l:= [0,1,2,3,4,5,6,7,8,9]) c3 ?_|refine cOx (l:= [0,11,12,13]) c4 ?_|refine a0a ?_|(apply bRx<;>intro h<;>try (exfalso;(try dsimp only at h);omega)))
     all_goals (conv=>whnf)
     all_goals first
      |exact rOx [0,1,2,3,4,5,6,7,8,9] k0p
      |(exfalso;rw [hgx] at h;cases h;done)
      |(exfalso;omega)
      |trace_state
end
section
attribute [local irreducible] a0q a0r a0j a0R sortI
def k5:Bk:=⟨3,p3,1,[g1W],[[-5,5,0,0,0,0,0,0,0,0,0,0,0,0,0,0]],[0],1⟩
end
end Go.Proofs.YtpkaeknigknbgaaGreatDoor
