/- A nil slice as an argument: a contract that takes an empty slice of the last handle takes nil too. No program in sight. -/
import Derived.Test.YtlankgapiecloaaGreatDoorYNil
namespace Go.Sy
open Go.RowKit
set_option linter.unusedVariables false
def argsNil (n:Nat):List SV→List SV→Prop
 | [],[]=>True
 |a::l,b::m=>(b=a∨(a= .nsl∧b= .sl n 0 0 0))∧argsNil n l m
 |_,_=>False
theorem argsNil_ok {g g1:G} {n:Nat} (hle:G.le g g1):∀(l m:List SV) (vs:List Value),argsNil n l m→Rvs g l vs→Rvs g1 m vs
 | [],[],vs,_,h=>by simp only [Rvs] at h⊢;exact h
 |a::l,b::m,vs,hn,h=>by
  simp only [Rvs] at h⊢
  obtain ⟨v,vs',rfl,h1,h2⟩:=h
  refine ⟨v,vs',rfl,?_,argsNil_ok hle l m vs' hn.2 h2⟩
  rcases hn.1 with rfl|⟨rfl,rfl⟩
  ·exact (Rvs.mono hle [b] [v] (by simp only [Rvs];exact ⟨v,[],rfl,h1,rfl⟩))|>fun q=>by
    simp only [Rvs] at q
    obtain ⟨v2,_,e,q2,_⟩:=q
    obtain ⟨rfl,_⟩:=List.cons.inj e
    exact q2
  ·simp only [Rv] at h1⊢
   exact ⟨none,0,h1,Nat.le_refl _,.inl rfl⟩
 | [],_::_,_,hn,_=>hn.elim
 |_::_,[],_,hn,_=>hn.elim
theorem fc_argup {P:Program} {n:Nat} {f:FuncId} {args args1:List SV} {H:Heap} {cs:List BCol} {post:SV→Heap→Nat→Prop} (hl:len0 cs=true) (ha:∀{g g1:G},G.le g g1→∀vs,Rvs g args vs→Rvs g1 args1 vs) (h:FC P (n+1) f args1 ((n,some (.one true (.cols 0 cs)))::H) post):FC P n f args H post:=by
 have key:∀(g:G) (w:World) (vals:List Value),g.glob→g.upto n→Holds g H w→Rvs g args vals→
   ∃g1:G,g1.glob∧g1.upto (n+1)∧Holds g1 ((n,some (.one true (.cols 0 cs)))::H) w∧Rvs g1 args1 vals∧∀v w',Out g1 w (n+1) ((n,some (.one true (.cols 0 cs)))::H) post v w'→Out g w n H post v w':=by
  intro g w vals hg hu hH hv
  have hle:G.le g (g.add n ⟨0,0,cs.length,0⟩):=G.le_add _ (hu n 0 (Nat.le_refl _))
  have hns:∀h q ro b,Ent H h q ro b→h≠n:=by
   intro h q ro b he e
   obtain ⟨β,hb,_⟩:=hH.blk _ _ _ _ he
   rw [hu h q (by omega)] at hb;cases hb
  have hsame:∀h q,h≠n→(g.add n ⟨0,0,cs.length,0⟩) h q=g h q:=by
   intro h q hh
   simp only [G.add]
   rw [if_neg (fun x=>hh x.1)]
  have hent:∀h q ro b,Ent ((n,some (.one true (.cols 0 cs)))::H) h q ro b→(n=h∧q=0∧ro=true∧b= .cols 0 cs)∨(h≠n∧Ent H h q ro b):=by
   intro h q ro b he
   rcases ent_cons.1 he with ⟨e,hb,e1,e2,e3⟩|⟨e,he⟩
   ·cases e1
    simp only [HB.is] at e2
    exact .inl ⟨e,e2.1,e3.symm,e2.2⟩
   ·exact .inr ⟨fun x=>e x.symm,he⟩
  have hW:∀k,Wset (g.add n ⟨0,0,cs.length,0⟩) ((n,some (.one true (.cols 0 cs)))::H) k→Wset g H k:=by
   rintro k ⟨h,q,b,β,he,hb,hc,e⟩
   rcases hent _ _ _ _ he with ⟨_,_,e2,_⟩|⟨hh,he⟩
   ·cases e2
   ·exact ⟨h,q,b,β,he,by rw [←hsame h q hh];exact hb,hc,e⟩
  refine ⟨_,?_,?_,⟨?_,?_⟩,ha hle _ hv,?_⟩
  ·intro q
   obtain ⟨es,cap,e⟩:=hg q
   exact ⟨es,cap,hle _ _ _ e⟩
  ·intro h q hh
   rw [hsame h q (by omega)]
   exact hu h q (by omega)
  ·intro h q ro b he
   rcases hent _ _ _ _ he with ⟨rfl,rfl,rfl,rfl⟩|⟨hh,he⟩
   ·exact ⟨_,gdead,fun h=>by simp at h,rfl,len0_ok cs hl,fun i hi=>by simp only [Blk.has] at hi;omega,fun i j sv hi=>by simp only [Blk.has] at hi;omega,fun i j v hi=>by simp only [Blk.has] at hi;omega,fun _ i j hi=>by simp at hi,trivial⟩
   ·obtain ⟨β,hb,hB⟩:=hH.blk _ _ _ _ he
    exact ⟨β,hle _ _ _ hb,blkAt_mono hB hle (Nat.le_refl _) (fun _=>rfl)⟩
  ·intro h q h2 q2 b ro2 b2 β β2 hne he he2 hb hb2 hc hc2
   rcases hent _ _ _ _ he with ⟨_,_,e,_⟩|⟨hh,he⟩
   ·cases e
   ·rcases hent _ _ _ _ he2 with ⟨rfl,rfl,_,_⟩|⟨hh2,he2⟩
    ·rw [gdead] at hb2
     cases hb2
     simp at hc2
    ·exact hH.sep h q h2 q2 b ro2 b2 β β2 hne he he2 (by rw [←hsame h q hh];exact hb) (by rw [←hsame h2 q2 hh2];exact hb2) hc hc2
  ·rintro v w' ⟨sv,H',n',g',hp,hn,hu',hk,hv',hH',hrw,hfr,hown⟩
   refine ⟨sv,H',n',g',hp,by omega,hu',fun h q hh=> ?_,hv',hH',hrw,?_,?_⟩
   ·rw [hk h q (by omega),hsame h q (by omega)]
   ·exact ⟨hfr.os,hfr.tape,hfr.output,hfr.size,fun k hk1 hk2=>hfr.block k hk1 (fun hq=>hk2 (hW k hq))⟩
   ·intro h q b β he hb hc
    rcases hown h q b β he hb hc with hh|hh
    ·exact .inl (hW _ hh)
    ·exact .inr hh
 rcases h with ⟨hb,h⟩|h
 ·refine .inl ⟨hb,fun g w vals h1 h2 h3 h4=> ?_⟩
  obtain ⟨g1,k1,k2,k3,k4,k5⟩:=key g w vals h1 h2 h3 h4
  refine (h g1 w vals k1 k2 k3 k4).mono ?_
  rintro e w' ⟨v,rfl,ho⟩
  exact ⟨v,rfl,k5 v w' ho⟩
 ·refine .inr (fun g w vals h1 h2 h3 h4=> ?_)
  obtain ⟨g1,k1,k2,k3,k4,k5⟩:=key g w vals h1 h2 h3 h4
  obtain ⟨v,w',hr,ho⟩:=h g1 w vals k1 k2 k3 k4
  exact ⟨v,w',hr,k5 v w' ho⟩
theorem fc_argnil {P:Program} {n:Nat} {f:FuncId} {args args1:List SV} {H:Heap} {cs:List BCol} {post:SV→Heap→Nat→Prop} (hl:len0 cs=true) (ha:argsNil n args args1) (h:FC P (n+1) f args1 ((n,some (.one true (.cols 0 cs)))::H) post):FC P n f args H post:=
 fc_argup hl (fun hle vs hv=>argsNil_ok hle _ _ _ ha hv) h
theorem fc_aggnil {P:Program} {n:Nat} {f:FuncId} {l m:List SV} {H:Heap} {cs:List BCol} {post:SV→Heap→Nat→Prop} (hl:len0 cs=true) (ha:argsNil n l m) (h:FC P (n+1) f [.agg m] ((n,some (.one true (.cols 0 cs)))::H) post):FC P n f [.agg l] H post:=
 fc_argup hl (fun hle vs hv=>by
  simp only [Rvs,Rv] at hv⊢
  obtain ⟨v,vs',rfl,⟨ws,rfl,h3⟩,h2⟩:=hv
  exact ⟨_,vs',rfl,⟨ws,rfl,argsNil_ok hle _ _ _ ha h3⟩,h2⟩) h
theorem fc_ext {P:Program} {n:Nat} {f:FuncId} {args:List SV} {H H':Heap} {post:SV→Heap→Nat→Prop} (he:∀k,hget H' k=hget H k) (h:FC P n f args H post):FC P n f args H' post:=by
 have ent:∀{k q:Nat} {ro:Bool} {b:Blk},Ent H k q ro b↔Ent H' k q ro b:=by intro k q ro b;unfold Ent;rw [he k]
 have hH:∀{g:G} {w:World},Holds g H' w→Holds g H w:=fun hH=>⟨fun k q ro b e=>hH.blk k q ro b (ent.1 e),fun k q k' q' b ro' b' β β' hne e e'=>hH.sep k q k' q' b ro' b' β β' hne (ent.1 e) (ent.1 e')⟩
 have hW:∀{g:G} k,Wset g H k→Wset g H' k:=fun k ⟨h,q,b,β,e,r⟩=>⟨h,q,b,β,ent.1 e,r⟩
 have ho:∀{g:G} {w:World} {v:Value} {w':World},Out g w n H post v w'→Out g w n H' post v w':=by
  rintro g w v w' ⟨sv,H1,n',g',hp,hn,hu',hk,hv',hH',hrw,hfr,hown⟩
  refine ⟨sv,H1,n',g',hp,hn,hu',hk,hv',hH',hrw,⟨hfr.os,hfr.tape,hfr.output,hfr.size,fun k hk1 hk2=>hfr.block k hk1 (fun hq=>hk2 (hW k hq))⟩,?_⟩
  intro h q b β e hb hc
  rcases hown h q b β e hb hc with hh|hh
  ·exact .inl (hW _ hh)
  ·exact .inr hh
 rcases h with ⟨hb,h⟩|h
 ·refine .inl ⟨hb,fun g w vals h1 h2 h3 h4=>(h g w vals h1 h2 (hH h3) h4).mono ?_⟩
  rintro e w' ⟨v,rfl,hq⟩
  exact ⟨v,rfl,ho hq⟩
 ·refine .inr (fun g w vals h1 h2 h3 h4=> ?_)
  obtain ⟨v,w',hr,hq⟩:=h g w vals h1 h2 (hH h3) h4
  exact ⟨v,w',hr,ho hq⟩
end Go.Sy
