/- Maps from two strings to integers of which only a fact is known: contracts by their rows give contracts by the fact. No program in sight. -/
import Derived.Test.YtlankgapiecloaaGreatDoorYArg
namespace Go.Sy
open Go.RowKit
set_option linter.unusedVariables false
abbrev mapO (a c:List ByteArray) (v:List Int) (n:Nat):ObjS:= .map true false n [.strs a,.strs c] [.sc (.ints .i64 v)] (List.range n) n
abbrev BagQ:=List ByteArray→List ByteArray→List Int→Prop
theorem bag_to {g:G} {w:World} {β:Base} {Q:BagQ} (h:(ObjS.bag Q).Ok g w β):∃a c v n,Q a c v∧a.length=n∧c.length=n∧v.length=n∧(mapO a c v n).Ok g w β:=by
 obtain ⟨a,c,v,n,es,hq,e,k1,k2,k3,k4,k5⟩:=h
 refine ⟨a,c,v,n,hq,k2,k3,k4,es,e,k1,?_,?_,by simp,List.nodup_range,fun b hb=>by simpa using hb,fun i x hx=> ?_⟩
 ·intro y hy
  simp only [List.mem_cons,List.not_mem_nil,or_false] at hy
  rcases hy with rfl|rfl
  ·exact k2
  ·exact k3
 ·intro y hy
  simp only [List.mem_singleton] at hy
  subst hy
  exact k4
 ·obtain ⟨h1,h2,h3⟩:=k5 i x hx
  have hi:i<n:=by rw [←k1];exact (Array.getElem?_eq_some_iff.1 hx).1
  refine ⟨?_,h2,h3⟩
  rw [h1,List.getD,List.getElem?_range hi];rfl
theorem bag_from {g:G} {w:World} {β:Base} {Q:BagQ} {a c:List ByteArray} {v:List Int} {n:Nat} (hq:Q a c v) (h:(mapO a c v n).Ok g w β):(ObjS.bag Q).Ok g w β:=by
 obtain ⟨es,e,m⟩:=h
 refine ⟨a,c,v,n,es,hq,e,m.size,m.kl (.strs a) (by simp),m.kl (.strs c) (by simp),m.vl (.sc (.ints .i64 v)) (by simp),fun i x hx=> ?_⟩
 obtain ⟨h1,h2,h3⟩:=m.row i x hx
 have hi:i<n:=by rw [←m.size];exact (Array.getElem?_eq_some_iff.1 hx).1
 refine ⟨?_,h2,h3⟩
 rw [h1,List.getD,List.getElem?_range hi];rfl
theorem bagAt_to {g:G} {w:World} {β:Base} {ro:Bool} {Q:BagQ} (h:BlkAt g β ro (.obj (.bag Q)) w):∃a c v n,Q a c v∧a.length=n∧c.length=n∧v.length=n∧BlkAt g β ro (.obj (mapO a c v n)) w:=by
 obtain ⟨a,c,v,n,hq,k1,k2,k3,k⟩:=bag_to h.obj.2.2
 exact ⟨a,c,v,n,hq,k1,k2,k3,h.lt,h.es,trivial,fun i hi=>hi.elim,fun i j sv hi=>hi.elim,fun i j x hi=>hi.elim,h.rw,h.obj.1,h.obj.2.1,k⟩
theorem bagAt_from {g:G} {w:World} {β:Base} {ro:Bool} {Q:BagQ} {a c:List ByteArray} {v:List Int} {n:Nat} (hq:Q a c v) (h:BlkAt g β ro (.obj (mapO a c v n)) w):BlkAt g β ro (.obj (.bag Q)) w:=
 ⟨h.lt,h.es,trivial,fun i hi=>hi.elim,fun i j sv hi=>hi.elim,fun i j x hi=>hi.elim,h.rw,h.obj.1,h.obj.2.1,bag_from hq h.obj.2.2⟩
theorem ent_swap {H:Heap} {k:Nat} {ro:Bool} {b b':Blk} {h q:Nat} {r:Bool} {x:Blk} (he:Ent ((k,some (.one ro b))::H) h q r x):(h=k∧q=0∧r=ro∧x=b∧Ent ((k,some (.one ro b'))::H) h q r b')∨(h≠k∧Ent ((k,some (.one ro b'))::H) h q r x):=by
 rcases ent_cons.1 he with ⟨rfl,hb,e1,e2,e3⟩|⟨hne,he⟩
 ·cases e1
  exact .inl ⟨rfl,e2.1,e3.symm,e2.2,ent_cons.2 (.inl ⟨rfl,_,rfl,⟨e2.1,rfl⟩,e3⟩)⟩
 ·exact .inr ⟨fun e=>hne e.symm,ent_cons.2 (.inr ⟨hne,he⟩)⟩
theorem holds_swap {g:G} {H:Heap} {w:World} {k:Nat} {ro:Bool} {b b':Blk} (hH:Holds g ((k,some (.one ro b))::H) w) (hb:∀β,BlkAt g β ro b w→BlkAt g β ro b' w):Holds g ((k,some (.one ro b'))::H) w:=by
 refine ⟨fun h q r x he=> ?_,fun h q h' q' x r' x' β β' hne he he'=> ?_⟩
 ·rcases ent_swap (b':=b) he with ⟨rfl,rfl,rfl,rfl,he2⟩|⟨_,he2⟩
  ·obtain ⟨β,e1,e2⟩:=hH.blk _ _ _ _ he2
   exact ⟨β,e1,hb β e2⟩
  ·exact hH.blk _ _ _ _ he2
 ·have h1:∃y,Ent ((k,some (HB.one ro b))::H) h q false y:=by
   rcases ent_swap (b':=b) he with ⟨_,_,_,_,he2⟩|⟨_,he2⟩
   ·exact ⟨_,he2⟩
   ·exact ⟨_,he2⟩
  have h2:∃y,Ent ((k,some (HB.one ro b))::H) h' q' r' y:=by
   rcases ent_swap (b':=b) he' with ⟨_,_,_,_,he2⟩|⟨_,he2⟩
   ·exact ⟨_,he2⟩
   ·exact ⟨_,he2⟩
  obtain ⟨y,h1⟩:=h1
  obtain ⟨y',h2⟩:=h2
  exact hH.sep h q h' q' y r' y' β β' hne h1 h2
theorem wset_swap {g:G} {H:Heap} {k:Nat} {ro:Bool} {b b':Blk}:Wset g ((k,some (.one ro b))::H)=Wset g ((k,some (.one ro b'))::H):=by
 have key:∀(b b':Blk) x,Wset g ((k,some (.one ro b))::H) x→Wset g ((k,some (.one ro b'))::H) x:=by
  rintro b b' x ⟨h,q,y,β,he,e1,e2,e3⟩
  rcases ent_swap (b':=b') he with ⟨_,_,_,_,he2⟩|⟨_,he2⟩
  ·exact ⟨h,q,_,β,he2,e1,e2,e3⟩
  ·exact ⟨h,q,_,β,he2,e1,e2,e3⟩
 funext x
 exact propext ⟨key b b' x,key b' b x⟩
theorem owns_swap {g:G} {H:Heap} {k:Nat} {ro:Bool} {b b':Blk} {W:Nat→Prop} {w0:World} (h:Owns g ((k,some (.one ro b))::H) W w0):Owns g ((k,some (.one ro b'))::H) W w0:=by
 intro x q y β he e1 e2
 rcases ent_swap (b':=b) he with ⟨_,_,_,_,he2⟩|⟨_,he2⟩
 ·exact h x q _ β he2 e1 e2
 ·exact h x q _ β he2 e1 e2
theorem allRw_swap {H:Heap} {k:Nat} {b b':Blk} (h:allRw ((k,some (.one false b))::H)):allRw ((k,some (.one false b'))::H):=by
 intro x q r y he
 rcases ent_swap (b':=b) he with ⟨_,_,_,_,he2⟩|⟨_,he2⟩
 ·exact h _ _ _ _ he2
 ·exact h _ _ _ _ he2
section
variable {P:Program}
theorem fc_choose {α:Type} {n:Nat} {f:FuncId} {args:List SV} {H:Heap} {k:Nat} {ro:Bool} {b:Blk} {B:α→Blk} {A:α→Prop} {post post':SV→Heap→Nat→Prop}
  (hopen:∀(g:G) (w:World) (β:Base),BlkAt g β ro b w→∃x,A x∧BlkAt g β ro (B x) w)
  (hout:∀(g:G) (w w':World) (v:Value) (H0:Heap),Out g w n H0 post' v w'→Out g w n H0 post v w')
  (h:∀x,A x→FC P n f args ((k,some (.one ro (B x)))::H) post'):FC P n f args ((k,some (.one ro b))::H) post:=by
 have pick:∀(g:G) (w:World),Holds g ((k,some (.one ro b))::H) w→∃x,A x∧Holds g ((k,some (.one ro (B x)))::H) w:=by
  intro g w hH
  obtain ⟨β,e1,e2⟩:=hH.blk k 0 ro b (ent_cons.2 (.inl ⟨rfl,_,rfl,⟨rfl,rfl⟩,rfl⟩))
  obtain ⟨x,hx,e3⟩:=hopen g w β e2
  refine ⟨x,hx,?_⟩
  refine ⟨fun h q r y he=> ?_,?_⟩
  ·rcases ent_swap (b':=b) he with ⟨rfl,rfl,rfl,rfl,he2⟩|⟨_,he2⟩
   ·exact ⟨β,e1,e3⟩
   ·exact hH.blk _ _ _ _ he2
  ·intro h q h' q' y r' y' γ γ' hne he he'
   have h1:∃y,Ent ((k,some (HB.one ro b))::H) h q false y:=by
    rcases ent_swap (b':=b) he with ⟨_,_,_,_,he2⟩|⟨_,he2⟩<;>exact ⟨_,he2⟩
   have h2:∃y,Ent ((k,some (HB.one ro b))::H) h' q' r' y:=by
    rcases ent_swap (b':=b) he' with ⟨_,_,_,_,he2⟩|⟨_,he2⟩<;>exact ⟨_,he2⟩
   obtain ⟨z,h1⟩:=h1
   obtain ⟨z',h2⟩:=h2
   exact hH.sep h q h' q' z r' z' γ γ' hne h1 h2
 have back:∀(g:G) (w w':World) (v:Value) (x:α),Out g w n ((k,some (.one ro (B x)))::H) post' v w'→Out g w n ((k,some (.one ro b))::H) post v w':=by
  intro g w w' v x ho
  obtain ⟨sv,H1,n1,g',h1,h2,h3,h4,h5,h6,h7,h8,h9⟩:=hout g w w' v _ ho
  rw [wset_swap (b':=b)] at h8 h9
  exact ⟨sv,H1,n1,g',h1,h2,h3,h4,h5,h6,h7,h8,h9⟩
 by_cases hb:bodied P f
 ·left
  refine ⟨hb,fun g w vals hg hu hH hv=> ?_⟩
  obtain ⟨x,hx,hH'⟩:=pick g w hH
  rcases h x hx with h|h
  ·exact (h.2 g w vals hg hu hH' hv).mono fun e w' ⟨v,he,ho⟩=>⟨v,he,back g w w' v x ho⟩
  ·obtain ⟨v,w',hr,_⟩:=h g w vals hg hu hH' hv
   rw [run_bodied hb] at hr;cases hr
 ·right
  intro g w vals hg hu hH hv
  obtain ⟨x,hx,hH'⟩:=pick g w hH
  rcases h x hx with h|h
  ·exact absurd h.1 hb
  ·obtain ⟨v,w',hr,ho⟩:=h g w vals hg hu hH' hv
   exact ⟨v,w',hr,back g w w' v x ho⟩
structure BagX where
 a:List ByteArray
 c:List ByteArray
 v:List Int
 n:Nat
def BagX.ok (Q:BagQ) (x:BagX):Prop:=Q x.a x.c x.v∧x.a.length=x.n∧x.c.length=x.n∧x.v.length=x.n
abbrev BagX.blk (x:BagX):Blk:= .obj (mapO x.a x.c x.v x.n)
theorem out_bag {n:Nat} {g:G} {w w':World} {v:Value} {H0:Heap} {Q':BagQ} {k' n':Nat} {r:SV} {H2:Heap} (ho:Out g w n H0 (fun sv H1 n1=>∃x:BagX,Q' x.a x.c x.v∧isOut r ((k',some (.one false x.blk))::H2) n' sv H1 n1) v w'):Out g w n H0 (isOut r ((k',some (.one false (.obj (.bag Q'))))::H2) n') v w':=by
 obtain ⟨sv,H1,n1,g',⟨x,hq,rfl,rfl,rfl⟩,h2,h3,h4,h5,h6,h7,h8,h9⟩:=ho
 exact ⟨_,_,_,g',⟨rfl,rfl,rfl⟩,h2,h3,h4,h5,holds_swap h6 (fun β hb=>bagAt_from hq hb),allRw_swap h7,h8,owns_swap h9⟩
theorem fc_bag {n:Nat} {f:FuncId} {args:List SV} {H:Heap} {k:Nat} {ro:Bool} {Q Q':BagQ} {k' n':Nat} {r:SV} {H2:Heap}
  (h:∀x:BagX,x.ok Q→FC P n f args ((k,some (.one ro x.blk))::H) (fun sv H1 n1=>∃x':BagX,Q' x'.a x'.c x'.v∧isOut r ((k',some (.one false x'.blk))::H2) n' sv H1 n1)):
  FC P n f args ((k,some (.one ro (.obj (.bag Q))))::H) (isOut r ((k',some (.one false (.obj (.bag Q'))))::H2) n'):=
 fc_choose (A:=BagX.ok Q) (B:=BagX.blk) (fun g w β hb=>by
  obtain ⟨a,c,v,m,hq,k1,k2,k3,k4⟩:=bagAt_to hb
  exact ⟨⟨a,c,v,m⟩,⟨hq,k1,k2,k3⟩,k4⟩) (fun g w w' v H0 ho=>out_bag ho) h
theorem fc_bag_ro {n:Nat} {f:FuncId} {args:List SV} {H:Heap} {k:Nat} {ro:Bool} {Q:BagQ} {post:SV→Heap→Nat→Prop} (h:∀x:BagX,x.ok Q→FC P n f args ((k,some (.one ro x.blk))::H) post):
  FC P n f args ((k,some (.one ro (.obj (.bag Q))))::H) post:=
 fc_choose (A:=BagX.ok Q) (B:=BagX.blk) (fun g w β hb=>by
  obtain ⟨a,c,v,m,hq,k1,k2,k3,k4⟩:=bagAt_to hb
  exact ⟨⟨a,c,v,m⟩,⟨hq,k1,k2,k3⟩,k4⟩) (fun g w w' v H0 ho=>ho) h
theorem fc_bag_out {n:Nat} {f:FuncId} {args:List SV} {H:Heap} {Q':BagQ} {k' n':Nat} {r:SV} {H2:Heap} {x:BagX} (hq:Q' x.a x.c x.v) (h:FC P n f args H (isOut r ((k',some (.one false x.blk))::H2) n')):FC P n f args H (isOut r ((k',some (.one false (.obj (.bag Q'))))::H2) n'):=by
 rcases h with ⟨hb,h⟩|h
 ·exact .inl ⟨hb,fun g w vals hg hu hH hv=>(h g w vals hg hu hH hv).mono fun e w' ⟨v,he,ho⟩=>⟨v,he,out_bag (by obtain ⟨sv,H1,n1,g',h1,h2⟩:=ho;exact ⟨sv,H1,n1,g',⟨x,hq,h1⟩,h2⟩)⟩⟩
 ·exact .inr fun g w vals hg hu hH hv=>by
   obtain ⟨v,w',hr,ho⟩:=h g w vals hg hu hH hv
   exact ⟨v,w',hr,out_bag (by obtain ⟨sv,H1,n1,g',h1,h2⟩:=ho;exact ⟨sv,H1,n1,g',⟨x,hq,h1⟩,h2⟩)⟩
end
end Go.Sy
