/- Lemmas with which conditions are met: branches, calls, loops, returns. No program in sight. -/
import Derived.Test.YtlankgapiecloaaGreatDoorYC7
namespace Go.Sy
open Go.RowKit
abbrev w64 (n:Int):Int:=IntKind.i64.wrap n
theorem w64_in {n:Int} (h: -9223372036854775808≤n) (h':n≤9223372036854775807):IntKind.i64.wrap n=n:=IntWalk.i64_in n ⟨h,h'⟩
theorem br_dec {p:Prop} [Decidable p] {a b:Prop} (h:p→a) (k:¬p→b):br (decide p) a b:=br_intro (fun e=>h (of_decide_eq_true e)) (fun e=>k (of_decide_eq_false e))
theorem br_ndec {p:Prop} [Decidable p] {a b:Prop} (h:¬p→a) (k:p→b):br (!decide p) a b:=br_intro (fun e=>h (by simpa using e)) (fun e=>k (by simpa using e))
theorem br_seq {x y:ByteArray} {a b:Prop} (h:x=y→a) (k:x≠y→b):br (seq x y) a b:=br_intro (fun e=>h (of_decide_eq_true e)) (fun e=>k (of_decide_eq_false e))
theorem br_nseq {x y:ByteArray} {a b:Prop} (h:x≠y→a) (k:x=y→b):br (!seq x y) a b:=br_intro (fun e=>h (by simpa [seq] using e)) (fun e=>k (by simpa [seq] using e))
theorem br_not {b:Bool} {p q:Prop} (h:b=false→p) (k:b=true→q):br (!b) p q:=br_intro (fun e=>h (by simpa using e)) (fun e=>k (by simpa using e))
theorem bnf {b:Bool} (h:b=true):¬b=false:=by rw [h];decide
theorem cond_intro {c k:Prop} (h:c) (hk:k):c∧k:=⟨h,hk⟩
theorem byteAt_lt (s:ByteArray) (k:Nat) (h:k<s.size):byteAt s (k:Int)=(s[k].toNat:Int):=by
 unfold byteAt
 have h':k<s.data.toList.length:=by simpa using h
 have e1:s.data.toList.getD k 0=s.data.toList[k]:=by rw [List.getD,List.getElem?_eq_getElem h'];rfl
 rw [Int.toNat_natCast,e1]
 rfl
theorem byteAt_bd (s:ByteArray) (i:Int):0≤byteAt s i∧byteAt s i≤255:=by
 unfold byteAt
 have:=(s.data.toList.getD i.toNat 0).toNat_lt
 omega
section
variable {P:Program}
theorem allRw_nil:allRw []:=fun h q ro b he=>by obtain ⟨hb,e,_⟩:=he;simp [hget] at e
theorem allRw_cons {h:Nat} {b:Blk} {H:Heap} (k:allRw H):allRw ((h,some (.one false b))::H):=by
 intro h' q ro b' he
 rcases ent_cons.1 he with ⟨_,hb,e1,_,e3⟩|⟨_,he⟩
 ·cases e1;exact e3.symm
 ·exact k h' q ro b' he
theorem allRw_fam {h:Nat} {dom:Nat→Prop} {f:Nat→Blk} {H:Heap} (k:allRw H):allRw ((h,some (.fam false dom f))::H):=by
 intro h' q ro b' he
 rcases ent_cons.1 he with ⟨_,hb,e1,_,e3⟩|⟨_,he⟩
 ·cases e1;exact e3.symm
 ·exact k h' q ro b' he
theorem vcall_out {f:FuncId} {l:List Nat} {nx:Nat} {args args0:List SV} {H Hc H':Heap} {r:SV} {n':Nat} {K:SV→Heap→Nat→Prop} (hc:FC P l.length f args0 H (isOut r H' n')) (hf:Fits l nx args args0 H Hc)
  (hk:K (SV.ren (rho l nx) r) (renH (rho l nx) H'++lost (rho l nx) H) (n'-l.length)):vcall P f args Hc nx K:=
 ⟨l,args0,H,_,hc,hf,by rintro sv H1 n1 ⟨rfl,rfl,rfl⟩;exact hk⟩
theorem vcallD_out {f:FuncId} {l:List Nat} {nx:Nat} {args args0:List SV} {H Hc H':Heap} {r:SV} {n':Nat} {K:SV→Heap→Nat→List Nat→Prop} (hc:FC P l.length f args0 H (isOut r H' n')) (hf:Fits l nx args args0 H Hc)
  (hk:K (SV.ren (rho l nx) r) (renH (rho l nx) H'++lost (rho l nx) H) (n'-l.length) l):vcallD P f args Hc nx K:=⟨l,args0,H,r,H',n',hc,hf,hk⟩
theorem vcall_pure {f:FuncId} {nx:Nat} {args:List SV} {Hc:Heap} {r:SV} {K:SV→Heap→Nat→Prop} (hc:Pure P f args r) (ha:args=SV.rens (rho [0] nx) args) (hw:SV.wfs 1 args=true) (hr:SV.ren (rho [0] nx) r=r) (hk:K r [] 0):vcall P f args Hc nx K:=
 vcall_out (l:= [0]) hc ⟨rfl,rfl,ha,hw,trivial,trivial⟩ (by rw [hr];exact hk)
theorem vcallD_pure {f:FuncId} {nx:Nat} {args:List SV} {Hc:Heap} {r:SV} {K:SV→Heap→Nat→List Nat→Prop} (hc:Pure P f args r) (ha:args=SV.rens (rho [0] nx) args) (hw:SV.wfs 1 args=true) (hr:SV.ren (rho [0] nx) r=r) (hk:K r [] 0 [0]):vcallD P f args Hc nx K:=
 vcallD_out (l:= [0]) hc ⟨rfl,rfl,ha,hw,trivial,trivial⟩ (by rw [hr];exact hk)
abbrev GTab:=List (Nat×Nat×List Col)
def tidC:List Col→Nat
 | .ints _ (.ofNat t::_)::_=>t
 |_=>0
def gblk (l:GTab) (q:Nat):Blk:=match aget l q with|some x=>(bif Nat.beq x.1 0 then .cells [.iface (tidC x.2) .unk] else .cols x.1 (upCols x.2))|none=> .cells []
def GB (l:GTab):HB:= .fam true (fun q=>(aget l q).isSome=true) (gblk l)
theorem aget_keys {α:Type}:∀{l:List (Nat×α)} {q:Nat},(aget l q).isSome=true→q∈l.map (·.1)
 | [],q,h=>by simp [aget] at h
 |(k,v)::r,q,h=>by
  rw [aget_cons] at h
  by_cases e:k=q
  ·simp [e]
  ·rw [if_neg e] at h;simp [aget_keys h]
def gbase (l:List (Nat×Nat×Nat)) (q:Nat):Base:=match aget l q with|some x=>⟨q,0,x.1,x.2⟩|none=>⟨q,0,0,0⟩
theorem gbase_glob (l:List (Nat×Nat×Nat)) (q:Nat):∃es cap,some (gbase l q)=some (⟨q,0,es,cap⟩:Base):=by
 unfold gbase;split<;>exact ⟨_,_,rfl⟩
theorem upCols_ren (ρ:Nat→Nat):∀l:List Col,renCols ρ (upCols l)=upCols l
 | []=>rfl
 |c::l=>by simp only [upCols,renCols,BCol.ren,upCols_ren ρ l]
theorem upCols_wf (n:Nat):∀l:List Col,colsWf n (upCols l)=true
 | []=>rfl
 |c::l=>by simp only [upCols,colsWf,BCol.wf,upCols_wf n l];rfl
theorem gblk_ren (ρ:Nat→Nat) (l:GTab) (q:Nat):(gblk l q).ren ρ=gblk l q:=by
 unfold gblk
 split
 ·cases Nat.beq _ 0
  ·simp only [cond_false,Blk.ren,upCols_ren]
  ·rfl
 ·rfl
theorem GB_ren (ρ:Nat→Nat) (l:GTab):(GB l).ren ρ=GB l:=by
 simp only [GB,HB.ren,gblk_ren]
theorem GB_wf {n:Nat} {l:GTab}:(GB l).wf n:=by
 intro q _
 unfold gblk
 split
 ·cases Nat.beq _ 0
  ·simp only [cond_false,Blk.wf,upCols_wf]
  ·rfl
 ·rfl
theorem GB_fits {o:Option HB} {ρ:Nat→Nat} {l:GTab} (h:o=some (GB l)):fitsAt o ((GB l).ren ρ):=by
 subst h
 rw [GB_ren]
 exact ⟨rfl,rfl,rfl⟩
theorem gwk {o:Option HB} {ρ:Nat→Nat} {l:GTab} (h:o=some (GB l)):o=some ((GB l).ren ρ):=by rw [GB_ren];exact h
def Glob (P:Program) (l:GTab) (f:FuncId) (args:List SV) (r:SV):Prop:=FC P 1 f args [(0,some (GB l))] (isOut r [] 1)
theorem glob_fits {l:GTab} {nx:Nat} {args:List SV} {Hc:Heap} (ha:args=SV.rens (rho [0] nx) args) (hw:SV.wfs 1 args=true) (hh:hget Hc 0=some (GB l)):Fits [0] nx args args [(0,some (GB l))] Hc:=
 ⟨rfl,rfl,ha,hw,⟨rfl,GB_wf,trivial⟩,⟨GB_fits hh,trivial⟩⟩
theorem vcall_glob {l:GTab} {f:FuncId} {nx:Nat} {args:List SV} {Hc:Heap} {r:SV} {K:SV→Heap→Nat→Prop} (hc:Glob P l f args r) (ha:args=SV.rens (rho [0] nx) args) (hw:SV.wfs 1 args=true) (hr:SV.ren (rho [0] nx) r=r) (hh:hget Hc 0=some (GB l)) (hk:K r [] 0):vcall P f args Hc nx K:=
 vcall_out (l:= [0]) hc (glob_fits ha hw hh) (by rw [hr];exact hk)
theorem vcallD_glob {l:GTab} {f:FuncId} {nx:Nat} {args:List SV} {Hc:Heap} {r:SV} {K:SV→Heap→Nat→List Nat→Prop} (hc:Glob P l f args r) (ha:args=SV.rens (rho [0] nx) args) (hw:SV.wfs 1 args=true) (hr:SV.ren (rho [0] nx) r=r) (hh:hget Hc 0=some (GB l)) (hk:K r [] 0 [0]):vcallD P f args Hc nx K:=
 vcallD_out (l:= [0]) hc (glob_fits ha hw hh) (by rw [hr];exact hk)
theorem ret_pure {r r0:SV} {vs:VS} (h:r=r0) (hr:SV.ren (rho [0] vs.next) r0=r0:=by rfl) (hn:allLt [0] vs.next=true:=by rfl):retP 1 (isOut r0 [] 1) r vs:=by
 subst h
 refine ⟨[0],[],r,[],1,⟨?_,hr.symm,trivial,allRw_nil⟩,rfl,rfl,rfl⟩
 rw [hn];rfl
theorem ret_up {n0:Nat} {l:List Nat} {r r0:SV} {H0:Heap} {vs:VS} (us:List Up) (h:upK us vs (fun v=>(Nat.ble 1 n0&&Nat.ble n0 l.length&&idList n0 l&&allLt l v.next&&injH (rho l v.next) H0 H0)=true∧r=SV.ren (rho l v.next) r0∧weakHeap (rho l v.next) H0 v.heap)) (hrw:allRw H0):retP n0 (isOut r0 H0 l.length) r vs:=by
 refine ⟨l,us,r0,H0,l.length,?_,rfl,rfl,rfl⟩
 revert h
 have:∀(us:List Up) (v:VS) (K K':VS→Prop),(∀v,K v→K' v)→upK us v K→upK us v K':=by
  intro us
  induction us with
  |nil=>intro v K K' h hk;exact h v hk
  |cons u us ih=>
   intro v K K' h hk
   cases u with
   |relab R E N dr m=>
    obtain ⟨e,H,n⟩:=v
    simp only [upK] at hk⊢
    rw [pushU_iff] at hk⊢
    exact ⟨hk.1,ih _ _ _ h hk.2⟩
   |_=>
    simp only [upK] at hk⊢
    split at hk
    ·exact ih _ _ _ h hk
    ·exact hk.elim
 refine this us vs _ _ ?_
 rintro v ⟨ids,hr,hh⟩
 refine ⟨?_,hr,hh,hrw⟩
 simp only [Bool.and_eq_true] at ids⊢
 exact ⟨⟨⟨ids.1.1,by simp⟩,ids.1.2⟩,ids.2⟩
theorem ret_out {n0:Nat} {l:List Nat} {r r0:SV} {H0:Heap} {vs:VS} (ids:(Nat.ble 1 n0&&Nat.ble n0 l.length&&idList n0 l&&allLt l vs.next&&injH (rho l vs.next) H0 H0)=true) (hr:r=SV.ren (rho l vs.next) r0) (hh:weakHeap (rho l vs.next) H0 vs.heap) (hrw:allRw H0):retP n0 (isOut r0 H0 l.length) r vs:=by
 refine ⟨l,[],r0,H0,l.length,⟨?_,hr,hh,hrw⟩,rfl,rfl,rfl⟩
 simp only [Bool.and_eq_true] at ids⊢
 exact ⟨⟨⟨ids.1.1,by simp⟩,ids.1.2⟩,ids.2⟩
theorem weakEnv_nil {ρ:Nat→Nat} {e:Env}:weakEnv ρ [] e:=trivial
theorem weakEnv_cons {ρ:Nat→Nat} {t:Nat} {sv:SV} {r e:Env} (h:aget e t=some (SV.ren ρ sv)) (k:weakEnv ρ r e):weakEnv ρ ((t,sv)::r) e:=⟨h,k⟩
theorem weakHeap_nil {ρ:Nat→Nat} {e:Heap}:weakHeap ρ [] e:=trivial
theorem weakHeap_cons {ρ:Nat→Nat} {t:Nat} {hb:HB} {r e:Heap} (h:hget e (ρ t)=some (hb.ren ρ)) (k:weakHeap ρ r e):weakHeap ρ ((t,some hb)::r) e:=⟨h,k⟩
theorem vloop_of {α:Type} {n0:Nat} {body:VS→(Exit→VS→Prop)→Prop} {vs:VS} {K:Exit→VS→Prop} (st:α→VS) (inv:α→Prop) (μ:α→Nat) (x0:α) (l0:List Nat) (u0:List Up) (hw:upK u0 vs (fun v=>Weak n0 l0 v (st x0))) (hi:inv x0)
  (hr:∀x,inv x→body (st x) (fun e v'=>match e with| .normal=>∃y l u,inv y∧μ y<μ x∧upK u v' (fun v=>Weak n0 l v (st y))|e=>K e v')):vloop n0 body vs K:=⟨α,st,inv,μ,x0,l0,u0,hw,hi,hr⟩
theorem FC.law {n:Nat} {f:FuncId} {args:List SV} {H:Heap} {n':Nat} {H':Heap} (hc:FC P n f args H (isOut (.bool true) H' n')) (hbd:bodied P f) (hro:∀h q ro b,Ent H h q ro b→ro=true) {g:G} {w:World} {vals:List Value} (hg:g.glob) (hn:g.upto n) (hH:Holds g H w) (hv:Rvs g args vals):
  Calls P f vals.toArray w (fun e w'=>e= .returned (.bool true)∧Below w.heap.size w w'):=by
 have hc2:=hc.resolve_right (fun hx=>by
  obtain ⟨v,w',hr,_⟩:=hx g w vals hg hn hH hv
  rw [run_bodied hbd] at hr;cases hr)
 refine (hc2.2 g w vals hg hn hH hv).mono ?_
 rintro e w' ⟨v,rfl,sv,H1,n1,g',⟨rfl,_,_⟩,_,_,_,hrv,_,_,hfr,_⟩
 refine ⟨by rw [rbv hrv],hfr.os,hfr.tape,hfr.output,hfr.size,fun k hk=>hfr.block k hk ?_⟩
 rintro ⟨h,q,b,β,he,_⟩
 have:=hro h q false b he
 cases this
end
theorem cond_a {c k:Prop} (hk:k) (hc:c:=by (first|exact rfl|(refine ⟨rfl,?_⟩;(first|omega|(dsimp only;omega)|decide))|omega|(dsimp only;omega)|decide|(simp only [Nat.add_zero,Int.toNat_natCast, *];omega))):c∧k:=⟨hc,hk⟩
theorem vcall_o {P:Program} {f:FuncId} {l:List Nat} {nx:Nat} {args args0:List SV} {H Hc H':Heap} {r:SV} {n':Nat} {K:SV→Heap→Nat→Prop} (hc:FC P l.length f args0 H (isOut r H' n'))
  (hk:K (SV.ren (rho l nx) r) (renH (rho l nx) H'++lost (rho l nx) H) (n'-l.length))
  (h1:headOk l=true:=by exact rfl) (h2:injH (rho l nx) H H=true:=by exact rfl) (h3:args=SV.rens (rho l nx) args0:=by exact rfl) (h4:SV.wfs l.length args0=true:=by exact rfl)
  (h5:heapWf l.length H:=by (repeat' (first|exact trivial|exact GB_wf|exact fun _ _=>rfl|constructor));first|done|fail)
  (h6:hmatch (rho l nx) H Hc:=by (repeat' (first|exact trivial|exact GB_fits rfl|constructor));first|done|fail):vcall P f args Hc nx K:=
 vcall_out hc ⟨h1,h2,h3,h4,h5,h6⟩ hk
theorem vcallD_o {P:Program} {f:FuncId} {l:List Nat} {nx:Nat} {args args0:List SV} {H Hc H':Heap} {r:SV} {n':Nat} {K:SV→Heap→Nat→List Nat→Prop} (hc:FC P l.length f args0 H (isOut r H' n'))
  (hk:K (SV.ren (rho l nx) r) (renH (rho l nx) H'++lost (rho l nx) H) (n'-l.length) l)
  (h1:headOk l=true:=by exact rfl) (h2:injH (rho l nx) H H=true:=by exact rfl) (h3:args=SV.rens (rho l nx) args0:=by exact rfl) (h4:SV.wfs l.length args0=true:=by exact rfl)
  (h5:heapWf l.length H:=by (repeat' (first|exact trivial|exact GB_wf|exact fun _ _=>rfl|constructor));first|done|fail)
  (h6:hmatch (rho l nx) H Hc:=by (repeat' (first|exact trivial|exact GB_fits rfl|constructor));first|done|fail):vcallD P f args Hc nx K:=
 vcallD_out hc ⟨h1,h2,h3,h4,h5,h6⟩ hk
end Go.Sy
