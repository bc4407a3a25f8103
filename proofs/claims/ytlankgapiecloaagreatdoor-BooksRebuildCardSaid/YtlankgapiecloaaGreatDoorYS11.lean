/- Symbolic execution is right: every operation. No program in sight. -/
import Derived.Test.YtlankgapiecloaaGreatDoorYS10
namespace Go.Sy
open Go.RowKit
section ops
variable {P:Program} {T:Tab} {g:G} {vs:VS} {a:Act} {w:World} {r:SV} {U:Heap} {b:Nat} {t:List Nat} {H:Heap} {nx:Nat}
theorem optInt_ok (hg:g.glob) (he:EnvOk g vs a) {d:Int} {x:Option Operand} {n:Int} (h:optInt vs d x=some n):(x=none∧n=d)∨∃y k,x=some y∧a.eval y= .int k n:=by
 unfold optInt at h
 split at h
 ·simp only [Option.some.injEq] at h;exact .inl ⟨rfl,h.symm⟩
 ·rename_i y
  split at h
  ·rename_i k m hy
   simp only [Option.some.injEq] at h;subst h
   exact .inr ⟨y,k,rfl,riv (gv_ok hg he hy)⟩
  ·cases h
theorem run_bound {x:Value} {k:IntKind} {n:Int} {y:Nat} {code:BoundsCode} (hx:x= .int k n) (h0:0≤n) (h1:n≤(y:Int)) (w:World):(Instr.sliceBound x y code).run P w= .ok n.toNat w:=by
 subst hx
 simp [Instr.sliceBound,asIntOf,h0,h1]
theorem bounds2_ok (hg:g.glob) (he:EnvOk g vs a) {lo hi:Option Operand} {l h:Int} {len cap:Nat} {isSl:Bool} (hl:optInt vs 0 lo=some l) (hh:optInt vs len hi=some h) (h0:0≤l) (h1:l≤h) (h2:h≤(len:Int)) (hc:len≤cap) (w:World):
  (Instr.sliceBounds isSl len cap (lo.map a.eval) (hi.map a.eval) none).run P w= .ok (l.toNat,h.toNat,cap) w:=by
 have hn:h=((h.toNat:Nat):Int):=by omega
 rcases optInt_ok hg he hl with ⟨rfl,rfl⟩|⟨y,k,rfl,e1⟩<;>rcases optInt_ok hg he hh with ⟨rfl,rfl⟩|⟨y',k',rfl,e2⟩
 ·simp [Instr.sliceBounds]
 ·have b2:=fun (code:BoundsCode)=>run_bound (P:=P) (code:=code) e2 (y:=cap) (by omega) (by omega) w
  simp [Instr.sliceBounds,b2]
 ·have b1:=fun (code:BoundsCode)=>run_bound (P:=P) (code:=code) e1 (y:=len) h0 (by omega) w
  simp [Instr.sliceBounds,b1]
 ·have b2:=fun (code:BoundsCode)=>run_bound (P:=P) (code:=code) e2 (y:=cap) (by omega) (by omega) w
  have b1:=fun (code:BoundsCode)=>run_bound (P:=P) (code:=code) e1 (y:=h.toNat) h0 (by omega) w
  simp [Instr.sliceBounds,b1,b2]
theorem bounds3_ok (hg:g.glob) (he:EnvOk g vs a) {lo:Option Operand} {hi mx:Operand} {l h m:Int} {len cap:Nat} {d1 d2:Int} {isSl:Bool} (hl:optInt vs 0 lo=some l) (hh:optInt vs d1 (some hi)=some h) (hm:optInt vs d2 (some mx)=some m) (h0:0≤l) (h1:l≤h) (h2:h≤m) (h3:m≤(cap:Int)) (w:World):
  (Instr.sliceBounds isSl len cap (lo.map a.eval) (some (a.eval hi)) (some (a.eval mx))).run P w= .ok (l.toNat,h.toNat,m.toNat) w:=by
 rcases optInt_ok hg he hm with ⟨e,_⟩|⟨ym,km,e,em⟩
 ·cases e
 cases e
 rcases optInt_ok hg he hh with ⟨e,_⟩|⟨yh,kh,e,eh⟩
 ·cases e
 cases e
 have b3:=fun (code:BoundsCode)=>run_bound (P:=P) (code:=code) em (y:=cap) (by omega) h3 w
 have b2:=fun (code:BoundsCode)=>run_bound (P:=P) (code:=code) eh (y:=m.toNat) (by omega) (by omega) w
 rcases optInt_ok hg he hl with ⟨rfl,rfl⟩|⟨y,k,rfl,e1⟩
 ·simp [Instr.sliceBounds,b3,b2]
 ·have b1:=fun (code:BoundsCode)=>run_bound (P:=P) (code:=code) e1 (y:=h.toNat) h0 (by omega) w
  simp [Instr.sliceBounds,b1,b2,b3]
theorem slice_elt {ty:TypeId} {ti:TI} (hti:tiOf P ty=some ti) (hk:Nat.beq ti.kind 6=true):∃e,P.underlying ty=some (.slice e)∧ti.el=P.cellsOf e:=by
 unfold tiOf at hti
 split at hti
 ·rename_i i d hi hd
  simp only [Option.some.injEq] at hti
  have hkd:kindOf d=6:=by rw [←hti] at hk;exact Nat.eq_of_beq_eq_true hk
  obtain ⟨e,rfl⟩:∃e,d= .slice e:=by cases d<;>first|exact ⟨_,rfl⟩|(exact absurd hkd (by simp [kindOf]))
  exact ⟨e,hd,by rw [←hti]⟩
 ·cases hti
theorem array_elt {ty:TypeId} {ti:TI} (hti:tiOf P ty=some ti) (hk:Nat.beq ti.kind 5=true):∃e,P.underlying ty=some (.array ti.len e)∧ti.el=P.cellsOf e∧ti.eag= !nagB P e∧ti.ega=aggB P e:=by
 unfold tiOf at hti
 split at hti
 ·rename_i i d hi hd
  simp only [Option.some.injEq] at hti
  have hkd:kindOf d=5:=by rw [←hti] at hk;exact Nat.eq_of_beq_eq_true hk
  obtain ⟨n,e,rfl⟩:∃n e,d= .array n e:=by cases d<;>first|exact ⟨_,_,rfl⟩|(exact absurd hkd (by simp [kindOf]))
  exact ⟨e,by rw [hd,←hti],by rw [←hti],by rw [←hti],by rw [←hti]⟩
 ·cases hti
theorem size_elt {e:TypeId} (h:P.cellsOf e≠0) (w:World):(sizeOf e).run P w= .ok (P.cellsOf e) w:=by
 unfold Program.cellsOf at h⊢
 cases hx:P.info? e with
 |none=>rw [hx] at h;simp at h
 |some x=>simp [sizeOf,typeInfo,hx]
theorem add_zero (ad:Addr):ad.add 0=ad:=by simp [Addr.add]
theorem slice_ok (hT:TabOk P T) (hg:g.glob) (he:EnvOk g vs a) (hH:Holds g vs.heap w) {o:Oper} {ty:TypeId} {x:Operand} {lo hi mx:Option Operand} {v:SV} {ti:TI} (ho:o.op= .slice ty x lo hi mx) (hx:gv vs x=some v) (hti:aget T ty=some ti) (h:(sliceR vs ti v lo hi mx).is r U b t):EffOk P a o w g vs.heap nx r U b:=by
 have hxv:=gv_ok hg he hx
 have hti':=hT _ _ hti
 unfold sliceR at h
 split at h
 ·rename_i s
  split at h
  ·rename_i l hh hk hl hhi
   obtain ⟨⟨h0,h1,h2⟩,rfl,rfl,rfl,_⟩:=h
   obtain ⟨d,hd,hkd⟩:=kind_of hti' hk
   have hd':d= .string:=by cases d<;>first|rfl|(exact absurd hkd (by simp [kindOf]))
   subst hd'
   refine look_ok hH rvt (fun o' ho'=> ?_)
   rw [ho] at ho'
   have hb:=fun w=>bounds2_ok (P:=P) (isSl:=false) hg he hl hhi h0 h1 h2 (Nat.le_refl _) w
   simp [execOp,ho',Instr.sliceAt,Instr.slice,run_underlying hd,rtv hxv,hb]
  ·exact h.elim
 ·rename_i hd' q i n
  obtain ⟨base,c,hxe,hnc,hz⟩:=rsv hxv
  split at h
  ·rename_i l hh m my hy hk hl hm hhi
   simp only [Bool.and_eq_true,Bool.not_eq_true'] at hk
   obtain ⟨e,hd,hel⟩:=slice_elt hti' hk.1
   have he0:P.cellsOf e≠0:=by intro e0;rw [hel,e0] at hk;simp at hk
   have hsz:=size_elt he0
   have hsz0:∀w,(sizeOf e).run P w= .ok ti.el w:=fun w=>by rw [hel];exact hsz w
   cases hzz:(isZero (some hh)&&isZero (some m)) with
   |true=>
    rw [hzz] at h
    simp only [cond_true] at h
    obtain ⟨h0,rfl,rfl,rfl,_⟩:=h
    simp only [Bool.and_eq_true] at hzz
    have e1:hh=0:=by unfold isZero at hzz;obtain ⟨z1,_⟩:=hzz;split at z1<;>simp_all
    have e2:m=0:=by unfold isZero at hzz;obtain ⟨_,z1⟩:=hzz;split at z1<;>simp_all
    subst e1;subst e2;subst h0
    have hb:=fun w=>bounds3_ok (P:=P) (isSl:=true) (len:=n) (cap:=c) hg he hl hhi hm (by omega) (by omega) (by omega) (by omega) w
    refine look_ok hH (v:= .slice base 0 0) (by simp only [Rv];exact ⟨_,rfl⟩) (fun o' ho'=> ?_)
    rw [ho] at ho'
    simp [execOp,ho',Instr.sliceAt,Instr.slice,run_underlying hd,hxe,hb,hsz0]
   |false=>
    rw [hzz] at h
    simp only [cond_false] at h
    replace h:=onBlk_ok h
    obtain ⟨ro,bl,hent,h⟩:=h
    replace h:=bif_is h
    obtain ⟨hes,h⟩:=h
    obtain ⟨⟨h0,h1,h2,h3⟩,rfl,rfl,rfl,_⟩:=h
    obtain ⟨β,hβ,hB⟩:=hH.blk _ _ _ _ hent
    have hes':β.es=ti.el:=hB.es.trans (Nat.eq_of_beq_eq_true hes)
    have hb:=fun w=>bounds3_ok (P:=P) (isSl:=true) (len:=n) (cap:=c) hg he hl hhi hm h0 h1 h2 (by omega) w
    refine look_ok hH (v:= .slice (if m.toNat=l.toNat then base else base.map (·.add (l.toNat*ti.el))) (hh.toNat-l.toNat) (m.toNat-l.toNat)) ?_ (fun o' ho'=> ?_)
    ·simp only [Rv]
     refine ⟨_,_,rfl,by omega,?_⟩
     by_cases hml:m.toNat=l.toNat
     ·exact .inl (by omega)
     ·right
      rw [if_neg hml]
      rcases hz with hz|⟨β',hβ',hba,hcap⟩
      ·omega
      ·rw [hβ] at hβ';cases hβ'
       refine ⟨β,hβ,?_,by omega⟩
       rw [hba,←hes'];simp only [Option.map_some];rw [addr_add_es,Nat.add_comm]
    ·rw [ho] at ho'
     simp [execOp,ho',Instr.sliceAt,Instr.slice,run_underlying hd,hxe,hb,hsz0]
  ·rename_i l hh hk hl hhi
   simp only [Bool.and_eq_true,Bool.not_eq_true'] at hk
   obtain ⟨e,hd,hel⟩:=slice_elt hti' hk.1
   have he0:P.cellsOf e≠0:=by intro e0;rw [hel,e0] at hk;simp at hk
   have hsz:=size_elt he0
   have hsz0:∀w,(sizeOf e).run P w= .ok ti.el w:=fun w=>by rw [hel];exact hsz w
   replace h:=onBlk_ok h
   obtain ⟨ro,bl,hent,h⟩:=h
   replace h:=bif_is h
   obtain ⟨hes,h⟩:=h
   obtain ⟨⟨h0,h1,h2⟩,rfl,rfl,rfl,_⟩:=h
   obtain ⟨β,hβ,hB⟩:=hH.blk _ _ _ _ hent
   have hes':β.es=ti.el:=hB.es.trans (Nat.eq_of_beq_eq_true hes)
   have hb:=fun w=>bounds2_ok (P:=P) (isSl:=true) (len:=n) (cap:=c) hg he hl hhi h0 h1 h2 hnc w
   refine look_ok hH (v:= .slice (if c=l.toNat then base else base.map (·.add (l.toNat*ti.el))) (hh.toNat-l.toNat) (c-l.toNat)) ?_ (fun o' ho'=> ?_)
   ·simp only [Rv]
    refine ⟨_,_,rfl,by omega,?_⟩
    by_cases hml:c=l.toNat
    ·exact .inl (by omega)
    ·right
     rw [if_neg hml]
     rcases hz with hz|⟨β',hβ',hba,hcap⟩
     ·omega
     ·rw [hβ] at hβ';cases hβ'
      refine ⟨β,hβ,?_,by omega⟩
      rw [hba,←hes'];simp only [Option.map_some];rw [addr_add_es,Nat.add_comm]
   ·rw [ho] at ho'
    simp [execOp,ho',Instr.sliceAt,Instr.slice,run_underlying hd,hxe,hb,hsz0]
  ·exact h.elim
 ·split at h
  ·rename_i l hh hk hl hhi
   simp only [Bool.and_eq_true,Bool.not_eq_true'] at hk
   obtain ⟨⟨h0,h1⟩,rfl,rfl,rfl,_⟩:=h
   obtain ⟨e,hd,hel⟩:=slice_elt hti' hk.1
   have he0:P.cellsOf e≠0:=by intro e0;rw [hel,e0] at hk;simp at hk
   have hsz:=size_elt he0
   subst h0;subst h1
   have hxe:a.eval x= .slice none 0 0:=by simpa only [Rv] using hxv
   have hb:=fun w=>bounds2_ok (P:=P) (isSl:=true) (len:=0) (cap:=0) hg he hl hhi (by omega) (by omega) (by omega) (by omega) w
   refine look_ok hH (v:= .slice none 0 0) (by simp only [Rv]) (fun o' ho'=> ?_)
   rw [ho] at ho'
   simp [execOp,ho',Instr.sliceAt,Instr.slice,run_underlying hd,hxe,hb,hsz]
  ·exact h.elim
 ·rename_i hd' q
  split at h
  ·rename_i l hh hk hl hhi
   simp only [Bool.and_eq_true,Bool.not_eq_true'] at hk
   obtain ⟨e,hd,hel,_⟩:=array_elt hti' hk.1
   have he0:P.cellsOf e≠0:=by intro e0;rw [hel,e0] at hk;simp at hk
   have hsz:=size_elt he0
   have hsz0:∀w,(sizeOf e).run P w= .ok ti.el w:=fun w=>by rw [hel];exact hsz w
   replace h:=onBlk_ok h
   obtain ⟨ro,bl,hent,h⟩:=h
   split at h
   ·rename_i n cs
    replace h:=bif_is h
    obtain ⟨hes,h⟩:=h
    simp only [Bool.and_eq_true] at hes
    have hn:=Nat.eq_of_beq_eq_true hes.1
    obtain ⟨⟨h0,h1,h2⟩,rfl,rfl,rfl,_⟩:=h
    obtain ⟨β,hβ,hB⟩:=hH.blk _ _ _ _ hent
    have hes':β.es=ti.el:=hB.es.trans (Nat.eq_of_beq_eq_true hes.2)
    obtain ⟨β',hβ',hpv⟩:=rpv hxv
    rw [hβ] at hβ';cases hβ'
    have hb:=fun w=>bounds2_ok (P:=P) (isSl:=false) (len:=ti.len) (cap:=ti.len) hg he hl hhi h0 h1 h2 (Nat.le_refl _) w
    refine look_ok hH (v:= .slice (some (if ti.len=l.toNat then β.addr 0 0 else (β.addr 0 0).add (l.toNat*ti.el))) (hh.toNat-l.toNat) (ti.len-l.toNat)) ?_ (fun o' ho'=> ?_)
    ·simp only [Rv]
     refine ⟨_,_,rfl,by omega,?_⟩
     by_cases hml:ti.len=l.toNat
     ·exact .inl (by omega)
     ·right
      rw [if_neg hml]
      have hcap:ti.len≤β.cap:=by
       rcases Nat.eq_zero_or_pos ti.len with h|h
       ·omega
       ·have:=hB.cap (ti.len-1) (by simp only [Blk.has];omega);omega
      refine ⟨β,hβ,?_,by omega⟩
      rw [←hes',addr_add_es,Nat.zero_add]
    ·rw [ho] at ho'
     simp [execOp,ho',Instr.sliceAt,Instr.sureAddr,run_underlying hd,hpv,hb,hsz0]
   ·exact h.elim
  ·exact h.elim
 ·exact h.elim
end ops
end Go.Sy
