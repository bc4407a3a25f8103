/- Symbolic execution is right: copy, slices of slices, conversions. No program in sight. -/
import Derived.Test.YtlankgapiecloaaGreatDoorYS9
namespace Go.Sy
open Go.RowKit
section ops
variable {P:Program} {T:Tab} {g:G} {vs:VS} {a:Act} {w:World} {r:SV} {U:Heap} {b:Nat} {t:List Nat} {H:Heap} {nx:Nat}
theorem after_set' {w':World} {v:Value} {h q:Nat} {b b1:Blk} {β:Base} (hH:Holds g H w) (he:Ent H h q false b) (hg:g h q=some β) (hrv:Rv g r v)
  (hB:BlkAt g β false b1 w')
  (os:w'.os=w.os) (tape:w'.tape=w.tape) (out:w'.output=w.output) (size:w.heap.size≤w'.heap.size) (blk:∀k,k<w.heap.size→¬(0<β.cap∧k=β.blk)→w'.heap[k]?=w.heap[k]?):After g H nx w r (setBlk H h q b1) 0 g v w':=by
 obtain ⟨hb,e1,e2,e3,e4,e5⟩:=ent_set (b':=b1) he
 have ent:∀h' q' ro' b',Ent (setBlk H h q b1++H) h' q' ro' b'→(h'=h∧q'=q∧ro'=false∧b'=b1)∨(¬(h'=h∧q'=q)∧Ent H h' q' ro' b'):=by
  intro h' q' ro' b' hx
  rw [e2] at hx
  simp only [List.cons_append,List.nil_append] at hx
  rcases ent_cons.1 hx with ⟨e,hb',k1,k2,k3⟩|⟨e,hx⟩
  ·cases k1
   subst e
   rcases (e5 q' b').1 k2 with ⟨rfl,rfl⟩|⟨hne,hi⟩
   ·exact .inl ⟨rfl,rfl,k3.symm.trans e4,rfl⟩
   ·exact .inr ⟨fun x=>hne x.2,hb,e1,hi,e3.trans (e4.symm.trans k3)⟩
  ·exact .inr ⟨fun x=>e x.1.symm,hx⟩
 exact after_one (h1:=h) (q1:=q) (b1:=b1) (β1:=β) hH (G.le.refl g) (fun _ _ h _=>h) hrv ent hg hB (fun hc=> .inr ⟨h,q,b,β,he,hg,hc,rfl,fun _ _ _ _ _ hn=>hn⟩) os tape out size blk
theorem splice_getD {α:Type} (i k:Nat) (l m:List α) (x:Nat) (d:α) (h1:i+k≤l.length) (h2:k≤m.length):(splice i k l m).length=l.length∧(splice i k l m).getD x d=if i≤x∧x<i+k then m.getD (x-i) d else l.getD x d:=by
 have e1:(l.take i).length=i:=by simp;omega
 have e2:(m.take k).length=k:=by simp;omega
 refine ⟨by simp [splice];omega,?_⟩
 simp only [splice,List.getD]
 rcases Nat.lt_or_ge x i with h|h
 ·rw [List.append_assoc,List.getElem?_append_left (by omega),List.getElem?_take,if_pos h,if_neg (by omega)]
 ·rcases Nat.lt_or_ge x (i+k) with h'|h'
  ·rw [List.append_assoc,List.getElem?_append_right (by omega),e1,List.getElem?_append_left (by omega),List.getElem?_take,if_pos (by omega),if_pos ⟨h,h'⟩]
  ·rw [List.getElem?_append_right (by simp;omega),if_neg (by omega)]
   rw [List.length_append,e1,e2,List.getElem?_drop]
   congr 2;omega
theorem spCol_ok {i k:Nat} {c d e:BCol} (h:spCol i k c d=some e) (h1:i+k≤c.len) (h2:k≤d.len):e.len=c.len∧∀x,e.at x=if i≤x∧x<i+k then d.at (x-i) else c.at x:=by
 unfold spCol at h
 split at h
 ·rename_i kk l p m
  cases hp:ikEq p kk with
  |false=>rw [hp] at h;simp at h
  |true=>
   rw [hp] at h
   have:=ikEq_ok hp;subst this
   simp only [cond_true,Option.some.injEq] at h;subst h
   refine ⟨(splice_getD i k l m 0 0 h1 h2).1,fun x=> ?_⟩
   simp only [BCol.at,Col.at];rw [(splice_getD i k l m x 0 h1 h2).2];split<;>rfl
 ·rename_i l m
  simp only [Option.some.injEq] at h;subst h
  refine ⟨(splice_getD i k l m 0 ⟨#[]⟩ h1 h2).1,fun x=> ?_⟩
  simp only [BCol.at,Col.at];rw [(splice_getD i k l m x ⟨#[]⟩ h1 h2).2];split<;>rfl
 ·rename_i l m
  simp only [Option.some.injEq] at h;subst h
  refine ⟨(splice_getD i k l m 0 false h1 h2).1,fun x=> ?_⟩
  simp only [BCol.at,Col.at];rw [(splice_getD i k l m x false h1 h2).2];split<;>rfl
 ·rename_i l m
  simp only [Option.some.injEq] at h;subst h
  refine ⟨(splice_getD i k l m 0 .unk h1 h2).1,fun x=> ?_⟩
  simp only [BCol.at];rw [(splice_getD i k l m x .unk h1 h2).2]
 ·cases h
theorem spCols_ok {i k:Nat}:∀(l m r:List BCol),spCols i k l m=some r→r.length=l.length∧∀j e,nth r j=some e→∃c d,nth l j=some c∧nth m j=some d∧spCol i k c d=some e
 | [],[],r,h=>by simp only [spCols,Option.some.injEq] at h;subst h;simp [nth]
 | [],_::_,r,h=>by simp [spCols] at h
 |_::_,[],r,h=>by simp [spCols] at h
 |c::l,d::m,r,h=>by
  simp only [spCols] at h
  split at h
  ·rename_i e r' he hr
   simp only [Option.some.injEq] at h;subst h
   obtain ⟨h1,h3⟩:=spCols_ok l m r' hr
   refine ⟨by simp [h1],?_⟩
   intro j e' hj
   cases j with
   |zero=>simp only [nth,Option.some.injEq] at hj;subst hj;exact ⟨c,d,rfl,rfl,he⟩
   |succ j=>simp only [nth] at hj⊢;exact h3 j e' hj
  ·cases h
theorem copy_ok (hT:TabOk P T) (hg:g.glob) (he:EnvOk g vs a) (hH:Holds g vs.heap w) {o:Oper} {ty:TypeId} {ts:List TypeId} {tt:Array TypeId} (htt:tt.toList=ty::ts) {x y:Operand} {s v:SV} {ti:TI} (ho:o.op= .call ⟨.builtin .copy,#[x,y],tt⟩) (hx:gv vs x=some s) (hy:gv vs y=some v) (hti:aget T ty=some ti)
  (hc:(Nat.beq ti.kind 6&&Nat.beq ti.ez.length ti.el&& !Nat.beq ti.el 0)=true) (h:(copyR vs ti s v).is r U b t):EffOk P a o w g vs.heap nx r U b:=by
 simp only [Bool.and_eq_true,Bool.not_eq_true'] at hc
 obtain ⟨⟨c1,c3⟩,c4⟩:=hc
 obtain ⟨e,i,z,hd,hi,hz,hsz,hby,hzs,hrz,_⟩:=slice_ti (hT _ _ hti) c1 (.inr trivial) c3 c4
 have hszr:∀w,(sizeOf e).run P w= .ok ti.el w:=fun w=>by simp [sizeOf,typeInfo,hi,hsz]
 have hxv:=gv_ok hg he hx
 have htt0:tt[0]?=some ty:=by rw [←Array.getElem?_toList,htt];rfl
 unfold copyR at h
 split at h
 ·rename_i hd' q i' n
  replace h:=onBlk_ok h
  obtain ⟨ro,bl,hent,h⟩:=h
  split at h
  ·rename_i m l
   replace h:=bif_is h
   obtain ⟨hle,h⟩:=h
   have hle':=Nat.eq_of_beq_eq_true hle
   obtain ⟨n2,l2,tt',h,hsrc⟩:=srcOf_ok hg he hH hy (hT _ _ hti) c1 c3 c4 h
   split at h
   ·rename_i R hR
    obtain ⟨hm,rfl,rfl,rfl,_⟩:=h
    obtain ⟨base,c,hxe,hnc,hz'⟩:=rsv hxv
    obtain ⟨β,hβ,hB⟩:=hH.blk _ _ _ _ hent
    have hes:β.es=ti.el:=hB.es.trans hle'
    have hk:min n2 n≤n2:=Nat.min_le_left _ _
    have hkn:min n2 n≤n:=Nat.min_le_right _ _
    generalize hkk:min n2 n=k at*
    obtain ⟨cs,k1,k2,k3,k4⟩:=hsrc.first k hk
    obtain ⟨s1,s2⟩:=spCols_ok l l2 R hR
    have hRl:R.length=ti.el:=by rw [s1,hle']
    have colR:∀j e',nth R j=some e'→∃c' d',nth l j=some c'∧nth l2 j=some d'∧e'.len=m∧∀x,e'.at x=if i'≤x∧x<i'+k then d'.at (x-i') else c'.at x:=by
     intro j e' hj
     obtain ⟨c',d',h1,h2,h3⟩:=s2 j e' hj
     have hl1:=hB.len c' (nth_mem h1)
     have hl2:=hsrc.lens d' (nth_mem h2)
     obtain ⟨m1,m2⟩:=spCol_ok h3 (by omega) (by omega)
     exact ⟨c',d',h1,h2,m1.trans hl1,m2⟩
    obtain ⟨w',hst,p2,p3,p4,p5,p6,p7,p8⟩:∃w',StOk P w w' 0 cs base∧w'.heap.size=w.heap.size∧w'.os=w.os∧w'.tape=w.tape∧w'.output=w.output∧(∀kk,¬(0<β.cap∧kk=β.blk)→w'.heap[kk]?=w.heap[kk]?)∧(∀x,w'.frozen? ⟨β.blk,x,none⟩=w.frozen? ⟨β.blk,x,none⟩)∧∀x,w'.cell? ⟨β.blk,β.off+x,none⟩=if i'*β.es≤x∧x<i'*β.es+cs.toList.length then cs.toList[x-i'*β.es]? else w.cell? ⟨β.blk,β.off+x,none⟩:=by
     rcases hz' with hz'|⟨β',hβ',hba,hcap⟩
     ·have hk0:k=0:=by omega
      have hcs0:cs= #[]:=Array.eq_empty_of_size_eq_zero (by rw [k2,hk0];simp)
      refine ⟨w,?_,rfl,rfl,rfl,rfl,fun _ _=>rfl,fun _=>rfl,?_⟩
      ·cases base with
       |none=>rfl
       |some ad=>simp [StOk,hcs0,storeCells]
      ·intro x;rw [if_neg (by simp only [hcs0,List.length_nil];omega)]
     ·rw [hβ] at hβ';cases hβ'
      obtain ⟨w',p1,p2,p3,p4,p5,p6,p7,p8⟩:=write_ok (P:=P) hB (p:=i'*β.es) (ms:=cs.toList) k3 (by
       simp only [Array.length_toList,k2,hes,←Nat.add_mul]
       exact Nat.mul_le_mul_right _ (by omega))
      refine ⟨w',?_,p2,p3,p4,p5,?_,p7,p8⟩
      ·rw [hba]
       simp only [StOk]
       have:(β.addr i' 0).add 0=⟨β.blk,β.off+i'*β.es,none⟩:=by rw [addr_add];unfold Base.addr;simp
       rw [this];exact p1
      ·intro kk hkk'
       by_cases e':kk=β.blk
       ·rcases Nat.eq_zero_or_pos β.cap with hc0|hc0
        ·have hcs0:cs= #[]:=Array.eq_empty_of_size_eq_zero (by rw [k2,show k=0 from by omega];simp)
         rw [hcs0] at p1
         simp [storeCells] at p1
         rw [p1]
        ·exact absurd ⟨hc0,e'⟩ hkk'
       ·exact p6 kk e'
    have hrun:(execOp a.eval o).run P w= .ok (.value (.int .i64 (k:Int))) w':=by
     have hmin:Nat.min n2 n=k:=hkk
     have h0:(Builtin.copy_ tt o.type #[a.eval x,a.eval y]).run P w= .ok (.int .i64 (k:Int)) w':=by
      rw [hxe]
      have k1w:=k1 w rfl
      cases base with
      |none=>
       simp only [StOk] at hst
       subst hst
       simp [Builtin.copy_,htt0,run_underlying hd,hsrc.len,hszr,hmin,k1w,goInt]
      |some ad=>
       simp only [StOk] at hst
       have:ad.add 0=ad:=by simp [Addr.add]
       rw [this] at hst
       simp [Builtin.copy_,htt0,run_underlying hd,hsrc.len,hszr,hmin,k1w,hst,goInt]
     simp [execOp,ho,resolve,invoke,builtin,h0]
    refine ⟨_,w',g,.inl hrun,after_set' hH hent hβ rvi ?_ p3 p4 p5 (by omega) (fun kk _ h=>p6 kk h)⟩
    have hlen:cs.toList.length=k*ti.el:=by simp [k2]
    refine write_blk hB hlen p2 p7 (by rw [←hlen];exact p8) k3 (fun i hi=> .inl hi) (by simp [Blk.es,hRl,hle']) ?_ (fun i hi=>hB.cap i hi) ?_
    ·intro e' he'
     obtain ⟨j,hj⟩:=mem_nth he'
     obtain ⟨_,_,_,_,h5,_⟩:=colR j e' hj
     exact h5
    ·intro x j sv hx' hj
     simp only [Blk.has] at hx'
     simp only [Blk.at] at hj
     split at hj
     ·rename_i e' he'
      simp only [Option.some.injEq] at hj
      subst hj
      have hjl:=nth_lt he'
      rw [hRl] at hjl
      obtain ⟨c',d',h1,h2,_,h5⟩:=colR j e' he'
      rw [h5 x,hes]
      by_cases hin:i'≤x∧x<i'+k
      ·rw [if_pos hin]
       left
       have e1:x*ti.el=i'*ti.el+(x-i')*ti.el:=by rw [←Nat.add_mul];congr 1;omega
       have e2:=lin_lt (show x-i'<k by omega) hjl
       obtain ⟨u,u1,u2⟩:=k4 (x-i') j d' (by omega) h2
       refine ⟨by omega,by omega,u,?_,u2⟩
       have:cs.toList[(x-i')*ti.el+j]?=some u:=by simpa using u1
       rw [←this];congr 1;omega
      ·rw [if_neg hin]
       right
       refine ⟨?_,hx',by simp [Blk.at,h1]⟩
       rcases Nat.lt_or_ge x i' with h|h
       ·have:=lin_lt h hjl;omega
       ·have h6:i'+k≤x:=by omega
        have h7:=Nat.mul_le_mul_right ti.el h6
        rw [Nat.add_mul] at h7
        omega
     ·cases hj
   ·exact h.elim
  ·exact h.elim
 ·exact h.elim
theorem cut_at {i x:Nat} (hx:x<i):∀c:BCol,(c.cut i).at x=c.at x
 | .sc (.ints k l)=>by simp [BCol.cut,Col.cut,BCol.at,Col.at,List.getD,hx]
 | .sc (.strs l)=>by simp [BCol.cut,Col.cut,BCol.at,Col.at,List.getD,hx]
 | .sc (.bools l)=>by simp [BCol.cut,Col.cut,BCol.at,Col.at,List.getD,hx]
 | .svs l=>by simp [BCol.cut,BCol.at,List.getD,hx]
 | .own h ns=>by simp [BCol.cut,BCol.at,List.getD,hx]
 | .arrs n k r=>by simp [BCol.cut,BCol.at,List.getD,hx]
 | .ptrs h n=>by simp [BCol.cut,BCol.at]
theorem cut_len {i:Nat}:∀c:BCol,i≤c.len→(c.cut i).len=i
 | .sc (.ints k l),h=>by simp [BCol.cut,Col.cut,BCol.len,Col.len] at h⊢;omega
 | .sc (.strs l),h=>by simp [BCol.cut,Col.cut,BCol.len,Col.len] at h⊢;omega
 | .sc (.bools l),h=>by simp [BCol.cut,Col.cut,BCol.len,Col.len] at h⊢;omega
 | .svs l,h=>by simp [BCol.cut,BCol.len] at h⊢;omega
 | .own x ns,h=>by simp [BCol.cut,BCol.len] at h⊢;omega
 | .arrs n k r,h=>by simp [BCol.cut,BCol.len] at h⊢;omega
 | .ptrs x n,h=>by simp [BCol.cut,BCol.len] at h⊢;omega
theorem cutCols_nth (i:Nat):∀(l:List BCol),(cutCols i l).length=l.length∧∀j e,nth (cutCols i l) j=some e→∃c,nth l j=some c∧e=c.cut i
 | []=>⟨rfl,fun j e h=>by simp [cutCols,nth] at h⟩
 |c::l=>by
  obtain ⟨h1,h2⟩:=cutCols_nth i l
  refine ⟨by simp [cutCols,h1],fun j e h=> ?_⟩
  cases j with
  |zero=>simp only [cutCols,nth,Option.some.injEq] at h;exact ⟨c,rfl,h.symm⟩
  |succ j=>simp only [cutCols,nth] at h⊢;exact h2 j e h
theorem zeroCells_in (z:Array Value) (n:Nat):(Builtin.zeroCells z n).toList.length=n*z.size∧∀v∈(Builtin.zeroCells z n).toList,v∈z.toList:=by
 refine ⟨by simp [Builtin.zeroCells],fun v hv=> ?_⟩
 simp only [Builtin.zeroCells,Array.toList_map,Array.toList_range,List.mem_map,List.mem_range] at hv
 obtain ⟨i,hi,rfl⟩:=hv
 have hz:0<z.size:=by
  rcases Nat.eq_zero_or_pos z.size with e|e
  ·rw [e,Nat.mul_zero] at hi;omega
  ·exact e
 have hm:=Nat.mod_lt i hz
 rw [getElem!_pos z (i%z.size) hm]
 exact Array.getElem_mem_toList _
theorem clear_ok (hT:TabOk P T) (hg:g.glob) (he:EnvOk g vs a) (hH:Holds g vs.heap w) {o:Oper} {ty:TypeId} {ts:List TypeId} {tt:Array TypeId} (htt:tt.toList=ty::ts) {x:Operand} {s:SV} {ti:TI} (ho:o.op= .call ⟨.builtin .clear,#[x],tt⟩) (hx:gv vs x=some s) (hti:aget T ty=some ti)
  (hc:(Nat.beq ti.kind 6&&allOne ti.ez&&Nat.beq ti.ez.length ti.el&& !Nat.beq ti.el 0)=true) (h:(clearR vs ti s).is r U b t):EffOk P a o w g vs.heap nx r U b:=by
 simp only [Bool.and_eq_true,Bool.not_eq_true'] at hc
 obtain ⟨⟨⟨c1,c2⟩,c3⟩,c4⟩:=hc
 obtain ⟨e,i,z,hd,hi,hz,hsz,hby,hzs,hrz,_⟩:=slice_ti (hT _ _ hti) c1 (.inr trivial) c3 c4
 have hzr:∀w,(zeroValue e).run P w= .ok z w:=fun w=>by simp [zeroValue,typeInfo,hi,hz]
 have hxv:=gv_ok hg he hx
 have htt0:tt[0]?=some ty:=by rw [←Array.getElem?_toList,htt];rfl
 have hone:=allOne_ok _ _ c2 (hrz g)
 unfold clearR at h
 split at h
 ·rename_i hd' q i' n
  replace h:=onBlk_ok h
  obtain ⟨ro,bl,hent,h⟩:=h
  split at h
  ·rename_i m l
   replace h:=bif_is h
   obtain ⟨hle,h⟩:=h
   have hle':=Nat.eq_of_beq_eq_true hle
   obtain ⟨hm,rfl,rfl,rfl,_⟩:=h
   obtain ⟨base,c,hxe,hnc,hz'⟩:=rsv hxv
   obtain ⟨β,hβ,hB⟩:=hH.blk _ _ _ _ hent
   have hes:β.es=ti.el:=hB.es.trans hle'
   obtain ⟨zl,zo⟩:=zeroCells_in z.cells n
   rw [hzs] at zl
   have zone:∀v∈(Builtin.zeroCells z.cells n).toList,v.oneCell'=true:=fun v hv=>hone v (zo v hv)
   obtain ⟨ms,hms⟩:∃ms,ms=(Builtin.zeroCells z.cells n).toList:=⟨_,rfl⟩
   rw [←hms] at zl zone
   obtain ⟨w',hrun0,p2,p3,p4,p5,p6,p7,p8⟩:∃w',(∀ty',(Builtin.clear_ tt ty' #[a.eval x]).run P w= .ok (.tuple #[]) w')∧w'.heap.size=w.heap.size∧w'.os=w.os∧w'.tape=w.tape∧w'.output=w.output∧(∀kk,¬(0<β.cap∧kk=β.blk)→w'.heap[kk]?=w.heap[kk]?)∧(∀x,w'.frozen? ⟨β.blk,x,none⟩=w.frozen? ⟨β.blk,x,none⟩)∧∀x,w'.cell? ⟨β.blk,β.off+x,none⟩=if i'*β.es≤x∧x<i'*β.es+ms.length then ms[x-i'*β.es]? else w.cell? ⟨β.blk,β.off+x,none⟩:=by
    by_cases hn0:n=0
    ·subst hn0
     refine ⟨w,fun ty'=> ?_,rfl,rfl,rfl,rfl,fun _ _=>rfl,fun _=>rfl,?_⟩
     ·rw [hxe]
      cases base<;>simp [Builtin.clear_,htt0,run_underlying hd]
     ·intro x;rw [if_neg (by omega)]
    ·rcases hz' with hz'|⟨β',hβ',hba,hcap⟩
     ·exact absurd (by omega) hn0
     ·rw [hβ] at hβ';cases hβ'
      obtain ⟨w',p1,p2,p3,p4,p5,p6,p7,p8⟩:=write_ok (P:=P) hB (p:=i'*β.es) (ms:=ms) zone (by
       rw [zl,hes,←Nat.add_mul]
       exact Nat.mul_le_mul_right _ (by omega))
      refine ⟨w',fun ty'=> ?_,p2,p3,p4,p5,?_,p7,p8⟩
      ·rw [hxe,hba]
       have ead:β.addr i' 0=⟨β.blk,β.off+i'*β.es,none⟩:=by unfold Base.addr;simp
       obtain ⟨n',rfl⟩:∃n',n=n'+1:=⟨n-1,by omega⟩
       rw [←ead,hms] at p1
       simp [Builtin.clear_,htt0,run_underlying hd,hzr,p1]
      ·intro kk hkk'
       by_cases e':kk=β.blk
       ·rcases Nat.eq_zero_or_pos β.cap with hc0|hc0
        ·exfalso;omega
        ·exact absurd ⟨hc0,e'⟩ hkk'
       ·exact p6 kk e'
   have hrun:(execOp a.eval o).run P w= .ok (.value (.tuple #[])) w':=by
    simp [execOp,ho,resolve,invoke,builtin,hrun0]
   refine ⟨_,w',g,.inl hrun,after_set' hH hent hβ (by simp [Rv,Rvs]) ?_ p3 p4 p5 (by omega) (fun kk _ h=>p6 kk h)⟩
   obtain ⟨k1,k2⟩:=cutCols_nth i' l
   refine write_blk hB zl p2 p7 (by rw [←zl];exact p8) zone (fun i hi=> .inl (by simp only [Blk.has] at hi⊢;omega)) (by simp [Blk.es,k1]) ?_ (fun i hi=>hB.cap i (by simp only [Blk.has] at hi⊢;omega)) ?_
   ·intro e' he'
    obtain ⟨j,hj⟩:=mem_nth he'
    obtain ⟨c',h1,rfl⟩:=k2 j e' hj
    have:=hB.len c' (nth_mem h1)
    exact cut_len c' (by omega)
   ·intro x j sv hx' hj
    simp only [Blk.has] at hx'
    simp only [Blk.at] at hj
    split at hj
    ·rename_i e' he'
     simp only [Option.some.injEq] at hj
     subst hj
     obtain ⟨c',h1,rfl⟩:=k2 j e' he'
     have hjl:=nth_lt he'
     rw [k1,hle'] at hjl
     right
     have:=lin_lt hx' hjl
     refine ⟨by rw [hes];omega,by simp only [Blk.has];omega,?_⟩
     simp only [Blk.at,h1,cut_at hx']
    ·cases hj
  ·exact h.elim
 ·exact h.elim
end ops
end Go.Sy
