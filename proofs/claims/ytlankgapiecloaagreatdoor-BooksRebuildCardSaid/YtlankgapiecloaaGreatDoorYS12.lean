/- Symbolic execution is right: every operation. No program in sight. -/
import Derived.Test.YtlankgapiecloaaGreatDoorYSM
import Derived.Laws.BytesString
namespace Go.Sy
open Go.RowKit
section ops
variable {P:Program} {T:Tab} {g:G} {vs:VS} {a:Act} {w:World} {r:SV} {U:Heap} {b:Nat} {t:List Nat} {H:Heap} {nx:Nat}
theorem modify_push (h:Array Obj) (x:Obj) (f:Obj→Obj):(h.push x).modify h.size f=h.push (f x):=by
 apply Array.ext_getElem?
 intro i
 rw [Array.getElem?_modify]
 by_cases e:h.size=i
 ·subst e;simp
 ·rw [if_neg e]
  simp only [Array.getElem?_push,Ne.symm e,if_false]
theorem colsAt_ok (g:G):∀(cs:List Col) (i:Nat) (l:List Value),l.length=cs.length→(∀j c,nth cs j=some c→l[j]?=some (c.val i))→Rvs g (colsAt cs i) l
 | [],i,l,hl,_=>by simp only [colsAt,Rvs];exact List.length_eq_zero_iff.1 hl
 |c::cs,i,[],hl,_=>by simp at hl
 |c::cs,i,v::l,hl,h=>by
  have h0:=h 0 c rfl
  simp only [List.getElem?_cons_zero,Option.some.injEq] at h0
  subst h0
  simp only [colsAt,Rvs]
  exact ⟨_,_,rfl,Col.at_ok g c _,colsAt_ok g cs i l (by simpa using hl) (fun j c' hj=>by simpa using h (j+1) c' hj)⟩
theorem shape_alloc (w:World) (c:Array Value) (e:TypeId):(w.alloc (.cells c e)).shape? w.heap.size=some (e,c.size):=by
 have:(w.alloc (.cells c e)).heap[w.heap.size]?=some (.cells c e):=Array.getElem?_push_size
 unfold World.shape?
 rw [this]
theorem choose_run (q:Question) (hq:q.forced=false):(choose q).run P w= .ok (q.cut (w.tape w.drawn q)) w.drew:=by
 simp [choose,Sem.run,hq]
theorem push_bytes:∀(l:List Int) (s:ByteArray),l.foldl (fun r n=>r.push (UInt8.ofNat n.toNat)) s=⟨s.data++(l.map (fun x=>UInt8.ofNat x.toNat)).toArray⟩
 | [],s=>by simp
 |x::l,s=>by rw [List.foldl_cons,push_bytes l];simp [ByteArray.push]
theorem bytesToString_ok {ad:Addr} {n c:Nat} {l:List Int} (hl:(loadCells ad n).run P w= .ok (l.map (Value.int .u8)).toArray w):(Conv.bytesToString (.slice (some ad) n c)).run P w= .ok (.string (bytesOf l)) w:=by
 rw [run_bytesToString w ad n c l hl,push_bytes]
 simp [bytesOf,ByteArray.empty,ByteArray.emptyWithCapacity]
 rfl
theorem conv_ok (hT:TabOk P T) (hg:g.glob) (he:EnvOk g vs a) (hH:Holds g vs.heap w) (hn:b=1→∀q,g nx q=none) {o:Oper} {ts td:TypeId} {x:Operand} {v:SV} {ta tb:TI} (ho:o.op= .convert ts td x) (hx:gv vs x=some v) (hta:aget T ts=some ta) (htb:aget T td=some tb) (h:(convR vs nx ta tb v).is r U b t):EffOk P a o w g vs.heap nx r U b:=by
 have hxv:=gv_ok hg he hx
 obtain ⟨ia,da,_,hda,_,hka⟩:=info_of (hT _ _ hta)
 have htb':=hT _ _ htb
 unfold convR at h
 split at h
 ·rename_i k n
  replace h:=bif_is h
  obtain ⟨hk,h⟩:=h
  obtain ⟨rfl,rfl,rfl,_⟩:=h
  unfold tiOf at htb'
  split at htb'
  ·rename_i i d hi hd
   simp only [Option.some.injEq] at htb'
   have hkd:kindOf d=2:=by rw [←htb'] at hk;exact Nat.eq_of_beq_eq_true hk
   obtain ⟨k',rfl⟩:∃k,d= .int k:=by cases d<;>first|exact ⟨_,rfl⟩|(exact absurd hkd (by simp [kindOf]))
   have hik:tb.ik=k':=by rw [←htb']
   refine look_ok hH rvi (fun o' ho'=> ?_)
   rw [ho] at ho'
   simp [execOp,ho',Go.convert,run_underlying hda,run_underlying hd,riv hxv,Conv.intToInt,hik]
  ·cases htb'
 ·rename_i s
  cases hk:Nat.beq tb.kind 3 with
  |true=>
   rw [hk] at h
   simp only [cond_true] at h
   obtain ⟨rfl,rfl,rfl,_⟩:=h
   obtain ⟨d,hd,hkd⟩:=kind_of htb' hk
   have hd':d= .string:=by cases d<;>first|rfl|(exact absurd hkd (by simp [kindOf]))
   subst hd'
   refine look_ok hH rvt (fun o' ho'=> ?_)
   rw [ho] at ho'
   simp [execOp,ho',Go.convert,run_underlying hda,run_underlying hd,rtv hxv]
  |false=>
   rw [hk] at h
   simp only [cond_false] at h
   replace h:=bif_is h
   obtain ⟨hu,h⟩:=h
   simp only [Bool.and_eq_true] at hu
   obtain ⟨rfl,rfl,rfl,_⟩:=h
   unfold tiOf at htb'
   split at htb'
   ·rename_i i d hi hd
    simp only [Option.some.injEq] at htb'
    have hu8:=congrArg TI.u8 htb'
    rw [hu.1] at hu8
    cases d with
    |slice e=>
     simp only at hu8
     split at hu8
     ·rename_i hue
      let cap:=(Question.appendCap s.size 0 e).cut (w.tape w.drawn (Question.appendCap s.size 0 e))
      have hcap:s.size≤cap:=by simp only [cap,Question.cut];omega
      let cs:Array Value:=(s.data.map fun b=>Value.int .u8 b.toNat)++Array.replicate (cap-s.size) (.int .u8 0)
      have hcs:cs.size=cap:=by simp only [cs,Array.size_append,Array.size_map,Array.size_replicate];have:s.data.size=s.size:=rfl;omega
      let w':World:=(w.drew.alloc (.cells cs e)).freeze ⟨w.heap.size,cs.size,none⟩ 1
      have hheap:w'.heap=w.heap.push (.cells cs e (cs.size,cs.size+1)):=by
       simp only [w',World.freeze,Nat.one_ne_zero,if_false]
       exact modify_push w.heap _ _
      have hrun:(execOp a.eval o).run P w= .ok (.value (.slice (some ⟨w.heap.size,0,none⟩) s.size cap)) w':=by
       have hq:(Question.appendCap s.size 0 e).forced=false:=rfl
       have hsh:(w.drew.alloc (.cells cs e)).shape? w.heap.size=some (e,cs.size):=shape_alloc w.drew cs e
       have hch:(choose (Question.appendCap s.size 0 e)).run P w= .ok cap w.drew:=choose_run _ hq
       have hmk:(markStringish ⟨w.heap.size,0,none⟩).run P (w.drew.alloc (.cells cs e))= .ok () w':=by
        simp [markStringish,shape,Sem.run,hsh,freeze,w']
       have hcv:(Conv.stringToBytes e s).run P w= .ok (.slice (some ⟨w.heap.size,0,none⟩) s.size cap) w':=by
        simp only [Conv.stringToBytes,Sem.run_bind,hch,Result.andThen_ok,newRow,newObj_run,Sem.run_pure]
        exact (congrArg (fun r=>Result.andThen r _) hmk).trans rfl
       simp [execOp,ho,Go.convert,run_underlying hda,run_underlying hd,rtv hxv,run_underlying hue,hcv]
      refine ⟨_,w',_,.inl hrun,new_after (bl:= .cols s.size [.sc (.ints .u8 (intsOf s))]) (cap:=cap) (.inr rfl) hH hheap ?_ ?_ ?_ (hn rfl) ?_ ?_ ?_ (fun i hi=>by simp only [Blk.has] at hi;omega) ?_ (sl_new hcap)⟩
      ·rfl
      ·rfl
      ·rfl
      ·intro c hc;simp at hc;subst hc;simp [BCol.len,Col.len,intsOf]
      ·intro v hv
       simp only [cs,Array.toList_append,List.mem_append,Array.toList_map,List.mem_map,Array.toList_replicate,List.mem_replicate] at hv
       rcases hv with ⟨x,_,rfl⟩|⟨_,rfl⟩<;>rfl
      ·simp [Blk.es,hcs]
      ·intro i j sv hi hj
       simp only [Blk.has] at hi
       cases j with
       |zero=>
        simp only [Blk.at,nth,Option.some.injEq] at hj
        subst hj
        have hlt:i<s.data.size:=hi
        refine ⟨.int .u8 (s.data[i].toNat:Int),?_,?_⟩
        ·simp only [Blk.es,List.length_singleton,Nat.mul_one,Nat.add_zero,cs]
         rw [Array.getElem?_append_left (by simpa using hlt),Array.getElem?_map,Array.getElem?_eq_getElem hlt]
         rfl
        ·simp only [BCol.at,Col.at,intsOf,Rv]
         congr 1
         rw [List.getD,List.getElem?_map,Array.getElem?_toList,Array.getElem?_eq_getElem hlt]
         rfl
       |succ j=>simp [Blk.at,nth] at hj
     ·cases hu8
    |_=>simp only at hu8;cases hu8
   ·cases htb'
 ·rename_i hd' q i n
  replace h:=bif_is h
  obtain ⟨hc,h⟩:=h
  simp only [Bool.and_eq_true] at hc
  obtain ⟨d,hd,hkd⟩:=kind_of htb' hc.1
  have hd':d= .string:=by cases d<;>first|rfl|(exact absurd hkd (by simp [kindOf]))
  subst hd'
  obtain ⟨e,hde,hue⟩:∃e,P.underlying ts=some (.slice e)∧P.underlying e=some (.int .u8):=by
   have hta':=hT _ _ hta
   unfold tiOf at hta'
   split at hta'
   ·rename_i i' d' hi' hd''
    simp only [Option.some.injEq] at hta'
    have hu8:=congrArg TI.u8 hta'
    rw [hc.2] at hu8
    cases d' with
    |slice e=>
     simp only at hu8
     split at hu8
     ·rename_i hh;exact ⟨e,hd'',hh⟩
     ·cases hu8
    |_=>simp only at hu8;cases hu8
   ·cases hta'
  replace h:=onBlk_ok h
  obtain ⟨ro,bl,hent,h⟩:=h
  split at h
  ·rename_i m l
   obtain ⟨hle,rfl,rfl,rfl,_⟩:=h
   obtain ⟨base,c,hxe,hnc,hz⟩:=rsv hxv
   obtain ⟨cs,k1,k2,_,k4⟩:=(slice_src (P:=P) hH hent hxv hle 1 rfl).first n (Nat.le_refl _)
   have hcs:cs=((seg i n l).map (Value.int .u8)).toArray:=by
    obtain ⟨β,hβ,hB⟩:=hH.blk _ _ _ _ hent
    have hlen:l.length=m:=hB.len (.sc (.ints .u8 l)) (by simp)
    have hsl:(seg i n l).length=n:=by simp only [seg,List.length_take,List.length_drop];omega
    apply Array.ext
    ·simp [k2,hsl]
    ·intro x h1 h2
     have hx:x<n:=by rw [k2] at h1;omega
     obtain ⟨u,u1,u2⟩:=k4 x 0 (.sc (.ints .u8 (seg i n l))) hx (by simp [segs,BCol.seg,Col.seg,nth])
     simp only [Nat.mul_one,Nat.add_zero,Array.getElem?_eq_getElem h1,Option.some.injEq] at u1
     rw [u1]
     have:=riv (show Rv g (.int .u8 ((seg i n l).getD x 0)) u from u2)
     rw [this]
     simp [List.getD,hsl,hx]
   have hx0:=k1 w rfl
   rw [hxe] at hx0
   refine look_ok hH rvt (fun o' ho'=> ?_)
   rw [ho] at ho'
   cases base with
   |none=>
    have hn0:n=0:=by
     rcases hz with hz|⟨β,_,hba,_⟩
     ·omega
     ·cases hba
    subst hn0
    simp [execOp,ho',hxe,run_convert_bytes_string w ts td e none 0 c hde hue hd,Conv.bytesToString,bytesOf,seg,ByteArray.empty,ByteArray.emptyWithCapacity]
    rfl
   |some ad=>
    simp only [Builtin.firstCells,Nat.mul_one] at hx0
    rw [hcs] at hx0
    simp [execOp,ho',hxe,run_convert_bytes_string w ts td e (some ad) n c hde hue hd,bytesToString_ok hx0]
  ·exact h.elim
 ·exact h.elim
theorem eff_ok (hT:TabOk P T) (hg:g.glob) (he:EnvOk g vs a) (hH:Holds g vs.heap w) {o:Oper} (hn:∀h q,nx≤h→h<nx+b→g h q=none) (h:(eff T vs nx o.op).is r U b t):EffOk P a o w g vs.heap nx r U b:=by
 have hn1:b=1→∀q,g nx q=none:=fun e q=>hn nx q (Nat.le_refl _) (by omega)
 have look:∀{v:Value} {s:SV},Rv g s v→Yields1 P o.op a w v→(Res.one s).is r U b t→EffOk P a o w g vs.heap nx r U b:=by
  rintro v s hv hy ⟨rfl,rfl,rfl,_⟩
  exact look_ok hH hv hy
 have lookw:∀{c:Prop} {v:Value} {s:SV} {tt:List Nat},(Res.when c s [] 0 tt).is r U b t→(c→Rv g s v∧Yields1 P o.op a w v)→EffOk P a o w g vs.heap nx r U b:=by
  rintro c v s tt ⟨hc,rfl,rfl,rfl,_⟩ hh
  exact look_ok hH (hh hc).1 (hh hc).2
 generalize hop:o.op=op at h
 rw [hop] at look lookw
 cases op with
 |move x=>
  simp only [eff] at h
  split at h
  ·rename_i v hv;exact look (gv_ok hg he hv) (fun o' ho'=>by simp [execOp,ho']) h
  ·exact h.elim
 |assign x=>
  simp only [eff] at h
  split at h
  ·rename_i v hv;exact look (gv_ok hg he hv) (fun o' ho'=>by simp [execOp,ho']) h
  ·exact h.elim
 |nilCheck x=>
  simp only [eff] at h
  split at h
  ·rename_i hx
   have hv:=gv_ok hg he hx
   obtain ⟨β,_,e⟩:=rpv hv
   exact look hv (fun o' ho'=>by simp [execOp,ho',e]) h
  ·rename_i hx
   have hv:=gv_ok hg he hx
   have hv':=hv
   simp only [Rv] at hv'
   obtain ⟨_,e,_⟩:=hv'
   exact look hv (fun o' ho'=>by simp [execOp,ho',e]) h
  ·rename_i hx
   have hv:=gv_ok hg he hx
   have hv':=hv
   simp only [Rv] at hv'
   obtain ⟨_,e,_⟩:=hv'
   exact look hv (fun o' ho'=>by simp [execOp,ho',e]) h
  ·exact h.elim
 |pick c x y=>
  simp only [eff] at h
  split at h
  ·rename_i hc
   split at h
   ·rename_i v hv;exact look (gv_ok hg he hv) (fun o' ho'=>by simp [execOp,ho',rbv (gv_ok hg he hc),asBool]) h
   ·exact h.elim
  ·rename_i hc
   split at h
   ·rename_i v hv;exact look (gv_ok hg he hv) (fun o' ho'=>by simp [execOp,ho',rbv (gv_ok hg he hc),asBool]) h
   ·exact h.elim
  ·exact h.elim
 |binOp op ty x y t'=>
  simp only [eff] at h
  split at h
  ·rename_i s u hx hy
   obtain ⟨rfl,rfl,v,hr,hyy⟩:=binK_ok (w:=w) hT (t':=t') (gv_ok hg he hx) (gv_ok hg he hy) h
   exact look_ok hH hr (by rw [hop];exact hyy)
  ·exact h.elim
 |unOp op ty x=>
  simp only [eff] at h
  split at h
  ·rename_i c hx;exact look rvb (fun o' ho'=>by simp [execOp,ho',rbv (gv_ok hg he hx),Op.unary]) h
  ·rename_i k n hx;exact look rvi (fun o' ho'=>by simp [execOp,ho',riv (gv_ok hg he hx),Op.unary,Op.intArith]) h
  ·rename_i k n hx;exact look rvi (fun o' ho'=>by simp [execOp,ho',riv (gv_ok hg he hx),Op.unary,Op.intBits,icom,ixor]) h
  ·exact h.elim
 |fieldAddr s x f=>
  simp only [eff] at h
  split at h
  ·rename_i hd q i j ti hx hti
   replace h:=bif_is' h
   obtain ⟨hk,h⟩:=h
   split at h
   ·rename_i of n ag hf
    replace h:=bif_is' h
    obtain ⟨hn0,h⟩:=h
    obtain ⟨fs,fld,hu,hfld,hoff,hsz,_⟩:=fields_of (hT _ _ hti) (by simpa using hk) hf hn0
    obtain ⟨β,hβ,e⟩:=rpv (gv_ok hg he hx)
    refine look (v:= .pointer (some (β.addr i (j+of)))) (by simp only [Rv];exact ⟨β,hβ,rfl⟩) (fun o' ho'=> ?_) h
    have hne:n≠0:=by intro e0;rw [e0] at hn0;simp at hn0
    simp [execOp,ho',Instr.fieldAt,run_underlying hu,hfld,e,Instr.sureAddr,fieldPlace,hsz,hne,hoff,addr_add]
   ·exact h.elim
  ·exact h.elim
 |field s x f=>
  simp only [eff] at h
  split at h
  ·rename_i l ti hx hti
   replace h:=bif_is' h
   obtain ⟨hk,h⟩:=h
   split at h
   ·rename_i of n ag hf
    replace h:=bif_is' h
    obtain ⟨hn0,h⟩:=h
    obtain ⟨fs,fld,hu,hfld,hoff,hsz,hag⟩:=fields_of (hT _ _ hti) (by simpa using hk) hf hn0
    obtain ⟨xs,e,rx⟩:=rav (gv_ok hg he hx)
    cases ag with
    |true=>
     simp only [cond_true] at h
     split at h
     ·rename_i r' hr'
      obtain ⟨t1,t2⟩:=takeN_ok n _ _ r' (dropN_ok of l _ rx) hr'
      refine look (v:= .agg (xs.extract of (of+n))) ?_ (fun o' ho'=> ?_) h
      ·simp only [Rv]
       refine ⟨_,rfl,?_⟩
       rw [Array.toList_extract,List.extract_eq_take_drop]
       simpa using t1
      ·simp [execOp,ho',Instr.field,run_underlying hu,hfld,e,asAgg,part,hag,hsz,hoff]
     ·exact h.elim
    |false=>
     simp only [cond_false] at h
     split at h
     ·rename_i v hv
      obtain ⟨u,hu1,hu2⟩:=Rvs.nth l xs.toList of v rx hv
      have hu':xs[of]?=some u:=by simpa using hu1
      exact look hu2 (fun o' ho'=>by simp [execOp,ho',Instr.field,run_underlying hu,hfld,e,asAgg,part,hag,hoff,hu']) h
     ·exact h.elim
   ·exact h.elim
  ·exact h.elim
 |load ty x=>exact load_ok hT hg he hH hop h
 |store ty x y=>exact store_ok hT hg he hH hop h
 |extract x ix=>
  simp only [eff] at h
  split at h
  ·rename_i l hx
   split at h
   ·rename_i v hv
    obtain ⟨xs,e,rx⟩:=ruv (gv_ok hg he hx)
    obtain ⟨u,hu,hr⟩:=Rvs.nth l xs.toList ix v rx hv
    have hu':xs[ix]?=some u:=by simpa using hu
    exact look hr (fun o' ho'=>by simp [execOp,ho',e,Instr.extract,hu']) h
   ·exact h.elim
  ·exact h.elim
 |index ty x ix=>
  simp only [eff] at h
  split at h
  ·rename_i s k i ti hx hix hti
   replace h:=bif_is h
   obtain ⟨hk,h⟩:=h
   obtain ⟨d,hd,hkd⟩:=kind_of (hT _ _ hti) hk
   have hd':d= .string:=by cases d<;>first|rfl|(exact absurd hkd (by simp [kindOf]))
   subst hd'
   refine lookw (v:= .int .u8 (byteAt s i)) h (fun hc=>⟨rvi,fun o' ho'=> ?_⟩)
   have hlt:i.toNat<s.size:=by omega
   have hb:s[i.toNat]?=some s[i.toNat]:=by simp [hlt]
   have e:byteAt s i=((s[i.toNat]).toNat:Int):=by
    unfold byteAt
    have:s.data.toList.getD i.toNat 0=s[i.toNat]:=by
     have h':i.toNat<s.data.toList.length:=by simpa using hlt
     have e1:s.data.toList.getD i.toNat 0=s.data.toList[i.toNat]:=by rw [List.getD,List.getElem?_eq_getElem h'];rfl
     rw [e1]
     rfl
    rw [this]
   simp [execOp,ho',Instr.index,rtv (gv_ok hg he hx),riv (gv_ok hg he hix),asIntOf,run_underlying hd,hc.1,hb,e]
  ·rename_i n c k i ti hx hix hti
   replace h:=bif_is h
   obtain ⟨hk,h⟩:=h
   simp only [Bool.and_eq_true,Bool.not_eq_true'] at hk
   obtain ⟨⟨⟨h1,h2⟩,h3⟩,h4⟩:=hk
   obtain ⟨e,hdd,hel,hag,_⟩:=array_elt (hT _ _ hti) h1
   have e1:=Nat.eq_of_beq_eq_true h2
   have e4:=Nat.eq_of_beq_eq_true h4
   have hsz:∀w,(sizeOf e).run P w= .ok 1 w:=fun w=>by rw [←e1,hel];exact size_elt (by rw [←hel,e1];simp) w
   have hna:∀w,(isAgg e).run P w= .ok false w:=by
    intro w
    rw [h3] at hag
    have hag':nagB P e=true:=by simpa using hag.symm
    unfold nagB at hag'
    split at hag'<;>first|(cases hag';done)|skip
    rename_i d hd1 hd2 hd3
    unfold isAgg
    simp only [Sem.run_bind,run_underlying hd3,Result.andThen_ok]
    cases d<;>first|rfl|(rename_i x;exact absurd rfl (hd1 x))|(rename_i x y;exact absurd rfl (hd2 x y))
   obtain ⟨xs,ex,a1,a2,a3⟩:=rarv (gv_ok hg he hx)
   refine lookw (v:=c.val i.toNat) h (fun hc=>⟨Col.at_ok g c _,fun o' ho'=> ?_⟩)
   have hget:=a3 i.toNat 0 c (by omega) rfl
   simp only [List.length_singleton,Nat.mul_one,Nat.add_zero] at hget
   simp [execOp,ho',Instr.index,ex,riv (gv_ok hg he hix),asIntOf,run_underlying hdd,hc.1,hc.2,hsz,part,hna,hget]
  ·rename_i n cs k i ti _ hx hix hti
   replace h:=bif_is h
   obtain ⟨hk,h⟩:=h
   simp only [Bool.and_eq_true,Bool.not_eq_true'] at hk
   obtain ⟨⟨⟨⟨h1,h2⟩,h3⟩,h4⟩,h5⟩:=hk
   obtain ⟨e,hdd,hel,_,hag⟩:=array_elt (hT _ _ hti) h1
   have e1:=Nat.eq_of_beq_eq_true h2
   have e4:=Nat.eq_of_beq_eq_true h4
   have e5:ti.el≠0:=Nat.ne_of_beq_eq_false h5
   have hsz:∀w,(sizeOf e).run P w= .ok cs.length w:=fun w=>by rw [←e1,hel];exact size_elt (by rw [←hel];exact e5) w
   have hna:∀w,(isAgg e).run P w= .ok true w:=by
    intro w
    rw [h3] at hag
    have hag':aggB P e=true:=hag.symm
    unfold aggB at hag'
    split at hag'<;>first|(cases hag';done)|skip
    ·rename_i hd1;unfold isAgg;simp only [Sem.run_bind,run_underlying hd1,Result.andThen_ok];rfl
    ·rename_i hd1;unfold isAgg;simp only [Sem.run_bind,run_underlying hd1,Result.andThen_ok];rfl
   obtain ⟨xs,ex,a1,a2,a3⟩:=rarv (gv_ok hg he hx)
   refine lookw (v:= .agg (xs.extract (i.toNat*cs.length) (i.toNat*cs.length+cs.length))) h (fun hc=>⟨?_,fun o' ho'=> ?_⟩)
   ·have hi:i.toNat<n:=by omega
    have hle:i.toNat*cs.length+cs.length≤xs.size:=by
     rw [a1,show i.toNat*cs.length+cs.length=(i.toNat+1)*cs.length from by rw [Nat.add_mul,Nat.one_mul]]
     exact Nat.mul_le_mul_right _ hi
    simp only [Rv]
    refine ⟨_,rfl,colsAt_ok g cs i.toNat _ (by simp;omega) (fun j c hj=> ?_)⟩
    have hjl:=nth_lt hj
    have:=a3 i.toNat j c hi hj
    simp only [Array.getElem?_toList]
    rw [Array.getElem?_extract]
    rw [if_pos (by omega)]
    exact this
   ·simp [execOp,ho',Instr.index,ex,riv (gv_ok hg he hix),asIntOf,run_underlying hdd,hc.1,hc.2,hsz,part,hna]
  ·exact h.elim
 |indexAddr ty x ix=>
  simp only [eff] at h
  split at h
  ·rename_i hd q i n k m ti hx hix hti
   replace h:=bif_is' h
   obtain ⟨hk,h⟩:=h
   replace h:=onBlk_ok h
   obtain ⟨ro,bl,hent,h⟩:=h
   replace h:=bif_is h
   obtain ⟨hes,h⟩:=h
   simp only [Bool.and_eq_true,Bool.not_eq_true'] at hes
   obtain ⟨e,hdd,hel⟩:=slice_elt (hT _ _ hti) (by simpa using hk)
   have he0:P.cellsOf e≠0:=by intro e0;rw [hel,e0] at hes;simp at hes
   have hsz:∀w,(sizeOf e).run P w= .ok ti.el w:=fun w=>by rw [hel];exact size_elt he0 w
   obtain ⟨β,hβ,hB⟩:=hH.blk _ _ _ _ hent
   have hes':β.es=ti.el:=hB.es.trans (Nat.eq_of_beq_eq_true hes.1)
   obtain ⟨base,c,hxe,hnc,hz⟩:=rsv (gv_ok hg he hx)
   refine lookw (v:= .pointer (some (β.addr (m.toNat+i) 0))) h (fun hc=>⟨by simp only [Rv];exact ⟨β,hβ,rfl⟩,fun o' ho'=> ?_⟩)
   rcases hz with hz|⟨β',hβ',hba,hcap⟩
   ·omega
   ·rw [hβ] at hβ';cases hβ'
    subst hba
    have ha:(β.addr i 0).add (m.toNat*ti.el)=β.addr (m.toNat+i) 0:=by rw [←hes',addr_add_es,Nat.add_comm]
    simp [execOp,ho',Instr.indexAt,hxe,riv (gv_ok hg he hix),asIntOf,run_underlying hdd,hc.1,hc.2,hsz,ha]
  ·rename_i hd q k m ti hx hix hti
   replace h:=bif_is' h
   obtain ⟨hk,h⟩:=h
   replace h:=onBlk_ok h
   obtain ⟨ro,bl,hent,h⟩:=h
   split at h
   ·rename_i n l
    replace h:=bif_is h
    obtain ⟨hes,h⟩:=h
    simp only [Bool.and_eq_true,Bool.not_eq_true'] at hes
    obtain ⟨e,hdd,hel,_⟩:=array_elt (hT _ _ hti) (by simpa using hk)
    have he0:P.cellsOf e≠0:=by intro e0;rw [hel,e0] at hes;simp at hes
    have hsz:∀w,(sizeOf e).run P w= .ok ti.el w:=fun w=>by rw [hel];exact size_elt he0 w
    obtain ⟨β,hβ,hB⟩:=hH.blk _ _ _ _ hent
    have hes':β.es=ti.el:=hB.es.trans (Nat.eq_of_beq_eq_true hes.1.2)
    obtain ⟨β',hβ',hpv⟩:=rpv (gv_ok hg he hx)
    rw [hβ] at hβ';cases hβ'
    refine lookw (v:= .pointer (some (β.addr m.toNat 0))) h (fun hc=>⟨by simp only [Rv];exact ⟨β,hβ,rfl⟩,fun o' ho'=> ?_⟩)
    have ha:(β.addr 0 0).add (m.toNat*ti.el)=β.addr m.toNat 0:=by rw [←hes',addr_add_es,Nat.zero_add]
    simp [execOp,ho',Instr.indexAt,hpv,Instr.sureAddr,riv (gv_ok hg he hix),asIntOf,run_underlying hdd,hc.1,hc.2,hsz,ha]
   ·exact h.elim
  ·exact h.elim
 |build ty parts=>exact build_ok hT hg he hH hop h
 |buildSlice ty len parts=>exact buildSlice_ok hT hg he hH hn1 hop h
 |makeSlice ty x y=>exact makeSlice_ok hT hg he hH hn1 hop h
 |slice ty x lo hi mx=>
  simp only [eff] at h
  split at h
  ·rename_i v ti hx hti;exact slice_ok hT hg he hH hop hx hti h
  ·exact h.elim
 |alloc ty=>
  simp only [eff] at h
  split at h
  ·rename_i ti hti
   cases hc:(Nat.beq ti.kind 4&&Nat.beq ti.len 1) with
   |false=>rw [hc] at h;exact alloc_ok hT hH hn1 hop hti h
   |true=>rw [hc] at h;exact bld_ok hT hH hn1 hop hti h
  ·exact h.elim
 |box ty x=>exact box_ok hg he hH hn1 hop h
 |makeFunc fn first captured=>
  cases fn with
  |func f=>
   simp only [eff] at h
   split at h
   ·rename_i l hf hl
    have hf':first= #[]:=Array.toList_inj.1 (by simpa using hf)
    have hr:=gvs_ok hg he _ _ hl
    refine look (v:= .func (.func f) #[] (captured.map a.eval)) (by simp only [Rv];exact ⟨_,rfl,by rw [Array.toList_map];exact hr⟩) (fun o' ho'=> ?_) h
    simp [execOp,ho',Instr.makeFunc,hf']
   ·exact h.elim
  |_=>simp only [eff] at h;exact h.elim
 |makeInterface ty x=>
  simp only [eff] at h
  split at h
  ·rename_i v ti hx hti
   replace h:=bif_is' h
   obtain ⟨hk,h⟩:=h
   obtain ⟨i,d,_,hd,_,hkd⟩:=info_of (hT _ _ hti)
   refine look (v:= .iface ty (a.eval x)) (by simp only [Rv];exact ⟨_,rfl,gv_ok hg he hx⟩) (fun o' ho'=> ?_) h
   cases d<;>first|(simp [execOp,ho',Instr.makeInterface,run_underlying hd];done)|(rw [←hkd] at hk;simp [kindOf] at hk)
  ·exact h.elim
 |call c=>
  obtain ⟨callee,args,ts⟩:=c
  cases callee with
  |value f=>simp only [eff] at h;exact h.elim
  |invoke r m=>simp only [eff] at h;exact h.elim
  |builtin bi=>
   simp only [eff] at h
   split at h
   ·rename_i x hargs
    have ha:args= #[x]:=Array.toList_inj.1 (by simpa using hargs)
    subst ha
    split at h
    ·rename_i ty hts
     have ht:ts= #[ty]:=Array.toList_inj.1 (by simpa using hts)
     subst ht
     split at h
     ·rename_i s ti hx hti
      replace h:=bif_is h
      obtain ⟨hk,h⟩:=h
      obtain ⟨d,hd,hkd⟩:=kind_of (hT _ _ hti) hk
      have hd':d= .string:=by cases d<;>first|rfl|(exact absurd hkd (by simp [kindOf]))
      subst hd'
      exact look rvi (fun o' ho'=>by simp [execOp,ho',resolve,invoke,builtin,Builtin.len_,rtv (gv_ok hg he hx),run_underlying hd,goInt]) h
     ·rename_i n ti hx hti
      replace h:=bif_is h
      obtain ⟨hk,h⟩:=h
      obtain ⟨e,hd,_⟩:=slice_elt (hT _ _ hti) hk
      obtain ⟨ad,c,hv,_⟩:=rsv (gv_ok hg he hx)
      exact look rvi (fun o' ho'=>by simp [execOp,ho',resolve,invoke,builtin,Builtin.len_,hv,run_underlying hd,goInt]) h
     ·rename_i ti hx hti
      replace h:=bif_is h
      obtain ⟨hk,h⟩:=h
      obtain ⟨e,hd,_⟩:=slice_elt (hT _ _ hti) hk
      have hv:a.eval x= .slice none 0 0:=by have:=gv_ok hg he hx;simpa only [Rv] using this
      exact look rvi (fun o' ho'=>by simp [execOp,ho',resolve,invoke,builtin,Builtin.len_,hv,run_underlying hd,goInt]) h
     ·rename_i ti hx hti
      replace h:=bif_is h
      obtain ⟨hk,h⟩:=h
      obtain ⟨e,hd,_⟩:=slice_elt (hT _ _ hti) hk
      obtain ⟨ad,hv⟩:∃ad,a.eval x= .slice ad 0 0:=by have:=gv_ok hg he hx;simpa only [Rv] using this
      exact look rvi (fun o' ho'=>by simp [execOp,ho',resolve,invoke,builtin,Builtin.len_,hv,run_underlying hd,goInt]) h
     ·rename_i ti hx hti
      replace h:=bif_is h
      obtain ⟨hk,h⟩:=h
      obtain ⟨kt,et,hd,_⟩:=map_of (hT _ _ hti) hk
      exact look rvi (fun o' ho'=>by simp [execOp,ho',resolve,invoke,builtin,Builtin.len_,rnm (gv_ok hg he hx),run_underlying hd,goInt]) h
     ·rename_i ti hx hti
      replace h:=bif_is h
      obtain ⟨hk,h⟩:=h
      exact mlen_ok hT hg he hH hop hx hti hk h
     ·exact h.elim
    ·exact h.elim
   ·rename_i x y hargs
    have ha:args= #[x,y]:=Array.toList_inj.1 (by simpa using hargs)
    subst ha
    split at h
    ·rename_i t1 tr hts
     split at h
     ·rename_i m k ti hx hy hti
      replace h:=bif_is h
      obtain ⟨hk,h⟩:=h
      exact delete_ok hT hg he hH hts hop hx hy hti hk h
     ·exact h.elim
    ·exact h.elim
   ·rename_i x hargs
    have ha:args= #[x]:=Array.toList_inj.1 (by simpa using hargs)
    subst ha
    split at h
    ·rename_i t1 tr hts
     split at h
     ·rename_i s ti hx hti
      replace h:=bif_is h
      obtain ⟨hk,h⟩:=h
      exact clear_ok hT hg he hH hts hop hx hti hk h
     ·exact h.elim
    ·exact h.elim
   ·rename_i x y hargs
    have ha:args= #[x,y]:=Array.toList_inj.1 (by simpa using hargs)
    subst ha
    split at h
    ·rename_i p m q n hx hy
     replace h:=bif_is h
     obtain ⟨hk,h⟩:=h
     have:=ikEq_ok hk;subst this
     refine look rvi (fun o' ho'=> ?_) h
     simp only [execOp,ho',resolve,invoke,builtin,Builtin.min_]
     simp [riv (gv_ok hg he hx),riv (gv_ok hg he hy),Builtin.min2]
     omega
    ·rename_i m n hx hy
     refine look rvt (fun o' ho'=> ?_) h
     simp only [execOp,ho',resolve,invoke,builtin,Builtin.min_]
     have hb:∀(b:Bool) (w:World),(asBool (.bool b)).run P w= .ok b w:=fun _ _=>rfl
     simp [rtv (gv_ok hg he hx),rtv (gv_ok hg he hy),Builtin.min2,Op.stringOp,strMin,strLt,beq_toList_eq,seq,hb]
    ·exact h.elim
   ·rename_i x y hargs
    have ha:args= #[x,y]:=Array.toList_inj.1 (by simpa using hargs)
    subst ha
    split at h
    ·rename_i p m q n hx hy
     replace h:=bif_is h
     obtain ⟨hk,h⟩:=h
     have:=ikEq_ok hk;subst this
     refine look rvi (fun o' ho'=> ?_) h
     simp only [execOp,ho',resolve,invoke,builtin,Builtin.max_]
     simp [riv (gv_ok hg he hx),riv (gv_ok hg he hy),Builtin.max2]
     omega
    ·rename_i m n hx hy
     refine look rvt (fun o' ho'=> ?_) h
     simp only [execOp,ho',resolve,invoke,builtin,Builtin.max_]
     have hb:∀(b:Bool) (w:World),(asBool (.bool b)).run P w= .ok b w:=fun _ _=>rfl
     simp [rtv (gv_ok hg he hx),rtv (gv_ok hg he hy),Builtin.max2,Op.stringOp,strMax,strLt,hb]
    ·exact h.elim
   ·rename_i x y hargs
    have ha:args= #[x,y]:=Array.toList_inj.1 (by simpa using hargs)
    subst ha
    split at h
    ·rename_i t1 t2 hts
     have ht:ts= #[t1,t2]:=Array.toList_inj.1 (by simpa using hts)
     subst ht
     split at h
     ·rename_i s v ti ti2 hx hy hti hti2
      replace h:=bif_is h
      obtain ⟨hk,h⟩:=h
      exact append_ok hT hg he hH hn1 hop hx hy hti hti2 hk h
     ·exact h.elim
    ·exact h.elim
   ·rename_i x y hargs
    have ha:args= #[x,y]:=Array.toList_inj.1 (by simpa using hargs)
    subst ha
    split at h
    ·rename_i t1 tr hts
     split at h
     ·rename_i s v ti hx hy hti
      replace h:=bif_is h
      obtain ⟨hk,h⟩:=h
      exact copy_ok hT hg he hH hts hop hx hy hti hk h
     ·exact h.elim
    ·exact h.elim
   ·exact h.elim
 |convert src dst x=>
  simp only [eff] at h
  split at h
  ·rename_i v ta tb hx hta htb
   exact conv_ok hT hg he hH hn1 hop hx hta htb h
  ·exact h.elim
 |makeMap ty c=>
  cases c with
  |none=>
   simp only [eff] at h
   split at h
   ·rename_i ti hti
    replace h:=bif_is h
    exact makeMap_ok hT hH hn1 hop hti h.1 h.2
   ·exact h.elim
  |some c=>simp only [eff] at h;exact h.elim
 |lookup ty x y co=>
  simp only [eff] at h
  split at h
  ·rename_i m k ti hx hy hti
   replace h:=bif_is h
   exact lookup_ok hT hg he hH hop hx hy hti h.1 h.2
  ·exact h.elim
 |mapUpdate ty x y z=>
  simp only [eff] at h
  split at h
  ·rename_i m k v ti hx hy hz hti
   replace h:=bif_is h
   exact update_ok hT hg he hH hop hx hy hz hti h.1 h.2
  ·exact h.elim
 |mapEntry ty x y=>
  simp only [eff] at h
  split at h
  ·rename_i m k ti hx hy hti
   replace h:=bif_is h
   exact mapEntry_ok hT hg he hH hop hx hy hti h.1 h.2
  ·exact h.elim
 |entryStore ty x y z=>
  simp only [eff] at h
  split at h
  ·rename_i m k v hx hy hz
   exact entryStore_ok hg he hH hop hx hy hz h
  ·exact h.elim
 |range ty x=>
  simp only [eff] at h
  split at h
  ·rename_i m ti hx hti
   exact range_ok hT hg he hH hn1 hop hx hti h
  ·exact h.elim
 |entry x=>
  simp only [eff] at h
  split at h
  ·rename_i m hx
   exact entry_ok hg he hH hop hx h
  ·exact h.elim
 |_=>simp only [eff] at h;exact h.elim
end ops
end Go.Sy
