/- Several texts in one: YSM YS12 YC1 YC2 YSN YC3 YC4 YC5 YCX YC6 YCG YC7 YLib. -/
import Derived.Test.YtmnjebhdclmcfaaGreatDoorP1
import Derived.MapKept
import Derived.Laws.BytesString
import Derived.Orders
import Derived.Scope
set_option linter.unusedVariables false
set_option linter.unusedSimpArgs false
open Option.some (injEq)
namespace Go.Sy
abbrev u0f:=@Int.toNat_natCast
abbrev b1h:=@List.mem_singleton
abbrev f1R:=@List.length_map
abbrev k1j:=@List.getElem_mem
abbrev m1T:=@List.length_singleton
abbrev n1r:=@Nat.le_trans
abbrev p1Q:=@Array.getElem?_eq_some_iff
abbrev r1S:=@Int.eq_ofNat_of_zero_le
abbrev r1Z:=@MapKept.run_getObj_map
abbrev r1f:=@List.getElem?_eraseIdx
abbrev s1A:=@List.take_of_length_le
abbrev s1F:=@Array.toList_inj
abbrev s1I:=@List.getElem?_eq_some_iff
abbrev s1N:=@Nat.sub_self
abbrev s1Y:=@List.map_nil
abbrev s1Z:=@List.nodup_nil
abbrev s1e:=@List.extract_eq_take_drop
abbrev s1g:=@List.mem_iff_getElem?
abbrev s1m:=@Array.toList_extract
abbrev s1p:=@List.nodup_append
abbrev s1t:=@Array.getD_eq_getD_getElem?
abbrev s1x:=@List.eraseIdx_of_length_le
abbrev s1z:=@MapKept.run_setObj_map
abbrev t1S:=@List.length_eraseIdx
abbrev t1Y:=@List.getElem?_cons_zero
abbrev t1b:=@MapKept.heap_set
abbrev t1f:=@Nat.le_of_lt
abbrev t1k:=@List.size_toArray
abbrev t1n:=@Nat.sub_zero
abbrev t1t:=@Bool.and_true
abbrev u1C:=@List.eraseIdx_sublist
abbrev u1H:=@MapKept.run_checkKey
abbrev u1I:=@List.getElem_inj
abbrev u1J:=@Array.getElem_toList
abbrev u1K:=@Nat.lt_of_not_le
abbrev u1R:=@Nat.add_lt_add_iff_right
abbrev u1c:=@Array.mem_filter
abbrev u1h:=@Oper.upon_value
abbrev u1l:=@Array.getElem?_push
end Go.Sy
namespace Go.Sy
open Go.RowKit
def c0f:List Bool->Nat
 | []=>0
 |b::p=>bif b then 0 else c0f p+1
theorem i0n:∀p,c0f p<=p.length
 | []=>m0c _
 |b::p=>by
  simp only [c0f];cases b
  .have:=i0n p;simp_all
  .simp
theorem i0o:∀p,c0f p<p.length->p[c0f p]? =some true
 | [],h=>by trivial
 |b::p,h=>by
  cases b
  .simp only [c0f,cond_false,i1y] at h⊢;simpa using i0o p (by omega)
  rfl
theorem h0H (s:ByteArray):∀l:List ByteArray,a0q l s=c0f (l.map (fun x=>seq x s))
 | []=>rfl
 |x::l=>by simp only [a0q,n1w,c0f,h0H s l]
theorem a1H (s:Int):∀l:List Int,a0S l s=c0f (l.map (fun x=>decide (x=s)))
 | []=>rfl
 |x::l=>by simp only [a0S,n1w,c0f,a1H s l]
theorem w0a (s t:ByteArray):∀l m:List ByteArray,c0B l m s t=c0f (List.zipWith (fun x y=>seq x s&&seq y t) l m)
 | [],_=>by rfl
 |_::_,[]=>by rfl
 |x::l,y::m=>by simp only [c0B,List.zipWith_cons_cons,c0f,w0a s t l m]
theorem h0I {d:TypeDesc} {kv:Value}:∀(es:List MapEntry) (p:List Bool) (off:Nat),es.length=p.length->(∀(j:Nat) e b,es[j]? =some e->p[j]? =some b->Instr.sameNow d kv e.key=some b)->
  Instr.findNow d kv es off=some ((es[c0f p]?).map (fun e=>(off+c0f p,e.val)))
 | [],p,off,h,_=>by
   rfl
 |e::es,[],off,h,_=>by trivial
 |e::es,b::p,off,h,hk=>by
  have h0:=hk 0 e b rfl rfl;simp only [Instr.findNow,h0];cases b with
  |true=>rfl
  |false=>
   have:=h0I es p (off+1) (by simp_all) (fun j e' b' h1 h2=>hk (j+1) e' b' (by trivial) (by trivial));simp only [c0f];grind
theorem h0v {P:Program} {w:World} {kt:TypeId} {kv:Value}:∀(es:List MapEntry) (p:List Bool) (off:Nat),es.length=p.length->(∀(j:Nat) e b,es[j]? =some e->p[j]? =some b->(Op.equal kt kv e.key).run P w= .ok b w)->
  (Instr.findAsking kt kv es off).run P w= .ok ((es[c0f p]?).map (fun e=>(off+c0f p,e.val))) w
 | [],p,off,h,_=>by
   rfl
 |e::es,[],off,h,_=>by trivial
 |e::es,b::p,off,h,hk=>by
  have h0:=hk 0 e b rfl rfl;simp only [Instr.findAsking,k1h,h0,b1g];cases b with
  |true=>rfl
  |false=>
   have:=h0v (P:=P) (w:=w) es p (off+1) (by simp_all) (fun j e' b' h1 h2=>hk (j+1) e' b' (by trivial) (by trivial));simp only [c0f];grind
section ops
variable {P:Program} {T:Tab} {g:G} {vs:VS} {a:Act} {w:World} {r:SV} {U:a0k} {b:Nat} {t:List Nat} {H:a0k} {nx:Nat}
theorem k0q {ty:TypeId} {ti:TI} (h:k0j P ty=some ti) (hk:Nat.beq ti.kind 8=true):∃k e,P.underlying ty=some (.map k e)/\ti.ez=c0E P e/\ti.ega=y0h P e/\ti.len=a0V P k/\
  ti.flat=(match P.underlying k with|some (.struct fs)=>bif !P.stoodInHeld k&& !P.eqGuardType P.depth k then (b0q P 0 fs.toList).getD [] else []|_=> [])/\ti.ik=(match P.underlying k with|some (.int x)=>x|_=> .i64)/\(ti.bld=true->v0N P e=true):=by
 unfold k0j at h;split at h
 .rename_i i d hi hd;simp only [injEq] at h;cases d with
  |map k e=>subst h;exact ⟨k,e,hd,rfl,rfl,rfl,rfl,rfl,fun hb=>by simp_all [k0B]⟩
  |_=>rw [<-h] at hk;trivial
 grind
theorem p0H {k:TypeId} (h:a0V P k=3):P.underlying k=some .string:=by
 grind [a0V]
theorem f1q {k:TypeId} (h:a0V P k=2):∃x,P.underlying k=some (.int x):=by
 grind [a0V]
theorem a1I (x s:ByteArray):(s==x)=seq x s:=by
 simp_all [seq,beq_toListBytes,b0u,eq_comm]
structure KeyRun (P:Program) (k:TypeId) (kv:Value) (es:Array MapEntry) (n i:Nat):Prop where
 le:i<=n
 check:∀(w:World) em,(Instr.checkKey em 10000 k kv).run P w= .ok () w
 find:∀w:World,(Instr.findKey k kv es.toList).run P w= .ok ((es.toList[i]?).map (fun e=>(i,e.val))) w
 same:∀e,es[i]? =some e->e.key=kv
 stays:∀w:World,(Instr.keyThatStays kv kv).run P w= .ok kv w
theorem n1h {k:TypeId} (h:(match P.underlying k with|some (.struct fs)=>bif !P.stoodInHeld k&& !P.eqGuardType P.depth k then (b0q P 0 fs.toList).getD [] else []|_=> [])= [3,3]):
  ∃fs:Array Field,P.underlying k=some (.struct fs)/\P.stoodInHeld k=false/\b0q P 0 fs.toList=some [3,3]:=by
 split at h
 .rename_i fs hfs;refine ⟨fs,hfs,?_⟩;cases hc:(!P.stoodInHeld k&& !P.eqGuardType P.depth k) with
  |false=>simp_all
  |true=>
   cases hf:b0q P 0 fs.toList with
   |none=>simp_all
   |some l=>simp_all
 grind
theorem f1r {fs:List Field} (h:b0q P 0 fs=some [3,3]):∃f0 f1,fs= [f0,f1]/\f0.name≠"_"/\a0V P f0.type=3/\f0.offset=0/\f1.name≠"_"/\a0V P f1.type=3/\f1.offset=1:=by
 have step:∀(i:Nat) (fs:List Field) (k:Nat) (l:List Nat),b0q P i fs=some (k::l)->∃f r,fs=f::r/\f.name≠"_"/\a0V P f.type=k/\f.offset=i/\b0q P (i+1) r=some l:=by
  intro i fs k l h;cases fs with
  |nil=>simp [b0q] at h
  |cons f r=>
   simp only [b0q] at h;grind
 obtain ⟨f0,r0,rfl,a1,a2,a3,h1⟩:=step 0 fs 3 [3] h;obtain ⟨f1,r1,rfl,b1,b2,b3,h2⟩:=step 1 r0 3 [] h1;have:r1= []:=by
  cases r1 with
  |nil=>rfl
  |cons f r=>
   grind [b0q]
 grind
theorem l0G {ty k e:TypeId} {ti:TI} {ka ea:Bool} {n i ck:Nat} {ks:List Col} {vl:List BCol} {bs:List Nat} {es:Array MapEntry} {key:SV} {kv:Value} (hlen:ti.len=a0V P k)
  (hflat:ti.flat=(match P.underlying k with|some (.struct fs)=>bif !P.stoodInHeld k&& !P.eqGuardType P.depth k then (b0q P 0 fs.toList).getD [] else []|_=> []))
  (hik:ti.ik=(match P.underlying k with|some (.int x)=>x|_=> .i64)) (hM:MapOk g ka ea n ks vl bs ck es) (hkey:Rv g key kv) (hi:e0C ti ka ks key=some i):KeyRun P k kv es n i:=by
 have hsz:es.toList.length=n:=by simpa using hM.size
 unfold e0C at hi;split at hi
 .
  rename_i l s;cases hb:Nat.beq ti.len 3 with
  |false=>simp_all
  |true=>
   rw [hb] at hi;simp only [cond_true,injEq] at hi;have hu:=p0H (P:=P) (k:=k) (by simp_all);have hkv:=rtv hkey;subst hkv;have hl:l.length=n:=hM.kl _ (b1h.2 rfl);have hrow:∀(j:Nat) (e:MapEntry),es[j]? =some e->e.key= .string (l.getD j ⟨#[]⟩):=fun j e he=>(hM.row j e he).2.1
   rw [h0H] at hi;have hpl:(l.map (fun x=>seq x s)).length=n:=by grind
   have hf:=h0I (d:= .string) (kv:= .string s) es.toList (l.map (fun x=>seq x s)) 0 (by omega) (by
    intro j e b h1 h2;rw [hrow j e (by simp_all)];simp only [Instr.sameNow,injEq,a1I];grind)
   rw [hi] at hf;have hle:i<=n:=by grind [i0n]
   refine ⟨hle,fun w em=>u1H hu (by trivial) em 9999,fun w=>by simp_all [MapKept.run_findKey],?_,fun w=>MapKept.run_keyThatStays (d:= .string) (by trivial)⟩;intro e he;have hlt:i<n:=by
    grind
   have ht:=i0o (l.map (fun x=>seq x s)) (by omega);rw [hi,f1Q] at ht;rw [hrow i e he];cases hx:l[i]? with
   |none=>simp_all
   |some y=>
    rw [hx] at ht;simp only [k1k,injEq] at ht;have:y=s:=of_decide_eq_true ht;simp_all
 .
  rename_i kk l p x;cases hb:(Nat.beq ti.len 2&&f0J p kk&&f0J p ti.ik) with
  |false=>grind
  |true=>
   rw [hb] at hi;simp only [cond_true,injEq] at hi;simp only [n0M] at hb;obtain ⟨kd,hu⟩:=f1q (P:=P) (k:=k) (by simp_all);have hpk:=c0t hb.1.2;have hpd:=c0t hb.2;rw [hik,hu] at hpd;simp only at hpd;subst hpd;subst hpk;have hkv:=riv hkey;subst hkv;have hl:l.length=n:=hM.kl _ (b1h.2 rfl);have hrow:∀(j:Nat) (e:MapEntry),es[j]? =some e->e.key= .int p (l.getD j 0):=fun j e he=>(hM.row j e he).2.1
   rw [a1H] at hi;have hpl:(l.map (fun y=>decide (y=x))).length=n:=by grind
   have hf:=h0I (d:= .int p) (kv:= .int p x) es.toList (l.map (fun y=>decide (y=x))) 0 (by omega) (by
    intro j e b h1 h2;rw [hrow j e (by simp_all)];simp only [Instr.sameNow,if_true,injEq];grind)
   rw [hi] at hf;have hle:i<=n:=by grind [i0n]
   refine ⟨hle,fun w em=>u1H hu (by rfl) em 9999,fun w=>by simp_all [MapKept.run_findKey],?_,fun w=>MapKept.run_keyThatStays (d:= .int p) (by rfl)⟩;intro e he;have hlt:i<n:=by
    grind
   have ht:=i0o (l.map (fun y=>decide (y=x))) (by omega);grind
 .
  rename_i l m s u;split at hi
  .rename_i hfl;simp only [injEq] at hi;rw [hflat] at hfl;obtain ⟨fs,hu,hst,hff⟩:=n1h hfl;obtain ⟨kvs,rfl,hrk⟩:=rav hkey;have hkv2:kvs= #[.string s,.string u]:=by
    grind [Rvs,rtv]
   subst hkv2;have hl:l.length=n:=hM.kl (.strs l) (by simp);have hm:m.length=n:=hM.kl (.strs m) (by simp);have hrow:∀(j:Nat) (e:MapEntry),es[j]? =some e->e.key= .agg #[.string (l.getD j ⟨#[]⟩),.string (m.getD j ⟨#[]⟩)]:=fun j e he=>(hM.row j e he).2.1
   rw [w0a] at hi;have hpl:(List.zipWith (fun x y=>seq x s&&seq y u) l m).length=n:=by simp_all
   have hfo:P.fieldsOf k=fs:=by grind [Program.fieldsOf]
   have heq:∀(w:World) (x y:ByteArray),(Op.equal k (.agg #[.string s,.string u]) (.agg #[.string x,.string y])).run P w= .ok (seq x s&&seq y u) w:=by
    intro w x y;have h1:(Op.equalIn (9998+2) k (.agg #[.string s,.string u]) (.agg #[.string x,.string y])).run P w= .ok (seq s x&&(seq u y&&true)) w:=by
     rw [run_equalIn_struct w 9999 k _ _ (by simp_all) hst,hfo];exact l0v (g:=g) 9998 _ _ w fs.toList 0 [3,3] [.str s,.str u] [.str x,.str y] _ hff (by trivial) (by simp [Rvs,Rv]) (by rfl)
    have h2:(seq s x&&(seq u y&&true))=(seq x s&&seq y u):=by
     have c:∀p q:ByteArray,seq p q=seq q p:=by grind [seq]
     simp_all
    rw [h2] at h1;exact h1
   have hzip:∀(j:Nat) (b:Bool),(List.zipWith (fun x y=>seq x s&&seq y u) l m)[j]? =some b->(seq (l.getD j ⟨#[]⟩) s&&seq (m.getD j ⟨#[]⟩) u)=b:=by
    grind
   have hle:i<=n:=by grind [i0n]
   have hfind:∀w:World,(Instr.findKey k (.agg #[.string s,.string u]) es.toList).run P w= .ok ((es.toList[i]?).map (fun e=>(i,e.val))) w:=by
    intro w;have ha:=h0v (P:=P) (w:=w) (kt:=k) (kv:= .agg #[.string s,.string u]) es.toList (List.zipWith (fun x y=>seq x s&&seq y u) l m) 0 (by omega) (by
     grind)
    rw [hi] at ha;simp only [Instr.findKey,k1h,run_underlying hu,b1g];cases hes:es.toList with
    |nil=>
     rfl
    |cons e0 es0=>
     simp_all [Instr.findNow,Instr.sameNow]
   refine ⟨hle,?_,hfind,?_,?_⟩
   .intro w em;obtain ⟨f0,f1,hfs,n0,s0,o0,n1,s1,o1⟩:=f1r hff;obtain rfl:fs= #[f0,f1]:=s1F.1 (by omega);have hu0:=p0H (P:=P) s0;have hu1:=p0H (P:=P) s1;have a0:(isAgg f0.type).run P w= .ok false w:=by simp [isAgg,run_underlying hu0]
    have a1:(isAgg f1.type).run P w= .ok false w:=by simp [isAgg,run_underlying hu1]
    have c0:∀v,(Instr.checkKey em 9999 f0.type (.string v)).run P w= .ok () w:=fun v=>u1H (P:=P) (w:=w) (k:= .string v) hu0 (by trivial) em 9998
    have c1:∀v,(Instr.checkKey em 9999 f1.type (.string v)).run P w= .ok () w:=fun v=>u1H (P:=P) (w:=w) (k:= .string v) hu1 (by trivial) em 9998
    have go:∀N:Nat,(∀v,(Instr.checkKey em N f0.type (.string v)).run P w= .ok () w)->(∀v,(Instr.checkKey em N f1.type (.string v)).run P w= .ok () w)->(Instr.checkKey em (N+1) k (.agg #[.string s,.string u])).run P w= .ok () w:=by
     intro N c0 c1;unfold Instr.checkKey;simp_all [part,run_underlying]
    simp_all
   .intro e he;have hlt:i<n:=by
     grind
    have ht:=i0o (List.zipWith (fun x y=>seq x s&&seq y u) l m) (by omega);rw [hi] at ht;have:=hzip i true ht;simp only [n0M] at this;rw [hrow i e he,of_decide_eq_true this.1,of_decide_eq_true this.2]
   simp_all [seq,Instr.keyThatStays,Instr.sameBits,a1I]
  trivial
 trivial
theorem rmv {h q:Nat} {v:Value} (x:Rv g (.map h q) v):∃β,g h q=some β/\v= .map (some β.blk):=by trivial
theorem rnm {v:Value} (x:Rv g .nmap v):v= .map none:=by trivial
theorem p0I {e:TypeId} (hz:v0N P e=true):∃z:Value,(∀w,(zeroValue e).run P w= .ok z w)/\c0E P e=z.cells.toList.map cv/\((y0h P e=true/\∃cs,z= .agg cs)\/(y0h P e=false/\z.cells= #[z])):=by
 unfold v0N at hz;cases hi:P.info? e with
 |none=>simp_all
 |some i=>
  rw [hi] at hz;simp only at hz;cases hzz:i.zero with
  |none=>simp_all
  |some z=>
   refine ⟨z,fun w=>by simp_all [zeroValue,run_typeInfo],by simp [c0E,hi,hzz],?_⟩;cases z with
   |agg cs=>simp_all
   |tuple cs=>grind
   |_=>exact .inr ⟨by simp_all,rfl⟩
theorem r0E {x:Int} (h:f0L (some x)=true):x=0:=by
 cases x with
 |ofNat n=>cases n with
  |zero=>rfl
  |succ n=>cases h
 |negSucc n=>cases h
theorem a1J {s:ByteArray} (h:s.size=0):s=⟨#[]⟩:=by
 obtain ⟨d⟩:=s;have:d.size=0:=h;simp_all
theorem r0F {n:Nat}:∀(vl:List BCol) (ez:List SV),zOk vl ez=true->(∀c∈vl,c.len=n)->a0C vl n=ez
 | [],[],_,_=>rfl
 | [],_::_,h,_=>by trivial
 | .svs _::_,ez,h,_=>by all_goals trivial
 | .own _ _::_,ez,h,_=>by all_goals trivial
 | .arrs _ _ _::_,ez,h,_=>by all_goals trivial
 | .ptrs _ _::_,ez,h,_=>by all_goals trivial
 | .sc c::l,ez,h,hl=>by
   have hc:c.len=n:=hl (.sc c) (by simp);have hl':∀c∈l,c.len=n:=fun c hc=>hl c (by grind)
   have gd:∀{α:Type} (l:List α) (d:α),l.length=n->l.getD n d=d:=fun l d e=>by simp_all
   cases c with
   |ints k xs=>
    cases ez with
    |nil=>trivial
    |cons z m=>
     cases z with
     |int p x=>
      simp only [zOk,n0M] at h;have:=c0t h.1.1;subst this;have:=r0E h.1.2;subst this;simp only [a0C,BCol.at,Col.at,gd xs 0 hc,r0F l m h.2 hl']
     |_=>trivial
   |strs xs=>
    cases ez with
    |nil=>trivial
    |cons z m=>
     cases z with
     |str s=>
      simp only [zOk,n0M] at h;have:=a1J (q0d h.1);subst this;simp only [a0C,BCol.at,Col.at,gd xs _ hc,r0F l m h.2 hl']
     |_=>trivial
   |bools xs=>
    cases ez with
    |nil=>trivial
    |cons z m=>
     cases z with
     |bool b=>
      cases b with
      |true=>trivial
      |false=>
       simp only [a0C,BCol.at,Col.at,gd xs _ hc,r0F l m h hl']
     |_=>trivial
theorem f1s {ea:Bool} {n i:Nat} {vl:List BCol} {v:Value} (hi:i<n) (h:Rv g (b0n ea vl i) v):Rv g (e0D ea n vl i) v:=by
 unfold e0D;split
 .rw [decide_eq_true hi];exact h
 .rw [decide_eq_true hi];exact h
 omega
theorem j1S {vl:List BCol} {ez:List SV} (h:q1g vl ez=true):(∃hh ns,vl= [.own hh ns]/\ez= [.nsl])\/(∃hh n,vl= [.ptrs hh n]/\ez= [.nptr]):=by
 unfold q1g at h;grind
theorem a1K {ea:Bool} {n i:Nat} {vl:List BCol} {ez:List SV} (h:zOk vl ez=true):e0D ea n vl i=b0n ea vl i:=by
 unfold e0D;grind [zOk]
theorem j1T {ea ega:Bool} {vl:List BCol} {ez:List SV} (h:q1f ea ega vl ez=true):ea=false/\ega=true/\∃k rows,vl= [.arrs ez.length k rows]/\j0r k ez=true:=by
 unfold q1f at h;split at h
 all_goals simp_all
theorem n1i {v:Value} {p:IntKind} {x:Int} (h:cv v= .int p x):v= .int p x:=by
 unfold cv at h;all_goals grind
theorem o0p {k:IntKind}:∀(cs:List Value),j0r k (cs.map cv)=true->∀(i:Nat) v,cs[i]? =some v->v= .int k 0
 | [],_,i,v,hv=>by trivial
 |c::cs,h,i,v,hv=>by
  simp only [n1w] at h;cases hc:cv c with
  |int p x=>
   rw [hc] at h;simp only [j0r,n0M] at h;have e1:=c0t h.1.1;have e2:=r0E h.1.2;subst e1;subst e2;cases i with
   |zero=>
    simp only [t1Y,injEq] at hv;subst hv;exact n1i hc
   |succ i=>exact o0p cs h.2 i v (by trivial)
  |_=>rw [hc] at h;trivial
theorem p1P {es:Array MapEntry} {j n:Nat} {e:MapEntry} (hs:es.size=n) (h:es[j]? =some e):j<n:=by grind
theorem l0H {co:Bool} {s:SV} {v:Value} {b:Bool} (h:Rv g s v):Rv g (r0i co s b) (if co=true then .tuple #[v,.bool b] else v):=by
 cases co with
 |false=>exact h
 |true=>simp only [r0i,cond_true,Rv,Rvs];simp_all
theorem a1L (hT:b0t P T) (hg:g.glob) (he:c0c g vs a) (hH:Holds g vs.heap w) {o:Oper} {ty:TypeId} {x y:Operand} {co:Bool} {m k:SV} {ti:TI} (ho:o.op= .lookup ty x y co) (hx:gv vs x=some m) (hy:gv vs y=some k) (hti:a0M T ty=some ti) (hk8:Nat.beq ti.kind 8=true) (h:(d0u vs ti m k co).is r U b t):b0I P a o w g vs.heap nx r U b:=by
 obtain ⟨kt,et,hu,hez,hega,hlen,hflat,hik,hbld⟩:=k0q (hT _ _ hti) hk8;have hkv:=a0F hg he hy;have hmv:=a0F hg he hx;unfold d0u at h;split at h
 .
  split at h
  .rename_i z hz;cases hb:ti.bld with
   |false=>rw [hb] at h;trivial
   |true=>
    rw [hb] at h;simp only [Bool.not_true,cond_false] at h;split at h
    .rename_i i0 hi0;obtain ⟨rfl,rfl,rfl,_⟩:=h;obtain ⟨zv,hz1,hz2,hz3⟩:=p0I (hbld hb);have hM:MapOk g (!Nat.beq ti.len 3&& !Nat.beq ti.len 2) ti.ega 0 (bif Nat.beq ti.len 3 then [.strs []] else bif Nat.beq ti.len 2 then [.ints ti.ik []] else [.strs [],.strs []]) [] [] 0 #[]:=
      ⟨rfl,by intro c hc;cases h3:Nat.beq ti.len 3<;>cases h2:Nat.beq ti.len 2<;>simp [h3,h2] at hc<;>(try rcases hc with rfl|rfl)<;>(rfl)<;>rfl,by simp,rfl,s1Z,by simp,by simp⟩
     have K:=l0G (P:=P) (ty:=ty) (e:=et) hlen hflat hik hM hkv hi0;have hzr:Rv g z zv:=by
      unfold m1Z at hz;rw [hega,hez] at hz;rcases hz3 with ⟨ha,cs,rfl⟩|⟨ha,hc⟩
      .rw [ha] at hz;simp only [injEq] at hz;subst hz;rw [hz2];simp only [Rv];exact ⟨cs,rfl,by simp_all [Value.cells,k0k]⟩
      .rw [ha,hz2,hc] at hz;simp only [n1w,s1Y,injEq] at hz;subst hz;exact y0l g zv
     refine b0Q hH (l0H (co:=co) (b:=false) hzr) (fun o' ho'=> ?_);have hf:=K.find w;simp only [List.getElem?_nil,Option.map_none] at hf;rw [ho] at ho';simp [execOp,ho',Instr.lookup,run_underlying hu,rnm hmv,K.check w,hf,hz1]
    trivial
  trivial
 .rename_i hh q;obtain ⟨ro,bl,hent,h⟩:=a0J h;split at h
  .rename_i ka ea n ks vl bs ck;split at h
   .rename_i i hi;replace h:=a0p h;obtain ⟨hc,h⟩:=h;obtain ⟨rfl,rfl,rfl,_⟩:=h;simp only [n0M] at hc;obtain ⟨hb,hzz⟩:=hc;obtain ⟨β,hβ,hB⟩:=hH.blk _ _ _ _ hent;obtain ⟨β',hβ',hpv⟩:=rmv hmv;rw [hβ] at hβ';cases hβ';obtain ⟨_,_,es,hes,hM⟩:=hB.obj;have K:=l0G (P:=P) (ty:=ty) (e:=et) hlen hflat hik hM hkv hi;obtain ⟨zv,hz1,hz2,hz3⟩:=p0I (hbld hb);by_cases hlt:i<n
    .obtain ⟨e0,he0⟩:∃e0,es[i]? =some e0:=⟨es[i]'(by rw [hM.size];omega),f1P _⟩;rw [decide_eq_true hlt];refine b0Q hH (l0H (co:=co) (b:=true) (f1s hlt (hM.row i e0 he0).2.2)) (fun o' ho'=> ?_);have hf:=K.find w;have:es.toList[i]? =some e0:=by simp_all
     rw [this] at hf;rw [ho] at ho';simp [execOp,ho',Instr.lookup,run_underlying hu,hpv,r1Z hes,K.check w,hf]
    .have hin:i=n:=by have:=K.le;omega
     subst hin;rw [decide_eq_false hlt];have hzr:Rv g (e0D ea i vl i) zv:=by
      rw [s1G] at hzz;rcases hzz with hzz|hzz
      case inr=>
       obtain ⟨rfl,hga,k0,rows,rfl,hzs⟩:=j1T hzz;have hl0:rows.length=i:=hM.vl (.arrs ti.ez.length k0 rows) (by simp);rcases hz3 with ⟨ha,cs,rfl⟩|⟨ha,hc⟩
       .have hez2:ti.ez=cs.toList.map cv:=by rw [hez,hz2];rfl
        rw [hez2] at hzs⊢;have hat:=o0p _ hzs;show Rv g (.arr (cs.toList.map cv).length [.ints k0 (rows.getD i (List.replicate (cs.toList.map cv).length 0))]) (.agg cs);rw [List.getD,a1X (by omega),f1R,r1W];simp only [Rv];refine ⟨cs,rfl,by simp,?_,?_⟩
        .simp [b1h,Col.len]
        .intro j0 j1 c hj0 hj1;cases j1 with
         |zero=>
          simp only [nth,injEq] at hj1;subst hj1;simp only [m1T,u1O,q1j];have hs:cs[j0]? =some (cs[j0]'hj0):=f1P hj0;have:=hat j0 (cs[j0]'hj0) (by simp);simp_all [Col.val,List.getD]
         |succ j1=>trivial
       simp_all
      rw [n0M] at hzz;obtain ⟨hzo,hea⟩:=hzz;have hea':ea=ti.ega:=by
       all_goals grind
      simp only [s1G] at hzo;rcases hzo with hzo|hzo
      case inr=>
       simp only [n0M,n1s] at hzo;have hef:=hzo.1;subst hef;rcases j1S hzo.2 with ⟨hh,ns,rfl,hez1⟩|⟨hh,ns,rfl,hez1⟩
       all_goals
        all_goals simp_all [n1w,s1Y,e0D,s1w,List.cons.injEq,and_true,decide_eq_false,cond_false,y0l]
      rw [a1K hzo];have hat:=r0F vl ti.ez hzo hM.vl;subst hea';rcases hz3 with ⟨ha,cs,rfl⟩|⟨ha,hc⟩
      .rw [hega,ha];simp only [b0n,hat,hez,hz2,Rv];exact ⟨cs,rfl,by simpa [Value.cells] using k0k g cs.toList⟩
      .rw [hega,ha];rw [hez,hz2,hc] at hat;simp only [n1w,s1Y] at hat
       match vl,hat with
       | [c],hat=>
         simp only [a0C,List.cons.injEq,and_true] at hat;simp only [b0n,hat];exact y0l g zv
       | [],hat=>simp [a0C] at hat
       |_::_::_,hat=>simp [a0C] at hat
     refine b0Q hH (l0H (co:=co) (b:=false) hzr) (fun o' ho'=> ?_);have hf:=K.find w;have:es.toList[i]? =none:=a1X (by simp [hM.size]);rw [this] at hf;rw [ho] at ho';simp [execOp,ho',Instr.lookup,run_underlying hu,hpv,r1Z hes,K.check w,hf,hz1]
   trivial
  trivial
 trivial
theorem d0G {α:Type} (i:Nat) (x:α) (l:List α):(b0j i x l).length=if i<l.length then l.length else l.length+1:=by
 unfold b0j;split<;>simp
theorem d0U {α:Type} (i j:Nat) (x d:α) (l:List α) (h:i<=l.length):(b0j i x l).getD j d=if j=i then x else l.getD j d:=by
 unfold b0j;grind
theorem r0G {i:Nat} {c d:Col} {v:SV} {n:Nat} (h:c0v i c v=some d) (hc:c.len=n) (hi:i<=n):d.len=(if i<n then n else n+1)/\d.at i=v/\(∀j,j≠i->d.at j=c.at j/\d.val j=c.val j)/\∀x,Rv g v x->d.val i=x:=by
 subst hc;cases c with
 |ints k l=>
  cases v with
  |int p x=>
   simp only [c0v] at h;cases hk:f0J p k with
   |false=>simp_all
   |true=>
    rw [hk] at h;simp only [cond_true,injEq] at h;subst h;have:=c0t hk;have hp:=fun j d=>d0U i j x d l hi
    refine ⟨d0G _ _ _,by simp_all [Col.at],fun j hj=>by simp_all [Col.at,Col.val],fun y hy=>by rw [riv hy];simp_all [Col.val]⟩
  |_=>trivial
 |strs l=>
  cases v with
  |str x=>
   simp only [c0v,injEq] at h;subst h;have hp:=fun j d=>d0U i j x d l hi
   refine ⟨d0G _ _ _,by simp_all [Col.at],fun j hj=>by simp_all [Col.at,Col.val],fun y hy=>by rw [rtv hy];simp_all [Col.val]⟩
  |_=>trivial
 |bools l=>
  cases v with
  |bool x=>
   simp only [c0v,injEq] at h;subst h;have hp:=fun j d=>d0U i j x d l hi
   refine ⟨d0G _ _ _,by simp_all [Col.at],fun j hj=>by simp_all [Col.at,Col.val],fun y hy=>by rw [rbv hy];simp_all [Col.val]⟩
  |_=>trivial
theorem j0z {i n:Nat} (hi:i<=n):∀(ks:List Col) (kc:List SV) (ks':List Col),d0t i ks kc=some ks'->(∀c∈ks,c.len=n)->
  ks'.length=ks.length/\(∀c∈ks',c.len=(if i<n then n else n+1))/\(∀j,j≠i->c0b ks' j=c0b ks j)/\∀xs,Rvs g kc xs->c0b ks' i=xs
 | [],[],ks',h,_=>by
   simp only [d0t,injEq] at h;subst h;exact ⟨rfl,by simp,fun _ _=>rfl,fun xs hx=>by subst hx;rfl⟩
 | [],_::_,ks',h,_=>by trivial
 |_::_,[],ks',h,_=>by trivial
 |c::l,v::m,ks',h,hl=>by
  simp only [d0t] at h;split at h
  .rename_i d r' hd hr';simp only [injEq] at h;subst h;obtain ⟨a1,a2,a3,a4⟩:=r0G (g:=g) hd (hl c (by simp)) hi;obtain ⟨b0,b1,b2,b3⟩:=j0z hi l m r' hr' (fun c hc=>hl c (by grind));refine ⟨by grind,?_,fun j hj=>by simp_all [c0b],?_⟩
   .simp_all
   .intro xs hx;simp only [Rvs] at hx;grind [c0b]
  grind
theorem g0I {i n:Nat} (hi:i<=n):∀(vl:List BCol) (vc:List SV) (vl':List BCol),c0s i vl vc=some vl'->(∀c∈vl,c.len=n)->
  vl'.length=vl.length/\(∀c∈vl',c.len=(if i<n then n else n+1))/\(∀j,j≠i->j<n->a0C vl' j=a0C vl j)/\a0C vl' i=vc
 | [],[],vl',h,_=>by
   simp only [c0s,injEq] at h;subst h;exact ⟨rfl,by simp,fun _ _ _=>rfl,rfl⟩
 | [],_::_,vl',h,_=>by trivial
 |_::_,[],vl',h,_=>by trivial
 |c::l,v::m,vl',h,hl=>by
  simp only [c0s] at h;split at h
  .rename_i d r' hd hr';simp only [injEq] at h;subst h;obtain ⟨b0,b1,b2,b3⟩:=g0I hi l m r' hr' (fun c hc=>hl c (by grind));have hc:=hl c (by simp);have key:d.len=(if i<n then n else n+1)/\d.at i=v/\∀j,j≠i->j<n->d.at j=c.at j:=by
    cases c with
    |sc c=>
     simp only [l0m] at hd;split at hd
     .rename_i d' hd';simp only [injEq] at hd;subst hd;obtain ⟨a1,a2,a3,_⟩:=r0G (g:=fun _ _=>none) hd' hc hi;exact ⟨a1,a2,fun j hj _=>(a3 j hj).1⟩
     trivial
    |svs xs=>
     simp only [l0m,injEq] at hd;subst hd;have hc':xs.length=n:=hc;subst hc';have hp:=fun j d=>d0U i j v d xs hi
     exact ⟨d0G _ _ _,by simp_all [BCol.at],fun j hj _=>by simp_all [BCol.at]⟩
    |arrs n0 k0 xs=>
     have hc':xs.length=n:=hc;subst hc';unfold l0m at hd;split at hd
     .trivial
     .trivial
     .trivial
     .trivial
     .rename_i n1 k1 rows m1 p1 x1 e1;cases e1;cases hb:(Nat.beq m1 n0&&f0J p1 k0) with
      |false=>simp_all
      |true=>
       rw [hb] at hd;simp only [cond_true,injEq] at hd;subst hd;rw [n0M] at hb;have g1:=q0d hb.1;have g2:=c0t hb.2;subst g1;subst g2;have hp:=fun j d=>d0U i j x1 d xs hi
       exact ⟨d0G _ _ _,by simp_all [BCol.at],fun j hj _=>by simp_all [BCol.at]⟩
     trivial
    |own hh xs=>
     simp only [l0m,injEq] at hd;subst hd;have hc':xs.length=n:=hc;subst hc';have hp:=fun j d=>d0U i j v d (k0h hh xs) (by rw [b0O];omega)
     exact ⟨by rw [<-b0O hh xs];exact d0G _ _ _,by simp_all [BCol.at],fun j hj hjn=>by simp only [BCol.at,hp,if_neg hj];exact e0s hjn⟩
    |ptrs hh n0=>
     simp only [l0m,injEq] at hd;subst hd;have hc':n0=n:=hc;subst hc';have hp:=fun j d=>d0U i j v d (e0A hh n0) (by rw [b0P];omega)
     exact ⟨by have:=d0G i v (e0A hh n0);rw [b0P] at this;trivial,by simp_all [BCol.at],fun j hj hjn=>by simp only [BCol.at,hp,if_neg hj];exact e0Y hjn⟩
   refine ⟨by grind,?_,fun j hj hjn=>by simp_all [a0C],by simp_all [a0C]⟩;simp_all
  grind
theorem c0Z {ea:Bool} {vl vl':List BCol} {i j:Nat} (hl:vl'.length=vl.length) (h:a0C vl' j=a0C vl i):b0n ea vl' j=b0n ea vl i:=by
 cases ea with
 |true=>simp only [b0n,h]
 |false=>
  match vl,vl',hl,h with
  | [],[],_,_=>rfl
  | [c],[d],_,h=>simp_all [a0C,b0n]
  |_::_::_,_::_::_,_,_=>rfl
theorem e0F {ka:Bool} {ks ks':List Col} {i j:Nat} (hl:ks'.length=ks.length) (h:c0b ks' j=c0b ks i):a1b ka ks' j=a1b ka ks i:=by
 cases ka with
 |true=>simp only [a1b,h]
 |false=>
  match ks,ks',hl,h with
  | [],[],_,_=>rfl
  | [c],[d],_,h=>simp_all [c0b,a1b]
  |_::_::_,_::_::_,_,_=>rfl
theorem p0J {ea:Bool} {v:SV} {vc:List SV} {vl:List BCol} {i:Nat} (h:b0e ea v=some vc) (hb:a0C vl i=vc):b0n ea vl i=v:=by
 cases ea with
 |true=>
  cases v<;>simp [b0e] at h;simp_all [b0n]
 |false=>
  simp only [b0e] at h;cases ho:(v.one||y0g v) with
  |false=>simp_all
  |true=>
   rw [ho] at h;simp only [cond_true,injEq] at h;subst h
   match vl,hb with
   | [c],hb=>simp_all [a0C,b0n]
theorem a1M {ka:Bool} {key:SV} {kv:Value} {kc:List SV} {ks:List Col} {i:Nat} (h:b0e ka key=some kc) (hr:Rv g key kv) (hb:∀xs,Rvs g kc xs->c0b ks i=xs):a1b ka ks i=kv:=by
 cases ka with
 |true=>
  cases key<;>simp [b0e] at h;subst h;obtain ⟨xs,rfl,hx⟩:=rav hr;simp only [a1b,hb _ hx]
 |false=>
  simp only [b0e] at h;cases ho:(key.one||y0g key) with
  |false=>simp_all
  |true=>
   rw [ho] at h;simp only [cond_true,injEq] at h;subst h;have:=hb [kv] (by simp only [Rvs];simp_all)
   match ks,this with
   | [c],this=>simp_all [c0b,a1b]
theorem p0K {β:Base} {o:ObjS} {w':World} (hes:β.es=0) (hcap:0<β.cap) (hoff:β.off=0) (hlt:β.blk<w'.heap.size) (h:o.Ok g w' β):BlkAt g β false (.obj o) w':=
 ⟨fun _=>hlt,hes,trivial,fun i hi=>hi.elim,fun i j sv hi=>hi.elim,fun i j v hi=>hi.elim,fun _ i j _ hj=>by omega,⟨hcap,hoff,h⟩⟩
theorem a1N (hT:b0t P T) (hg:g.glob) (he:c0c g vs a) (hH:Holds g vs.heap w) {o:Oper} {ty:TypeId} {x y z:Operand} {m k v:SV} {ti:TI} (ho:o.op= .mapUpdate ty x y z) (hx:gv vs x=some m) (hy:gv vs y=some k) (hz:gv vs z=some v) (hti:a0M T ty=some ti) (hk8:Nat.beq ti.kind 8=true) (h:(j0s vs ti m k v).is r U b t):b0I P a o w g vs.heap nx r U b:=by
 obtain ⟨kt,et,hu,hez,hega,hlen,hflat,hik,hbld⟩:=k0q (hT _ _ hti) hk8;have hkv:=a0F hg he hy;have hmv:=a0F hg he hx;have hvv:=a0F hg he hz;unfold j0s at h;split at h
 .rename_i hh q;obtain ⟨ro,bl,hent,h⟩:=a0J h;split at h
  .rename_i ka ea n ks vl bs ck;split at h
   .rename_i i kc vc hi hkc hvc;split at h
    .rename_i ks' vl' hks hvl;obtain ⟨rfl,rfl,rfl,_⟩:=h;obtain ⟨β,hβ,hB⟩:=hH.blk _ _ _ _ hent;obtain ⟨β',hβ',hpv⟩:=rmv hmv;rw [hβ] at hβ';cases hβ';obtain ⟨hcap,hoff,es,hes,hM⟩:=hB.obj;have K:=l0G (P:=P) (ty:=ty) (e:=et) hlen hflat hik hM hkv hi;obtain ⟨c0,c1,c2,c3⟩:=j0z (g:=g) K.le ks kc ks' hks hM.kl;obtain ⟨d0,d1,d2,d3⟩:=g0I K.le vl vc vl' hvl hM.vl;have hkey:=a1M hkc hkv c3;have helem:=p0J hvc d3;have hblk:β.blk<w.heap.size:=hB.lt hcap;have hset:=t1b (o':=Obj.map es ck) hes;have fin:∀(es':Array MapEntry) (bs':List Nat) (ck' n':Nat),MapOk g ka ea n' ks' vl' bs' ck' es'->(Instr.mapUpdate ty (a.eval x) (a.eval y) (a.eval z)).run P w= .ok () { w with heap:=w.heap.setIfInBounds β.blk (.map es' ck')}->
       b0I P a o w g vs.heap nx (.raw undef) (b0c vs.heap hh q (.obj (.map ka ea n' ks' vl' bs' ck'))) 0:=by
      intro es' bs' ck' n' hM' hrun;obtain ⟨k1,k2⟩:=t1b (o':=Obj.map es' ck') hes;refine ⟨undef,{ w with heap:=w.heap.setIfInBounds β.blk (.map es' ck')},g,.inr ⟨?_,rfl⟩,d0n hH hent hβ hcap (by rfl) (p0K hB.es hcap hoff (by simp_all) ⟨es',k1,hM'⟩) rfl rfl rfl (by simp) (fun k _ hk=>k2 k hk)⟩;simp [execOp,ho,hrun]
     by_cases hlt:i<n
     .obtain ⟨e0,he0⟩:∃e0,es[i]? =some e0:=⟨es[i]'(by rw [hM.size];omega),f1P _⟩;have hsame:=K.same e0 he0;rw [if_pos hlt] at c1 d1;rw [if_pos hlt,if_pos hlt,if_pos hlt];refine fin (es.modify i fun e=> { e with key:=a.eval y,val:=a.eval z}) bs ck n ⟨by simpa using hM.size,c1,d1,hM.bl,hM.nd,hM.lt,?_⟩ ?_
      .intro j e hj;by_cases e1:j=i
       .subst e1;rw [r1Y,if_pos rfl,he0] at hj;simp only [k1k,injEq] at hj;subst hj;exact ⟨(hM.row j e0 he0).1,hkey.symm,by simp_all⟩
       .rw [r1Y,if_neg (fun h=>e1 h.symm)] at hj;obtain ⟨r1,r2,r3⟩:=hM.row j e hj;exact ⟨r1,by grind [e0F],by rw [c0Z d0 (d2 j e1 (p1P hM.size hj))];omega⟩
      .have hf:=K.find w;have h1:es.toList[i]? =some e0:=by simp_all
       rw [h1] at hf;simp [Instr.mapUpdate,run_underlying hu,hpv,r1Z hes,K.check w,hf,he0,hsame,K.stays w,s1z _ hes,Result.andThen]
     .have hin:i=n:=by have:=K.le;omega
      subst hin;rw [if_neg hlt] at c1 d1;rw [if_neg hlt,if_neg hlt,if_neg hlt];refine fin (es.push { key:=a.eval y,val:=a.eval z,born:=ck}) (bs++ [ck]) (ck+1) (i+1) ⟨by simp [hM.size],c1,d1,by simp [hM.bl],?_,?_,?_⟩ ?_
      .rw [s1p];refine ⟨hM.nd,by simp,?_⟩;intro p hp q hq;simp only [b1h] at hq;subst hq;have:=hM.lt p hp;omega
      .intro p hp;simp only [k1q,b1h] at hp;rcases hp with hp|rfl
       .have:=hM.lt p hp;omega
       simp
      .intro j e hj;by_cases e1:j=i
       .subst e1;rw [u1l,if_pos hM.size.symm] at hj;simp only [injEq] at hj;subst hj;refine ⟨?_,hkey.symm,by rw [helem];exact hvv⟩;rw [List.getD,f1K (by rw [hM.bl];exact m0c _),hM.bl];simp
       .have hjl:j<i:=by
         have:=(p1Q.1 hj).1;simp [hM.size] at this;omega
        rw [t1N (by rw [hM.size];exact hjl)] at hj;have hj':es[j]? =some e:=by rw [f1P (by rw [hM.size];exact hjl)];exact hj
        obtain ⟨r1,r2,r3⟩:=hM.row j e hj';refine ⟨?_,by rw [e0F c0 (c2 j e1)];exact r2,by rw [c0Z d0 (d2 j e1 hjl)];exact r3⟩;rw [r1,List.getD,List.getD,e1S (by rw [hM.bl];exact hjl)]
      .have hf:=K.find w;have h1:es.toList[i]? =none:=a1X (by simp [hM.size]);rw [h1] at hf;simp [Instr.mapUpdate,run_underlying hu,hpv,r1Z hes,K.check w,hf,s1z _ hes,Result.andThen]
    trivial
   trivial
  trivial
 trivial
theorem t0U (hT:b0t P T) (hg:g.glob) (he:c0c g vs a) (hH:Holds g vs.heap w) {o:Oper} {ty:TypeId} {x y:Operand} {m k:SV} {ti:TI} (ho:o.op= .mapEntry ty x y) (hx:gv vs x=some m) (hy:gv vs y=some k) (hti:a0M T ty=some ti) (hk8:Nat.beq ti.kind 8=true) (h:(c0w vs ti m k).is r U b t):b0I P a o w g vs.heap nx r U b:=by
 obtain ⟨kt,et,hu,hez,hega,hlen,hflat,hik,hbld⟩:=k0q (hT _ _ hti) hk8;have hkv:=a0F hg he hy;have hmv:=a0F hg he hx;unfold c0w at h;split at h
 .rename_i hh q;obtain ⟨ro,bl,hent,h⟩:=a0J h;split at h
  .rename_i ka ea n ks vl bs ck;split at h
   .rename_i i kc hi hkc;split at h
    .rename_i vc hvc;split at h
     .rename_i ks' vl' hks hvl;replace h:=a0p h;obtain ⟨hc,h⟩:=h;obtain ⟨rfl,rfl,rfl,_⟩:=h;simp only [n0M] at hc;obtain ⟨⟨hb,hzo⟩,hea⟩:=hc;obtain ⟨zv,hz1,hz2,hz3⟩:=p0I (hbld hb);have hea':ea=ti.ega:=by
       all_goals grind
      obtain ⟨β,hβ,hB⟩:=hH.blk _ _ _ _ hent;obtain ⟨β',hβ',hpv⟩:=rmv hmv;rw [hβ] at hβ';cases hβ';obtain ⟨hcap,hoff,es,hes,hM⟩:=hB.obj;have K:=l0G (P:=P) (ty:=ty) (e:=et) hlen hflat hik hM hkv hi;obtain ⟨c0,c1,c2,c3⟩:=j0z (g:=g) K.le ks kc ks' hks hM.kl;obtain ⟨d0,d1,d2,d3⟩:=g0I K.le vl vc vl' hvl hM.vl;have hkey:=a1M hkc hkv c3;have helem:=p0J hvc d3;have hblk:β.blk<w.heap.size:=hB.lt hcap;have fin:∀(es':Array MapEntry) (bs':List Nat) (ck' n':Nat) (v:Value) (st:Nat),MapOk g ka ea n' ks' vl' bs' ck' es'->Rv g (b0n ea vl i) v->(Instr.mapEntry ty (a.eval x) (a.eval y)).run P w= .ok (.tuple #[v,goInt st]) { w with heap:=w.heap.setIfInBounds β.blk (.map es' ck')}->
        b0I P a o w g vs.heap nx (.tup [b0n ea vl i,.int .i64 (st:Int)]) (b0c vs.heap hh q (.obj (.map ka ea n' ks' vl' bs' ck'))) 0:=by
       intro es' bs' ck' n' v st hM' hv hrun;obtain ⟨k1,k2⟩:=t1b (o':=Obj.map es' ck') hes;refine ⟨.tuple #[v,goInt st],{ w with heap:=w.heap.setIfInBounds β.blk (.map es' ck')},g,.inl ?_,d0n hH hent hβ hcap (by simp only [Rv,Rvs];exact ⟨_,rfl,_,_,rfl,hv,_,_,rfl,rfl,rfl⟩) (p0K hB.es hcap hoff (by simp_all) ⟨es',k1,hM'⟩) rfl rfl rfl (by simp) (fun k _ hk=>k2 k hk)⟩;simp [execOp,ho,hrun]
      by_cases hlt:i<n
      .obtain ⟨e0,he0⟩:∃e0,es[i]? =some e0:=⟨es[i]'(by rw [hM.size];omega),f1P _⟩;have hsame:=K.same e0 he0;obtain ⟨r1,r2,r3⟩:=hM.row i e0 he0;rw [if_pos hlt] at c1 d1;rw [if_pos hlt,if_pos hlt,if_pos hlt,if_pos hlt];refine fin (es.modify i fun e=> { e with key:=a.eval y}) bs ck n e0.val (bs.getD i 0) ⟨by simpa using hM.size,c1,d1,hM.bl,hM.nd,hM.lt,?_⟩ r3 ?_
       .intro j e hj;by_cases e1:j=i
        .grind
        .rw [r1Y,if_neg (fun h=>e1 h.symm)] at hj;obtain ⟨s1,s2,s3⟩:=hM.row j e hj;exact ⟨s1,by grind [e0F],by rw [c0Z d0 (d2 j e1 (p1P hM.size hj))];omega⟩
       .have hf:=K.find w;have h1:es.toList[i]? =some e0:=by simpa using he0
        rw [h1] at hf;rw [<-r1];simp [Instr.mapEntry,run_underlying hu,hpv,r1Z hes,K.check w,hf,he0,hsame,K.stays w,s1z _ hes,Result.andThen]
      .have hin:i=n:=by have:=K.le;omega
       subst hin;have hzr:Rv g (b0n ea vl i) zv:=by
        have hat:=r0F vl ti.ez hzo hM.vl;subst hea';rcases hz3 with ⟨ha,cs,rfl⟩|⟨ha,hc⟩
        .rw [hega,ha];simp only [b0n,hat,hez,hz2,Rv];exact ⟨cs,rfl,by simpa [Value.cells] using k0k g cs.toList⟩
        .rw [hega,ha];rw [hez,hz2,hc] at hat;simp only [n1w,s1Y] at hat
         match vl,hat with
         | [c],hat=>
           simp only [a0C,List.cons.injEq,and_true] at hat;simp only [b0n,hat];exact y0l g zv
         | [],hat=>simp [a0C] at hat
         |_::_::_,hat=>simp [a0C] at hat
       rw [if_neg hlt] at c1 d1;rw [if_neg hlt,if_neg hlt,if_neg hlt,if_neg hlt];refine fin (es.push { key:=a.eval y,val:=zv,born:=ck}) (bs++ [ck]) (ck+1) (i+1) zv ck ⟨by simp [hM.size],c1,d1,by simp [hM.bl],?_,?_,?_⟩ hzr ?_
       .rw [s1p];refine ⟨hM.nd,by simp,?_⟩;intro p hp q hq;simp only [b1h] at hq;subst hq;have:=hM.lt p hp;omega
       .intro p hp;simp only [k1q,b1h] at hp;rcases hp with hp|rfl
        .have:=hM.lt p hp;omega
        .omega
       .intro j e hj;by_cases e1:j=i
        .subst e1;rw [u1l,if_pos hM.size.symm] at hj;simp only [injEq] at hj;subst hj;refine ⟨?_,hkey.symm,by rw [helem];exact hzr⟩;rw [List.getD,f1K (by rw [hM.bl];exact m0c _),hM.bl];simp
        .have hjl:j<i:=by
          have:=(p1Q.1 hj).1;simp [hM.size] at this;omega
         rw [t1N (by rw [hM.size];exact hjl)] at hj;have hj':es[j]? =some e:=by rw [f1P (by rw [hM.size];exact hjl)];exact hj
         obtain ⟨s1,s2,s3⟩:=hM.row j e hj';refine ⟨?_,by rw [e0F c0 (c2 j e1)];exact s2,by rw [c0Z d0 (d2 j e1 hjl)];exact s3⟩;rw [s1,List.getD,List.getD,e1S (by rw [hM.bl];exact hjl)]
       .have hf:=K.find w;have h1:es.toList[i]? =none:=a1X (by simp [hM.size]);rw [h1] at hf;simp [Instr.mapEntry,run_underlying hu,hpv,r1Z hes,K.check w,hf,hz1,s1z _ hes,Result.andThen]
     trivial
    trivial
   trivial
  trivial
 trivial
theorem p0L (hg:g.glob) (he:c0c g vs a) (hH:Holds g vs.heap w) {o:Oper} {ty:TypeId} {x y z:Operand} {m k v:SV} (ho:o.op= .entryStore ty x y z) (hx:gv vs x=some m) (hy:gv vs y=some k) (hz:gv vs z=some v) (h:(c0U vs m k v).is r U b t):b0I P a o w g vs.heap nx r U b:=by
 have hkv:=a0F hg he hy;have hmv:=a0F hg he hx;have hvv:=a0F hg he hz;unfold c0U at h;split at h
 .obtain ⟨ro,bl,hent,h⟩:=a0J h;split at h
  .rename_i ka ea n ks vl bs ck;split at h
   .rename_i vc hvc;split at h
    .rename_i vl' hvl;obtain ⟨⟨hst,hmem⟩,rfl,rfl,rfl,_⟩:=h;obtain ⟨s,rfl⟩:=r1S hst;rw [u0f] at hmem hvl;obtain ⟨β,hβ,hB⟩:=hH.blk _ _ _ _ hent;obtain ⟨β',hβ',hpv⟩:=rmv hmv;rw [hβ] at hβ';cases hβ';obtain ⟨hcap,hoff,es,hes,hM⟩:=hB.obj;obtain ⟨i,hi⟩:∃i,i=bs.idxOf s:=⟨_,rfl⟩;rw [<-hi] at hvl;have hlt:i<n:=by rw [hi,<-hM.bl];grind
     have a0w:bs[i]? =some s:=by
      grind
     obtain ⟨d0,d1,d2,d3⟩:=g0I (t1f hlt) vl vc vl' hvl hM.vl;have helem:=p0J hvc d3;rw [if_pos hlt] at d1;obtain ⟨e0,he0⟩:∃e0,es[i]? =some e0:=⟨es[i]'(by rw [hM.size];omega),f1P _⟩;obtain ⟨r1,r2,r3⟩:=hM.row i e0 he0;have hborn:e0.born=s:=by simp_all
     have hblk:β.blk<w.heap.size:=hB.lt hcap;have hfind:es.findIdx? (fun e=>(e.born:Int)==(s:Int))=some i:=by
      rw [Array.findIdx?_eq_some_iff_getElem];refine ⟨by grind,?_,?_⟩
      .grind
      .intro j hj;have hjn:j<es.size:=by grind
       have hr:=(hM.row j es[j] (f1P hjn)).1;rw [hr];have hne:bs.getD j 0≠s:=by
        intro hh;rw [List.getD,m0b (by grind)] at hh;have h2:bs[i]'(by grind)=s:=by
         grind
        have:=(u1I hM.nd).1 (hh.trans h2.symm);omega
       grind
     have hM':MapOk g ka ea n ks vl' bs ck (es.modify i fun e=> { e with val:=a.eval z}):=by
      refine ⟨by simpa using hM.size,hM.kl,d1,hM.bl,hM.nd,hM.lt,?_⟩;intro j e hj;by_cases e1:j=i
      .grind
      .rw [r1Y,if_neg (fun h=>e1 h.symm)] at hj;obtain ⟨s1,s2,s3⟩:=hM.row j e hj;exact ⟨s1,s2,by rw [c0Z d0 (d2 j e1 (p1P hM.size hj))];omega⟩
     obtain ⟨k1,k2⟩:=t1b (o':=Obj.map (es.modify i fun e=> { e with val:=a.eval z}) ck) hes;refine ⟨undef,{ w with heap:=w.heap.setIfInBounds β.blk (.map (es.modify i fun e=> { e with val:=a.eval z}) ck)},g,.inr ⟨?_,rfl⟩,d0n hH hent hβ hcap (by rfl) (p0K hB.es hcap hoff (by simp_all) ⟨_,k1,hM'⟩) rfl rfl rfl (by simp) (fun k _ hk=>k2 k hk)⟩;have hkv':a.eval y= .int .i64 (s:Int):=riv hkv;simp [execOp,ho,Instr.entryStore,hpv,hkv',asInt,asIntOf,r1Z hes,hfind,s1z _ hes,Result.andThen]
    trivial
   trivial
  trivial
 trivial
theorem g0J (ob:Obj):(w.alloc ob).heap=w.heap.push ob:=rfl
theorem d0o {o:ObjS} {ob:Obj} {r:SV} {v:Value} (hH:Holds g H w) (hn:∀q,g nx q=none) (hob:o.Ok (g.add nx ⟨w.heap.size,0,0,1⟩) (w.alloc ob) ⟨w.heap.size,0,0,1⟩) (hrv:Rv (g.add nx ⟨w.heap.size,0,0,1⟩) r v):
  After g H nx w r [(nx,some (.one false (.obj o)))] 1 (g.add nx ⟨w.heap.size,0,0,1⟩) v (w.alloc ob):=
 l0r hH hn hrv (p0K rfl (by simp) rfl (by simp) hob) (fun _=>m0c _) rfl rfl rfl (by simp) (fun k hk=>by simp_all [t1N,g0J])
theorem y0r {β:Base}:(g.add nx β) nx 0=some β:=by simp [G.add]
theorem i0p (ob:Obj):(w.alloc ob).heap[w.heap.size]? =some ob:=by rw [g0J];simp
theorem r0H (n:Nat):∀l:List SV,∀c∈e0Z n l,c.len=n
 | [],c,h=>by trivial
 |v::l,c,h=>by
  simp only [e0Z,f1I] at h;rcases h with rfl|h
  .cases v<;>simp [m1M,BCol.len,Col.len]
  .exact r0H n l c h
theorem t0V (ti:TI):∀c∈(e0u ti).2,c.len=0:=by
 unfold e0u;split
 .intro c hc;simp only [b1h] at hc;subst hc;rfl
 .exact r0H 0 _
theorem y0s (hT:b0t P T) (hH:Holds g vs.heap w) (hn:b=1->∀q,g nx q=none) {o:Oper} {ty:TypeId} {ti:TI} (ho:o.op= .makeMap ty none) (hti:a0M T ty=some ti) (hk8:Nat.beq ti.kind 8=true) (h:(p0x nx ti).is r U b t):b0I P a o w g vs.heap nx r U b:=by
 have key:∀ka ks,(∀c∈ks,Col.len c=0)->(Res.ok (.map nx 0) [(nx,some (.one false (.obj (.map ka (e0u ti).1 0 ks (e0u ti).2 [] 0))))] 1 []).is r U b t->b0I P a o w g vs.heap nx r U b:=by
  intro ka ks hks h;obtain ⟨rfl,rfl,rfl,_⟩:=h;refine ⟨.map (some w.heap.size),w.alloc (.map #[] 0),_,.inl ?_,d0o hH (hn rfl) ⟨#[],i0p _,rfl,hks,t0V ti,rfl,s1Z,by simp,by simp⟩ (by exact ⟨_,y0r,rfl⟩)⟩;simp [execOp,ho,Instr.makeMap]
 unfold p0x at h;split at h
 .exact key _ _ (by trivial) h
 .exact key _ _ (by intro c hc;simp at hc;subst hc;rfl) h
 .exact key _ _ (by trivial) h
 trivial
theorem n1j (hT:b0t P T) (hH:Holds g vs.heap w) (hn:b=1->∀q,g nx q=none) {o:Oper} {ty:TypeId} (ho:o.op= .alloc ty) {ti:TI} (hti:a0M T ty=some ti) (h:(q1e nx ty ti).is r U b t):b0I P a o w g vs.heap nx r U b:=by
 unfold q1e at h;split at h
 .rename_i hzz;obtain ⟨rfl,rfl,rfl,_⟩:=h;have hti':=hT _ _ hti;unfold k0j at hti';split at hti'
  .rename_i i d hi hd;have hz0:ti.zero=c0E P ty:=by grind
   rw [hzz] at hz0;cases hz:i.zero with
   |none=>simp_all [c0E]
   |some z=>
    have hzc:Rvs g [.nptr,.nsl] z.cells.toList:=by simp_all [c0E,k0k]
    have hcells:z.cells= #[.pointer none,.slice none 0 0]:=by
     simp only [Rvs,Rv] at hzc;apply Array.ext';simp_all
    have hzr:(zeroValue ty).run P w= .ok z w:=by simp_all [zeroValue,typeInfo]
    refine ⟨.pointer (some ⟨w.heap.size,0,none⟩),w.alloc (.cells z.cells ty),_,.inl ?_,d0o hH (hn rfl) (by rw [hcells];exact i0p _) (by simp_all [Rv,Base.addr,y0r])⟩;simp_all [execOp,Instr.alloc,k1h,b1g,newVar,newRow,n1x,c0F]
  trivial
 trivial
theorem f1t (hT:b0t P T) (hg:g.glob) (he:c0c g vs a) (hH:Holds g vs.heap w) (hn:b=1->∀q,g nx q=none) {o:Oper} {ty:TypeId} {x:Operand} {m:SV} {ti:TI} (ho:o.op= .range ty x) (hx:gv vs x=some m) (hti:a0M T ty=some ti) (h:(o0a vs nx ti m).is r U b t):b0I P a o w g vs.heap nx r U b:=by
 have hmv:=a0F hg he hx;unfold o0a at h;split at h
 .rename_i s;obtain ⟨hk3,rfl,rfl,rfl,_⟩:=a0p h;obtain ⟨d,hu,hd⟩:=c0L (hT _ _ hti) hk3;have hds:d= .string:=by cases d<;>first|rfl|cases hd
  subst hds;refine ⟨.pointer (some ⟨w.heap.size,0,none⟩),w.alloc (.stringIter s 0),_,.inl ?_,d0o hH (hn rfl) (i0p _) (by simp_all [Rv,Base.addr,y0r])⟩;simp [execOp,ho,Instr.range,run_underlying hu,rtv hmv]
 .obtain ⟨hk8,rfl,rfl,rfl,_⟩:=a0p h;obtain ⟨kt,et,hu,_⟩:=k0q (hT _ _ hti) hk8;refine ⟨.pointer (some ⟨w.heap.size,0,none⟩),w.alloc (.mapIter none 0 #[] 0),_,.inl ?_,d0o hH (hn rfl) ⟨0,#[],0,i0p _⟩ (by simp_all [Rv,Base.addr,y0r])⟩;simp [execOp,ho,Instr.range,run_underlying hu,rnm hmv]
 .obtain ⟨hk8,h⟩:=a0p h;obtain ⟨kt,et,hu,_⟩:=k0q (hT _ _ hti) hk8;obtain ⟨ro,bl,hent,h⟩:=a0J h;split at h
  .rename_i ka ea n ks vl bs ck;obtain ⟨rfl,rfl,rfl,_⟩:=h;obtain ⟨β,hβ,hB⟩:=hH.blk _ _ _ _ hent;obtain ⟨β',hβ',hpv⟩:=rmv hmv;rw [hβ] at hβ';cases hβ';obtain ⟨hcap,hoff,es,hes,hM⟩:=hB.obj;refine ⟨.pointer (some ⟨w.heap.size,0,none⟩),w.alloc (.mapIter (some β.blk) ck #[] ck),_,.inl ?_,d0o hH (hn rfl) ⟨β,G.le_add _ (hn rfl 0) _ _ _ hβ,by simpa using i0p _,by simp⟩ (by simp_all [Rv,Base.addr,y0r])⟩;simp [execOp,ho,Instr.range,run_underlying hu,hpv,r1Z hes]
  trivial
 trivial
theorem j1U (hT:b0t P T) (hg:g.glob) (he:c0c g vs a) (hH:Holds g vs.heap w) {o:Oper} {ty:TypeId} {x:Operand} {hh q:Nat} {ti:TI} (ho:o.op= .call ⟨.builtin .len,#[x],#[ty]⟩) (hx:gv vs x=some (.map hh q)) (hti:a0M T ty=some ti) (hk8:Nat.beq ti.kind 8=true)
  (h:(c0h vs.heap hh q (fun _ b=>match b with| .obj (.map _ _ n _ _ _ _)=> .ok (.int .i64 (n:Int)) [] 0 [hh]|_=> .no)).is r U b t):b0I P a o w g vs.heap nx r U b:=by
 obtain ⟨kt,et,hu,_⟩:=k0q (hT _ _ hti) hk8;obtain ⟨ro,bl,hent,h⟩:=a0J h;split at h
 .obtain ⟨rfl,rfl,rfl,_⟩:=h;obtain ⟨β,hβ,hB⟩:=hH.blk _ _ _ _ hent;obtain ⟨β',hβ',hpv⟩:=rmv (a0F hg he hx);rw [hβ] at hβ';cases hβ';obtain ⟨hcap,hoff,es,hes,hM⟩:=hB.obj;refine b0Q hH rvi (fun o' ho'=> ?_);rw [ho] at ho';simp [execOp,ho',resolve,invoke,builtin,Builtin.len_,hpv,run_underlying hu,r1Z hes,hM.size,goInt]
 trivial
theorem i0q (i j:Nat) (c:Col) (hi:i<c.len):(k0i i c).at j=c.at (if j<i then j else j+1)/\(k0i i c).val j=c.val (if j<i then j else j+1)/\(k0i i c).len=c.len-1:=by
 cases c<;>simp only [Col.len] at hi<;>refine ⟨?_,?_,?_⟩<;>simp only [k0i,Col.at,Col.val,Col.len,List.getD,r1f,t1S]<;>(split<;>rfl)
theorem r0I (i:Nat) (c:Col) (hi:c.len<=i):k0i i c=c:=by
 cases c<;>simp only [k0i] at hi⊢<;>rw [s1x hi]
theorem o0q {i n:Nat}:∀(ks:List Col),(∀c∈ks,c.len=n)->(c0V i ks).length=ks.length/\(i<n->(∀c∈c0V i ks,c.len=n-1)/\∀j,c0b (c0V i ks) j=c0b ks (if j<i then j else j+1))/\(n<=i->c0V i ks=ks)
 | [],_=>⟨rfl,fun _=>⟨by simp [c0V],fun _=>rfl⟩,fun _=>rfl⟩
 |c::l,h=>by
  obtain ⟨b0,b1,b2⟩:=o0q (i:=i) l (fun c hc=>h c (by grind));have hc:=h c (by simp);refine ⟨by simp [c0V,b0],fun hi=>⟨?_,?_⟩,fun hi=> ?_⟩
  .intro d hd;simp only [c0V,f1I] at hd;rcases hd with rfl|hd
   .rw [(i0q i 0 c (by omega)).2.2,hc]
   simp_all
  all_goals simp_all [c0V,c0b,i0q,r0I]
theorem r0J (i j:Nat) (c:BCol) (hi:i<c.len):(j<c.len-1->(d0N i c).at j=c.at (if j<i then j else j+1))/\(d0N i c).len=c.len-1:=by
 cases c with
 |sc c=>exact ⟨fun _=>(i0q i j c hi).1,(i0q i j c hi).2.2⟩
 |svs l=>
  refine ⟨fun _=> ?_,by simp_all [d0N,BCol.len,t1S]⟩;simp only [d0N,BCol.at,List.getD,r1f];split<;>rfl
 |arrs n k l=>
  refine ⟨fun _=> ?_,by simp_all [d0N,BCol.len,t1S]⟩;simp only [d0N,BCol.at,List.getD,r1f];split<;>rfl
 |own hh ns=>
  have e0:d0N i (.own hh ns)= .svs ((k0h hh ns).eraseIdx i):=if_pos hi;rw [e0];refine ⟨fun hj=> ?_,by simp_all [BCol.len,t1S,b0O]⟩;simp only [BCol.len] at hj;rw [<-m1Y (h:=hh) (ns:=ns) (by split<;>omega)];simp only [BCol.at,List.getD,r1f];split<;>rfl
 |ptrs hh n0=>
  have e0:d0N i (.ptrs hh n0)= .svs ((e0A hh n0).eraseIdx i):=if_pos hi;rw [e0];refine ⟨fun hj=> ?_,by simp_all [BCol.len,t1S,b0P]⟩;simp only [BCol.len] at hj;have e1:(BCol.ptrs hh n0).at (if j<i then j else j+1)=(e0A hh n0).getD (if j<i then j else j+1) .unk:=(e0Y (by split<;>omega)).symm;rw [e1];simp only [BCol.at,List.getD,r1f];split<;>rfl
theorem o0r {i n:Nat}:∀(vl:List BCol),(∀c∈vl,c.len=n)->(c0W i vl).length=vl.length/\(i<n->(∀c∈c0W i vl,c.len=n-1)/\∀j,j<n-1->a0C (c0W i vl) j=a0C vl (if j<i then j else j+1))/\(n<=i->c0W i vl=vl)
 | [],_=>⟨rfl,fun _=>⟨by simp [c0W],fun _ _=>rfl⟩,fun _=>rfl⟩
 |c::l,h=>by
  obtain ⟨b0,b1,b2⟩:=o0r (i:=i) l (fun c hc=>h c (by grind));have hc:=h c (by simp);refine ⟨by simp [c0W,b0],fun hi=>⟨?_,?_⟩,fun hi=> ?_⟩
  .intro d hd;simp only [c0W,f1I] at hd;rcases hd with rfl|hd
   .rw [(r0J i 0 c (by omega)).2,hc]
   simp_all
  .simp_all [c0W,a0C,r0J]
  .have:d0N i c=c:=by
    cases c with
    |sc c=>simp_all [d0N,BCol.len,r0I]
    |svs l=>simp_all [d0N,BCol.len]
    |own hh ns=>exact if_neg (by simp_all [BCol.len])
    |ptrs hh n0=>exact if_neg (by simp_all [BCol.len])
    |arrs n0 k0 l=>simp_all [d0N,BCol.len]
   simp_all [c0W]
theorem a1O (hT:b0t P T) (hg:g.glob) (he:c0c g vs a) (hH:Holds g vs.heap w) {o:Oper} {ty:TypeId} {ts:List TypeId} {tt:Array TypeId} (htt:tt.toList=ty::ts) {x y:Operand} {m k:SV} {ti:TI} (ho:o.op= .call ⟨.builtin .delete,#[x,y],tt⟩) (hx:gv vs x=some m) (hy:gv vs y=some k) (hti:a0M T ty=some ti) (hk8:Nat.beq ti.kind 8=true) (h:(j0t vs ti m k).is r U b t):b0I P a o w g vs.heap nx r U b:=by
 obtain ⟨kt,et,hu,hez,hega,hlen,hflat,hik,hbld⟩:=k0q (hT _ _ hti) hk8;have hkv:=a0F hg he hy;have hmv:=a0F hg he hx;have ht0:tt[0]? =some ty:=by rw [<-s1H,htt];rfl
 unfold j0t at h;split at h
 .rename_i hh q;obtain ⟨ro,bl,hent,h⟩:=a0J h;split at h
  .rename_i ka ea n ks vl bs ck;split at h
   .rename_i i hi;obtain ⟨rfl,rfl,rfl,_⟩:=h;obtain ⟨β,hβ,hB⟩:=hH.blk _ _ _ _ hent;obtain ⟨β',hβ',hpv⟩:=rmv hmv;rw [hβ] at hβ';cases hβ';obtain ⟨hcap,hoff,es,hes,hM⟩:=hB.obj;have K:=l0G (P:=P) (ty:=ty) (e:=et) hlen hflat hik hM hkv hi;have hblk:β.blk<w.heap.size:=hB.lt hcap;obtain ⟨c0,c1,c2⟩:=o0q (i:=i) ks hM.kl;obtain ⟨d0,d1,d2⟩:=o0r (i:=i) vl hM.vl;have fin:∀(es':Array MapEntry) (bs':List Nat) (n':Nat),MapOk g ka ea n' (c0V i ks) (c0W i vl) bs' ck es'->(Builtin.delete_ tt o.type #[a.eval x,a.eval y]).run P w= .ok (.tuple #[]) { w with heap:=w.heap.setIfInBounds β.blk (.map es' ck)}->
      b0I P a o w g vs.heap nx (.tup []) (b0c vs.heap hh q (.obj (.map ka ea n' (c0V i ks) (c0W i vl) bs' ck))) 0:=by
     intro es' bs' n' hM' hrun;obtain ⟨k1,k2⟩:=t1b (o':=Obj.map es' ck) hes;refine ⟨.tuple #[],{ w with heap:=w.heap.setIfInBounds β.blk (.map es' ck)},g,.inl ?_,d0n hH hent hβ hcap (by simp [Rv,Rvs]) (p0K hB.es hcap hoff (by simp_all) ⟨es',k1,hM'⟩) rfl rfl rfl (by simp) (fun k _ hk=>k2 k hk)⟩;simp_all [execOp,resolve,invoke,builtin]
    by_cases hlt:i<n
    .obtain ⟨e0,he0⟩:∃e0,es[i]? =some e0:=⟨es[i]'(by rw [hM.size];omega),f1P _⟩;rw [if_pos hlt];refine fin (es.eraseIdxIfInBounds i) _ _ ⟨?_,(c1 hlt).1,(d1 hlt).1,?_,?_,?_,?_⟩ ?_
     .simp [Array.eraseIdxIfInBounds,hM.size,hlt]
     .rw [t1S,if_pos (by rw [hM.bl];omega),hM.bl]
     .exact hM.nd.sublist (u1C bs i)
     .intro p hp;exact hM.lt p (List.mem_of_mem_eraseIdx hp)
     .intro j e hj;have hje:es[if j<i then j else j+1]? =some e:=by
       grind
      obtain ⟨r1,r2,r3⟩:=hM.row _ e hje;refine ⟨?_,by grind [e0F],by rw [c0Z d0 ((d1 hlt).2 j (by have:=p1P hM.size hje;all_goals grind))];omega⟩;grind
     .have hf:=K.find w;have h1:es.toList[i]? =some e0:=by simp_all
      rw [h1] at hf;simp [Builtin.delete_,ht0,run_underlying hu,hpv,r1Z hes,K.check w,hf,s1z _ hes,Result.andThen]
    .have hin:i=n:=by have:=K.le;omega
     subst hin;rw [if_neg hlt,s1x (by rw [hM.bl];omega)];refine fin es bs i (by simp_all) ?_;have hf:=K.find w;have h1:es.toList[i]? =none:=a1X (by simp [hM.size]);rw [h1] at hf;simp [Builtin.delete_,ht0,run_underlying hu,hpv,r1Z hes,K.check w,hf,s1z _ hes,Result.andThen]
   trivial
  trivial
 trivial
theorem a1P {ka:Bool} {ks:List Col} {i:Nat}:Rv g (f1c ka ks i) (a1b ka ks i):=by
 have hl:∀l:List Col,Rvs g (i0c l i) (c0b l i):=by
  intro l;induction l with
  |nil=>rfl
  |cons c l ih=>exact ⟨_,_,rfl,Col.at_ok g c i,ih⟩
 cases ka with
 |true=>simp only [f1c,a1b,Rv];simp_all
 |false=>
  match ks with
  | []=>trivial
  | [c]=>exact Col.at_ok g c i
  |_::_::_=>trivial
theorem a1Q {es:Array MapEntry} {bs:List Nat} {ka ea:Bool} {n ck i:Nat} {ks:List Col} {vl:List BCol} (hM:MapOk g ka ea n ks vl bs ck es) (hi:i<n):∃e,es[i]? =some e/\e.born=bs.getD i 0/\es.find? (fun x=>x.born==bs.getD i 0)=some e:=by
 obtain ⟨e,he⟩:∃e,es[i]? =some e:=⟨es[i]'(by rw [hM.size];omega),f1P _⟩;have hb:=(hM.row i e he).1;refine ⟨e,he,hb,?_⟩;rw [<-Array.find?_toList,List.find?_eq_some_iff_getElem];refine ⟨by grind,i,by grind,by grind,?_⟩;intro j hj;have hjn:j<es.size:=by grind
 have hr:=(hM.row j es[j] (f1P hjn)).1;have hne:bs.getD j 0≠bs.getD i 0:=by
  rw [List.getD,m0b (by rw [hM.bl];omega),List.getD,m0b (by rw [hM.bl];omega)];intro h;have:=(u1I hM.nd).1 h;omega
 simp_all
theorem f1u (hg:g.glob) (he:c0c g vs a) (hH:Holds g vs.heap w) {o:Oper} {x:Operand} {m:SV} (ho:o.op= .entry x) (hx:gv vs x=some m) (h:(o0b vs m).is r U b t):b0I P a o w g vs.heap nx r U b:=by
 have hmv:=a0F hg he hx;unfold o0b at h;split at h
 .obtain ⟨ro,bl,hent,h⟩:=a0J h;split at h
  .rename_i hm qm bs ck i sn;obtain ⟨ro2,bl2,hent2,h⟩:=a0J h;split at h
   .rename_i ka ea n ks vl bs2 ck2;obtain ⟨⟨rfl,rfl,hin⟩,rfl,rfl,rfl,_⟩:=h;obtain ⟨β,hβ,hB⟩:=hH.blk _ _ _ _ hent;obtain ⟨β',hβ',hpv⟩:=rpv hmv;rw [hβ] at hβ';cases hβ';obtain ⟨hcap,hoff,βm,hβm,hit,hsn⟩:=hB.obj;obtain ⟨β2,hβ2,hB2⟩:=hH.blk _ _ _ _ hent2;rw [hβm] at hβ2;cases hβ2;obtain ⟨_,_,es,hes,hM⟩:=hB2.obj;obtain ⟨e,he1,he2,he3⟩:=a1Q hM hin;obtain ⟨_,r2,r3⟩:=hM.row i e he1;have hp:a.eval x= .pointer (some ⟨β.blk,0,none⟩):=by rw [hpv];simp [Base.addr]
    refine b0Q (v:= .tuple #[e.key,e.val]) hH (by exact ⟨_,rfl,_,_,rfl,by rw [r2];exact a1P,_,_,rfl,r3,rfl⟩) (fun o' ho'=> ?_);have hgi:(getObj β.blk).run P w= .ok (.mapIter (some βm.blk) ck2 (((i::sn).reverse.map (fun i=>bs2.getD i 0)).toArray) ck2) w:=by simp [getObj,Sem.run,hit]
    have hbk:(((i::sn).reverse.map (fun i=>bs2.getD i 0)).toArray).back? =some (bs2.getD i 0):=by
     simp
    rw [ho] at ho';have hrun:(Instr.entry (.pointer (some ⟨β.blk,0,none⟩))).run P w= .ok (.tuple #[e.key,e.val]) w:=by
     simp only [Instr.entry,k1h,hgi,Result.andThen];rw [hbk];simp only [k1h,r1Z hes];have he4:=he3;rw [List.getD_eq_getElem?_getD] at he4;simp [he4]
    simp [execOp,ho',hp,hrun]
   trivial
  trivial
 trivial
theorem t0W (h:Array Obj) (x:Obj) (f:Obj->Obj):(h.push x).modify h.size f=h.push (f x):=by
 grind
theorem r0K (g:G):∀(cs:List Col) (i:Nat) (l:List Value),l.length=cs.length->(∀j c,nth cs j=some c->l[j]? =some (c.val i))->Rvs g (i0c cs i) l
 | [],i,l,hl,_=>by simp_all [i0c,Rvs]
 |c::cs,i,[],hl,_=>by trivial
 |c::cs,i,v::l,hl,h=>by
  have h0:=h 0 c rfl;simp only [t1Y,injEq] at h0;subst h0;exact ⟨_,_,rfl,Col.at_ok g c _,r0K g cs i l (by simp_all) (fun j c' hj=>by simpa using h (j+1) c' hj)⟩
theorem t0X (w:World) (c:Array Value) (e:TypeId):(w.alloc (.cells c e)).shape? w.heap.size=some (e,c.size):=by
 have:(w.alloc (.cells c e)).heap[w.heap.size]? =some (.cells c e):=Array.getElem?_push_size;unfold World.shape?;grind
theorem o0s (q:Question) (hq:q.forced=false):(choose q).run P w= .ok (q.cut (w.tape w.drawn q)) w.drew:=by
 simp_all
theorem o0t:∀(l:List Int) (s:ByteArray),l.foldl (fun r n=>r.push (UInt8.ofNat n.toNat)) s=⟨s.data++(l.map (fun x=>UInt8.ofNat x.toNat)).toArray⟩
 | [],s=>by simp
 |x::l,s=>by rw [List.foldl_cons,o0t l];simp
theorem k0C {ad:Addr} {n c:Nat} {l:List Int} (hl:(loadCells ad n).run P w= .ok (l.map (Value.int .u8)).toArray w):(Conv.bytesToString (.slice (some ad) n c)).run P w= .ok (.string (a0m l)) w:=by
 rw [run_bytesToString w ad n c l hl,o0t];simp [a0m,ByteArray.empty,ByteArray.emptyWithCapacity];rfl
theorem j1V (hT:b0t P T) (hg:g.glob) (he:c0c g vs a) (hH:Holds g vs.heap w) (hn:b=1->∀q,g nx q=none) {o:Oper} {ts td:TypeId} {x:Operand} {v:SV} {ta tb:TI} (ho:o.op= .convert ts td x) (hx:gv vs x=some v) (hta:a0M T ts=some ta) (htb:a0M T td=some tb) (h:(f1b vs nx ta tb v).is r U b t):b0I P a o w g vs.heap nx r U b:=by
 have hxv:=a0F hg he hx;obtain ⟨ia,da,_,hda,_,hka⟩:=l0s (hT _ _ hta);have htb':=hT _ _ htb;unfold f1b at h;split at h
 .rename_i k n;replace h:=a0p h;obtain ⟨hk,h⟩:=h;obtain ⟨rfl,rfl,rfl,_⟩:=h;unfold k0j at htb';split at htb'
  .rename_i i d hi hd;simp only [injEq] at htb';have hkd:b0f d=2:=by rw [<-htb'] at hk;exact q0d hk
   obtain ⟨k',rfl⟩:∃k,d= .int k:=by cases d<;>first|exact ⟨_,rfl⟩|(exact absurd hkd (by simp [b0f]))
   have hik:tb.ik=k':=by rw [<-htb']
   refine b0Q hH rvi (fun o' ho'=> ?_);rw [ho] at ho';simp [execOp,ho',Go.convert,run_underlying hda,run_underlying hd,riv hxv,Conv.intToInt,hik]
  .cases htb'
 .rename_i s;cases hk:Nat.beq tb.kind 3 with
  |true=>
   rw [hk] at h;simp only [cond_true] at h;obtain ⟨rfl,rfl,rfl,_⟩:=h;obtain ⟨d,hd,hkd⟩:=c0L htb' hk;have hd':d= .string:=by cases d<;>first|rfl|(exact absurd hkd (by simp [b0f]))
   subst hd';refine b0Q hH rvt (fun o' ho'=> ?_);rw [ho] at ho';simp [execOp,ho',Go.convert,run_underlying hda,run_underlying hd,rtv hxv]
  |false=>
   rw [hk] at h;simp only [cond_false] at h;replace h:=a0p h;obtain ⟨hu,h⟩:=h;simp only [n0M] at hu;obtain ⟨rfl,rfl,rfl,_⟩:=h;unfold k0j at htb';split at htb'
   .rename_i i d hi hd;simp only [injEq] at htb';have hu8:=congrArg TI.u8 htb';rw [hu.1] at hu8;cases d with
    |slice e=>
     simp only at hu8;split at hu8
     .rename_i hue;let cap:=(Question.appendCap s.size 0 e).cut (w.tape w.drawn (Question.appendCap s.size 0 e))
      have hcap:s.size<=cap:=by simp only [cap,Question.cut];omega
      let cs:Array Value:=(s.data.map fun b=>Value.int .u8 b.toNat)++Array.replicate (cap-s.size) (.int .u8 0)
      have hcs:cs.size=cap:=by simp only [cs,t1y,Array.size_map,Array.size_replicate];have:s.data.size=s.size:=rfl;omega
      let w':World:=(w.drew.alloc (.cells cs e)).freeze ⟨w.heap.size,cs.size,none⟩ 1
      have hheap:w'.heap=w.heap.push (.cells cs e (cs.size,cs.size+1)):=by
       simp only [w',World.freeze,Nat.one_ne_zero,if_false];exact t0W w.heap _ _
      have hrun:(execOp a.eval o).run P w= .ok (.value (.slice (some ⟨w.heap.size,0,none⟩) s.size cap)) w':=by
       have hq:(Question.appendCap s.size 0 e).forced=false:=rfl;have hsh:(w.drew.alloc (.cells cs e)).shape? w.heap.size=some (e,cs.size):=t0X w.drew cs e;have hch:(choose (Question.appendCap s.size 0 e)).run P w= .ok cap w.drew:=o0s _ hq;have hmk:(markStringish ⟨w.heap.size,0,none⟩).run P (w.drew.alloc (.cells cs e))= .ok () w':=by
        simp [markStringish,shape,Sem.run,hsh,freeze,w']
       have hcv:(Conv.stringToBytes e s).run P w= .ok (.slice (some ⟨w.heap.size,0,none⟩) s.size cap) w':=by
        simp only [Conv.stringToBytes,k1h,hch,b1g,newRow,c0F,n1x];exact (congrArg (fun r=>Result.andThen r _) hmk).trans rfl
       simp [execOp,ho,Go.convert,run_underlying hda,run_underlying hd,rtv hxv,run_underlying hue,hcv]
      refine ⟨_,w',_,.inl hrun,f0R (bl:= .cols s.size [.sc (.ints .u8 (l0k s))]) (cap:=cap) (.inr rfl) hH hheap ?_ ?_ ?_ (hn rfl) ?_ ?_ ?_ (fun i hi=>by simp only [Blk.has] at hi;omega) ?_ (r0r hcap)⟩
      .rfl
      .rfl
      .rfl
      .intro c hc;simp at hc;subst hc;simp [BCol.len,Col.len,l0k]
      .intro v hv;simp only [cs,s1R,k1q,Array.toList_map,r1U,Array.toList_replicate,List.mem_replicate] at hv;rcases hv with ⟨x,_,rfl⟩|⟨_,rfl⟩<;>rfl
      .simp [Blk.es,hcs]
      .intro i j sv hi hj;simp only [Blk.has] at hi;cases j with
       |zero=>
        simp only [Blk.at,nth,injEq] at hj;subst hj;have hlt:i<s.data.size:=hi;refine ⟨.int .u8 (s.data[i].toNat:Int),?_,?_⟩
        .simp only [Blk.es,m1T,u1O,q1j,cs];rw [s1i (by simpa using hlt),Array.getElem?_map,f1P hlt];rfl
        .simp only [BCol.at,Col.at,l0k,Rv];congr 1;rw [List.getD,f1Q,s1H,f1P hlt];rfl
       |succ j=>simp [Blk.at,nth] at hj
     .cases hu8
    |_=>simp only at hu8;cases hu8
   .cases htb'
 .rename_i hd' q i n;replace h:=a0p h;obtain ⟨hc,h⟩:=h;simp only [n0M] at hc;obtain ⟨d,hd,hkd⟩:=c0L htb' hc.1;have hd':d= .string:=by cases d<;>first|rfl|(exact absurd hkd (by simp [b0f]))
  subst hd';obtain ⟨e,hde,hue⟩:∃e,P.underlying ts=some (.slice e)/\P.underlying e=some (.int .u8):=by
   have hta':=hT _ _ hta;unfold k0j at hta';split at hta'
   .rename_i i' d' hi' hd'';simp only [injEq] at hta';have hu8:=congrArg TI.u8 hta';rw [hc.2] at hu8;cases d' with
    |slice e=>
     simp only at hu8;split at hu8
     .rename_i hh;exact ⟨e,hd'',hh⟩
     .cases hu8
    |_=>simp only at hu8;cases hu8
   .cases hta'
  replace h:=a0J h;obtain ⟨ro,bl,hent,h⟩:=h;split at h
  .rename_i m l;obtain ⟨hle,rfl,rfl,rfl,_⟩:=h;obtain ⟨base,c,hxe,hnc,hz⟩:=rsv hxv;obtain ⟨cs,k1,k2,_,k4⟩:=(i0l (P:=P) hH hent hxv hle 1 rfl).first n (m0c _)
   have hcs:cs=((seg i n l).map (Value.int .u8)).toArray:=by
    obtain ⟨β,hβ,hB⟩:=hH.blk _ _ _ _ hent;have hlen:l.length=m:=hB.len (.sc (.ints .u8 l)) (by simp);have hsl:(seg i n l).length=n:=by simp only [seg,p1O,s1v];omega
    apply Array.ext
    .simp [k2,hsl]
    .intro x h1 h2;have hx:x<n:=by rw [k2] at h1;omega
     obtain ⟨u,u1,u2⟩:=k4 x 0 (.sc (.ints .u8 (seg i n l))) hx (by simp [t0E,BCol.seg,Col.seg,nth]);simp only [u1O,q1j,f1P h1,injEq] at u1;rw [u1];have:=riv (show Rv g (.int .u8 ((seg i n l).getD x 0)) u from u2);rw [this];simp [List.getD,hsl,hx]
   have hx0:=k1 w rfl;rw [hxe] at hx0;refine b0Q hH rvt (fun o' ho'=> ?_);rw [ho] at ho';cases base with
   |none=>
    have hn0:n=0:=by
     rcases hz with hz|⟨β,_,hba,_⟩
     .omega
     .cases hba
    subst hn0;simp [execOp,ho',hxe,run_convert_bytes_string w ts td e none 0 c hde hue hd,Conv.bytesToString,a0m,seg,ByteArray.empty,ByteArray.emptyWithCapacity];rfl
   |some ad=>
    simp only [Builtin.firstCells,u1O] at hx0;rw [hcs] at hx0;simp [execOp,ho',hxe,run_convert_bytes_string w ts td e (some ad) n c hde hue hd,k0C hx0]
  .exact h.elim
 .exact h.elim
theorem i1s (hT:b0t P T) (hg:g.glob) (he:c0c g vs a) (hH:Holds g vs.heap w) {o:Oper} (hn:∀h q,nx<=h->h<nx+b->g h q=none) (h:(eff T vs nx o.op).is r U b t):b0I P a o w g vs.heap nx r U b:=by
 have hn1:b=1->∀q,g nx q=none:=fun e q=>hn nx q (m0c _) (by omega)
 have look:∀{v:Value} {s:SV},Rv g s v->d0Q P o.op a w v->(Res.one s).is r U b t->b0I P a o w g vs.heap nx r U b:=by
  rintro v s hv hy ⟨rfl,rfl,rfl,_⟩;exact b0Q hH hv hy
 have lookw:∀{c:Prop} {v:Value} {s:SV} {tt:List Nat},(Res.when c s [] 0 tt).is r U b t->(c->Rv g s v/\d0Q P o.op a w v)->b0I P a o w g vs.heap nx r U b:=by
  rintro c v s tt ⟨hc,rfl,rfl,rfl,_⟩ hh;exact b0Q hH (hh hc).1 (hh hc).2
 generalize hop:o.op=op at h;rw [hop] at look lookw;cases op with
 |move x=>
  simp only [eff] at h;split at h
  .rename_i v hv;exact look (a0F hg he hv) (fun o' ho'=>by simp [execOp,ho']) h
  .exact h.elim
 |assign x=>
  simp only [eff] at h;split at h
  .rename_i v hv;exact look (a0F hg he hv) (fun o' ho'=>by simp [execOp,ho']) h
  .exact h.elim
 |nilCheck x=>
  simp only [eff] at h;split at h
  .rename_i hx;have hv:=a0F hg he hx;obtain ⟨β,_,e⟩:=rpv hv;exact look hv (fun o' ho'=>by simp [execOp,ho',e]) h
  .rename_i hx;have hv:=a0F hg he hx;have hv':=hv;simp only [Rv] at hv';obtain ⟨_,e,_⟩:=hv';exact look hv (fun o' ho'=>by simp [execOp,ho',e]) h
  .rename_i hx;have hv:=a0F hg he hx;have hv':=hv;simp only [Rv] at hv';obtain ⟨_,e,_⟩:=hv';exact look hv (fun o' ho'=>by simp [execOp,ho',e]) h
  .exact h.elim
 |pick c x y=>
  simp only [eff] at h;split at h
  .rename_i hc;split at h
   .rename_i v hv;exact look (a0F hg he hv) (fun o' ho'=>by simp [execOp,ho',rbv (a0F hg he hc),asBool]) h
   .exact h.elim
  .rename_i hc;split at h
   .rename_i v hv;exact look (a0F hg he hv) (fun o' ho'=>by simp [execOp,ho',rbv (a0F hg he hc),asBool]) h
   .exact h.elim
  .exact h.elim
 |binOp op ty x y t'=>
  simp only [eff] at h;split at h
  .rename_i s u hx hy;obtain ⟨rfl,rfl,v,hr,hyy⟩:=j1N (w:=w) hT (t':=t') (a0F hg he hx) (a0F hg he hy) h;exact b0Q hH hr (by rw [hop];exact hyy)
  .exact h.elim
 |unOp op ty x=>
  simp only [eff] at h;split at h
  .rename_i c hx;exact look rvb (fun o' ho'=>by simp [execOp,ho',rbv (a0F hg he hx),Op.unary]) h
  .rename_i k n hx;exact look rvi (fun o' ho'=>by simp [execOp,ho',riv (a0F hg he hx),Op.unary,Op.intArith]) h
  .rename_i k n hx;exact look rvi (fun o' ho'=>by simp [execOp,ho',riv (a0F hg he hx),Op.unary,Op.intBits,r1d,i1l]) h
  .exact h.elim
 |fieldAddr s x f=>
  simp only [eff] at h;split at h
  .rename_i hd q i j ti hx hti;replace h:=c0X h;obtain ⟨hk,h⟩:=h;split at h
   .rename_i of n ag hf;replace h:=c0X h;obtain ⟨hn0,h⟩:=h;obtain ⟨fs,fld,hu,hfld,hoff,hsz,_⟩:=r0p (hT _ _ hti) (by simpa using hk) hf hn0;obtain ⟨β,hβ,e⟩:=rpv (a0F hg he hx);refine look (v:= .pointer (some (β.addr i (j+of)))) (by simp only [Rv];exact ⟨β,hβ,rfl⟩) (fun o' ho'=> ?_) h;have hne:n≠0:=by intro e0;rw [e0] at hn0;simp at hn0
    simp [execOp,ho',Instr.fieldAt,run_underlying hu,hfld,e,Instr.sureAddr,fieldPlace,hsz,hne,hoff,d0E]
   .exact h.elim
  .exact h.elim
 |field s x f=>
  simp only [eff] at h;split at h
  .rename_i l ti hx hti;replace h:=c0X h;obtain ⟨hk,h⟩:=h;split at h
   .rename_i of n ag hf;replace h:=c0X h;obtain ⟨hn0,h⟩:=h;obtain ⟨fs,fld,hu,hfld,hoff,hsz,hag⟩:=r0p (hT _ _ hti) (by simpa using hk) hf hn0;obtain ⟨xs,e,rx⟩:=rav (a0F hg he hx);cases ag with
    |true=>
     simp only [cond_true] at h;split at h
     .rename_i r' hr';obtain ⟨t1,t2⟩:=v0U n _ _ r' (v0V of l _ rx) hr';refine look (v:= .agg (xs.extract of (of+n))) ?_ (fun o' ho'=> ?_) h
      .simp only [Rv];refine ⟨_,rfl,?_⟩;rw [s1m,s1e];simpa using t1
      .simp [execOp,ho',Instr.field,run_underlying hu,hfld,e,asAgg,part,hag,hsz,hoff]
     .exact h.elim
    |false=>
     simp only [cond_false] at h;split at h
     .rename_i v hv;obtain ⟨u,hu1,hu2⟩:=Rvs.nth l xs.toList of v rx hv;have hu':xs[of]? =some u:=by simpa using hu1
      exact look hu2 (fun o' ho'=>by simp [execOp,ho',Instr.field,run_underlying hu,hfld,e,asAgg,part,hag,hoff,hu']) h
     .exact h.elim
   .exact h.elim
  .exact h.elim
 |load ty x=>exact j1P hT hg he hH hop h
 |store ty x y=>exact f1k hT hg he hH hop h
 |extract x ix=>
  simp only [eff] at h;split at h
  .rename_i l hx;split at h
   .rename_i v hv;obtain ⟨xs,e,rx⟩:=ruv (a0F hg he hx);obtain ⟨u,hu,hr⟩:=Rvs.nth l xs.toList ix v rx hv;have hu':xs[ix]? =some u:=by simpa using hu
    exact look hr (fun o' ho'=>by simp [execOp,ho',e,Instr.extract,hu']) h
   .exact h.elim
  .exact h.elim
 |index ty x ix=>
  simp only [eff] at h;split at h
  .rename_i s k i ti hx hix hti;replace h:=a0p h;obtain ⟨hk,h⟩:=h;obtain ⟨d,hd,hkd⟩:=c0L (hT _ _ hti) hk;have hd':d= .string:=by cases d<;>first|rfl|(exact absurd hkd (by simp [b0f]))
   subst hd';refine lookw (v:= .int .u8 (a0d s i)) h (fun hc=>⟨rvi,fun o' ho'=> ?_⟩);have hlt:i.toNat<s.size:=by omega
   have hb:s[i.toNat]? =some s[i.toNat]:=by simp [hlt]
   have e:a0d s i=((s[i.toNat]).toNat:Int):=by
    unfold a0d;have:s.data.toList.getD i.toNat 0=s[i.toNat]:=by
     have h':i.toNat<s.data.toList.length:=by simpa using hlt
     have e1:s.data.toList.getD i.toNat 0=s.data.toList[i.toNat]:=by rw [List.getD,m0b h'];rfl
     rw [e1];rfl
    rw [this]
   simp [execOp,ho',Instr.index,rtv (a0F hg he hx),riv (a0F hg he hix),asIntOf,run_underlying hd,hc.1,hb,e]
  .rename_i n c k i ti hx hix hti;replace h:=a0p h;obtain ⟨hk,h⟩:=h;simp only [n0M,n1s] at hk;obtain ⟨⟨⟨h1,h2⟩,h3⟩,h4⟩:=hk;obtain ⟨e,hdd,hel,hag,_⟩:=i0m (hT _ _ hti) h1;have e1:=q0d h2;have e4:=q0d h4;have hsz:∀w,(sizeOf e).run P w= .ok 1 w:=fun w=>by rw [<-e1,hel];exact e0h (by rw [<-hel,e1];simp) w
   have hna:∀w,(isAgg e).run P w= .ok false w:=by
    intro w;rw [h3] at hag;have hag':p1M P e=true:=by simpa using hag.symm
    unfold p1M at hag';split at hag'<;>first|(cases hag';done)|skip
    rename_i d hd1 hd2 hd3;unfold isAgg;simp only [k1h,run_underlying hd3,b1g];cases d<;>first|rfl|(rename_i x;exact absurd rfl (hd1 x))|(rename_i x y;exact absurd rfl (hd2 x y))
   obtain ⟨xs,ex,a1,a2,a3⟩:=p1N (a0F hg he hx);refine lookw (v:=c.val i.toNat) h (fun hc=>⟨Col.at_ok g c _,fun o' ho'=> ?_⟩);have a0w:=a3 i.toNat 0 c (by omega) rfl;simp only [m1T,u1O,q1j] at a0w;simp [execOp,ho',Instr.index,ex,riv (a0F hg he hix),asIntOf,run_underlying hdd,hc.1,hc.2,hsz,part,hna,a0w]
  .rename_i n cs k i ti _ hx hix hti;replace h:=a0p h;obtain ⟨hk,h⟩:=h;simp only [n0M,n1s] at hk;obtain ⟨⟨⟨⟨h1,h2⟩,h3⟩,h4⟩,h5⟩:=hk;obtain ⟨e,hdd,hel,_,hag⟩:=i0m (hT _ _ hti) h1;have e1:=q0d h2;have e4:=q0d h4;have e5:ti.el≠0:=Nat.ne_of_beq_eq_false h5;have hsz:∀w,(sizeOf e).run P w= .ok cs.length w:=fun w=>by rw [<-e1,hel];exact e0h (by rw [<-hel];exact e5) w
   have hna:∀w,(isAgg e).run P w= .ok true w:=by
    intro w;rw [h3] at hag;have hag':y0h P e=true:=hag.symm;unfold y0h at hag';split at hag'<;>first|(cases hag';done)|skip
    .rename_i hd1;unfold isAgg;simp only [k1h,run_underlying hd1,b1g];rfl
    .rename_i hd1;unfold isAgg;simp only [k1h,run_underlying hd1,b1g];rfl
   obtain ⟨xs,ex,a1,a2,a3⟩:=p1N (a0F hg he hx);refine lookw (v:= .agg (xs.extract (i.toNat*cs.length) (i.toNat*cs.length+cs.length))) h (fun hc=>⟨?_,fun o' ho'=> ?_⟩)
   .have hi:i.toNat<n:=by omega
    have hle:i.toNat*cs.length+cs.length<=xs.size:=by
     rw [a1,show i.toNat*cs.length+cs.length=(i.toNat+1)*cs.length from by rw [Nat.add_mul,Nat.one_mul]];exact r1X _ hi
    simp only [Rv];refine ⟨_,rfl,r0K g cs i.toNat _ (by simp;omega) (fun j c hj=> ?_)⟩;have hjl:=c0j hj;have:=a3 i.toNat j c hi hj;simp only [s1H];rw [Array.getElem?_extract];rw [if_pos (by omega)];exact this
   .simp [execOp,ho',Instr.index,ex,riv (a0F hg he hix),asIntOf,run_underlying hdd,hc.1,hc.2,hsz,part,hna]
  .exact h.elim
 |indexAddr ty x ix=>
  simp only [eff] at h;split at h
  .rename_i hd q i n k m ti hx hix hti;replace h:=c0X h;obtain ⟨hk,h⟩:=h;replace h:=a0J h;obtain ⟨ro,bl,hent,h⟩:=h;replace h:=a0p h;obtain ⟨hes,h⟩:=h;simp only [n0M,n1s] at hes;obtain ⟨e,hdd,hel⟩:=d0T (hT _ _ hti) (by simpa using hk);have he0:P.cellsOf e≠0:=by intro e0;rw [hel,e0] at hes;simp at hes
   have hsz:∀w,(sizeOf e).run P w= .ok ti.el w:=fun w=>by rw [hel];exact e0h he0 w
   obtain ⟨β,hβ,hB⟩:=hH.blk _ _ _ _ hent;have hes':β.es=ti.el:=hB.es.trans (q0d hes.1);obtain ⟨base,c,hxe,hnc,hz⟩:=rsv (a0F hg he hx);refine lookw (v:= .pointer (some (β.addr (m.toNat+i) 0))) h (fun hc=>⟨by simp only [Rv];exact ⟨β,hβ,rfl⟩,fun o' ho'=> ?_⟩);rcases hz with hz|⟨β',hβ',hba,hcap⟩
   .omega
   .rw [hβ] at hβ';cases hβ';subst hba;have ha:(β.addr i 0).add (m.toNat*ti.el)=β.addr (m.toNat+i) 0:=by rw [<-hes',d0P,Nat.add_comm]
    simp [execOp,ho',Instr.indexAt,hxe,riv (a0F hg he hix),asIntOf,run_underlying hdd,hc.1,hc.2,hsz,ha]
  .rename_i hd q k m ti hx hix hti;replace h:=c0X h;obtain ⟨hk,h⟩:=h;replace h:=a0J h;obtain ⟨ro,bl,hent,h⟩:=h;split at h
   .rename_i n l;replace h:=a0p h;obtain ⟨hes,h⟩:=h;simp only [n0M,n1s] at hes;obtain ⟨e,hdd,hel,_⟩:=i0m (hT _ _ hti) (by simpa using hk);have he0:P.cellsOf e≠0:=by intro e0;rw [hel,e0] at hes;simp at hes
    have hsz:∀w,(sizeOf e).run P w= .ok ti.el w:=fun w=>by rw [hel];exact e0h he0 w
    obtain ⟨β,hβ,hB⟩:=hH.blk _ _ _ _ hent;have hes':β.es=ti.el:=hB.es.trans (q0d hes.1.2);obtain ⟨β',hβ',hpv⟩:=rpv (a0F hg he hx);rw [hβ] at hβ';cases hβ';refine lookw (v:= .pointer (some (β.addr m.toNat 0))) h (fun hc=>⟨by simp only [Rv];exact ⟨β,hβ,rfl⟩,fun o' ho'=> ?_⟩);have ha:(β.addr 0 0).add (m.toNat*ti.el)=β.addr m.toNat 0:=by rw [<-hes',d0P,i1z]
    simp [execOp,ho',Instr.indexAt,hpv,Instr.sureAddr,riv (a0F hg he hix),asIntOf,run_underlying hdd,hc.1,hc.2,hsz,ha]
   .exact h.elim
  .exact h.elim
 |build ty parts=>exact f1m hT hg he hH hop h
 |buildSlice ty len parts=>exact p0F hT hg he hH hn1 hop h
 |makeSlice ty x y=>exact r0w hT hg he hH hn1 hop h
 |slice ty x lo hi mx=>
  simp only [eff] at h;split at h
  .rename_i v ti hx hti;exact f1p hT hg he hH hop hx hti h
  .exact h.elim
 |alloc ty=>
  simp only [eff] at h;split at h
  .rename_i ti hti;cases hc:(Nat.beq ti.kind 4&&Nat.beq ti.len 1) with
   |false=>rw [hc] at h;exact f1l hT hH hn1 hop hti h
   |true=>rw [hc] at h;exact n1j hT hH hn1 hop hti h
  .exact h.elim
 |box ty x=>exact n1f hg he hH hn1 hop h
 |makeFunc fn first captured=>
  cases fn with
  |func f=>
   simp only [eff] at h;split at h
   .rename_i l hf hl;have hf':first= #[]:=s1F.1 (by simpa using hf)
    have hr:=v0R hg he _ _ hl;refine look (v:= .func (.func f) #[] (captured.map a.eval)) (by simp only [Rv];exact ⟨_,rfl,by rw [Array.toList_map];exact hr⟩) (fun o' ho'=> ?_) h;simp [execOp,ho',Instr.makeFunc,hf']
   .exact h.elim
  |_=>simp only [eff] at h;exact h.elim
 |makeInterface ty x=>
  simp only [eff] at h;split at h
  .rename_i v ti hx hti;replace h:=c0X h;obtain ⟨hk,h⟩:=h;obtain ⟨i,d,_,hd,_,hkd⟩:=l0s (hT _ _ hti);refine look (v:= .iface ty (a.eval x)) (by simp only [Rv];exact ⟨_,rfl,a0F hg he hx⟩) (fun o' ho'=> ?_) h;cases d<;>first|(simp [execOp,ho',Instr.makeInterface,run_underlying hd];done)|(rw [<-hkd] at hk;simp [b0f] at hk)
  .exact h.elim
 |call c=>
  obtain ⟨callee,args,ts⟩:=c;cases callee with
  |value f=>simp only [eff] at h;exact h.elim
  |invoke r m=>simp only [eff] at h;exact h.elim
  |builtin bi=>
   simp only [eff] at h;split at h
   .rename_i x hargs;have ha:args= #[x]:=s1F.1 (by simpa using hargs);subst ha;split at h
    .rename_i ty hts;have ht:ts= #[ty]:=s1F.1 (by simpa using hts);subst ht;split at h
     .rename_i s ti hx hti;replace h:=a0p h;obtain ⟨hk,h⟩:=h;obtain ⟨d,hd,hkd⟩:=c0L (hT _ _ hti) hk;have hd':d= .string:=by cases d<;>first|rfl|(exact absurd hkd (by simp [b0f]))
      subst hd';exact look rvi (fun o' ho'=>by simp [execOp,ho',resolve,invoke,builtin,Builtin.len_,rtv (a0F hg he hx),run_underlying hd,goInt]) h
     .rename_i n ti hx hti;replace h:=a0p h;obtain ⟨hk,h⟩:=h;obtain ⟨e,hd,_⟩:=d0T (hT _ _ hti) hk;obtain ⟨ad,c,hv,_⟩:=rsv (a0F hg he hx);exact look rvi (fun o' ho'=>by simp [execOp,ho',resolve,invoke,builtin,Builtin.len_,hv,run_underlying hd,goInt]) h
     .rename_i ti hx hti;replace h:=a0p h;obtain ⟨hk,h⟩:=h;obtain ⟨e,hd,_⟩:=d0T (hT _ _ hti) hk;have hv:a.eval x= .slice none 0 0:=by have:=a0F hg he hx;simpa only [Rv] using this
      exact look rvi (fun o' ho'=>by simp [execOp,ho',resolve,invoke,builtin,Builtin.len_,hv,run_underlying hd,goInt]) h
     .rename_i ti hx hti;replace h:=a0p h;obtain ⟨hk,h⟩:=h;obtain ⟨e,hd,_⟩:=d0T (hT _ _ hti) hk;obtain ⟨ad,hv⟩:∃ad,a.eval x= .slice ad 0 0:=by have:=a0F hg he hx;simpa only [Rv] using this
      exact look rvi (fun o' ho'=>by simp [execOp,ho',resolve,invoke,builtin,Builtin.len_,hv,run_underlying hd,goInt]) h
     .rename_i ti hx hti;replace h:=a0p h;obtain ⟨hk,h⟩:=h;obtain ⟨kt,et,hd,_⟩:=k0q (hT _ _ hti) hk;exact look rvi (fun o' ho'=>by simp [execOp,ho',resolve,invoke,builtin,Builtin.len_,rnm (a0F hg he hx),run_underlying hd,goInt]) h
     .rename_i ti hx hti;replace h:=a0p h;obtain ⟨hk,h⟩:=h;exact j1U hT hg he hH hop hx hti hk h
     .exact h.elim
    .exact h.elim
   .rename_i x y hargs;have ha:args= #[x,y]:=s1F.1 (by simpa using hargs);subst ha;split at h
    .rename_i t1 tr hts;split at h
     .rename_i m k ti hx hy hti;replace h:=a0p h;obtain ⟨hk,h⟩:=h;exact a1O hT hg he hH hts hop hx hy hti hk h
     .exact h.elim
    .exact h.elim
   .rename_i x hargs;have ha:args= #[x]:=s1F.1 (by simpa using hargs);subst ha;split at h
    .rename_i t1 tr hts;split at h
     .rename_i s ti hx hti;replace h:=a0p h;obtain ⟨hk,h⟩:=h;exact f1o hT hg he hH hts hop hx hti hk h
     .exact h.elim
    .exact h.elim
   .rename_i x y hargs;have ha:args= #[x,y]:=s1F.1 (by simpa using hargs);subst ha;split at h
    .rename_i p m q n hx hy;replace h:=a0p h;obtain ⟨hk,h⟩:=h;have:=c0t hk;subst this;refine look rvi (fun o' ho'=> ?_) h;simp only [execOp,ho',resolve,invoke,builtin,Builtin.min_];simp [riv (a0F hg he hx),riv (a0F hg he hy),Builtin.min2];omega
    .rename_i m n hx hy;refine look rvt (fun o' ho'=> ?_) h;simp only [execOp,ho',resolve,invoke,builtin,Builtin.min_];have hb:∀(b:Bool) (w:World),(asBool (.bool b)).run P w= .ok b w:=fun _ _=>rfl
     simp [rtv (a0F hg he hx),rtv (a0F hg he hy),Builtin.min2,Op.stringOp,i1m,b0V,b0u,seq,hb]
    .exact h.elim
   .rename_i x y hargs;have ha:args= #[x,y]:=s1F.1 (by simpa using hargs);subst ha;split at h
    .rename_i p m q n hx hy;replace h:=a0p h;obtain ⟨hk,h⟩:=h;have:=c0t hk;subst this;refine look rvi (fun o' ho'=> ?_) h;simp only [execOp,ho',resolve,invoke,builtin,Builtin.max_];simp [riv (a0F hg he hx),riv (a0F hg he hy),Builtin.max2];omega
    .rename_i m n hx hy;refine look rvt (fun o' ho'=> ?_) h;simp only [execOp,ho',resolve,invoke,builtin,Builtin.max_];have hb:∀(b:Bool) (w:World),(asBool (.bool b)).run P w= .ok b w:=fun _ _=>rfl
     simp [rtv (a0F hg he hx),rtv (a0F hg he hy),Builtin.max2,Op.stringOp,i1n,b0V,hb]
    .exact h.elim
   .rename_i x y hargs;have ha:args= #[x,y]:=s1F.1 (by simpa using hargs);subst ha;split at h
    .rename_i t1 t2 hts;have ht:ts= #[t1,t2]:=s1F.1 (by simpa using hts);subst ht;split at h
     .rename_i s v ti ti2 hx hy hti hti2;replace h:=a0p h;obtain ⟨hk,h⟩:=h;exact a1G hT hg he hH hn1 hop hx hy hti hti2 hk h
     .exact h.elim
    .exact h.elim
   .rename_i x y hargs;have ha:args= #[x,y]:=s1F.1 (by simpa using hargs);subst ha;split at h
    .rename_i t1 tr hts;split at h
     .rename_i s v ti hx hy hti;replace h:=a0p h;obtain ⟨hk,h⟩:=h;exact j1Q hT hg he hH hts hop hx hy hti hk h
     .exact h.elim
    .exact h.elim
   .exact h.elim
 |convert src dst x=>
  simp only [eff] at h;split at h
  .rename_i v ta tb hx hta htb;exact j1V hT hg he hH hn1 hop hx hta htb h
  .exact h.elim
 |makeMap ty c=>
  cases c with
  |none=>
   simp only [eff] at h;split at h
   .rename_i ti hti;replace h:=a0p h;exact y0s hT hH hn1 hop hti h.1 h.2
   .exact h.elim
  |some c=>simp only [eff] at h;exact h.elim
 |lookup ty x y co=>
  simp only [eff] at h;split at h
  .rename_i m k ti hx hy hti;replace h:=a0p h;exact a1L hT hg he hH hop hx hy hti h.1 h.2
  .exact h.elim
 |mapUpdate ty x y z=>
  simp only [eff] at h;split at h
  .rename_i m k v ti hx hy hz hti;replace h:=a0p h;exact a1N hT hg he hH hop hx hy hz hti h.1 h.2
  .exact h.elim
 |mapEntry ty x y=>
  simp only [eff] at h;split at h
  .rename_i m k ti hx hy hti;replace h:=a0p h;exact t0U hT hg he hH hop hx hy hti h.1 h.2
  .exact h.elim
 |entryStore ty x y z=>
  simp only [eff] at h;split at h
  .rename_i m k v hx hy hz;exact p0L hg he hH hop hx hy hz h
  .exact h.elim
 |range ty x=>
  simp only [eff] at h;split at h
  .rename_i m ti hx hti;exact f1t hT hg he hH hn1 hop hx hti h
  .exact h.elim
 |entry x=>
  simp only [eff] at h;split at h
  .rename_i m hx;exact f1u hg he hH hop hx h
  .exact h.elim
 |_=>simp only [eff] at h;exact h.elim
end ops
def m1Q (n:Nat) (ρ:Nat->Nat) (g g':G):Prop:=∀h q β,h<n->(g h q=some β↔g' (ρ h) q=some β)
mutual
theorem Rv.ren {n:Nat} {ρ:Nat->Nat} {g g':G} (hs:m1Q n ρ g g'):∀(sv:SV) (v:Value),SV.wf n sv=true->(Rv g sv v↔Rv g' (SV.ren ρ sv) v)
 | .bool _,_,_=>by simp only [SV.ren,Rv]
 | .int _ _,_,_=>by simp only [SV.ren,Rv]
 | .str _,_,_=>by simp only [SV.ren,Rv]
 | .ptr h q i j,v,hw=>by
   simp only [SV.ren,Rv];have hl:h<n:=by simpa [SV.wf] using hw
   constructor
   .rintro ⟨β,e,k⟩;exact ⟨β,(hs h q β hl).1 e,k⟩
   .rintro ⟨β,e,k⟩;exact ⟨β,(hs h q β hl).2 e,k⟩
 | .nptr,_,_=>by simp only [SV.ren,Rv]
 | .sl h q i m,v,hw=>by
   simp only [SV.ren,Rv];have hl:h<n:=by simpa [SV.wf] using hw
   constructor
   .rintro ⟨ad,c,e,hn,k⟩;refine ⟨ad,c,e,hn,?_⟩;rcases k with k|⟨β,e1,k⟩
    .exact .inl k
    .exact .inr ⟨β,(hs h q β hl).1 e1,k⟩
   .rintro ⟨ad,c,e,hn,k⟩;refine ⟨ad,c,e,hn,?_⟩;rcases k with k|⟨β,e1,k⟩
    .exact .inl k
    .exact .inr ⟨β,(hs h q β hl).2 e1,k⟩
 | .nsl,_,_=>by simp only [SV.ren,Rv]
 | .zsl,_,_=>by simp only [SV.ren,Rv]
 | .map h q,v,hw=>by
   simp only [SV.ren,Rv];have hl:h<n:=by simpa [SV.wf] using hw
   constructor
   .rintro ⟨β,e,k⟩;exact ⟨β,(hs h q β hl).1 e,k⟩
   .rintro ⟨β,e,k⟩;exact ⟨β,(hs h q β hl).2 e,k⟩
 | .nmap,_,_=>by simp only [SV.ren,Rv]
 | .fn f l,v,hw=>by
   simp only [SV.ren,Rv];have hw':SV.wfs n l=true:=by simpa [SV.wf] using hw
   constructor
   .rintro ⟨vs,e,k⟩;exact ⟨vs,e,(Rvs.ren hs l _ hw').1 k⟩
   .rintro ⟨vs,e,k⟩;exact ⟨vs,e,(Rvs.ren hs l _ hw').2 k⟩
 | .iface t s,v,hw=>by
   simp only [SV.ren,Rv];have hw':SV.wf n s=true:=by simpa [SV.wf] using hw
   constructor
   .rintro ⟨u,e,k⟩;exact ⟨u,e,(Rv.ren hs s _ hw').1 k⟩
   .rintro ⟨u,e,k⟩;exact ⟨u,e,(Rv.ren hs s _ hw').2 k⟩
 | .nif,_,_=>by simp only [SV.ren,Rv]
 | .agg l,v,hw=>by
   simp only [SV.ren,Rv];have hw':SV.wfs n l=true:=by simpa [SV.wf] using hw
   constructor
   .rintro ⟨vs,e,k⟩;exact ⟨vs,e,(Rvs.ren hs l _ hw').1 k⟩
   .rintro ⟨vs,e,k⟩;exact ⟨vs,e,(Rvs.ren hs l _ hw').2 k⟩
 | .arr _ _,_,_=>by simp only [SV.ren,Rv]
 | .tup l,v,hw=>by
   simp only [SV.ren,Rv];have hw':SV.wfs n l=true:=by simpa [SV.wf] using hw
   constructor
   .rintro ⟨vs,e,k⟩;exact ⟨vs,e,(Rvs.ren hs l _ hw').1 k⟩
   .rintro ⟨vs,e,k⟩;exact ⟨vs,e,(Rvs.ren hs l _ hw').2 k⟩
 | .raw _,_,_=>by simp only [SV.ren,Rv]
 | .unk,_,_=>by simp only [SV.ren,Rv]
theorem Rvs.ren {n:Nat} {ρ:Nat->Nat} {g g':G} (hs:m1Q n ρ g g'):∀(l:List SV) (vs:List Value),SV.wfs n l=true->(Rvs g l vs↔Rvs g' (SV.rens ρ l) vs)
 | [],_,_=>by simp only [SV.rens,Rvs]
 |s::l,vs,hw=>by
  simp only [SV.rens,Rvs];have hw':SV.wf n s=true/\SV.wfs n l=true:=by simpa [SV.wfs] using hw
  constructor
  .rintro ⟨v,vs',e,h1,h2⟩;exact ⟨v,vs',e,(Rv.ren hs s v hw'.1).1 h1,(Rvs.ren hs l vs' hw'.2).1 h2⟩
  .rintro ⟨v,vs',e,h1,h2⟩;exact ⟨v,vs',e,(Rv.ren hs s v hw'.1).2 h1,(Rvs.ren hs l vs' hw'.2).2 h2⟩
end
def m1R (ρ:Nat->Nat) (g g':G):Prop:=∀h q β,g h q=some β->g' (ρ h) q=some β
mutual
theorem Rv.into {ρ:Nat->Nat} {g g':G} (hs:m1R ρ g g'):∀(sv:SV) (v:Value),Rv g sv v->Rv g' (SV.ren ρ sv) v
 | .bool _,_,r=>by simp only [SV.ren,Rv] at r⊢;exact r
 | .int _ _,_,r=>by simp only [SV.ren,Rv] at r⊢;exact r
 | .str _,_,r=>by simp only [SV.ren,Rv] at r⊢;exact r
 | .ptr h q i j,v,r=>by simp only [SV.ren,Rv] at r⊢;obtain ⟨β,e,k⟩:=r;exact ⟨β,hs h q β e,k⟩
 | .nptr,_,r=>by simp only [SV.ren,Rv] at r⊢;exact r
 | .sl h q i m,v,r=>by
   simp only [SV.ren,Rv] at r⊢;obtain ⟨ad,c,e,hn,k⟩:=r;refine ⟨ad,c,e,hn,?_⟩;rcases k with k|⟨β,e1,k⟩
   .exact .inl k
   .exact .inr ⟨β,hs h q β e1,k⟩
 | .nsl,_,r=>by simp only [SV.ren,Rv] at r⊢;exact r
 | .zsl,_,r=>by simp only [SV.ren,Rv] at r⊢;exact r
 | .map h q,v,r=>by simp only [SV.ren,Rv] at r⊢;obtain ⟨β,e,k⟩:=r;exact ⟨β,hs h q β e,k⟩
 | .nmap,_,r=>by simp only [SV.ren,Rv] at r⊢;exact r
 | .fn f l,v,r=>by simp only [SV.ren,Rv] at r⊢;obtain ⟨vs,e,k⟩:=r;exact ⟨vs,e,Rvs.into hs l _ k⟩
 | .iface t s,v,r=>by simp only [SV.ren,Rv] at r⊢;obtain ⟨u,e,k⟩:=r;exact ⟨u,e,Rv.into hs s _ k⟩
 | .nif,_,r=>by simp only [SV.ren,Rv] at r⊢;exact r
 | .agg l,v,r=>by simp only [SV.ren,Rv] at r⊢;obtain ⟨vs,e,k⟩:=r;exact ⟨vs,e,Rvs.into hs l _ k⟩
 | .arr _ _,_,r=>by simp only [SV.ren,Rv] at r⊢;exact r
 | .tup l,v,r=>by simp only [SV.ren,Rv] at r⊢;obtain ⟨vs,e,k⟩:=r;exact ⟨vs,e,Rvs.into hs l _ k⟩
 | .raw _,_,r=>by simp only [SV.ren,Rv] at r⊢;exact r
 | .unk,_,_=>by simp only [SV.ren,Rv]
theorem Rvs.into {ρ:Nat->Nat} {g g':G} (hs:m1R ρ g g'):∀(l:List SV) (vs:List Value),Rvs g l vs->Rvs g' (SV.rens ρ l) vs
 | [],_,r=>by simp only [SV.rens,Rvs] at r⊢;exact r
 |s::l,vs,r=>by
  simp only [SV.rens,Rvs] at r⊢;obtain ⟨v,vs',e,h1,h2⟩:=r;exact ⟨v,vs',e,Rv.into hs s v h1,Rvs.into hs l vs' h2⟩
end
theorem h0J (ρ:Nat->Nat):∀l:List SV,SV.rens ρ l=l.map (SV.ren ρ)
 | []=>rfl
 |s::l=>by simp [SV.rens,h0J ρ l]
theorem e0G (ρ:Nat->Nat):∀l:List BCol,d0v ρ l=l.map (BCol.ren ρ)
 | []=>rfl
 |s::l=>by simp [d0v,e0G ρ l]
theorem BCol.ren_at (ρ:Nat->Nat) (c:BCol) (i:Nat):(c.ren ρ).at i=SV.ren ρ (c.at i):=by
 cases c with
 |sc c=>cases c<;>rfl
 |svs l=>
  simp only [BCol.ren,BCol.at,h0J,List.getD,f1Q];cases l[i]?<;>rfl
 |own h ns=>rfl
 |arrs n k r=>rfl
 |ptrs h n=>rfl
theorem Blk.ren_at (ρ:Nat->Nat) (b:Blk) (i j:Nat):(b.ren ρ).at i j=(b.at i j).map (SV.ren ρ):=by
 cases b with
 |cells l=>simp only [Blk.ren,Blk.at,h0J,b0l,f1Q]
 |cols n l=>
  simp only [Blk.ren,Blk.at,e0G,b0l,f1Q];cases l[j]? with
  |none=>rfl
  |some c=>simp [BCol.ren_at]
 |obj o=>rfl
theorem Blk.ren_has (ρ:Nat->Nat) (b:Blk) (i:Nat):(b.ren ρ).has i↔b.has i:=by cases b<;>exact Iff.rfl
theorem Blk.ren_es (ρ:Nat->Nat) (b:Blk):(b.ren ρ).es=b.es:=by
 cases b<;>simp [Blk.ren,Blk.es,h0J,e0G]
theorem Blk.ren_len (ρ:Nat->Nat) (b:Blk):(b.ren ρ).lenOk↔b.lenOk:=by
 cases b with
 |cells l=>rfl
 |cols n l=>
  simp only [Blk.ren,Blk.lenOk,e0G];have:∀c:BCol,(c.ren ρ).len=c.len:=by intro c;cases c<;>simp [BCol.ren,BCol.len,h0J]
  simp_all
 |obj o=>rfl
theorem l0I (ρ:Nat->Nat):∀(l:List BCol) (i:Nat),a0C (d0v ρ l) i=SV.rens ρ (a0C l i)
 | [],_=>rfl
 |c::l,i=>by simp only [d0v,a0C,SV.rens,BCol.ren_at,l0I ρ l i]
theorem l0J (ρ:Nat->Nat) (ea:Bool) (l:List BCol) (i:Nat):b0n ea (d0v ρ l) i=SV.ren ρ (b0n ea l i):=by
 cases ea with
 |true=>grind [b0n,SV.ren,l0I]
 |false=>
  match l with
  | []=>rfl
  | [c]=>grind [d0v,b0n,BCol.ren_at]
  |_::_::_=>rfl
theorem h0K (ρ:Nat->Nat) {l:List BCol} {n:Nat}:(∀c∈d0v ρ l,c.len=n)↔∀c∈l,c.len=n:=by
 have:∀c:BCol,(c.ren ρ).len=c.len:=by intro c;cases c<;>simp [BCol.ren,BCol.len,h0J]
 simp [e0G,this]
theorem p0M {n:Nat}:∀{l:List SV} {s:SV},SV.wfs n l=true->s∈l->SV.wf n s=true
 | [],s,_,h=>by grind
 |x::l,s,hw,h=>by
  simp only [SV.wfs,n0M] at hw;rcases f1I.1 h with rfl|h
  .simp_all
  .exact p0M hw.2 h
theorem o0u {n:Nat}:∀{l:List BCol} {c:BCol},f0N n l=true->c∈l->c.wf n=true
 | [],s,_,h=>by grind
 |x::l,s,hw,h=>by
  simp only [f0N,n0M] at hw;rcases f1I.1 h with rfl|h
  .simp_all
  .exact o0u hw.2 h
theorem Col.at_wf (n:Nat) (c:Col) (i:Nat):SV.wf n (c.at i)=true:=by cases c<;>rfl
theorem Blk.wf_at {n:Nat} {b:Blk} {i j:Nat} {sv:SV} (h:b.wf n=true) (hj:b.at i j=some sv):SV.wf n sv=true:=by
 cases b with
 |cells l=>
  exact p0M h (b0y hj)
 |cols m l=>
  simp only [Blk.at] at hj;split at hj
  .rename_i c hc;simp only [injEq] at hj;subst hj;have hw:=o0u h (b0y hc);cases c with
   |sc c=>exact Col.at_wf n c i
   |svs l=>
    simp only [BCol.at,List.getD];cases hx:l[i]? with
    |none=>rfl
    |some s=>exact p0M hw (s1d hx)
   |own h ns=>exact hw
   |ptrs h m=>exact hw
   |arrs n k r=>rfl
  trivial
 |obj o=>cases hj
theorem BCol.at_wf {n:Nat} {c:BCol} (h:c.wf n=true) (i:Nat):SV.wf n (c.at i)=true:=by
 cases c with
 |sc c=>exact Col.at_wf n c i
 |svs l=>
  simp only [BCol.at,List.getD];cases hx:l[i]? with
  |none=>rfl
  |some s=>exact p0M h (s1d hx)
 |own hh ns=>exact h
 |ptrs hh m=>exact h
 |arrs n k r=>rfl
theorem o0v {n:Nat}:∀{l:List BCol} (i:Nat),f0N n l=true->SV.wfs n (a0C l i)=true
 | [],_,_=>rfl
 |c::l,i,h=>by
  simp only [f0N,n0M] at h;simp only [a0C,SV.wfs,n0M];exact ⟨BCol.at_wf h.1 i,o0v i h.2⟩
theorem f1v {n:Nat} {ea:Bool} {l:List BCol} (i:Nat) (h:f0N n l=true):SV.wf n (b0n ea l i)=true:=by
 cases ea with
 |true=>simp_all [b0n,SV.wf,o0v]
 |false=>
  match l,h with
  | [],_=>rfl
  | [c],h=>simp only [f0N,t1t] at h;exact BCol.at_wf h i
  |_::_::_,_=>rfl
theorem y0t {n:Nat} {ρ:Nat->Nat} {g g':G} (hs:m1Q n ρ g g') {β:Base} {o:ObjS} {w:World} (hw:o.wf n=true) (h:(o.ren ρ).Ok g' w β):o.Ok g w β:=by
 cases o with
 |map ka ea m ks vs bs ck=>
  obtain ⟨es,e,k⟩:=h;exact ⟨es,e,k.size,k.kl,(h0K ρ).1 k.vl,k.bl,k.nd,k.lt,fun i x hx=>⟨(k.row i x hx).1,(k.row i x hx).2.1,(Rv.ren hs _ _ (f1v i hw)).2 (by rw [<-l0J];exact (k.row i x hx).2.2)⟩⟩
 |iter h0 q a b c=>
  obtain ⟨β',e1,e⟩:=h;exact ⟨β',(hs h0 q β' (by simpa [ObjS.wf] using hw)).2 e1,e⟩
 |niter=>exact h
 |siter s p=>exact h
 |bld0 T=>exact h
 |bld T h0 q n=>
  obtain ⟨β',e1,e⟩:=h;exact ⟨β',(hs h0 q β' (by simpa [ObjS.wf] using hw)).2 e1,e⟩
 |brow T s=>exact h
 |bag Q=>exact h
theorem y0u {n:Nat} {ρ:Nat->Nat} {g g':G} (hs:m1Q n ρ g g') {β:Base} {b:Blk} {w:World} (hw:b.wf n=true) (h:(b.ren ρ).Ok g' w β):b.Ok g w β:=by
 cases b with
 |obj o=>exact ⟨h.1,h.2.1,y0t hs hw h.2.2⟩
 |_=>trivial
theorem y0v {ρ:Nat->Nat} {g g':G} (hs:m1R ρ g g') {β:Base} {o:ObjS} {w:World} (h:o.Ok g w β):(o.ren ρ).Ok g' w β:=by
 cases o with
 |map ka ea m ks vs bs ck=>
  obtain ⟨es,e,k⟩:=h;exact ⟨es,e,k.size,k.kl,(h0K ρ).2 k.vl,k.bl,k.nd,k.lt,fun i x hx=>⟨(k.row i x hx).1,(k.row i x hx).2.1,by rw [l0J];exact Rv.into hs _ _ (k.row i x hx).2.2⟩⟩
 |iter h0 q a b c=>
  obtain ⟨β',e1,e⟩:=h;exact ⟨β',hs h0 q β' e1,e⟩
 |niter=>exact h
 |siter s p=>exact h
 |bld0 T=>exact h
 |bld T h0 q n=>
  obtain ⟨β',e1,e⟩:=h;exact ⟨β',hs h0 q β' e1,e⟩
 |brow T s=>exact h
 |bag Q=>exact h
theorem y0w {ρ:Nat->Nat} {g g':G} (hs:m1R ρ g g') {β:Base} {b:Blk} {w:World} (h:b.Ok g w β):(b.ren ρ).Ok g' w β:=by
 cases b with
 |obj o=>exact ⟨h.1,h.2.1,y0v hs h.2.2⟩
 |_=>trivial
theorem y0x {n:Nat} {ρ:Nat->Nat} {g g':G} (hs:m1Q n ρ g g') {β:Base} {ro ro':Bool} {b:Blk} {w:World} (hw:b.wf n=true) (hro:ro=false->ro'=false) (h:BlkAt g' β ro' (b.ren ρ) w):BlkAt g β ro b w:=by
 refine ⟨h.lt,by rw [h.es,Blk.ren_es],(Blk.ren_len ρ b).1 h.len,fun i hi=>h.cap i ((Blk.ren_has ρ b i).2 hi),?_,fun i j v hi=>h.one i j v ((Blk.ren_has ρ b i).2 hi),fun hr=>h.rw (hro hr),y0u hs hw h.obj⟩;intro i j sv hi hj;obtain ⟨v,h1,h2⟩:=h.cell i j (SV.ren ρ sv) ((Blk.ren_has ρ b i).2 hi) (by rw [Blk.ren_at,hj];rfl);grind [Rv.ren,Blk.wf_at]
theorem y0y {ρ:Nat->Nat} {g g':G} (hs:m1R ρ g g') {β:Base} {ro:Bool} {b:Blk} {w:World} (h:BlkAt g β ro b w):BlkAt g' β ro (b.ren ρ) w:=by
 refine ⟨h.lt,by rw [h.es,Blk.ren_es],(Blk.ren_len ρ b).2 h.len,fun i hi=>h.cap i ((Blk.ren_has ρ b i).1 hi),?_,fun i j v hi=>h.one i j v ((Blk.ren_has ρ b i).1 hi),h.rw,y0w hs h.obj⟩;intro i j sv hi hj;rw [Blk.ren_at] at hj;cases hb:b.at i j with
 |none=>simp_all
 |some s=>
  obtain ⟨v,h1,h2⟩:=h.cell i j s ((Blk.ren_has ρ b i).1 hi) hb;grind [Rv.into]
theorem HB.ren_is {ρ:Nat->Nat} {hb:HB} {q:Nat} {b:Blk}:(hb.ren ρ).is q b↔∃b0,hb.is q b0/\b=b0.ren ρ:=by
 cases hb with
 |one r b'=>
  simp only [HB.ren,HB.is];grind
 |fam r dom f=>
  simp only [HB.ren,HB.is];grind
theorem HB.ren_ro (ρ:Nat->Nat) (hb:HB):(hb.ren ρ).ro=hb.ro:=by cases hb<;>rfl
theorem HB.fits_is {hb hb':HB} (h:hb.fits hb') {q:Nat} {b:Blk} (hi:hb.is q b):hb'.is q b/\(hb.ro=false->hb'.ro=false):=by
 cases hb<;>cases hb'<;>simp only [HB.fits] at h
 .obtain ⟨h1,rfl⟩:=h;exact ⟨hi,fun e=>by simp_all [HB.ro]⟩
 .obtain ⟨h1,rfl,rfl⟩:=h;exact ⟨hi,fun e=>by simp_all [HB.ro]⟩
theorem o0w {ρ:Nat->Nat} {Hc:a0k}:∀(H:a0k),f0B ρ H Hc->∀h q ro b,Ent H h q ro b->∃ro',Ent Hc (ρ h) q ro' (b.ren ρ)/\(ro=false->ro'=false)
 | [],_,h,q,ro,b,he=>by obtain ⟨hb,e,_⟩:=he;trivial
 |(k,some hb)::r,hm,h,q,ro,b,he=>by
  rcases a0v.1 he with ⟨rfl,hb',e1,e2,e3⟩|⟨_,he⟩
  .cases e1;have h1:=hm.1;unfold a1q at h1;split at h1
   .rename_i hc hhc;obtain ⟨k1,k2⟩:=HB.fits_is h1 (HB.ren_is.2 ⟨b,e2,rfl⟩);exact ⟨hc.ro,⟨hc,hhc,k1,rfl⟩,fun e=>k2 (by rw [HB.ren_ro,e3,e])⟩
   trivial
  .exact o0w r hm.2 h q ro b he
 |(k,none)::r,hm,h,q,ro,b,he=>by trivial
theorem o0x {n:Nat}:∀(H:a0k),f0O n H->∀h q ro b,Ent H h q ro b->h<n/\b.wf n=true
 | [],_,h,q,ro,b,he=>by obtain ⟨hb,e,_⟩:=he;trivial
 |(k,some hb)::r,hm,h,q,ro,b,he=>by
  simp only [f0O] at hm;rcases a0v.1 he with ⟨rfl,hb',e1,e2,e3⟩|⟨_,he⟩
  .cases e1;refine ⟨by simp_all,?_⟩;cases hb with
   |one r' b'=>rw [e2.2];exact hm.2.1
   |fam r' dom f=>rw [e2.2];exact hm.2.1 q e2.1
  .exact o0x r hm.2.2 h q ro b he
 |(k,none)::r,hm,h,q,ro,b,he=>by trivial
theorem f1w {ρ:Nat->Nat} {X:a0k}:∀(H:a0k) (h q:Nat) (ro:Bool) (b:Blk),Ent (n0E ρ H++X) h q ro b->(∃k b0,ρ k=h/\Ent H k q ro b0/\b=b0.ren ρ)\/Ent X h q ro b:=by
 intro H;induction H with
 |nil=>intro h q ro b he;exact .inr he
 |cons p r ih=>
  intro h q ro b he;obtain ⟨k,o⟩:=p;have up:∀(he':Ent (n0E ρ r++X) h q ro b),ρ k≠h->(∃k' b0,ρ k'=h/\Ent ((k,o)::r) k' q ro b0/\b=b0.ren ρ)\/Ent X h q ro b:=by
   intro he' hne;rcases ih h q ro b he' with ⟨k',b0,e1,e2,e3⟩|hx
   .exact .inl ⟨k',b0,e1,a0v.2 (.inr ⟨fun e=>hne (by simp_all),e2⟩),e3⟩
   simp_all
  cases o with
  |none=>
   rcases a0v.1 he with ⟨_,hb,e1,_⟩|⟨hne,he'⟩
   all_goals simp_all
  |some hb=>
   rcases a0v.1 he with ⟨e,hb',e1,e2,e3⟩|⟨hne,he'⟩
   .cases e1;obtain ⟨b0,k1,k2⟩:=HB.ren_is.1 e2;exact .inl ⟨k,b0,e,a0v.2 (.inl ⟨rfl,hb,rfl,k1,by rw [<-e3,HB.ren_ro]⟩),k2⟩
   simp_all
theorem f1x {ρ:Nat->Nat} {X:a0k}:∀(H:a0k) (h q:Nat) (ro:Bool) (b:Blk),Ent (n0F ρ H++X) h q ro b->Ent X h q ro b/\∀k hb,(k,some hb)∈H->hb.ro=false->ρ k≠h:=by
 intro H;induction H with
 |nil=>intro h q ro b he;exact ⟨he,by simp⟩
 |cons p r ih=>
  intro h q ro b he;obtain ⟨k,o⟩:=p;cases o with
  |none=>
   grind [n0F]
  |some hb=>
   simp only [n0F] at he;cases hr:hb.ro with
   |true=>
    grind
   |false=>
    rw [hr] at he;simp only [cond_false,k1p] at he;rcases a0v.1 he with ⟨_,hb',e1,_⟩|⟨hne,he'⟩
    all_goals grind
theorem j0A:∀(H:a0k) (h q:Nat) (ro:Bool) (b:Blk),Ent H h q ro b->∃hb,(h,some hb)∈H/\hb.ro=ro:=by
 intro H;induction H with
 |nil=>intro h q ro b he;obtain ⟨hb,e,_⟩:=he;trivial
 |cons p r ih=>
  intro h q ro b he;rcases a0v.1 he with ⟨rfl,hb',e1,e2,e3⟩|⟨_,he⟩
  all_goals grind
theorem r0L {ρ:Nat->Nat} {h:Nat}:∀(H:a0k),v0O ρ h H=true->∀k o,(k,o)∈H->k≠h->ρ h≠ρ k
 | [],_,k,o,hm,_=>by grind
 |(x,y)::r,hi,k,o,hm,hne=>by
  simp only [v0O,n0M,s1G] at hi;rcases f1I.1 hm with e|hm
  .rcases hi.1 with h1|h1
   .simp_all
   .intro e;simp_all
  .exact r0L r hi.2 k o hm hne
theorem p0N {ρ:Nat->Nat} {all:a0k}:∀(H:a0k),p0y ρ all H=true->∀h hb,(h,some hb)∈H->hb.ro=false->∀k o,(k,o)∈all->k≠h->ρ h≠ρ k
 | [],_,h,hb,hm,_=>by grind
 |(x,some y)::r,hi,h,hb,hm,hr=>by
  simp only [p0y,n0M] at hi;rcases f1I.1 hm with e|hm
  .grind [r0L]
  .exact p0N r hi.2 h hb hm hr
 |(x,none)::r,hi,h,hb,hm,hr=>by
  rcases f1I.1 hm with e|hm
  .grind
  .exact p0N r hi h hb hm hr
theorem n1k {l:List Nat} {nx h:Nat} (hh:h<l.length):rho l nx h=l[h]:=by
 simp_all [rho,b0l]
theorem i1t {l:List Nat} {nx h:Nat} (hh:l.length<=h):rho l nx h=nx+(h-l.length):=by
 simp_all [rho,b0l]
theorem r0M {g:G} {w:World} {l:List Nat} {nx:Nat} {args args0:List SV} {H Hc:a0k} {post:SV->a0k->Nat->Prop} {vals:List Value} (hf:Fits l nx args args0 H Hc) (hg:g.glob) (hH:Holds g Hc w) (hv:Rvs g args vals)
  (hun:∀sv H' n',post sv H' n'->∀h q,nx<=h->h<nx+(n'-l.length)->g h q=none):
  ∃g0:G,g0.glob/\g0.upto l.length/\Holds g0 H w/\Rvs g0 args0 vals/\∀v w',Out g0 w l.length H post v w'->∃sv H' n' g',post sv H' n'/\After g Hc nx w (SV.ren (rho l nx) sv) (n0E (rho l nx) H'++n0F (rho l nx) H) (n'-l.length) g' v w':=by
 have hpos:0<l.length/\rho l nx 0=0:=by
  have:=hf.head;unfold o0c at this;grind [rho,nth]
 let ρ:=rho l nx
 let g0:G:=fun h q=>if h<l.length then g (ρ h) q else none
 have hs:m1Q l.length ρ g0 g:=by intro h q β hh;grind
 have hg0:g0.glob:=by
  intro q;obtain ⟨es,cap,e⟩:=hg q;grind
 have hup:g0.upto l.length:=by intro h q hh;grind
 have toC:∀h q ro b,Ent H h q ro b->h<l.length/\b.wf l.length=true/\∃ro' β,Ent Hc (ρ h) q ro' (b.ren ρ)/\(ro=false->ro'=false)/\g (ρ h) q=some β/\g0 h q=some β/\BlkAt g0 β ro b w:=by
  intro h q ro b he;obtain ⟨h1,h2⟩:=o0x H hf.wfH h q ro b he;obtain ⟨ro',h3,h4⟩:=o0w H hf.heap h q ro b he;obtain ⟨β,h5,h6⟩:=hH.blk _ _ _ _ h3;grind [y0x]
 have hH0:Holds g0 H w:=by
  refine ⟨?_,?_⟩
  .grind
  .intro h q h' q' b ro' b' β β' hne he he' hgb hgb' hc hc';obtain ⟨h1,h2,ro1,β1,h3,h4,h5,h6,_⟩:=toC h q false b he;obtain ⟨k1,k2,ro2,β2,k3,k4,k5,k6,_⟩:=toC h' q' ro' b' he';rw [hgb] at h6;cases h6;rw [hgb'] at k6;cases k6;have:=h4 rfl;subst this;refine hH.sep (ρ h) q (ρ h') q' (b.ren ρ) ro2 (b'.ren ρ) β β' ?_ h3 k3 h5 k5 hc hc';rintro ⟨e1,e2⟩;by_cases e:h=h'
   .omega
   .obtain ⟨hb,m1,m2⟩:=j0A H h q false b he;obtain ⟨hb',m3,_⟩:=j0A H h' q' ro' b' he';exact p0N H hf.inj h hb m1 m2 h' (some hb') m3 (Ne.symm e) e1
 have hv0:Rvs g0 args0 vals:=(Rvs.ren hs args0 vals hf.wfA).2 (by rw [<-hf.args];omega);refine ⟨g0,hg0,hup,hH0,hv0,?_⟩;rintro v w' ⟨sv,H',n',g',hp,hnn,hup',hkeep,hrv,hH',hrw,hfr,hown⟩;have hunb:=hun sv H' n' hp;let gc:G:=fun k q=>if nx<=k/\k<nx+(n'-l.length) then g' (l.length+(k-nx)) q else g k q
 have hle:G.le g gc:=by
  intro k q β e;grind
 have hinto:m1R ρ g' gc:=by
  intro h q β e;rcases i1B h l.length with hh|hh
  .grind
  .have hlt:h<n':=by
    rcases i1B h n' with h1|h1
    .omega
    .rw [hup' h q h1] at e;grind
   have e1:ρ h=nx+(h-l.length):=i1t hh;grind
 have wsub:∀k,f0z g0 H k->f0z g Hc k:=by
  rintro k ⟨h,q,b,β,he,hgb,hc,hk⟩;obtain ⟨h1,h2,ro1,β1,h3,h4,h5,h6,_⟩:=toC h q false b he;rw [hgb] at h6;cases h6;have:=h4 rfl;subst this;exact ⟨ρ h,q,_,β,h3,h5,hc,hk⟩
 have apart:∀h q ro b β,Ent Hc h q ro b->(∀k hb,(k,some hb)∈H->hb.ro=false->ρ k≠h)->g h q=some β->0<β.cap->¬f0z g0 H β.blk:=by
  rintro h q ro b β he hno hgb hc ⟨k,q',b',β',he',hgb',hc',hk⟩;obtain ⟨h1,h2,ro1,β1,h3,h4,h5,h6,_⟩:=toC k q' false b' he';rw [hgb'] at h6;cases h6;have:=h4 rfl;subst this;obtain ⟨hb,m1,m2⟩:=j0A H k q' false b' he';exact hH.sep (ρ k) q' h q _ ro b β' β (fun e=>hno k hb m1 m2 e.1) h3 he h5 hgb hc' hc hk
 have cls:∀h q ro b,Ent ((n0E ρ H'++n0F ρ H)++Hc) h q ro b->(∃k b0 β,ρ k=h/\Ent H' k q ro b0/\b=b0.ren ρ/\g' k q=some β/\gc h q=some β/\BlkAt g' β ro b0 w')\/(∃β,Ent Hc h q ro b/\g h q=some β/\gc h q=some β/\BlkAt g β ro b w/\(0<β.cap->¬f0z g0 H β.blk)):=by
  intro h q ro b he;rw [s1T] at he;rcases f1w H' h q ro b he with ⟨k,b0,e1,e2,e3⟩|he
  .obtain ⟨β,h1,h2⟩:=hH'.blk k q ro b0 e2;exact .inl ⟨k,b0,β,e1,e2,e3,h1,by rw [<-e1];exact hinto _ _ _ h1,h2⟩
  .obtain ⟨h1,h2⟩:=f1x H h q ro b he;obtain ⟨β,h3,h4⟩:=hH.blk h q ro b h1;grind
 refine ⟨sv,H',n',gc,hp,hle,?_,Rv.into hinto sv v hrv,⟨?_,?_⟩,⟨hfr.os,hfr.tape,hfr.output,hfr.size,fun k hk hW=>hfr.block k hk (fun h=>hW (wsub k h))⟩,?_⟩
 .grind
 .intro h q ro b he;rcases cls h q ro b he with ⟨k,b0,β,_,_,e3,_,h5,h6⟩|⟨β,h1,h2,h3,h4,h5⟩
  .grind [y0y]
  .exact ⟨β,h3,b0E h4 hle hfr.size (fun hc=>hfr.block _ (h4.lt hc) (h5 hc))⟩
 .intro h q h' q' b ro' b' β β' hne he he' hgb hgb' hc hc';have own:∀k b0 β,Ent H' k q false b0->g' k q=some β->0<β.cap->f0z g0 H β.blk\/w.heap.size<=β.blk:=fun k b0 β he hgb hc=>hown k q b0 β he hgb hc
  have own':∀k b0 β,Ent H' k q' false b0->g' k q'=some β->0<β.cap->f0z g0 H β.blk\/w.heap.size<=β.blk:=fun k b0 β he hgb hc=>hown k q' b0 β he hgb hc
  rcases cls h q false b he with ⟨k,b0,β1,e1,e2,e3,e4,e5,e6⟩|⟨β1,e1,e2,e3,e4,e5⟩
  .rw [hgb] at e5;cases e5;rcases cls h' q' ro' b' he' with ⟨k',b0',β2,f1,f2,f3,f4,f5,f6⟩|⟨β2,f1,f2,f3,f4,f5⟩
   .rw [hgb'] at f5;cases f5;exact hH'.sep k q k' q' b0 ro' b0' β β' (fun e=>hne ⟨by simp_all,e.2⟩) e2 f2 e4 f4 hc hc'
   .rw [hgb'] at f3;cases f3;rcases own k b0 β e2 e4 hc with ho|ho
    .grind
    .have:=f4.lt hc';omega
  .rw [hgb] at e3;cases e3;rcases cls h' q' ro' b' he' with ⟨k',b0',β2,f1,f2,f3,f4,f5,f6⟩|⟨β2,f1,f2,f3,f4,f5⟩
   .rw [hgb'] at f5;cases f5;have hr:=hrw k' q' ro' b0' f2;subst hr;rcases own' k' b0' β' f2 f4 hc' with ho|ho
    .intro e;rw [<-e] at ho;exact e5 hc ho
    .have:=e4.lt hc;omega
   .rw [hgb'] at f3;cases f3;exact hH.sep h q h' q' b ro' b' β β' hne e1 f1 e2 f2 hc hc'
 .intro h q b β he hgb hc;rcases cls h q false b he with ⟨k,b0,β1,e1,e2,e3,e4,e5,e6⟩|⟨β1,e1,e2,e3,e4,e5⟩
  .rw [hgb] at e5;cases e5;rcases hown k q b0 β e2 e4 hc with ho|ho
   .exact .inl (wsub _ ho)
   .exact .inr ho
  .rw [hgb] at e3;cases e3;exact .inl ⟨h,q,b,β,e1,e2,hc,rfl⟩
section ops
variable {P:Program} {T:Tab} {g:G} {vs:VS} {a:Act} {w:World} {r:SV} {U:a0k} {b:Nat} {t:List Nat} {H:a0k} {nx:Nat}
theorem l0K {n:Nat} (hn:0<n):∃k w1,k<n/\(choose (.mapNext n)).run P w= .ok k w1/\w1.heap=w.heap/\w1.os=w.os/\w1.tape=w.tape/\w1.output=w.output:=by
 by_cases hf:(Question.mapNext n).forced=true
 .have h1:n=1:=by grind [Question.forced]
  simp_all
 .simp only [Bool.not_eq_true] at hf;exact ⟨_,w.drew,t1J _ hn,o0s _ hf,rfl,rfl,rfl,rfl⟩
theorem j1W (hg:g.glob) (he:c0c g vs a) (hH:Holds g vs.heap w) {o:Oper} {x:Operand} {hh hm qm:Nat} {bs sn:List Nat} {ck n:Nat} {ro2 ka ea:Bool} {ks:List Col} {vl:List BCol} (ho:o.op= .next x false) (hx:gv vs x=some (.ptr hh 0 0 0)) (hent:Ent vs.heap hh 0 false (.obj (.iter hm qm bs ck sn))) (hent2:Ent vs.heap hm qm ro2 (.obj (.map ka ea n ks vl bs ck))):
  (∃i v w',i<n/\¬i∈sn/\Ran P a o w v w'/\After g vs.heap nx w (.tup [.bool true,f1c ka ks i,b0n ea vl i]) (b0c vs.heap hh 0 (.obj (.iter hm qm bs ck (i::sn)))) 0 g v w')\/
  ((∀i,i<n->i∈sn)/\∃v w',Ran P a o w v w'/\After g vs.heap nx w (.tup [.bool false]) [] 0 g v w'):=by
 have hmv:=a0F hg he hx;obtain ⟨β,hβ,hB⟩:=hH.blk _ _ _ _ hent;obtain ⟨β',hβ',hpv⟩:=rpv hmv;rw [hβ] at hβ';cases hβ';obtain ⟨hcap,hoff,βm,hβm,hit,hsn⟩:=hB.obj;obtain ⟨β2,hβ2,hB2⟩:=hH.blk _ _ _ _ hent2;rw [hβm] at hβ2;cases hβ2;obtain ⟨_,_,es,hes,hM⟩:=hB2.obj;have hp:a.eval x= .pointer (some ⟨β.blk,0,none⟩):=by simp_all [Base.addr]
 have hgi:(getObj β.blk).run P w= .ok (.mapIter (some βm.blk) ck ((sn.reverse.map (fun i=>bs.getD i 0)).toArray) ck) w:=by grind [getObj,Sem.run]
 obtain ⟨seen,hseen⟩:∃seen,seen=(sn.reverse.map (fun i=>bs.getD i 0)).toArray:=⟨_,rfl⟩;rw [<-hseen] at hgi;have hlt:∀e∈es,e.born<ck:=by
  intro e hem;obtain ⟨j,hj,rfl⟩:=Array.getElem_of_mem hem;have hr:=(hM.row j es[j] (f1P hj)).1;rw [hr];have hjb:j<bs.length:=by rw [hM.bl,<-hM.size];omega
  rw [List.getD,m0b hjb];exact hM.lt _ (k1j hjb)
 have hcon:∀j,j<n->(seen.contains (bs.getD j 0)=true↔j∈sn):=by
  intro j hj;rw [hseen];simp only [Array.contains_iff_mem,List.mem_toArray,r1U,List.mem_reverse];constructor
  .rintro ⟨i,hi,e⟩;have h1:i<bs.length:=hsn i hi;have h2:j<bs.length:=by rw [hM.bl];omega
   rw [List.getD,m0b h1,List.getD,m0b h2] at e;have:=(u1I hM.nd).1 e;simp_all
  grind
 obtain ⟨left,hleft⟩:∃left,left=es.filter (fun e=> !seen.contains e.born):=⟨_,rfl⟩;have hmem:∀e∈left,∃i,i<n/\¬i∈sn/\es[i]? =some e:=by
  intro e hem;rw [hleft,u1c] at hem;obtain ⟨hem,hc⟩:=hem;obtain ⟨j,hj,rfl⟩:=Array.getElem_of_mem hem;have hr:=(hM.row j es[j] (f1P hj)).1;have hjn:j<n:=by rw [<-hM.size];omega
  grind
 have hnone:left.isEmpty=true->∀i,i<n->i∈sn:=by
  intro hl i hi;by_cases h:i∈sn
  .omega
  .exfalso;have hj:i<es.size:=by rw [hM.size];omega
   have hr:=(hM.row i es[i] (f1P hj)).1;have:es[i]∈left:=by
    simp_all
   grind
 have hold:left.filter (fun e=>decide (e.born<ck))=left:=by
  rw [Array.filter_eq_self];grind
 have hnew:left.filter (fun e=>decide (e.born>=ck))= #[]:=by
  rw [Array.filter_eq_empty_iff];grind
 have hstop:(!seen.isEmpty&& !es.isEmpty&&es.all (fun e=>decide (e.born>=ck)))=false:=by
  cases hs:seen.isEmpty with
  |true=>rfl
  |false=>
   cases h2:es.isEmpty with
   |true=>rfl
   |false=>
    have hne:0<es.size:=by
     grind
    grind
 have hall:∀w1:World,w1.heap=w.heap->w1.os=w.os->w1.tape=w.tape->w1.output=w.output->After g vs.heap nx w (.tup [.bool false]) [] 0 g (.tuple #[.bool false]) w1:=by
  intro w1 h1 h2 h3 h4;refine ⟨G.le.refl g,fun _ _ h _=>h,by simp only [Rv,Rvs];simp,⟨fun h q ro b hq=> ?_,hH.sep⟩,⟨h2,h3,h4,by grind,fun k _ _=>by grind⟩,fun h q b β he hg hc=> .inl ⟨h,q,b,β,he,hg,hc,rfl⟩⟩;obtain ⟨β,k1,k2⟩:=hH.blk h q ro b hq;exact ⟨β,k1,b0E k2 (G.le.refl g) (by grind) (fun _=>by grind)⟩
 cases hl:left.isEmpty with
 |true=>
  obtain ⟨k,w1,hk,hch,hw1,hw2,hw3,hw4⟩:=l0K (P:=P) (w:=w) (n:=1) (by omega);have hk0:k=0:=by omega
  subst hk0;refine .inr ⟨hnone hl,.tuple #[.bool false],w1,.inl ?_,hall w1 hw1 hw2 hw3 hw4⟩;have hrun:(Instr.next (a.eval x) false o.type).run P w= .ok (.tuple #[.bool false]) w1:=by
   rw [hp];simp only [Instr.next,k1h,hgi,b1g,r1Z hes,hstop,s1X,if_false,<-hleft,hold,hnew,hl,if_true,Array.append_empty];have hl0:left= #[]:=Array.isEmpty_iff.1 hl;rw [hl0];simp only [Array.map_empty,Array.append_empty,t1k,i1y,s1M,i1z];rw [hch];simp
  simp [execOp,ho,hrun]
 |false=>
  have hpos:0<left.size:=by
   grind
  obtain ⟨k,w1,hk,hch,hw1,hw2,hw3,hw4⟩:=l0K (P:=P) (w:=w) (n:=left.size) hpos;obtain ⟨i,hin,hns,hei⟩:=hmem left[k] (Array.getElem_mem hk);obtain ⟨r1,r2,r3⟩:=hM.row i _ hei;have hes1:w1.heap[β.blk]? =some (.mapIter (some βm.blk) ck seen ck):=by grind
  have hblk:β.blk<w.heap.size:=hB.lt hcap;refine .inl ⟨i,.tuple #[.bool true,left[k].key,left[k].val],{ w1 with heap:=w1.heap.setIfInBounds β.blk (.mapIter (some βm.blk) ck (seen.push left[k].born) ck)},hin,hns,.inl ?_,?_⟩
  .have hrun:(Instr.next (a.eval x) false o.type).run P w= .ok (.tuple #[.bool true,left[k].key,left[k].val]) { w1 with heap:=w1.heap.setIfInBounds β.blk (.mapIter (some βm.blk) ck (seen.push left[k].born) ck)}:=by
    rw [hp];simp only [Instr.next,k1h,hgi,b1g,r1Z hes,hstop,s1X,if_false,<-hleft,hold,hnew,hl,Array.append_empty,Array.empty_append,Array.size_map,hch];have hk2:(Array.map some left)[k]? =some (some left[k]):=by simp [hk]
    rw [hk2];have hset:∀ob:Obj,(setObj β.blk ob).run P w1= .ok () { w1 with heap:=w1.heap.setIfInBounds β.blk ob}:=by
     intro ob;simp [setObj,Sem.run,hes1]
    simp [hset,Result.andThen]
   simp [execOp,ho,hrun]
  .obtain ⟨k1,k2⟩:=t1b (o':=Obj.mapIter (some βm.blk) ck (seen.push left[k].born) ck) hes1;refine d0n hH hent hβ hcap (by simp only [Rv,Rvs];exact ⟨_,rfl,_,_,rfl,rfl,_,_,rfl,by rw [r2];exact a1P,_,_,rfl,r3,rfl⟩) (p0K hB.es hcap hoff (by simp [hw1,hblk]) ⟨βm,hβm,?_,?_⟩) hw2 hw3 hw4 (by simp [hw1]) (fun k _ hk=>(k2 k hk).trans (by rw [hw1]))
   .rw [k1,hseen,r1];simp
   .intro j hj;simp only [f1I] at hj;rcases hj with rfl|hj
    .rw [hM.bl];exact hin
    .exact hsn j hj
theorem f1y (hg:g.glob) (he:c0c g vs a) (hH:Holds g vs.heap w) {o:Oper} {x:Operand} {hh p:Nat} {s:ByteArray} (ho:o.op= .next x true) (hx:gv vs x=some (.ptr hh 0 0 0)) (hent:Ent vs.heap hh 0 false (.obj (.siter s p))):
  (p<s.size/\∃v w',Ran P a o w v w'/\After g vs.heap nx w (.tup [.bool true,.int .i64 (p:Int),.int .i32 ((Utf8.decode s p).1:Int)]) (b0c vs.heap hh 0 (.obj (.siter s (p+(Utf8.decode s p).2)))) 0 g v w')\/
  (¬p<s.size/\∃v w',Ran P a o w v w'/\After g vs.heap nx w (.tup [.bool false]) [] 0 g v w'):=by
 have hmv:=a0F hg he hx;obtain ⟨β,hβ,hB⟩:=hH.blk _ _ _ _ hent;obtain ⟨β',hβ',hpv⟩:=rpv hmv;obtain ⟨hcap,hoff,hit⟩:=hB.obj;have hit:w.heap[β.blk]? =some (.stringIter s p):=hit;have hp:a.eval x= .pointer (some ⟨β.blk,0,none⟩):=by simp_all [Base.addr]
 have hgi:(getObj β.blk).run P w= .ok (.stringIter s p) w:=by grind [getObj,Sem.run]
 have hblk:β.blk<w.heap.size:=hB.lt hcap;by_cases hlt:p<s.size
 .refine .inl ⟨hlt,.tuple #[.bool true,goInt (p:Int),.int .i32 ((Utf8.decode s p).1:Int)],{ w with heap:=w.heap.setIfInBounds β.blk (.stringIter s (p+(Utf8.decode s p).2))},.inl ?_,?_⟩
  .have hset:∀ob:Obj,(setObj β.blk ob).run P w= .ok () { w with heap:=w.heap.setIfInBounds β.blk ob}:=by
    simp_all [setObj,Sem.run]
   have hrun:(Instr.next (a.eval x) true o.type).run P w= .ok (.tuple #[.bool true,goInt (p:Int),.int .i32 ((Utf8.decode s p).1:Int)]) { w with heap:=w.heap.setIfInBounds β.blk (.stringIter s (p+(Utf8.decode s p).2))}:=by
    rw [hp];simp [Instr.next,hgi,hlt,hset]
   simp [execOp,ho,hrun]
  .obtain ⟨k1,k2⟩:=t1b (o':=Obj.stringIter s (p+(Utf8.decode s p).2)) hit;exact d0n hH hent hβ hcap (by exact ⟨_,rfl,_,_,rfl,rfl,_,_,rfl,rfl,_,_,rfl,rfl,rfl⟩) (p0K hB.es hcap hoff (by simp_all) k1) rfl rfl rfl (by simp) (fun k _ hk=>k2 k hk)
 .refine .inr ⟨hlt,.tuple #[.bool false],w,.inl ?_,?_⟩
  .have hrun:(Instr.next (a.eval x) true o.type).run P w= .ok (.tuple #[.bool false]) w:=by
    rw [hp];simp [Instr.next,hgi,hlt]
   simp [execOp,ho,hrun]
  .exact ⟨G.le.refl g,fun _ _ h _=>h,by simp only [Rv,Rvs];simp,hH,⟨rfl,rfl,rfl,m0c _,fun k _ _=>rfl⟩,fun h q b β he hg hc=> .inl ⟨h,q,b,β,he,hg,hc,rfl⟩⟩
end ops
structure Ctx where
 g:G
 n0:Nat
 w:World
 W:Nat->Prop
 N:Nat
 ds:List Deferred
structure Rel (C:Ctx) (g:G) (vs:VS) (a:Act) (w:World):Prop where
 env:c0c g vs a
 size:a.tmps.size=C.N
 defers:a.defers=C.ds
 glob:g.glob
 upto:g.upto vs.next
 lo:C.n0<=vs.next
 keep:∀h q,h<C.n0->g h q=C.g h q
 heap:Holds g vs.heap w
 fr:Fr C.W C.w w
 own:a1g g vs.heap C.W C.w
def y0z (d:Option Nat) (r:SV) (e:Env):Env:=match d with|some d=>(d,r)::e|none=>e
theorem i0r:∀(U H:a0k) (K:a0k->Prop),a1r U H K↔K (U++H)
 | [],H,K=>Iff.rfl
 |x::U,H,K=>by exact i0r U H _
theorem c0q {vs:VS} {d:Option Nat} {r:SV} {U:a0k} {b:Nat} {K:VS->Prop}:o0d vs d r U b K↔K ⟨y0z d r vs.env,U++vs.heap,vs.next+b⟩:=by
 simp only [o0d];rw [i0r];cases d<;>cases b<;>rfl
section
variable {P:Program} {T:Tab} {g:G} {C:Ctx} {vs:VS} {a:Act} {w:World}
theorem i0s {t:Array Value} {d:Nat} {v:Value} (h:d<t.size):(t.setIfInBounds d v).getD d undef=v:=by
 simp_all
theorem l0L {t:Array Value} {d x:Nat} {v:Value} (h:d≠x):(t.setIfInBounds d v).getD x undef=t.getD x undef:=by
 simp_all
theorem w0b {g':G} {H:a0k} {nx b:Nat} {r:SV} {U:a0k} {v:Value} {w':World} (A:After g H nx w r U b g' v w') (hfr:Fr C.W C.w w) (hown:a1g g H C.W C.w):Fr C.W C.w w'/\a1g g' (U++H) C.W C.w:=by
 refine ⟨⟨A.fr.os.trans hfr.os,A.fr.tape.trans hfr.tape,A.fr.output.trans hfr.output,n1r hfr.size A.fr.size,?_⟩,?_⟩
 .intro k hk hW;rw [A.fr.block k (s1j hk hfr.size) ?_]
  .exact hfr.block k hk hW
  .rintro ⟨h,q,b,β,he,hg,hc,e⟩;rcases hown h q b β he hg hc with ho|ho
   all_goals grind
 .intro h q b β he hg hc;rcases A.own h q b β he hg hc with ⟨h',q',b',β',he',hg',hc',e⟩|ho
  .rcases hown h' q' b' β' he' hg' hc' with ho|ho
   all_goals simp_all
  .exact .inr (n1r hfr.size ho)
theorem j1X {g':G} {d:Option Nat} {r:SV} {v:Value} {e:Env} {H H':a0k} {n n':Nat} (he:c0c g ⟨e,H,n⟩ a) (hle:G.le g g') (hv:Rv g' r v) (hd:∀x,d=some x->x<a.tmps.size):c0c g' ⟨y0z d r e,H',n'⟩ (a.put d v):=by
 intro t s ht;cases d with
 |none=>exact Rv.mono hle _ _ (he t s ht)
 |some d=>
  simp only [y0z] at ht;rw [c0i] at ht;simp only [Act.put];split at ht
  .simp_all
  .rename_i hne;rw [l0L hne];exact Rv.mono hle _ _ (he t s ht)
theorem k0L {d:Option Nat} {v:Value}:(a.put d v).tmps.size=a.tmps.size/\(a.put d v).defers=a.defers:=by
 cases d<;>simp [Act.put]
theorem b0F {o:Oper} {r:SV} {U:a0k} {b:Nat} {g':G} {v:Value} {w':World} (R:Rel C g vs a w) (A:After g vs.heap vs.next w r U b g' v w') (hd:∀x,o.dst=some x->x<C.N):Rel C g' ⟨y0z o.dst r vs.env,U++vs.heap,vs.next+b⟩ (a.put o.dst v) w':=by
 obtain ⟨f1,f2⟩:=w0b A R.fr R.own;refine ⟨j1X (H:=vs.heap) (n:=vs.next) R.env A.le A.rv (by rw [R.size];omega),k0L.1.trans R.size,k0L.2.trans R.defers,?_,?_,n1r R.lo (Nat.le_add_right _ _),?_,A.heap,f1,f2⟩
 .intro q;obtain ⟨es,cap,e⟩:=R.glob q;exact ⟨es,cap,A.le _ _ _ e⟩
 .intro h q hh;simp only at hh;exact A.born h q (R.upto h q (by omega)) (by omega)
 .intro h q hh;rw [<-R.keep h q hh];cases e:g h q with
  |some β=>exact A.le _ _ _ e
  |none=>exact A.born h q e (by have:=R.lo;omega)
def n1l (P:Program) (C:Ctx) (o:Oper) (a:Act) (w:World) (K:VS->Prop) (Q:Exit->Act->World->Prop):Prop:=
 ∀next:Act->World->Prop,(∀vs' g' a' w',K vs'->Rel C g' vs' a' w'->next a' w')->o.wp P a w next Q
theorem t0Y {R:Res} {K:SV->a0k->Nat->List Nat->Prop} (h:m1O R K):∃r U b t,R.is r U b t/\K r U b t:=by
 cases R with
 |no=>trivial
 |ok r U b t=>exact ⟨r,U,b,t,⟨rfl,rfl,rfl,rfl⟩,h⟩
 |when c r U b t=>exact ⟨r,U,b,t,⟨h.1,rfl,rfl,rfl,rfl⟩,h.2⟩
theorem i0t {o:Oper} {v:Value} {w':World} {next:Act->World->Prop} {Q:Exit->Act->World->Prop} (h:Ran P a o w v w') (hn:next (a.put o.dst v) w'):o.wp P a w next Q:=by
 rcases h with h|⟨h,rfl⟩
 all_goals simp_all [Oper.wp,u1h,Oper.upon_skip]
theorem j1Y (l c:List SV):m1N l c=l++c:=by cases c<;>simp [m1N]
theorem Rvs.append:∀(l m:List SV) (xs ys:List Value),Rvs g l xs->Rvs g m ys->Rvs g (l++m) (xs++ys)
 | [],m,xs,ys,h1,h2=>by simp_all [Rvs]
 |s::l,m,xs,ys,h1,h2=>by
  obtain ⟨v,vs',e,k1,k2⟩:=h1;subst e;exact ⟨v,_,rfl,k1,Rvs.append l m vs' ys k2 h2⟩
theorem w0c (hg:g.glob) (he:c0c g vs a) {o:Oper} {fo:Operand} {args:Array Operand} {ts:Array TypeId} {f:Nat} {cap l:List SV} (hop:o.op= .call ⟨.value fo,args,ts⟩) (hf:gv vs fo=some (.fn f cap)) (hl:gvs vs args.toList=some l):
  ∃vals:List Value,Rvs g (m1N l cap) vals/\(execOp a.eval o).run P w=(callFunc f vals.toArray).run P w:=by
 have hfv:=a0F hg he hf;obtain ⟨cs,hcs,hcr⟩:=hfv;have hvals:=v0R hg he args.toList l hl;refine ⟨args.toList.map a.eval++cs.toList,by simp_all [j1Y,Rvs.append],?_⟩;have ha:(args.toList.map a.eval++cs.toList).toArray=args.map a.eval++cs:=by simp
 grind [execOp,resolve,Deferred.ofValue,invoke]
theorem g0K {f:Nat} {vals:Array Value} (hb:d0C P f):(callFunc f vals).run P w= .ok (.enter f vals) w:=by
 obtain ⟨fn,c,hfn,hbody,hname⟩:=hb;simp_all [callFunc]
theorem o0y (hg:g.glob) (he:c0c g vs a) {o:Oper} {x:Operand} {name:String} {args:Array Operand} {ts:Array TypeId} {t:TypeId} {v:SV} {f:FuncId} {l:List SV} (hop:o.op= .call ⟨.invoke x name,args,ts⟩) (hx:gv vs x=some (.iface t v)) (hl:gvs vs args.toList=some l) (hm:r0k P t name f):
  ∃vals:List Value,Rvs g (v::l) vals/\(execOp a.eval o).run P w=(callFunc f vals.toArray).run P w:=by
 have hxv:=a0F hg he hx;obtain ⟨u,hu,hur⟩:=hxv;have hvals:=v0R hg he args.toList l hl;refine ⟨u::args.toList.map a.eval,by simp only [Rvs];grind,?_⟩;have ha:(u::args.toList.map a.eval).toArray= #[u]++args.map a.eval:=by simp
 have hz:(#[Value.iface t u]++args.map a.eval)[0]? =some (.iface t u):=by
  grind
 have he2:(#[Value.iface t u]++args.map a.eval).extract 1 (#[Value.iface t u]++args.map a.eval).size=args.map a.eval:=by
  simp
 rw [ha];simp only [execOp,hop,resolve,hu,k1h,n1x,invoke];simp only [hz,he2,callMethod,k1h,run_program,b1g,hm u w]
def CallOf (P:Program) (o:Oper) (s:VS) (f:FuncId) (al:List SV):Prop:=
 (∃fo args ts cap l,o.op= .call ⟨.value fo,args,ts⟩/\gv s fo=some (.fn f cap)/\gvs s args.toList=some l/\al=m1N l cap)\/
 (∃x name args ts t v l,o.op= .call ⟨.invoke x name,args,ts⟩/\gv s x=some (.iface t v)/\gvs s args.toList=some l/\r0k P t name f/\al=v::l)
theorem CallOf.run {o:Oper} {f:FuncId} {al:List SV} (h:CallOf P o vs f al) (hg:g.glob) (he:c0c g vs a):∃vals:List Value,Rvs g al vals/\(execOp a.eval o).run P w=(callFunc f vals.toArray).run P w:=by
 rcases h with ⟨fo,args,ts,cap,l,hop,hf,hl,rfl⟩|⟨x,name,args,ts,t,v,l,hop,hx,hl,hm,rfl⟩
 .exact w0c hg he hop hf hl
 .exact o0y hg he hop hx hl hm
theorem CallOf.op {o:Oper} {s:VS} {f:FuncId} {al:List SV} (h:CallOf P o s f al):∃c,o.op= .call c:=by
 rcases h with ⟨fo,args,ts,cap,l,hop,_⟩|⟨x,name,args,ts,t,v,l,hop,_⟩
 all_goals simp_all
theorem t0Z (hg:g.glob) {Hc:a0k} {nx:Nat} (hH:Holds g Hc w) {o:Oper} {f:Nat} {al:List SV} (hr:∃vals:List Value,Rvs g al vals/\(execOp a.eval o).run P w=(callFunc f vals.toArray).run P w)
  {l0:List Nat} {args0:List SV} {H:a0k} {post:SV->a0k->Nat->Prop} (hfc:FC P l0.length f args0 H post) (hfit:Fits l0 nx al args0 H Hc) (hun:∀sv H' n',post sv H' n'->∀h q,nx<=h->h<nx+(n'-l0.length)->g h q=none)
  {next:Act->World->Prop} {Q:Exit->Act->World->Prop} (hn:∀v w' sv H' n' g',post sv H' n'->After g Hc nx w (SV.ren (rho l0 nx) sv) (n0E (rho l0 nx) H'++n0F (rho l0 nx) H) (n'-l0.length) g' v w'->next (a.put o.dst v) w'):o.wp P a w next Q:=by
 obtain ⟨vals,hv,hrun⟩:=hr;obtain ⟨g0,k1,k2,k3,k4,k5⟩:=r0M hfit hg hH hv hun;rcases hfc with ⟨hb,hc⟩|hx
 .rw [g0K hb] at hrun;simp only [Oper.wp,hrun];refine (hc g0 w vals k1 k2 k3 k4).mono ?_;grind
 .obtain ⟨v,w',hr,ho⟩:=hx g0 w vals k1 k2 k3 k4;rw [hr] at hrun;obtain ⟨sv,H',n',g',hp,A⟩:=k5 v w' ho;exact i0t (.inl hrun) (hn v w' sv H' n' g' hp A)
theorem f1z (hT:b0t P T) {o:Oper} {K:VS->Prop} {Q:Exit->Act->World->Prop} (R:Rel C g vs a w) (hd:∀d,o.dst=some d->d<C.N) (h:vex P T o vs K):n1l P C o a w K Q:=by
 intro next hn
 have look:m1O (eff T vs vs.next o.op) (fun r U b _=>o0d vs o.dst r U b K)->o.wp P a w next Q:=by
  intro h;obtain ⟨r,U,b,t,h1,h2⟩:=t0Y h;obtain ⟨v,w',g',h3,A⟩:=i1s hT R.glob R.env R.heap (fun h q hh _=>R.upto h q hh) h1;exact i0t h3 (hn _ g' _ _ (c0q.1 h2) (b0F R A hd))
 obtain ⟨e0,H0,n0⟩:=vs;unfold vex at h;dsimp only at h;split at h
 .rename_i fo args ts hop;split at h
  .rename_i f cap l hf hl;obtain ⟨l0,args0,H,post,hfc,hfit,hk⟩:=h;exact t0Z R.glob R.heap (w0c R.glob R.env hop hf hl) hfc hfit (fun _ _ _ _ h q hh _=>R.upto h q hh) (fun v w' sv H' n' g' hp A=>hn _ g' _ _ (c0q.1 (hk sv H' n' hp)) (b0F R A hd))
  trivial
 .rename_i x name args ts hop;split at h
  .rename_i t v l hx hl;obtain ⟨f,hm,l0,args0,H,post,hfc,hfit,hk⟩:=h;exact t0Z R.glob R.heap (o0y R.glob R.env hop hx hl hm) hfc hfit (fun _ _ _ _ h q hh _=>R.upto h q hh) (fun v w' sv H' n' g' hp A=>hn _ g' _ _ (c0q.1 (hk sv H' n' hp)) (b0F R A hd))
  trivial
 .rename_i x hop;split at h
  .rename_i it hit;unfold n1a at h;split at h
   .rename_i hh;split at h
    .rename_i hm bs ck sn hg1;split at h
     .rename_i ro2 ka ea n ks vl bs2 ck2 hg2;obtain ⟨⟨rfl,rfl⟩,h1,h2⟩:=h;have en1:Ent H0 hh 0 false (.obj (.iter hm 0 bs2 ck2 sn)):=⟨_,hg1,⟨rfl,rfl⟩,rfl⟩;have en2:Ent H0 hm 0 ro2 (.obj (.map ka ea n ks vl bs2 ck2)):=⟨_,hg2,⟨rfl,rfl⟩,rfl⟩;rcases j1W (P:=P) (nx:=n0) R.glob R.env R.heap hop hit en1 en2 with ⟨i,v,w',hi,hns,hran,A⟩|⟨hall,v,w',hran,A⟩
      .have hset:b0c H0 hh 0 (.obj (.iter hm 0 bs2 ck2 (i::sn)))= [(hh,some (.one false (.obj (.iter hm 0 bs2 ck2 (i::sn)))))]:=by
        unfold b0c;grind
       have A':=A;rw [hset] at A';exact i0t hran (hn _ g _ _ (c0q.1 (h1 i hi hns)) (b0F R A' hd))
      .exact i0t hran (hn _ g _ _ (c0q.1 (h2 hall)) (b0F R A hd))
     trivial
    trivial
   trivial
  trivial
 .rename_i x hop;split at h
  .rename_i it hit;unfold i1o at h;split at h
   .rename_i hh;split at h
    .rename_i s p hg1;obtain ⟨h1,h2⟩:=h;have en1:Ent H0 hh 0 false (.obj (.siter s p)):=⟨_,hg1,⟨rfl,rfl⟩,rfl⟩;rcases f1y (P:=P) (nx:=n0) R.glob R.env R.heap hop hit en1 with ⟨hi,v,w',hran,A⟩|⟨hi,v,w',hran,A⟩
     .have hset:b0c H0 hh 0 (.obj (.siter s (p+(Utf8.decode s p).2)))= [(hh,some (.one false (.obj (.siter s (p+(Utf8.decode s p).2)))))]:=by
       unfold b0c;grind
      have A':=A;rw [hset] at A';exact i0t hran (hn _ g _ _ (c0q.1 (h1 hi)) (b0F R A' hd))
     .exact i0t hran (hn _ g _ _ (c0q.1 (h2 hi)) (b0F R A hd))
    trivial
   trivial
  trivial
 .rename_i t x y ty hop;split at h
  .rename_i h1 q1 i1 hx hy;split at h
   .rename_i ti hti;cases hk:Nat.beq ti.kind 6 with
    |false=>simp_all
    |true=>
     rw [hk] at h;obtain ⟨ht,hf⟩:=h;have hxv:=a0F R.glob R.env hx;have hyv:=a1z (a0F R.glob R.env hy);obtain ⟨c1,cc,ex,_⟩:=hxv;obtain ⟨_,_,v,hv,hy1⟩:=t0M (P:=P) (T:=T) (g:=g) (w:=w) (a:=a) (t':=ty) (op:= .eql) (ty:=t) (r:= .bool c1.isNone) (U:= []) (b:=0) (t:= []) hT ex hyv (by rw [hti];simp only [hk];trivial);obtain ⟨v',w',g',hran,A⟩:=b0Q (nx:=n0) (o:=o) R.heap hv (by rw [hop];omega);cases hb:c1.isNone with
     |true=>rw [hb] at A;exact i0t hran (hn _ g' _ _ (c0q.1 ht) (b0F R A hd))
     |false=>rw [hb] at A;exact i0t hran (hn _ g' _ _ (c0q.1 hf) (b0F R A hd))
   trivial
  simp_all
 simp_all
theorem e0i {ops:Array Oper} {j d:Nat} {oj:Oper} {b:Bool} (hj:nth ops.toList j=some oj) (hd:oj.dst=some d) (hv:a.tmps.getD d undef= .bool b):yielded ops a.tmps j=some b:=by
 rw [b0l] at hj;have hj':ops[j]? =some oj:=by simp_all
 unfold yielded;rw [s1t] at hv;grind [undef]
theorem k0r {ops:Array Oper} {j d:Nat} {oj:Oper} {x:Array Value} (hj:nth ops.toList j=some oj) (hd:oj.dst=some d) (hv:a.tmps.getD d undef= .tuple x):yielded ops a.tmps j=none:=by
 rw [b0l] at hj;have hj':ops[j]? =some oj:=by simp_all
 unfold yielded;rw [s1t] at hv;grind
theorem a1R (hT:b0t P T) {ops:Array Oper} {o:Oper} {rest:List Oper} {K:VS->Prop} {Q:Exit->Act->World->Prop} (R:Rel C g vs a w) (hd:∀d,o.dst=some d->d<C.N) (h:vop P T ops.toList o vs K)
  (hn:∀vs' g' a' w',K vs'->Rel C g' vs' a' w'->wpList P ops Q rest a' w'):wpList P ops Q (o::rest) a w:=by
 have exec:vex P T o vs K->Region.wanted o (yielded ops a.tmps)=true->wpList P ops Q (o::rest) a w:=by
  intro h hw;unfold wpList;rw [if_pos hw];exact .inl (f1z hT R hd h _ hn)
 have skip:o0d vs o.dst (.raw undef) [] 0 K->Region.wanted o (yielded ops a.tmps)=false->wpList P ops Q (o::rest) a w:=by
  intro h hw;unfold wpList;rw [if_neg (by grind)];exact hn _ g _ _ (c0q.1 h) (b0F (r:= .raw undef) (v:=undef) R (e0E R.heap (by rfl)) hd)
 unfold vop at h;split at h
 .simp_all [Region.wanted]
 .split at h
  .rename_i oj hj;split at h
   .rename_i d hdst;split at h
    .rename_i hv;have hy:=e0i hj hdst (rbv (R.env d _ hv));grind [Region.wanted]
    .rename_i hv;have hy:=e0i hj hdst (rbv (R.env d _ hv));grind [Region.wanted]
    .rename_i x hv;have hy:=k0r hj hdst (by have:=R.env d _ hv;trivial);simp_all [Region.wanted]
    trivial
   trivial
  trivial
theorem i0u {e:Env} {H:a0k} {n d:Nat} {b:Bool} (h:Rel C g ⟨e,H,n⟩ a w) (hb:a0M e d=some (.bool b)):Rel C g ⟨(d,.bool b)::e,H,n⟩ a w:=by
 refine ⟨?_,h.size,h.defers,h.glob,h.upto,h.lo,h.keep,h.heap,h.fr,h.own⟩;intro t s ht;rw [c0i] at ht;split at ht
 .rename_i e';subst e';simp only [injEq] at ht;subst ht;exact h.env d _ hb
 .exact h.env t s ht
theorem f1A {d:Nat} {K:VS->Prop} (R:Rel C g vs a w) (h:known vs d K):∃vs',K vs'/\Rel C g vs' a w:=by
 obtain ⟨e,H,n⟩:=vs;unfold known at h;simp only at h;split at h
 .rename_i b hb;cases b with
  |true=>exact ⟨_,(j0q h).1 rfl,i0u R hb⟩
  |false=>exact ⟨_,(j0q h).2 rfl,i0u R hb⟩
 all_goals grind
theorem u0a (hT:b0t P T) {ops:Array Oper} {Q:Exit->Act->World->Prop}:∀(l:List Oper) (vs:VS) (g:G) (a:Act) (w:World) (K:VS->Prop),f0P C.N l=true->Rel C g vs a w->m1P P T ops.toList l vs K->
  (∀vs' g' a' w',K vs'->Rel C g' vs' a' w'->Q .normal a' w')->wpList P ops Q l a w
 | [],vs,g,a,w,K,_,R,h,hq=>by exact hq _ _ _ _ h R
 |o::l,vs,g,a,w,K,hds,R,h,hq=>by
  simp only [f0P,n0M] at hds;have hd:∀d,o.dst=some d->d<C.N:=by
   intro d e;have:=hds.1;rw [e] at this;exact s1C this
  simp only [m1P] at h;split at h
  .exact a1R hT R hd h (fun vs' g' a' w' k1 k2=>u0a hT l vs' g' a' w' K hds.2 k2 k1 hq)
  .obtain ⟨v1,h1,R1⟩:=f1A R h;exact a1R hT R1 hd h1 (fun vs' g' a' w' k1 k2=>u0a hT l vs' g' a' w' K hds.2 k2 k1 hq)
end
theorem i0v {vs vs':VS}:∀(xs:List Operand),(∀x∈xs,gv vs' x=gv vs x)->gvs vs' xs=gvs vs xs
 | [],_=>rfl
 |x::xs,h=>by
  simp only [gvs];rw [h x (by simp),i0v xs (fun y hy=>h y (by grind))]
theorem f0T {vs vs':VS} (pl:Nat->Option (Nat×Nat)):∀(ps:List (Nat×Operand)) (l:List SV),(∀p∈ps,gv vs' p.2=gv vs p.2)->i0d vs' pl ps l=i0d vs pl ps l
 | [],_,_=>rfl
 |(i,x)::ps,l,h=>by
  simp only [i0d];have e:gv vs' x=gv vs x:=h (i,x) (by simp);rw [e];split
  .split
   .rw [f0T pl ps _ (fun p hp=>h p (by grind))]
   .rfl
  .rfl
section
variable {s S:VS} {T:Tab} {nx:Nat} {r:SV} {U:a0k} {b:Nat} {t:List Nat}
theorem a0D {H H':a0k} {h q:Nat} {F F':Bool->Blk->Res} (hh:a0w H' h=a0w H h) (hF:∀ro bl,(F ro bl).is r U b t->(F' ro bl).is r U b t) (hr:(c0h H h q F).is r U b t):(c0h H' h q F').is r U b t:=by
 grind [c0h,Res.is_guard]
def j0B (h:Nat) (R:Res):Prop:=∀r U b t,R.is r U b t->h∈t
theorem j1Z {bl:Blk} {i j:Nat} {ti:TI} {h:Nat}:j0B h (a1m bl i j ti h):=by
 intro r U b t hr;unfold a1m at hr;split at hr
 .replace hr:=(a0p hr).2;split at hr
  .obtain ⟨_,_,_,rfl⟩:=hr;simp
  trivial
 .cases hag:ti.agg with
  |true=>
   rw [hag] at hr;replace hr:=(r0n hr).2;split at hr
   .obtain ⟨_,_,_,rfl⟩:=hr;simp
   trivial
  |false=>
   rw [hag] at hr;replace hr:=(r0n hr).2;split at hr
   .obtain ⟨_,_,_,rfl⟩:=hr;simp
   trivial
theorem f1B {H:a0k} {bl:Blk} {h q i j:Nat} {v:SV} {ti:TI}:j0B h (l0l H h q i j v ti bl):=by
 intro r U b t hr;unfold l0l at hr;split at hr
 .obtain ⟨_,_,_,rfl⟩:=(a0p hr).2;simp
 .split at hr
  .replace hr:=(a0p hr).2;split at hr
   .obtain ⟨_,_,_,_,rfl⟩:=hr;simp
   trivial
  trivial
 .split at hr
  .replace hr:=(a0p hr).2;rw [l0h] at hr;obtain ⟨_,_,_,rfl⟩:=hr;simp
  trivial
 trivial
theorem c0l {H:a0k} {h q:Nat} {F:Bool->Blk->Res} (hF:∀ro bl,j0B h (F ro bl)):j0B h (c0h H h q F):=by
 intro r U b t hr;obtain ⟨ro,bl,_,hr⟩:=a0J hr;exact hF ro bl r U b t hr
theorem b0J {H H':a0k} {h q:Nat} {bl:Blk} (hh:a0w H' h=a0w H h):b0c H' h q bl=b0c H h q bl:=by unfold b0c;grind
theorem p0O {H H':a0k} {h q:Nat} (hh:a0w H' h=a0w H h):f0K H' h q=f0K H h q:=by unfold f0K;grind
theorem w0d {ti:TI} {x:SV} {F:Nat->List BCol->List Nat->Res} (hr:(k0A s ti x F).is r U b t):∃n l tt,(F n l tt).is r U b t:=by
 unfold k0A at hr;split at hr
 .obtain ⟨ro,bl,_,hr'⟩:=a0J hr;split at hr'
  .replace hr':=(a0p hr').2;grind [Res.is_guard]
  trivial
 .grind
 .grind
 .exact ⟨_,_,_,(a0p hr).2⟩
 trivial
theorem f0c {ti:TI} {x:SV} {F F':Nat->List BCol->List Nat->Res} (hh:∀h∈t,a0w S.heap h=a0w s.heap h) (hsub:∀n l tt,(F n l tt).is r U b t->∀h∈tt,h∈t) (hF:∀n l tt,(F n l tt).is r U b t->(F' n l tt).is r U b t) (hr:(k0A s ti x F).is r U b t):(k0A S ti x F').is r U b t:=by
 unfold k0A at hr⊢;split at hr
 .rename_i h q i n;have ht:h∈t:=by
   obtain ⟨ro,bl,_,hr'⟩:=a0J hr;split at hr'
   .replace hr':=(a0p hr').2;rw [Res.is_guard] at hr';exact hsub _ _ _ hr'.2 h (by simp)
   trivial
  refine a0D (hh h ht) (fun ro bl hr'=> ?_) hr;split at hr'
  .obtain ⟨h1,h2⟩:=a0p hr';simp_all [Res.is_guard]
  omega
 all_goals grind
theorem f0U {d:Int} {x:Option Operand} (h:∀y,x=some y->gv S y=gv s y):b0W S d x=b0W s d x:=by
 cases x with
 |none=>rfl
 |some y=>simp only [b0W];simp_all
theorem p0P {ti:TI} {m k:SV} {co:Bool} (hh:∀h∈t,a0w S.heap h=a0w s.heap h) (hr:(d0u s ti m k co).is r U b t):(d0u S ti m k co).is r U b t:=by
 unfold d0u at hr⊢;split at hr
 .omega
 .rename_i h q;have ht:h∈t:=by
   refine c0l ?_ _ _ _ _ hr;intro ro bl r U b t hr;split at hr
   .split at hr
    .obtain ⟨_,_,_,rfl⟩:=(a0p hr).2;simp
    trivial
   trivial
  grind [a0D]
 omega
theorem p0Q {ti:TI} {m k v:SV} (hh:∀h∈t,a0w S.heap h=a0w s.heap h) (hr:(j0s s ti m k v).is r U b t):(j0s S ti m k v).is r U b t:=by
 unfold j0s at hr⊢;split at hr
 .rename_i h q;have ht:h∈t:=by
   refine c0l ?_ _ _ _ _ hr;intro ro bl r U b t hr;split at hr
   .split at hr
    .split at hr
     .obtain ⟨_,_,_,rfl⟩:=hr;simp
     trivial
    trivial
   trivial
  refine a0D (hh h ht) (fun _ _ h=> ?_) hr;simp only [b0J (hh _ ht)];omega
 omega
theorem l0M {ti:TI} {m k:SV} (hh:∀h∈t,a0w S.heap h=a0w s.heap h) (hr:(c0w s ti m k).is r U b t):(c0w S ti m k).is r U b t:=by
 unfold c0w at hr⊢;split at hr
 .rename_i h q;have ht:h∈t:=by
   refine c0l ?_ _ _ _ _ hr;intro ro bl r U b t hr;split at hr
   .split at hr
    .split at hr
     .split at hr
      .obtain ⟨_,_,_,rfl⟩:=(a0p hr).2;simp
      .exact hr.elim
     .exact hr.elim
    .exact hr.elim
   .exact hr.elim
  refine a0D (hh h ht) (fun _ _ h=> ?_) hr;simp only [b0J (hh _ ht)];omega
 omega
theorem j0C {m k v:SV} (hh:∀h∈t,a0w S.heap h=a0w s.heap h) (hr:(c0U s m k v).is r U b t):(c0U S m k v).is r U b t:=by
 unfold c0U at hr⊢;split at hr
 .rename_i h q st;have ht:h∈t:=by
   refine c0l ?_ _ _ _ _ hr;intro ro bl r U b t hr;split at hr
   .split at hr
    .split at hr
     .obtain ⟨_,_,_,_,rfl⟩:=hr;simp
     trivial
    trivial
   trivial
  grind [a0D,b0J]
 omega
theorem p0R {ti:TI} {m k:SV} (hh:∀h∈t,a0w S.heap h=a0w s.heap h) (hr:(j0t s ti m k).is r U b t):(j0t S ti m k).is r U b t:=by
 unfold j0t at hr⊢;split at hr
 .rename_i h q;have ht:h∈t:=by
   refine c0l ?_ _ _ _ _ hr;intro ro bl r U b t hr;split at hr
   .split at hr
    .obtain ⟨_,_,_,rfl⟩:=hr;simp
    trivial
   trivial
  grind [a0D,b0J]
 omega
theorem r0N {ti:TI} {m:SV} (hh:∀h∈t,a0w S.heap h=a0w s.heap h) (hr:(n0Z s ti m).is r U b t):(n0Z S ti m).is r U b t:=by
 unfold n0Z at hr⊢;split at hr
 .rename_i h q i n;have ht:h∈t:=by
   refine c0l ?_ _ _ _ _ hr;intro ro bl r U b t hr;split at hr
   .obtain ⟨_,hr⟩:=a0p hr;obtain ⟨_,_,_,_,rfl⟩:=hr;simp
   trivial
  grind [a0D,b0J]
 omega
theorem r0O {ti:TI} {m:SV} (hh:∀h∈t,a0w S.heap h=a0w s.heap h) (hr:(o0a s nx ti m).is r U b t):(o0a S nx ti m).is r U b t:=by
 unfold o0a at hr⊢;split at hr
 .omega
 .omega
 .rename_i h q;obtain ⟨h1,hr⟩:=a0p hr;have ht:h∈t:=by
   refine c0l ?_ _ _ _ _ hr;intro ro bl r U b t hr;split at hr
   .obtain ⟨_,_,_,rfl⟩:=hr;simp
   trivial
  grind [a0D]
 omega
theorem r0P {m:SV} (hh:∀h∈t,a0w S.heap h=a0w s.heap h) (hr:(o0b s m).is r U b t):(o0b S m).is r U b t:=by
 unfold o0b at hr⊢;split at hr
 .rename_i h;have hin:∀hm qm bs ck i,j0B h (c0h s.heap hm qm (fun _ b2=>match b2 with
   | .obj (.map ka ea n ks vl bs2 ck2)=> .when (bs2=bs/\ck2=ck/\i<n) (.tup [f1c ka ks i,b0n ea vl i]) [] 0 [h,hm]
   |_=> .no))/\j0B hm (c0h s.heap hm qm (fun _ b2=>match b2 with
   | .obj (.map ka ea n ks vl bs2 ck2)=> .when (bs2=bs/\ck2=ck/\i<n) (.tup [f1c ka ks i,b0n ea vl i]) [] 0 [h,hm]
   |_=> .no)):=by
   intro hm qm bs ck i;constructor
   .intro r U b t hr;obtain ⟨_,_,_,hr⟩:=a0J hr;split at hr
    .obtain ⟨_,_,_,_,rfl⟩:=hr;simp
    trivial
   .intro r U b t hr;obtain ⟨_,_,_,hr⟩:=a0J hr;split at hr
    .obtain ⟨_,_,_,_,rfl⟩:=hr;simp
    trivial
  have ht:h∈t:=by
   refine c0l ?_ _ _ _ _ hr;intro ro bl r U b t hr;split at hr
   .exact (hin _ _ _ _ _).1 _ _ _ _ hr
   trivial
  refine a0D (hh h ht) (fun _ _ hr=> ?_) hr;split at hr
  .exact a0D (hh _ ((hin _ _ _ _ _).2 _ _ _ _ hr)) (fun _ _ h=>h) hr
  omega
 omega
theorem a1S {op:Op} (hs:∀x∈op.operands.toList,gv S x=gv s x) (hh:∀h∈t,a0w S.heap h=a0w s.heap h) (hr:(eff T s nx op).is r U b t):(eff T S nx op).is r U b t:=by
 cases op with
 |move x=>simp only [eff] at hr⊢;rw [hs x (by simp [Op.operands])];exact hr
 |assign x=>simp only [eff] at hr⊢;rw [hs x (by simp [Op.operands])];exact hr
 |nilCheck x=>simp only [eff] at hr⊢;rw [hs x (by simp [Op.operands])];exact hr
 |pick c x y=>simp only [eff] at hr⊢;rw [hs c (by simp [Op.operands]),hs x (by simp [Op.operands]),hs y (by simp [Op.operands])];exact hr
 |binOp op ty x y t'=>simp only [eff] at hr⊢;rw [hs x (by simp [Op.operands]),hs y (by simp [Op.operands])];exact hr
 |unOp op ty x=>simp only [eff] at hr⊢;rw [hs x (by simp [Op.operands])];exact hr
 |fieldAddr ty x f=>simp only [eff] at hr⊢;rw [hs x (by simp [Op.operands])];exact hr
 |field ty x f=>simp only [eff] at hr⊢;rw [hs x (by simp [Op.operands])];exact hr
 |load ty x=>
  simp only [eff] at hr⊢;rw [hs x (by simp [Op.operands])];split at hr
  .rename_i h q i j ti _ _;exact a0D (hh h (c0l (fun _ _=>j1Z) _ _ _ _ hr)) (fun _ _ h=>h) hr
  .exact hr.elim
 |store ty x y=>
  simp only [eff] at hr⊢;rw [hs x (by simp [Op.operands]),hs y (by simp [Op.operands])];split at hr
  .rename_i h q i j v ti _ _ _;have ht:h∈t:=c0l (fun ro bl r U b t hr=>f1B r U b t (c0X hr).2) _ _ _ _ hr;refine a0D (hh h ht) (fun ro bl hr'=> ?_) hr;have:l0l S.heap h q i j v ti bl=l0l s.heap h q i j v ti bl:=by
    unfold l0l;simp only [b0J (hh h ht)]
   rw [this];exact hr'
  .exact hr.elim
 |extract x ix=>simp only [eff] at hr⊢;rw [hs x (by simp [Op.operands])];exact hr
 |index ty x ix=>simp only [eff] at hr⊢;rw [hs x (by simp [Op.operands]),hs ix (by simp [Op.operands])];exact hr
 |indexAddr ty x ix=>
  simp only [eff] at hr⊢;rw [hs x (by simp [Op.operands]),hs ix (by simp [Op.operands])];split at hr
  .rename_i h q i n k m ti _ _ _;obtain ⟨h1,h2⟩:=c0X hr;simp only [h1,cond_false];have ht:h∈t:=by
    refine c0l ?_ _ _ _ _ h2;intro ro bl r U b t hr;obtain ⟨_,_,_,_,rfl⟩:=(a0p hr).2;simp
   exact a0D (hh h ht) (fun _ _ h=>h) h2
  .rename_i h q k m ti _ _ _;obtain ⟨h1,h2⟩:=c0X hr;simp only [h1,cond_false];have ht:h∈t:=by
    refine c0l ?_ _ _ _ _ h2;intro ro bl r U b t hr;split at hr
    .obtain ⟨_,_,_,_,rfl⟩:=(a0p hr).2;simp
    .exact hr.elim
   exact a0D (hh h ht) (fun _ _ h=>h) h2
  .exact hr.elim
 |build ty parts=>
  simp only [eff] at hr⊢;split at hr
  .rw [f0T _ parts.toList _ (fun p hp=>hs p.2 (by simp only [Op.operands,r1U];exact ⟨p,hp,rfl⟩))];exact hr
  .exact hr.elim
 |buildSlice ty len parts=>
  simp only [eff] at hr⊢;split at hr
  .rw [f0T _ parts.toList _ (fun p hp=>hs p.2 (by simp only [Op.operands,r1U];exact ⟨p,hp,rfl⟩))];exact hr
  .exact hr.elim
 |makeSlice ty x y=>simp only [eff] at hr⊢;rw [hs x (by simp [Op.operands]),hs y (by simp [Op.operands])];exact hr
 |slice ty x lo hi mx=>
  simp only [eff] at hr⊢;rw [hs x (by simp [Op.operands])];split at hr
  .rename_i v ti _ _;have h1:∀d,b0W S d lo=b0W s d lo:=fun d=>f0U (fun y e=>hs y (by simp [Op.operands,e]))
   have h2:∀d,b0W S d hi=b0W s d hi:=fun d=>f0U (fun y e=>hs y (by simp [Op.operands,e]))
   have h3:∀d,b0W S d mx=b0W s d mx:=fun d=>f0U (fun y e=>hs y (by simp [Op.operands,e]))
   unfold v0M at hr⊢;simp only [h1,h2,h3];split at hr
   .exact hr
   .rename_i hd q i n _;split at hr
    .rename_i l h m _ _ _ _ _ _;cases hz:(f0L (some h)&&f0L (some m)) with
     |true=>rw [hz] at hr;simp only [cond_true] at hr⊢;exact hr
     |false=>
      rw [hz] at hr;simp only [cond_false] at hr⊢;have ht:hd∈t:=by
       refine c0l ?_ _ _ _ _ hr;intro ro bl r U b t hr;obtain ⟨_,_,_,_,rfl⟩:=(a0p hr).2;simp
      exact a0D (hh hd ht) (fun _ _ h=>h) hr
    .have ht:hd∈t:=by
      refine c0l ?_ _ _ _ _ hr;intro ro bl r U b t hr;obtain ⟨_,_,_,_,rfl⟩:=(a0p hr).2;simp
     exact a0D (hh hd ht) (fun _ _ h=>h) hr
    .exact hr.elim
   .exact hr
   .rename_i hd q _;split at hr
    .have ht:hd∈t:=by
      refine c0l ?_ _ _ _ _ hr;intro ro bl r U b t hr;split at hr
      .obtain ⟨_,_,_,_,rfl⟩:=(a0p hr).2;simp
      .exact hr.elim
     exact a0D (hh hd ht) (fun _ _ h=>h) hr
    .exact hr.elim
   .exact hr.elim
  .exact hr.elim
 |alloc ty=>simp only [eff] at hr⊢;exact hr
 |box ty x=>simp only [eff] at hr⊢;rw [hs x (by simp [Op.operands])];exact hr
 |makeFunc fn first captured=>
  cases fn with
  |func f=>
   simp only [eff] at hr⊢;rw [i0v captured.toList (fun x hx=>hs x (by simp only [Op.operands,s1R,k1q];exact .inr hx))];exact hr
  |_=>simp only [eff] at hr;exact hr.elim
 |makeInterface ty x=>simp only [eff] at hr⊢;rw [hs x (by simp [Op.operands])];exact hr
 |makeMap ty c=>
  cases c with
  |none=>simp only [eff] at hr⊢;exact hr
  |some c=>simp only [eff] at hr;exact hr.elim
 |lookup ty x y co=>
  simp only [eff] at hr⊢;rw [hs x (by simp [Op.operands]),hs y (by simp [Op.operands])];split at hr
  .obtain ⟨h1,h2⟩:=a0p hr;simp only [h1,cond_true];exact p0P hh h2
  .exact hr.elim
 |mapUpdate ty x y z=>
  simp only [eff] at hr⊢;rw [hs x (by simp [Op.operands]),hs y (by simp [Op.operands]),hs z (by simp [Op.operands])];split at hr
  .obtain ⟨h1,h2⟩:=a0p hr;simp only [h1,cond_true];exact p0Q hh h2
  .exact hr.elim
 |mapEntry ty x y=>
  simp only [eff] at hr⊢;rw [hs x (by simp [Op.operands]),hs y (by simp [Op.operands])];split at hr
  .obtain ⟨h1,h2⟩:=a0p hr;simp only [h1,cond_true];exact l0M hh h2
  .exact hr.elim
 |entryStore ty x y z=>
  simp only [eff] at hr⊢;rw [hs x (by simp [Op.operands]),hs y (by simp [Op.operands]),hs z (by simp [Op.operands])];split at hr
  .exact j0C hh hr
  .exact hr.elim
 |range ty x=>
  simp only [eff] at hr⊢;rw [hs x (by simp [Op.operands])];split at hr
  .exact r0O hh hr
  .exact hr.elim
 |entry x=>
  simp only [eff] at hr⊢;rw [hs x (by simp [Op.operands])];split at hr
  .exact r0P hh hr
  .exact hr.elim
 |convert src dst x=>
  simp only [eff] at hr⊢;rw [hs x (by simp [Op.operands])];split at hr
  .unfold f1b at hr⊢;split at hr
   .exact hr
   .exact hr
   .rename_i h q i n _;obtain ⟨h1,h2⟩:=a0p hr;simp only [h1,cond_true];have ht:h∈t:=by
     refine c0l ?_ _ _ _ _ h2;intro ro bl r U b t hr;split at hr
     .obtain ⟨_,_,_,_,rfl⟩:=hr;simp
     .exact hr.elim
    exact a0D (hh h ht) (fun _ _ h=>h) h2
   .exact hr.elim
  .exact hr.elim
 |call c=>
  obtain ⟨callee,args,ts⟩:=c;cases callee with
  |value f=>simp only [eff] at hr;exact hr.elim
  |invoke r m=>simp only [eff] at hr;exact hr.elim
  |builtin bi=>
   have ha:∀x∈args.toList,gv S x=gv s x:=fun x hx=>hs x (by simp only [Op.operands,Call.operands];simpa using hx)
   simp only [eff] at hr⊢;split at hr
   .rename_i x hargs;have:=ha x (by rw [hargs];simp);simp only [this];split at hr
    .split at hr
     .exact hr
     .exact hr
     .exact hr
     .exact hr
     .exact hr
     .rename_i h q ti _ _;obtain ⟨h1,h2⟩:=a0p hr;simp only [h1,cond_true];have ht:h∈t:=by
       refine c0l ?_ _ _ _ _ h2;intro ro bl r U b t hr;split at hr
       .obtain ⟨_,_,_,rfl⟩:=hr;simp
       .exact hr.elim
      exact a0D (hh h ht) (fun _ _ h=>h) h2
     .exact hr.elim
    .exact hr.elim
   .rename_i x y hargs;have e1:=ha x (by rw [hargs];simp);have e2:=ha y (by rw [hargs];simp);simp only [e1,e2];split at hr
    .split at hr
     .obtain ⟨h1,h2⟩:=a0p hr;simp only [h1,cond_true];exact p0R hh h2
     .exact hr.elim
    .exact hr.elim
   .rename_i x hargs;have e1:=ha x (by rw [hargs];simp);simp only [e1];split at hr
    .split at hr
     .obtain ⟨h1,h2⟩:=a0p hr;simp only [h1,cond_true];exact r0N hh h2
     .exact hr.elim
    .exact hr.elim
   .rename_i x y hargs;have e1:=ha x (by rw [hargs];simp);have e2:=ha y (by rw [hargs];simp);simp only [e1,e2];exact hr
   .rename_i x y hargs;have e1:=ha x (by rw [hargs];simp);have e2:=ha y (by rw [hargs];simp);simp only [e1,e2];exact hr
   .rename_i x y hargs;have e1:=ha x (by rw [hargs];simp);have e2:=ha y (by rw [hargs];simp);simp only [e1,e2];split at hr
    .split at hr
     .rename_i v1 v2 ti ti2 _ _ _ _;obtain ⟨h1,h2⟩:=a0p hr;simp only [h1,cond_true];unfold p0w at h2⊢;split at h2
      .rename_i h q i n _;have ht:h∈t:=by
        obtain ⟨ro,bl,_,h3⟩:=a0J h2;split at h3
        .obtain ⟨n',l',tt,h4⟩:=w0d (a0p h3).2;split at h4
         .obtain ⟨_,_,_,_,rfl⟩:=h4;simp
         .obtain ⟨_,_,_,_,rfl⟩:=h4;simp
        .exact h3.elim
       refine a0D (hh h ht) (fun ro bl h3=> ?_) h2;split at h3
       .obtain ⟨h4,h5⟩:=a0p h3;simp only [h4,cond_true];refine f0c hh ?_ ?_ h5
        .intro n l tt h6;split at h6
         .obtain ⟨_,_,_,_,rfl⟩:=h6;intro h hm;simp [hm]
         .obtain ⟨_,_,_,_,rfl⟩:=h6;intro h hm;simp [hm]
        .intro n l tt h6;rw [p0O (hh h ht),b0J (hh h ht)];exact h6
       .exact h3.elim
      .refine f0c hh ?_ (fun _ _ _ h=>h) h2;intro n l tt h6;obtain ⟨_,_,_,_,rfl⟩:=h6;exact fun h hm=>hm
      .refine f0c hh ?_ (fun _ _ _ h=>h) h2;intro n l tt h6;obtain ⟨_,_,_,_,rfl⟩:=h6;exact fun h hm=>hm
      .exact h2.elim
     .exact hr.elim
    .exact hr.elim
   .rename_i x y hargs;have e1:=ha x (by rw [hargs];simp);have e2:=ha y (by rw [hargs];simp);simp only [e1,e2];split at hr
    .split at hr
     .rename_i v1 v2 ti _ _ _;obtain ⟨h1,h2⟩:=a0p hr;simp only [h1,cond_true];unfold f1a at h2⊢;split at h2
      .rename_i h q i n _;have ht:h∈t:=by
        obtain ⟨ro,bl,_,h3⟩:=a0J h2;split at h3
        .obtain ⟨n',l',tt,h4⟩:=w0d (a0p h3).2;split at h4
         .obtain ⟨_,_,_,_,rfl⟩:=h4;simp
         .exact h4.elim
        .exact h3.elim
       refine a0D (hh h ht) (fun ro bl h3=> ?_) h2;split at h3
       .obtain ⟨h4,h5⟩:=a0p h3;simp only [h4,cond_true];refine f0c hh ?_ ?_ h5
        .intro n l tt h6;split at h6
         .obtain ⟨_,_,_,_,rfl⟩:=h6;intro h hm;simp [hm]
         .exact h6.elim
        .intro n l tt h6;simp only [b0J (hh h ht)];exact h6
       .exact h3.elim
      .exact h2.elim
     .exact hr.elim
    .exact hr.elim
   .exact hr.elim
 |_=>simp only [eff] at hr;exact hr.elim
end
theorem l0N:∀(l:List Nat) (t:Nat),a1s l t=true↔t∈l
 | [],t=>by simp [a1s]
 |x::r,t=>by
  simp only [a1s,s1G,l0N r t,f1I];constructor
  .rintro (h|h)
   all_goals simp_all
  .rintro (rfl|h)
   all_goals simp_all
theorem f0V:∀(l m:List Nat),d0O l m=true->∀x∈l,x∉m
 | [],m,_,x,hx=>by grind
 |y::l,m,h,x,hx=>by
  simp only [d0O,n0M] at h;rcases f1I.1 hx with rfl|hx
  .grind [l0N]
  .exact f0V l m h.2 x hx
theorem o0z:∀(l:List Operand) (t:Nat),Operand.tmp t∈l->t∈h0D l
 | [],t,h=>by grind
 |x::r,t,h=>by
  rcases f1I.1 h with e|h
  .subst e;simp [h0D]
  .have:=o0z r t h;cases x<;>simp [h0D,this]
theorem r0Q {o:Oper} {j:Nat} (h:v0P o j=true):∃e∈o.after,Region.binds .any e=true/\e.on=j:=by
 unfold v0P at h;rw [List.any_eq_true] at h;simp_all
def r0R (ops:Array Oper) (L:Nat->Bool):Prop:=∀(i:Nat) (o:Oper),ops[i]? =some o->L i=true->∀e∈o.after,Region.binds .any e=true->L e.on=true
theorem j0D {ops:Array Oper} {L:Nat->Bool} (hc:r0R ops L):∀(n:Nat) (o:Oper) (j:Nat),l0n ops.toList n o j=true->(∀e∈o.after,Region.binds .any e=true->L e.on=true)->L j=true
 |0,o,j,h,hd=>by
  obtain ⟨e,h1,h2,h3⟩:=r0Q h;grind
 |n+1,o,j,h,hd=>by
  simp only [l0n,s1G,List.any_eq_true] at h;rcases h with h|⟨e,he,h⟩
  .grind [r0Q]
  .simp only [n0M] at h;obtain ⟨⟨h1,_⟩,h3⟩:=h;split at h3
   .rename_i oe hoe;have he':e∈o.after:=by simp_all
    have hoe':ops[e.on]? =some oe:=by simp_all [b0l]
    exact j0D hc n oe j h3 (hc e.on oe hoe' (hd e he' h1))
   trivial
structure Draw (ops:Array Oper):Prop where
 dst:∀(i j:Nat) (oi oj:Oper) (t:Nat),ops[i]? =some oi->ops[j]? =some oj->i≠j->oj.dst=some t->oi.dst≠some t
 slot:∀(i j:Nat) (oi oj:Oper) (t:Nat),ops[i]? =some oi->ops[j]? =some oj->i≠j->oj.dst=some t->t∈looks ops.toList oi->(j<i/\l0n ops.toList 7 oi j=true)\/(i<j/\l0n ops.toList 7 oj i=true)
 self:∀(i:Nat) (o:Oper) (t:Nat),ops[i]? =some o->o.dst=some t->t∉looks ops.toList o
 back:∀(i:Nat) (o:Oper),ops[i]? =some o->∀e∈o.after,Region.binds .any e=true->e.on<i
 guard:∀(i:Nat) (o:Oper),ops[i]? =some o->∀j want,o.guard=some (j,want)->∃d,d0m ops.toList o=some d
theorem w0e (l:List Oper) (i:Nat) (oi:Oper):∀(r:List Oper) (j:Nat),y0k l i oi j r=true->∀k o,r[k]? =some o->r0l l i (j+k) oi o=true
 | [],j,_,k,o,h=>by trivial
 |x::r,j,hr,k,o,h=>by
  simp only [y0k,n0M] at hr;cases k with
  |zero=>simp_all
  |succ k=>have:=w0e l i oi r (j+1) hr.2 k o h;grind
theorem r0S (l:List Oper):∀(r:List Oper) (i:Nat),v0Q l i r=true->∀k o,r[k]? =some o->o0e l (i+k) o=true/\y0k l (i+k) o 0 l=true
 | [],i,_,k,o,h=>by trivial
 |x::r,i,hr,k,o,h=>by
  simp only [v0Q,n0M] at hr;cases k with
  |zero=>simp_all
  |succ k=>have:=r0S l r (i+1) hr.2 k o h;grind
theorem k1a {ops:Array Oper} (h:a1u ops.toList=true):Draw ops:=by
 have conv:∀{i:Nat} {o:Oper},ops[i]? =some o->ops.toList[i]? =some o:=fun h=>by simp_all
 have key:∀(i:Nat) (o:Oper),ops[i]? =some o->o0e ops.toList i o=true/\y0k ops.toList i o 0 ops.toList=true:=by
  intro i o ho;have:=r0S ops.toList ops.toList 0 h i o (conv ho);simp_all
 have pair:∀(i j:Nat) (oi oj:Oper),ops[i]? =some oi->ops[j]? =some oj->r0l ops.toList i j oi oj=true:=by
  intro i j oi oj hi hj;have:=w0e ops.toList i oi ops.toList 0 (key i oi hi).2 j oj (conv hj);simp_all
 refine ⟨?_,?_,?_,?_,?_⟩
 .intro i j oi oj t hi hj hne ht e;have:=pair i j oi oj hi hj;simp_all [r0l,s1G,q0d]
 .intro i j oi oj t hi hj hne ht hl;have:=pair i j oi oj hi hj;simp only [r0l,s1G,ht,n0M,n1s] at this;rcases this with h|⟨_,(h|h)|h⟩
  .simp_all
  .grind [l0N]
  all_goals simp_all
 .intro i o t hi ht hl;have:=(key i o hi).1;simp only [o0e,n0M,ht,n1s] at this;grind [l0N]
 .intro i o hi e he hb;have:=(key i o hi).1;simp only [o0e,n0M] at this;have h2:=this.1.2;unfold r0m at h2;rw [s1E] at h2;have h3:=h2 e (by simp_all);simp_all
 .intro i o hi j want hg;have:=(key i o hi).1;simp only [o0e] at this;cases hgs:d0m ops.toList o with
  |none=>simp_all
  |some d=>simp
def Did (P:Program) (T:Tab) (ops:List Oper) (o:Oper) (s:VS) (r:SV) (U:a0k) (b:Nat) (t:List Nat):Prop:=
 ((∃j want oj d,o.guard=some (j,want)/\nth ops j=some oj/\oj.dst=some d/\((∃c,a0M s.env d=some (.bool c)/\c≠want)\/(∃x,a0M s.env d=some (.raw (.tuple x)))))/\r= .raw undef/\U= []/\b=0/\t= [])\/
 ((o.guard=none\/∃j want oj d,o.guard=some (j,want)/\nth ops j=some oj/\oj.dst=some d/\a0M s.env d=some (.bool want))/\
   ((eff T s s.next o.op).is r U b t\/
    ∃f al l0 args0 H r0 H' n',CallOf P o s f al/\FC P l0.length f args0 H (a0g r0 H' n')/\Fits l0 s.next al args0 H s.heap/\
     r=SV.ren (rho l0 s.next) r0/\U=n0E (rho l0 s.next) H'++n0F (rho l0 s.next) H/\b=n'-l0.length/\t=l0))
theorem p0S {P:Program} {T:Tab} {ops:List Oper} {o:Oper} {recs:List Rec} {vs:VS} {K:List Rec->VS->Prop} (h:n1b P T ops o recs vs K):
  ∃r U b t,h0t ops o (a0s U) t 0 recs=true/\K (y0i recs ⟨a0s U,t⟩) ⟨y0z o.dst r vs.env,U++vs.heap,vs.next+b⟩/\((eff T vs vs.next o.op).is r U b t\/
   ∃f al l0 args0 H r0 H' n',CallOf P o vs f al/\FC P l0.length f args0 H (a0g r0 H' n')/\Fits l0 vs.next al args0 H vs.heap/\
    r=SV.ren (rho l0 vs.next) r0/\U=n0E (rho l0 vs.next) H'++n0F (rho l0 vs.next) H/\b=n'-l0.length/\t=l0):=by
 have st:∀r U b t,n0H ops o recs vs r U b t K->h0t ops o (a0s U) t 0 recs=true/\K (y0i recs ⟨a0s U,t⟩) ⟨y0z o.dst r vs.env,U++vs.heap,vs.next+b⟩:=by
  intro r U b t h;unfold n0H at h;rw [p0A] at h;cases hc:h0t ops o (a0s U) t 0 recs with
  |false=>simp_all
  |true=>rw [hc,cond_true,p0z] at h;exact ⟨rfl,c0q.1 h⟩
 unfold n1b at h;dsimp only at h;split at h
 .rename_i fo args ts hop;split at h
  .rename_i f cap l hf hl;obtain ⟨l0,args0,H,r0,H',n',h1,h2,h3⟩:=h;obtain ⟨k1,k2⟩:=st _ _ _ _ h3;exact ⟨_,_,_,_,k1,k2,.inr ⟨f,_,l0,args0,H,r0,H',n',.inl ⟨fo,args,ts,cap,l,hop,hf,hl,rfl⟩,h1,h2,rfl,rfl,rfl,rfl⟩⟩
  .exact h.elim
 .rename_i x name args ts hop;split at h
  .rename_i t v l hx hl;obtain ⟨f,hm,l0,args0,H,r0,H',n',h1,h2,h3⟩:=h;obtain ⟨k1,k2⟩:=st _ _ _ _ h3;exact ⟨_,_,_,_,k1,k2,.inr ⟨f,_,l0,args0,H,r0,H',n',.inr ⟨x,name,args,ts,t,v,l,hop,hx,hl,hm,rfl⟩,h1,h2,rfl,rfl,rfl,rfl⟩⟩
  .exact h.elim
 .obtain ⟨r,U,b,t,h1,h2⟩:=t0Y h;obtain ⟨k1,k2⟩:=st _ _ _ _ h2;exact ⟨r,U,b,t,k1,k2,.inl h1⟩
theorem f1C {P:Program} {T:Tab} {ops:List Oper} {o:Oper} {recs:List Rec} {vs:VS} {K:List Rec->VS->Prop} (h:n1c P T ops o recs vs K):
  ∃r U b t,h0t ops o (a0s U) t 0 recs=true/\K (y0i recs ⟨a0s U,t⟩) ⟨y0z o.dst r vs.env,U++vs.heap,vs.next+b⟩/\Did P T ops o vs r U b t:=by
 have st:n0H ops o recs vs (.raw undef) [] 0 [] K->h0t ops o (a0s []) [] 0 recs=true/\K (y0i recs ⟨a0s [],[]⟩) ⟨y0z o.dst (.raw undef) vs.env,[]++vs.heap,vs.next+0⟩:=by
  intro h;unfold n0H at h;rw [p0A] at h;cases hc:h0t ops o (a0s []) [] 0 recs with
  |false=>simp_all
  |true=>rw [hc,cond_true,p0z] at h;exact ⟨rfl,c0q.1 h⟩
 unfold n1c at h;split at h
 .rename_i hg;obtain ⟨r,U,b,t,h1,h2,h3⟩:=p0S h;exact ⟨r,U,b,t,h1,h2,.inr ⟨.inl hg,h3⟩⟩
 .rename_i j want hg;split at h
  .rename_i oj hj;split at h
   .rename_i d hdst;split at h
    .rename_i hv;cases want with
     |true=>
      obtain ⟨r,U,b,t,h1,h2,h3⟩:=p0S h;exact ⟨r,U,b,t,h1,h2,.inr ⟨.inr ⟨j,true,oj,d,hg,hj,hdst,hv⟩,h3⟩⟩
     |false=>
      obtain ⟨k1,k2⟩:=st h;exact ⟨_,_,_,_,k1,k2,.inl ⟨⟨j,false,oj,d,hg,hj,hdst,.inl ⟨true,hv,by simp⟩⟩,rfl,rfl,rfl,rfl⟩⟩
    .rename_i hv;cases want with
     |true=>
      obtain ⟨k1,k2⟩:=st h;exact ⟨_,_,_,_,k1,k2,.inl ⟨⟨j,true,oj,d,hg,hj,hdst,.inl ⟨false,hv,by simp⟩⟩,rfl,rfl,rfl,rfl⟩⟩
     |false=>
      obtain ⟨r,U,b,t,h1,h2,h3⟩:=p0S h;exact ⟨r,U,b,t,h1,h2,.inr ⟨.inr ⟨j,false,oj,d,hg,hj,hdst,hv⟩,h3⟩⟩
    .rename_i x hv;obtain ⟨k1,k2⟩:=st h;exact ⟨_,_,_,_,k1,k2,.inl ⟨⟨j,want,oj,d,hg,hj,hdst,.inr ⟨x,hv⟩⟩,rfl,rfl,rfl,rfl⟩⟩
    trivial
   trivial
  trivial
theorem l0O {α:Type}:∀(l:List α) (x:α),(y0i l x).length=l.length+1
 | [],x=>rfl
 |y::l,x=>by simp [y0i,l0O l x]
theorem p0T {α:Type}:∀(l:List α) (x:α) (i:Nat),(y0i l x)[i]? =if i=l.length then some x else l[i]?
 | [],x,i=>by cases i<;>simp [y0i]
 |y::l,x,0=>by rfl
 |y::l,x,i+1=>by simp [y0i,p0T l x i]
structure Steps (P:Program) (T:Tab) (ops:List Oper) (l:List Oper) (recs:List Rec) (vs:VS) (K:VS->Prop) (st mid:Nat->VS) (r:Nat->SV) (U:Nat->a0k) (b:Nat->Nat) (t:Nat->List Nat):Prop where
 zero:st 0=vs
 last:K (st l.length)
 mids:∀i o,l[i]? =some o->(∀x,a0M (mid i).env x=a0M (st i).env x)/\(mid i).heap=(st i).heap/\(mid i).next=(st i).next
 next:∀i o,l[i]? =some o->st (i+1)=⟨y0z o.dst (r i) (mid i).env,U i++(st i).heap,(st i).next+b i⟩
 did:∀i o,l[i]? =some o->Did P T ops o (mid i) (r i) (U i) (b i) (t i)
 recs0:∀i o (k:Nat) c,l[i]? =some o->recs[k]? =some c->l0n ops 7 o k=true\/(d0O c.keys (t i)=true/\d0O c.keys (a0s (U i))=true/\d0O (a0s (U i)) c.touch=true)\/l0o ops k o=true
 recs1:∀i o k,l[i]? =some o->k<i->l0n ops 7 o (recs.length+k)=true\/(d0O (a0s (U k)) (t i)=true/\d0O (a0s (U k)) (a0s (U i))=true/\d0O (a0s (U i)) (t k)=true)\/l0o ops (recs.length+k) o=true
theorem r0T {ops:List Oper} {o:Oper} {ks t:List Nat}:∀(recs:List Rec) (i:Nat),h0t ops o ks t i recs=true->∀(k:Nat) c,recs[k]? =some c->l0n ops 7 o (i+k)=true\/(d0O c.keys t=true/\d0O c.keys ks=true/\d0O ks c.touch=true)\/l0o ops (i+k) o=true
 | [],i,_,k,c,h=>by trivial
 |x::r,i,hr,k,c,h=>by
  simp only [h0t,n0M] at hr;cases k with
  |zero=>
   grind
  |succ k=>
   have:=r0T r (i+1) hr.2 k c h
   grind
theorem l0P {P:Program} {T:Tab} {ops:List Oper}:∀(l:List Oper) (recs:List Rec) (vs:VS) (K:VS->Prop),t0J P T ops l recs vs K->∃st mid r U b t,Steps P T ops l recs vs K st mid r U b t
 | [],recs,vs,K,h=>⟨fun _=>vs,fun _=>vs,fun _=> .unk,fun _=> [],fun _=>0,fun _=> [],⟨rfl,h,by simp,by simp,by simp,by simp,by simp⟩⟩
 |o::l,recs,vs,K,h=>by
  have key:∃m,(∀x,a0M m.env x=a0M vs.env x)/\m.heap=vs.heap/\m.next=vs.next/\n1c P T ops o recs m (fun recs' vs'=>t0J P T ops l recs' vs' K):=by
   simp only [t0J] at h;split at h
   .grind
   .rename_i d _;obtain ⟨e,H,n⟩:=vs;unfold known at h;simp only at h;split at h
    .rename_i c hc;have ext:∀x,a0M ((d,SV.bool c)::e) x=a0M e x:=by
      simp_all [c0i]
     cases c with
     |true=>exact ⟨⟨(d,.bool true)::e,H,n⟩,ext,rfl,rfl,(j0q h).1 rfl⟩
     |false=>exact ⟨⟨(d,.bool false)::e,H,n⟩,ext,rfl,rfl,(j0q h).2 rfl⟩
    all_goals grind
  obtain ⟨m,m1,m2,m3,hm⟩:=key;obtain ⟨r0,U0,b0,t0,h1,h2,h3⟩:=f1C hm;obtain ⟨st,mid,r,U,b,t,S⟩:=l0P l _ _ K h2;refine ⟨fun i=>match i with|0=>vs|i+1=>st i,fun i=>match i with|0=>m|i+1=>mid i,fun i=>match i with|0=>r0|i+1=>r i,fun i=>match i with|0=>U0|i+1=>U i,fun i=>match i with|0=>b0|i+1=>b i,fun i=>match i with|0=>t0|i+1=>t i,⟨rfl,S.last,?_,?_,?_,?_,?_⟩⟩
  .intro i o' ho;cases i with
   |zero=>trivial
   |succ i=>exact S.mids i o' (by trivial)
  .intro i o' ho;cases i with
   |zero=>simp at ho;subst ho;simp only;rw [S.zero,m2,m3]
   |succ i=>exact S.next i o' (by trivial)
  .intro i o' ho;cases i with
   |zero=>simp_all
   |succ i=>exact S.did i o' (by trivial)
  .intro i o' k c ho hk;cases i with
   |zero=>have:=r0T recs 0 h1 k c hk;simp_all
   |succ i=>
    refine S.recs0 i o' k c (by trivial) ?_;rw [p0T,if_neg]
    all_goals grind
  .intro i o' k ho hki;cases i with
   |zero=>omega
   |succ i=>
    cases k with
    |zero=>
     have:=S.recs0 i o' recs.length ⟨a0s U0,t0⟩ (by trivial) (by rw [p0T,if_pos rfl]);omega
    |succ k=>
     have:=S.recs1 i o' k (by trivial) (by omega);grind [l0O]
theorem l0Q {α:Type} (l:List α) (i:Nat) (d:α):(b0j i (l.getD i d) l).getD i d=l.getD i d:=by
 unfold b0j;grind
theorem a1T {i:Nat} {c c':Col} (h:c0v i c (c.at i)=some c'):c'.at i=c.at i:=by
 cases c with
 |ints k l=>
  simp only [Col.at,c0v] at h;cases hk:f0J k k with
  |false=>simp_all
  |true=>
   grind [Col.at,l0Q]
 |strs l=>
  grind [Col.at,c0v,l0Q]
 |bools l=>
  grind [Col.at,c0v,l0Q]
theorem i1u (d:Col) (vl:List BCol) (z:SV) (ez:List SV):zOk (.sc d::vl) (z::ez)=(zOk [.sc d] [z]&&zOk vl ez):=by
 cases d<;>cases z<;>(try simp [zOk]);rename_i b;cases b<;>simp [zOk]
theorem k1b {i:Nat} {d d':Col} {v z:SV} (h:c0v i d v=some d'):zOk [.sc d'] [z]=zOk [.sc d] [z]:=by
 cases d with
 |ints k l=>
  cases v<;>simp only [c0v] at h<;>first|contradiction|skip
  rename_i p x;cases hk:f0J p k with
  |false=>simp_all
  |true=>
   rw [hk] at h;simp only [cond_true,injEq] at h;subst h;cases z<;>simp [zOk]
 |strs l=>
  cases v<;>simp only [c0v] at h<;>first|contradiction|skip
  simp only [injEq] at h;subst h;cases z<;>simp [zOk]
 |bools l=>
  cases v<;>simp only [c0v] at h<;>first|contradiction|skip
  simp only [injEq] at h;subst h;cases z<;>(try simp [zOk]);rename_i b;cases b<;>simp [zOk]
theorem f1D {c:BCol} {vl:List BCol} {z:SV} {ez:List SV} (h:zOk (c::vl) (z::ez)=true):∃d,c= .sc d/\zOk [.sc d] [z]=true/\zOk vl ez=true:=by
 cases c with
 |sc d=>rw [i1u,n0M] at h;simp_all
 |svs l=>all_goals trivial
 |own a ns=>all_goals trivial
 |ptrs a n=>all_goals trivial
 |arrs n k r=>all_goals trivial
theorem j0E {i:Nat}:∀(vl vl':List BCol) (ez:List SV),zOk vl ez=true->c0s i vl (a0C vl i)=some vl'->a0C vl' i=a0C vl i/\zOk vl' ez=true
 | [],vl',ez,hz,h=>by
   simp only [a0C,c0s] at h;simp_all
 |c::vl,vl',[],hz,h=>by all_goals simp_all [zOk]
 |c::vl,vl',z::ez,hz,h=>by
  obtain ⟨d,rfl,hz3,hz2⟩:=f1D hz;simp only [a0C,c0s,l0m,BCol.at] at h;cases hp:c0v i d (d.at i) with
  |none=>simp_all
  |some d'=>
   rw [hp] at h;cases hr:c0s i vl (a0C vl i) with
   |none=>simp_all
   |some r=>
    rw [hr] at h;simp only [injEq] at h;subst h;obtain ⟨q1,q2⟩:=j0E vl r ez hz2 hr;refine ⟨?_,?_⟩
    .grind [a0C,BCol.at,a1T]
    .rw [i1u,k1b hp,hz3,q2];rfl
theorem f1E {ea:Bool} {i:Nat} {vl vl':List BCol} {ez vc:List SV} (hz:zOk vl ez=true) (ha:b0e ea (b0n ea vl i)=some vc) (hp:c0s i vl vc=some vl'):b0n ea vl' i=b0n ea vl i/\zOk vl' ez=true:=by
 cases ea with
 |true=>
  grind [b0n,b0e,j0E]
 |false=>
  have key:∀c,vl= [c]->vc= [c.at i]:=by
   grind [b0n,b0e]
  match vl,hz,hp,ha,key with
  | [],hz,hp,ha,_=>
    trivial
  | [c],hz,hp,ha,key=>
    have e:=key c rfl;subst e;obtain ⟨q1,q2⟩:=j0E [c] vl' ez hz hp
    match vl',q1,q2,hp with
    | [],q1,_,_=>trivial
    | [c'],q1,q2,_=>
      simp only [a0C,List.cons.injEq,and_true] at q1;trivial
    |c'::d'::r,q1,_,_=>simp [a0C] at q1
  |c::d::r,hz,hp,ha,_=>
   trivial
theorem w0f {ea:Bool} {n i:Nat} {vl:List BCol} {ez:List SV} (hz:zOk vl ez=true):e0D ea n vl i=b0n ea vl i:=by
 unfold e0D;grind [zOk]
theorem w0g:∀(l:List ByteArray) (s:ByteArray),a0q (b0j (a0q l s) s l) s=a0q l s
 | [],s=>by simp [a0q,b0j,seq]
 |x::l,s=>by
  by_cases h:seq x s=true
  .simp_all [a0q,b0j,seq]
  .have h':seq x s=false:=by simp_all
   have e:a0q (x::l) s=a0q l s+1:=by simp [a0q,h']
   have e2:b0j (a0q l s+1) s (x::l)=x::b0j (a0q l s) s l:=by
    unfold b0j;grind
   rw [e,e2];simp only [a0q,h',cond_false];rw [w0g l s]
theorem w0h:∀(l:List Int) (s:Int),a0S (b0j (a0S l s) s l) s=a0S l s
 | [],s=>by simp [a0S,b0j]
 |x::l,s=>by
  by_cases h:x=s
  .simp_all [a0S,b0j]
  .have e:a0S (x::l) s=a0S l s+1:=by simp [a0S,h]
   have e2:b0j (a0S l s+1) s (x::l)=x::b0j (a0S l s) s l:=by
    unfold b0j;grind
   rw [e,e2];simp only [a0S,decide_eq_false h,cond_false];rw [w0h l s]
theorem l0R {α:Type} (i:Nat) (s x:α) (l:List α):b0j (i+1) s (x::l)=x::b0j i s l:=by
 unfold b0j;grind
theorem e0H {α:Type} (s:α) (l:List α):∃r,b0j 0 s l=s::r:=by
 cases l with
 |nil=>simp [b0j]
 |cons x l=>simp [b0j]
theorem r0U:∀(l m:List ByteArray) (s t:ByteArray),c0B (b0j (c0B l m s t) s l) (b0j (c0B l m s t) t m) s t=c0B l m s t
 | [],m,s,t=>by
   obtain ⟨r1,h1⟩:=e0H s ([]:List ByteArray);obtain ⟨r2,h2⟩:=e0H t m;simp_all [c0B,seq]
 |x::l,[],s,t=>by
  obtain ⟨r1,h1⟩:=e0H s (x::l);obtain ⟨r2,h2⟩:=e0H t ([]:List ByteArray);simp_all [c0B,seq]
 |x::l,y::m,s,t=>by
  cases h:(seq x s&&seq y t) with
  |true=>
   obtain ⟨r1,h1⟩:=e0H s (x::l);obtain ⟨r2,h2⟩:=e0H t (y::m);simp_all [c0B,seq]
  |false=>
   have e:c0B (x::l) (y::m) s t=c0B l m s t+1:=by grind [c0B]
   rw [e,l0R,l0R];simp only [c0B,h,cond_false];rw [r0U l m s t]
theorem y0A {ti:TI} {ka:Bool} {ks ks':List Col} {key:SV} {kc:List SV} {i:Nat} (h:e0C ti ka ks key=some i) (hk:b0e ka key=some kc) (hp:d0t i ks kc=some ks'):e0C ti ka ks' key=some i:=by
 unfold e0C at h;split at h
 .cases hl:Nat.beq ti.len 3 with
  |false=>simp_all
  |true=>
   rw [hl] at h;simp only [cond_true,injEq] at h;subst h;simp only [b0e,SV.one,Bool.true_or,cond_true,injEq] at hk;subst hk;simp only [d0t,c0v,injEq] at hp;subst hp;simp_all [e0C,w0g]
 .rename_i k l p x;cases hl:(Nat.beq ti.len 2&&f0J p k&&f0J p ti.ik) with
  |false=>simp_all
  |true=>
   rw [hl] at h;simp only [cond_true,injEq] at h;subst h;simp only [b0e,SV.one,Bool.true_or,cond_true,injEq] at hk;subst hk;have hl':=hl;simp only [n0M] at hl';simp only [d0t,c0v,hl'.1.2,cond_true,injEq] at hp;subst hp;simp_all [e0C,w0h]
 all_goals grind [b0e,d0t,c0v,e0C,r0U]
def Mem (H:a0k) (h q:Nat) (ro:Bool) (bl:Blk):Prop:=(a0w H h=some (.one ro bl)/\q=0)\/∃dom f,a0w H h=some (.fam ro dom f)/\f q=bl/\dom q
theorem w0i {c:Prop} {x:Res} {r:SV} {U:a0k} {b:Nat} {t:List Nat}:(x.guard c).is r U b t↔c/\x.is r U b t:=by
 cases x with
 |no=>exact ⟨fun h=>h.elim,fun h=>h.2⟩
 |ok=>rfl
 | «when» =>exact ⟨fun h=>⟨h.1.1,h.1.2,h.2⟩,fun h=>⟨⟨h.1,h.2.1⟩,h.2.2⟩⟩
theorem l0S {H:a0k} {h q:Nat} {F:Bool->Blk->Res} {r:SV} {U:a0k} {b:Nat} {t:List Nat} (hh:(c0h H h q F).is r U b t):∃ro bl,Mem H h q ro bl/\(F ro bl).is r U b t:=by
 unfold c0h at hh;split at hh
 .rename_i ro bl e;split at hh
  .exact ⟨ro,bl,.inl ⟨e,rfl⟩,hh⟩
  trivial
 .rename_i ro dom f e;obtain ⟨k1,k2⟩:=w0i.1 hh;exact ⟨ro,f q,.inr ⟨dom,f,e,rfl,k1⟩,k2⟩
 trivial
theorem f1F {H:a0k} {h q:Nat} {F:Bool->Blk->Res} {ro:Bool} {bl:Blk} {r:SV} {U:a0k} {b:Nat} {t:List Nat} (hm:Mem H h q ro bl) (hh:(F ro bl).is r U b t):(c0h H h q F).is r U b t:=by
 unfold c0h;rcases hm with ⟨e,rfl⟩|⟨dom,f,e,rfl,hd⟩
 .simp_all
 .rw [e];exact w0i.2 ⟨hd,hh⟩
theorem k1c {H H':a0k} {h q:Nat} {ro ro':Bool} {bl bl':Blk} (e:a0w H' h=a0w H h) (h1:Mem H h q ro bl) (h2:Mem H' h q ro' bl'):ro'=ro/\bl'=bl:=by
 rcases h1 with ⟨e1,_⟩|⟨dom,f,e1,rfl,_⟩<;>rcases h2 with ⟨e2,_⟩|⟨dom2,f2,e2,rfl,_⟩
 all_goals simp_all
theorem k1d {H S:a0k} {h q:Nat} {ro:Bool} {bl b1:Blk} (hm:Mem H h q ro bl) (e:a0w S h=a0w (b0c H h q b1++H) h):Mem S h q ro b1:=by
 rcases hm with ⟨e1,e2⟩|⟨dom,f,e1,rfl,hd⟩
 .rw [f0a e1] at e;simp only [k1p] at e;rw [a0T,if_pos rfl] at e;subst e2;exact .inl ⟨e,rfl⟩
 .rw [f0a e1] at e;simp only [k1p] at e;rw [a0T,if_pos rfl] at e;exact .inr ⟨dom,_,e,by simp,hd⟩
theorem i0w {c:Bool} {X:Res} {r:SV} {U:a0k} {b:Nat} {t:List Nat} (h:(bif c then X else Res.no).is r U b t):c=true/\X.is r U b t:=by
 cases c with
 |false=>trivial
 |true=>trivial
theorem a1U {c:Bool} {X:Res} {r:SV} {U:a0k} {b:Nat} {t:List Nat} (hc:c=true) (h:X.is r U b t):(bif c then X else Res.no).is r U b t:=by simp_all
theorem y0B {vs0 vs1 S:VS} {ti:TI} {m key r r':SV} {U U':a0k} {b b':Nat} {t t':List Nat} (h0:(d0u vs0 ti m key false).is r U b t) (h1:(c0w vs1 ti m key).is r' U' b' t') (he:∀h∈t,h∈t'->a0w vs1.heap h=a0w vs0.heap h) (hS:∀h∈t,h∈t'->a0w S.heap h=a0w (U'++vs1.heap) h):(d0u S ti m key false).is r U b t:=by
 cases m<;>try (simp [c0w,Res.is] at h1;done)
 rename_i h q;obtain ⟨ro0,bl0,m0,k0⟩:=l0S h0;obtain ⟨ro1,bl1,m1,k1⟩:=l0S h1;clear h0 h1;split at k0
 .split at k0
  .rename_i i hi;obtain ⟨hc,k0⟩:=i0w k0;obtain ⟨rfl,rfl,rfl,rfl⟩:=k0;split at k1
   .split at k1
    .rename_i i1 kc hi1 hkc;split at k1
     .rename_i vc hvc;split at k1
      .rename_i ks' vl' hks hvl;obtain ⟨hc1,k1⟩:=i0w k1;obtain ⟨_,rfl,_,rfl⟩:=k1;have e1:=he h (by simp) (by simp);obtain ⟨_,e2⟩:=k1c e1 m0 m1;obtain ⟨rfl,rfl,rfl,rfl,rfl,rfl,rfl⟩:=e2;rw [hi] at hi1;simp only [injEq] at hi1;subst hi1;simp only [n0M] at hc1 hc;obtain ⟨q1,q2⟩:=f1E hc1.1.2 hvc hvl;refine f1F (k1d m1 (hS h (by simp) (by simp))) ?_;dsimp only;rw [y0A hi hkc hks];dsimp only;refine a1U ?_ ?_
       .rw [n0M,s1G,n0M];exact ⟨hc.1,.inl ⟨by rw [q2];rfl,hc1.2⟩⟩
       .refine ⟨?_,rfl,rfl,rfl⟩;unfold r0i;rw [cond_false,cond_false,w0f q2,w0f hc1.1.2,q1]
      trivial
     trivial
    trivial
   trivial
  trivial
 trivial
theorem b0a:∀(U H:a0k) (h:Nat),a0w (U++H) h=if h∈a0s U then a0w U h else a0w H h
 | [],H,h=>by rfl
 |(k,v)::U,H,h=>by
  rw [k1p,a0T,a0T,b0a U H h];simp only [a0s];grind
def d0H (H:a0k) (U:Nat->a0k) (L:Nat->Bool):Nat->a0k
 |0=>H
 |n+1=>if L n then U n++d0H H U L n else d0H H U L n
theorem p0U {H H':a0k} (h:∀k,a0w H' k=a0w H k) {k q:Nat} {ro:Bool} {b:Blk}:Ent H' k q ro b↔Ent H k q ro b:=by unfold Ent;grind
theorem r0V {g:G} {H H':a0k} {w:World} (h:∀k,a0w H' k=a0w H k) (hH:Holds g H w):Holds g H' w:=
 ⟨fun k q ro b he=>hH.blk k q ro b ((p0U h).1 he),fun k q k' q' b ro' b' β β' hne he he'=>hH.sep k q k' q' b ro' b' β β' hne ((p0U h).1 he) ((p0U h).1 he')⟩
theorem w0j {g:G} {H H':a0k} {W:Nat->Prop} {w:World} (h:∀k,a0w H' k=a0w H k) (hH:a1g g H W w):a1g g H' W w:=fun k q b β he=>hH k q b β ((p0U h).1 he)
def p0V (L:Nat->Bool) (i:Nat):Nat->Bool:=fun k=>if k=i then true else L k
theorem k1e {L:Nat->Bool} {i k:Nat} (h:k≠i):p0V L i k=L k:=by simp [p0V,h]
theorem k1f {L:Nat->Bool} {i:Nat}:p0V L i i=true:=by simp [p0V]
def p0W {α:Type} (e:List (Nat×α)):List Nat->List (Nat×α)
 | []=> []
 |t::ts=>match a0M e t with
  |some v=>(t,v)::p0W e ts
  |none=>p0W e ts
theorem i0x {α:Type} (e:List (Nat×α)):∀(ts:List Nat) (t:Nat) (v:α),a0M (p0W e ts) t=some v->t∈ts/\a0M e t=some v
 | [],t,v,h=>by trivial
 |x::ts,t,v,h=>by
  simp only [p0W] at h;split at h
  .rw [c0i] at h;split at h
   .simp_all
   .obtain ⟨h1,h2⟩:=i0x e ts t v h;simp_all
  .obtain ⟨h1,h2⟩:=i0x e ts t v h;simp_all
theorem l0T {α:Type} (e:List (Nat×α)):∀(ts:List Nat) (t:Nat),t∈ts->a0M (p0W e ts) t=a0M e t
 | [],t,h=>by grind
 |x::ts,t,h=>by
  simp only [p0W];split
  .rw [c0i];split
   .simp_all
   .rcases f1I.1 h with rfl|h
    .omega
    .exact l0T e ts t h
  .rename_i hu;rcases f1I.1 h with rfl|h
   .rw [hu];cases hx:a0M (p0W e ts) t with
    |none=>rfl
    |some v=>have:=(i0x e ts t v hx).2;simp_all
   .exact l0T e ts t h
section
variable {P:Program} {T:Tab} {C:Ctx} {ops:Array Oper} {vs:VS} {K:VS->Prop} {st mid:Nat->VS} {r:Nat->SV} {U:Nat->a0k} {b:Nat->Nat} {t:Nat->List Nat}
theorem c0m {ops:Array Oper} {i:Nat} {o:Oper} (h:ops[i]? =some o):i<ops.size:=(p1Q.1 h).1
theorem c0n {ops:Array Oper} {i:Nat} (h:i<ops.size):∃o,ops[i]? =some o:=⟨ops[i],f1P h⟩
theorem conv {i:Nat} {o:Oper} (h:ops[i]? =some o):ops.toList[i]? =some o:=by simp_all
abbrev Tr (P:Program) (T:Tab) (ops:Array Oper) (vs:VS) (K:VS->Prop) (st mid:Nat->VS) (r:Nat->SV) (U:Nat->a0k) (b:Nat->Nat) (t:Nat->List Nat):Prop:=Steps P T ops.toList ops.toList [] vs K st mid r U b t
theorem Tr.env (tr:Tr P T ops vs K st mid r U b t) {i:Nat} {o:Oper} (ho:ops[i]? =some o) (x:Nat):a0M (st (i+1)).env x=if o.dst=some x then some (r i) else a0M (st i).env x:=by
 rw [tr.next i o (conv ho)];obtain ⟨m1,_,_⟩:=tr.mids i o (conv ho);cases hd:o.dst with
 |none=>simp [y0z,m1]
 |some d=>simp_all [y0z,c0i]
theorem Tr.env_none (tr:Tr P T ops vs K st mid r U b t) (x:Nat):∀i,i<=ops.size->(∀(k:Nat) (o:Oper),k<i->ops[k]? =some o->o.dst≠some x)->a0M (st i).env x=a0M vs.env x:=by
 intro i;induction i with
 |zero=>intro _ _;rw [tr.zero]
 |succ i ih=>
  intro hi hk;obtain ⟨o,ho⟩:=c0n (ops:=ops) (i:=i) (by omega);rw [tr.env ho,if_neg (hk i o (by omega) ho)];grind
theorem Tr.env_some (tr:Tr P T ops vs K st mid r U b t) (hD:Draw ops) {k:Nat} {ok:Oper} {x:Nat} (hk:ops[k]? =some ok) (hx:ok.dst=some x):∀i,k<i->i<=ops.size->a0M (st i).env x=some (r k):=by
 intro i;induction i with
 |zero=>omega
 |succ i ih=>
  intro h1 h2;obtain ⟨o,ho⟩:=c0n (ops:=ops) (i:=i) (by omega);rw [tr.env ho];by_cases e:k=i
  .simp_all
  .rw [if_neg (hD.dst i k o ok x ho hk (Ne.symm e) hx)];grind
theorem Tr.next_mono (tr:Tr P T ops vs K st mid r U b t):∀i j,i<=j->j<=ops.size->(st i).next<=(st j).next:=by
 intro i j hij;induction j with
 |zero=>simp_all
 |succ j ih=>
  intro hj;rcases i1B i (j+1) with h|h
  .obtain ⟨o,ho⟩:=c0n (ops:=ops) (i:=j) (by omega);rw [tr.next j o (conv ho)];grind
  grind
theorem Tr.next_step (tr:Tr P T ops vs K st mid r U b t) {i:Nat} {o:Oper} (ho:ops[i]? =some o):(st (i+1)).next=(st i).next+b i:=by rw [tr.next i o (conv ho)]
theorem Tr.heap_at (tr:Tr P T ops vs K st mid r U b t) {L:Nat->Bool} {h i:Nat} (hi:i<=ops.size) (h1:∀k,k<i->h∈a0s (U k)->L k=true) (h2:∀k,i<=k->k<ops.size->L k=true->h∉a0s (U k)):a0w (d0H vs.heap U L ops.size) h=a0w (st i).heap h:=by
 have lo:∀m,m<=i->a0w (d0H vs.heap U L m) h=a0w (st m).heap h:=by
  intro m;induction m with
  |zero=>intro _;rw [tr.zero];rfl
  |succ m ih=>
   intro hm;obtain ⟨o,ho⟩:=c0n (ops:=ops) (i:=m) (by omega);have hst:(st (m+1)).heap=U m++(st m).heap:=by rw [tr.next m o (conv ho)]
   rw [hst,b0a];simp only [d0H];by_cases hk:h∈a0s (U m)
   .rw [if_pos hk,if_pos (h1 m (by omega) hk),b0a,if_pos hk]
   .rw [if_neg hk,<-ih (by omega)];split
    .rw [b0a,if_neg hk]
    .rfl
 have hi':∀m,i<=m->m<=ops.size->a0w (d0H vs.heap U L m) h=a0w (d0H vs.heap U L i) h:=by
  intro m;induction m with
  |zero=>simp_all
  |succ m ih=>
   intro h0 hm;rcases i1B i (m+1) with hlt|hge
   .simp only [d0H];split
    .rename_i hL;rw [b0a,if_neg (h2 m (by omega) (by omega) hL)];grind
    grind
   grind
 simp_all
theorem a1V {H:a0k} {L:Nat->Bool} {i n:Nat} (hi:i<n) (hL:L i=false) (hap:∀k,i<k->k<n->L k=true->∀h∈a0s (U k),h∉a0s (U i)):∀h,a0w (d0H H U (p0V L i) n) h=a0w (U i++d0H H U L n) h:=by
 have lo:∀m,m<=i->d0H H U (p0V L i) m=d0H H U L m:=by
  intro m;induction m with
  |zero=>intro _;rfl
  |succ m ih=>
   grind [d0H,k1e]
 have key:∀m,i<m->m<=n->∀h,a0w (d0H H U (p0V L i) m) h=a0w (U i++d0H H U L m) h:=by
  intro m;induction m with
  |zero=>omega
  |succ m ih=>
   intro h1 h2 h;by_cases e:m=i
   .simp_all [d0H,k1f]
   .have h3:=ih (by omega) (by omega) h;simp only [d0H];have e2:p0V L i m=L m:=by simp [p0V,e]
    rw [e2];split
    .rename_i hLm;have hd:=hap m (by omega) (by omega) hLm;by_cases hk:h∈a0s (U m)
     all_goals simp_all [b0a]
    omega
 simp_all
structure InvD (C:Ctx) (ops:Array Oper) (vs:VS) (st:Nat->VS) (r:Nat->SV) (U:Nat->a0k) (b:Nat->Nat) (L:Nat->Bool) (g:G) (a:Act) (w:World):Prop where
 old:∀x sv,(∀(k:Nat) (o:Oper),ops[k]? =some o->o.dst=some x->L k=false)->a0M vs.env x=some sv->Rv g sv (a.tmps.getD x undef)
 new:∀(k:Nat) (o:Oper) x,ops[k]? =some o->o.dst=some x->L k=true->Rv g (r k) (a.tmps.getD x undef)
 size:a.tmps.size=C.N
 defers:a.defers=C.ds
 glob:g.glob
 upto:g.upto (st ops.size).next
 unborn:∀k,k<ops.size->L k=false->∀h q,(st k).next<=h->h<(st k).next+b k->g h q=none
 keep:∀h q,h<C.n0->g h q=C.g h q
 heap:Holds g (d0H vs.heap U L ops.size) w
 fr:Fr C.W C.w w
 own:a1g g (d0H vs.heap U L ops.size) C.W C.w
theorem p0X {L:Nat->Bool} {g:G} {a:Act} {w:World} (tr:Tr P T ops vs K st mid r U b t) (hD:Draw ops) (I:InvD C ops vs st r U b L g a w) (hc:r0R ops L) {i:Nat} {o:Oper} (hi:ops[i]? =some o) (hLi:L i=false)
  (hr:∀e∈o.after,Region.binds .any e=true->L e.on=true) {x:Nat} {sv:SV} (hx:x∈looks ops.toList o) (hsv:a0M (st i).env x=some sv):Rv g sv (a.tmps.getD x undef):=by
 by_cases hw:∃(k:Nat) (ok:Oper),ops[k]? =some ok/\ok.dst=some x
 .obtain ⟨k,ok,hk,hkx⟩:=hw;have hne:i≠k:=by
   intro e;subst e;rw [hi] at hk;cases hk;exact hD.self i o x hi hkx hx
  rcases hD.slot i k o ok x hi hk hne hkx hx with ⟨h1,h2⟩|⟨h1,h2⟩
  .have hLk:=j0D hc 7 o k h2 hr;rw [tr.env_some hD hk hkx i h1 (t1f (c0m hi))] at hsv;cases hsv;exact I.new k ok x hk hkx hLk
  .have hLk:L k=false:=by
    cases hl:L k with
    |false=>rfl
    |true=>have:=j0D hc 7 ok i h2 (hc k ok hk hl);simp_all
   refine I.old x sv ?_ ?_
   .intro k' o' hk' hd';by_cases e:k'=k
    .simp_all
    .exact absurd hd' (hD.dst k' k o' ok x hk' hk e hkx)
   .rw [<-hsv];refine (tr.env_none x i (t1f (c0m hi)) ?_).symm;intro k' o' hlt hk' hd';by_cases e:k'=k
    .omega
    .exact absurd hd' (hD.dst k' k o' ok x hk' hk e hkx)
 .refine I.old x sv (fun k o' hk hd=>absurd ⟨k,o',hk,hd⟩ hw) ?_;rw [<-hsv];exact (tr.env_none x i (t1f (c0m hi)) (fun k o' _ hk hd=>hw ⟨k,o',hk,hd⟩)).symm
theorem w0k {x y:Operand} (h:f1e x y=true):∃n,x= .tmp n/\y= .tmp n:=by
 unfold f1e at h;split at h
 all_goals simp_all
theorem l0U {n:Nat} {l:List Oper} (h:k0K (.tmp n) l=true):∀o∈l,o.dst≠some n:=by
 unfold k0K at h;rw [s1E] at h;intro o ho e;have:=h o ho;simp_all
theorem d0V {k:Nat} {o:Oper} (h:l0o ops.toList k o=true):∃ok ty nx ny,ops[k]? =some ok/\ok.op= .lookup ty (.tmp nx) (.tmp ny) false/\o.op= .mapEntry ty (.tmp nx) (.tmp ny)/\e0v ops.toList=1/\∀(w:Nat) ow,k<=w->ops[w]? =some ow->ow.dst≠some nx/\ow.dst≠some ny:=by
 unfold l0o at h;split at h
 .rename_i ok ty x y hn ho;split at h
  .rename_i ty' x' y' hok;simp only [n0M] at h;obtain ⟨⟨⟨⟨⟨h1,h2⟩,h3⟩,h4⟩,h5⟩,h6⟩:=h;have e1:=q0d h1;obtain ⟨nx,rfl,rfl⟩:=w0k h2;obtain ⟨ny,rfl,rfl⟩:=w0k h3;subst e1;rw [b0l] at hn;refine ⟨ok,_,nx,ny,by simp_all,hok,ho,q0d h4,fun w ow hw how=> ?_⟩;have hm:ow∈ops.toList.drop k:=by
    refine s1g.2 ⟨w-k,?_⟩;simp_all
   grind [l0U]
  grind
 grind
theorem l0V:∀{l:List Oper} {o:Oper} {ty:TypeId} {x y:Operand},o∈l->o.op= .mapEntry ty x y->1<=e0v l
 | [],o,ty,x,y,hm,_=>by grind
 |a::l,o,ty,x,y,hm,ho=>by
  simp only [e0v];rcases f1I.1 hm with rfl|hm
  .simp_all
  .have:=l0V hm ho;split<;>omega
theorem h0L:∀{l:List Oper} {i j:Nat} {oi oj:Oper} {ti tj:TypeId} {xi yi xj yj:Operand},e0v l=1->l[i]? =some oi->l[j]? =some oj->oi.op= .mapEntry ti xi yi->oj.op= .mapEntry tj xj yj->i=j
 | [],i,j,oi,oj,_,_,_,_,_,_,hc,hi,_,_,_=>by trivial
 |a::l,i,j,oi,oj,ti,tj,xi,yi,xj,yj,hc,hi,hj,ei,ej=>by
  simp only [e0v] at hc;have pos:∀{k:Nat} {o:Oper} {t:TypeId} {x y:Operand},l[k]? =some o->o.op= .mapEntry t x y->1<=e0v l:=fun h e=>l0V (s1d h) e
  cases i with
  |zero=>
   grind
  |succ i=>
   cases j with
   |zero=>
    grind
   |succ j=>
    have:e0v l=1:=by all_goals grind
    rw [h0L this hi hj ei ej]
theorem n1m {vs:VS} {ti:TI} {m key r:SV} {co:Bool} {U:a0k} {b:Nat} {t:List Nat} (h:(d0u vs ti m key co).is r U b t):U= []:=by
 unfold d0u at h;split at h
 .split at h
  .cases hb: !ti.bld with
   |true=>rw [hb] at h;trivial
   |false=>
    rw [hb,cond_false] at h;split at h
    .exact h.2.1
    trivial
  trivial
 .obtain ⟨ro,bl,_,h⟩:=l0S h;split at h
  .split at h
   .exact (i0w h).2.2.1
   trivial
  trivial
 trivial
theorem w0l {s:VS} {ty:TypeId} {x y:Operand} {co:Bool} {r:SV} {U:a0k} {b:Nat} {t:List Nat} (h:(eff T s s.next (.lookup ty x y co)).is r U b t):∃m k ti,gv s x=some m/\gv s y=some k/\a0M T ty=some ti/\Nat.beq ti.kind 8=true/\(d0u s ti m k co).is r U b t:=by
 simp only [eff] at h;split at h
 .obtain ⟨h4,h5⟩:=i0w h;simp_all
 trivial
theorem k0M {P:Program} {l:List Oper} {o:Oper} {s:VS} {r:SV} {U:a0k} {b:Nat} {t:List Nat} {ty:TypeId} {x y:Operand} {co:Bool} (h:Did P T l o s r U b t) (ho:o.op= .lookup ty x y co):U= []:=by
 rcases h with ⟨_,_,hU,_⟩|⟨_,he|⟨f,al,l0,args0,H,r0,H',n',hco,_⟩⟩
 .omega
 .grind [w0l,n1m]
 .obtain ⟨c,hop⟩:=hco.op;simp_all
theorem k1g {L:Nat->Bool} (tr:Tr P T ops vs K st mid r U b t) (hc:r0R ops L) {i:Nat} {o:Oper} (hi:ops[i]? =some o) (hLi:L i=false) (hr:∀e∈o.after,Region.binds .any e=true->L e.on=true):
  (∀k,k<i->∀h∈a0s (U k),h∈t i->L k=true)/\(∀k,i<k->k<ops.size->L k=true->∃ok,ops[k]? =some ok/\(∀h∈a0s (U k),h∉a0s (U i))/\((∀h∈a0s (U k),h∉t i)\/l0o ops.toList i ok=true)):=by
 refine ⟨?_,?_⟩
 .intro k hk h hh ht;rcases tr.recs1 i o k (conv hi) hk with h1|⟨h1,_,_⟩|h1
  .simp only [s1M,i1z] at h1;exact j0D hc 7 o k h1 hr
  .grind [f0V]
  .simp only [s1M,i1z] at h1;obtain ⟨ok,ty,nx,ny,hok,e1,_⟩:=d0V h1;have:=k0M (tr.did k ok (conv hok)) e1;rw [this] at hh;cases hh
 .intro k hk hks hLk;obtain ⟨ok,hok⟩:=c0n hks;refine ⟨ok,hok,?_⟩;rcases tr.recs1 k ok i (conv hok) hk with h1|⟨_,h2,h3⟩|h1
  .simp only [s1M,i1z] at h1;have:=j0D hc 7 ok i h1 (hc k ok hok hLk);simp_all
  .grind [f0V]
  .simp only [s1M,i1z] at h1;obtain ⟨oi,ty,nx,ny,hoi,e1,_⟩:=d0V h1;have:=k0M (tr.did i oi (conv hoi)) e1;refine ⟨fun h hh hm=> ?_,.inr h1⟩;rw [this] at hm;cases hm
theorem Tr.env_free (tr:Tr P T ops vs K st mid r U b t) {x i:Nat}:∀j,i<=j->j<=ops.size->(∀(w:Nat) ow,i<=w->w<j->ops[w]? =some ow->ow.dst≠some x)->a0M (st j).env x=a0M (st i).env x:=by
 intro j;induction j with
 |zero=>simp_all
 |succ j ih=>
  intro h1 h2 h3;rcases i1B i (j+1) with h|h
  .obtain ⟨o,ho⟩:=c0n (ops:=ops) (i:=j) (by omega);rw [tr.env ho,if_neg (h3 j o (by omega) (by omega) ho)];grind
  grind
theorem Tr.heap_free (tr:Tr P T ops vs K st mid r U b t) {h i:Nat}:∀j,i<=j->j<=ops.size->(∀w,i<=w->w<j->h∉a0s (U w))->a0w (st j).heap h=a0w (st i).heap h:=by
 intro j;induction j with
 |zero=>simp_all
 |succ j ih=>
  intro h1 h2 h3;rcases i1B i (j+1) with hh|hh
  .obtain ⟨o,ho⟩:=c0n (ops:=ops) (i:=j) (by omega);rw [tr.next j o (conv ho)];rw [b0a,if_neg (h3 j (by omega) (by omega))];grind
  grind
theorem f1G {x:Operand} {o:Oper} {n:Nat} (hx:x∈o.op.operands.toList) (e:x= .tmp n):n∈looks ops.toList o:=by
 grind [looks,o0z]
theorem f1H {L:Nat->Bool} {g:G} {a:Act} {w:World} {Q:Exit->Act->World->Prop} {N:Act->World->Prop} (hT:b0t P T) (tr:Tr P T ops vs K st mid r U b t) (hD:Draw ops) (hdst:f0P C.N ops.toList=true) (hlo:C.n0<=vs.next) (I:InvD C ops vs st r U b L g a w) (hc:r0R ops L) {i:Nat} {o:Oper} (hi:ops[i]? =some o) (hLi:L i=false)
  (hr:∀e∈o.after,Region.binds .any e=true->L e.on=true) (hN:∀g' a' w',InvD C ops vs st r U b (p0V L i) g' a' w'->N a' w'):wpOp P ops Q i N a w:=by
 have hlt:=c0m hi;have hdi:∀d,o.dst=some d->d<a.tmps.size:=by
  intro d e;rw [I.size];have:∀(l:List Oper),f0P C.N l=true->o∈l->d<C.N:=by
   intro l;induction l with
   |nil=>simp
   |cons y l ih=>
    intro h hm;simp only [f0P,n0M] at h;rcases f1I.1 hm with e'|hm
    .subst e';have:=h.1;rw [e] at this;exact s1C this
    simp_all
  grind
 obtain ⟨p1,p2⟩:=k1g tr hc hi hLi hr;obtain ⟨m1,m2,m3⟩:=tr.mids i o (conv hi);have fin:∀v g' w',After g (d0H vs.heap U L ops.size) (st i).next w (r i) (U i) (b i) g' v w'->InvD C ops vs st r U b (p0V L i) g' (a.put o.dst v) w':=by
  intro v g' w' A;have hext:=a1V (H:=vs.heap) (U:=U) hlt hLi (fun k h1 h2 h3 h hh=>by grind);obtain ⟨f1,f2⟩:=w0b A I.fr I.own;have hnx:(st i).next+b i<=(st ops.size).next:=by rw [<-tr.next_step hi];exact tr.next_mono (i+1) ops.size hlt (m0c _)
  have hni:C.n0<=(st i).next:=by have:=tr.next_mono 0 i (by omega) (by omega);rw [tr.zero] at this;omega
  have getp:∀x,o.dst≠some x->(a.put o.dst v).tmps.getD x undef=a.tmps.getD x undef:=by
   intro x hx;cases hd:o.dst with
   |none=>rfl
   |some d=>simp_all [Act.put]
  refine ⟨?_,?_,k0L.1.trans I.size,k0L.2.trans I.defers,?_,?_,?_,?_,r0V hext A.heap,f1,w0j hext f2⟩
  .intro x sv hk hsv;have hx:o.dst≠some x:=fun e=>by grind [p0V]
   rw [getp x hx];refine Rv.mono A.le _ _ (I.old x sv (fun k o' hk' hd'=> ?_) hsv);simp_all [p0V]
  .intro k ok x hk hkx hLk;by_cases e:k=i
   .subst e;rw [hi] at hk;cases hk;rw [hkx];simp only [Act.put];rw [i0s (hdi x hkx)];exact A.rv
   .have hx:o.dst≠some x:=hD.dst i k o ok x hi hk (Ne.symm e) hkx;rw [getp x hx];refine Rv.mono A.le _ _ (I.new k ok x hk hkx ?_);simpa [p0V,e] using hLk
  .intro q;obtain ⟨es,cap,e⟩:=I.glob q;exact ⟨es,cap,A.le _ _ _ e⟩
  .intro h q hh;exact A.born h q (I.upto h q hh) (by omega)
  .intro k hk hLk h q h1 h2;have hki:k≠i:=by simp_all [p0V]
   have hLk':L k=false:=by simp_all [p0V]
   refine A.born h q (I.unborn k hk hLk' h q h1 h2) ?_;rintro ⟨h3,h4⟩;obtain ⟨ok,hok⟩:=c0n hk;rcases i1B k i with h5|h5
   .have h6:=tr.next_mono (k+1) i (by omega) (by omega);rw [tr.next_step hok] at h6;omega
   .have h6:=tr.next_mono (i+1) k (by omega) (by omega);rw [tr.next_step hi] at h6;omega
  .intro h q hh;rw [<-I.keep h q hh];cases e:g h q with
   |some β=>exact A.le _ _ _ e
   |none=>exact A.born h q e (by omega)
 let S:VS:=⟨p0W (st i).env (looks ops.toList o),d0H vs.heap U L ops.size,(st i).next⟩
 have hSe:c0c g S a:=by
  intro x sv hx;obtain ⟨h1,h2⟩:=i0x _ _ _ _ hx;grind [p0X]
 have hgv:∀x∈o.op.operands.toList,gv S x=gv (mid i) x:=by
  intro x hx;cases x with
  |tmp n=>simp only [gv,S];rw [l0T _ _ _ (f1G hx rfl),m1]
  |const v=>rfl
  |func f=>rfl
  |global n=>rfl
 have hhp:(∀k,i<k->k<ops.size->L k=true->∀h∈a0s (U k),h∉t i)->∀h∈t i,a0w S.heap h=a0w (mid i).heap h:=by
  intro hnx h hh;rw [m2];refine tr.heap_at (t1f hlt) (fun k hk hm=>p1 k hk h hm hh) (fun k hk hks hLk hm=> ?_);grind
 have gslot:∀j want oj d,o.guard=some (j,want)->nth ops.toList j=some oj->oj.dst=some d->d∈looks ops.toList o:=by
  simp_all [looks,d0m]
 unfold wpOp;rw [hi];simp only;rcases tr.did i o (conv hi) with ⟨⟨j,want,oj,d,hg,hj,hd,hv⟩,hr0,hU0,hb0,ht0⟩|⟨hgd,hex⟩
 .
  have hw:Region.wanted o (yielded ops a.tmps)=false:=by
   have hdl:=gslot j want oj d hg hj hd;rcases hv with ⟨c,hc1,hc2⟩|⟨x,hx⟩
   .have:=p0X tr hD I hc hi hLi hr hdl (by rw [<-m1];omega);have hy:=e0i hj hd (rbv this);simp_all [Region.wanted]
   .have:=p0X tr hD I hc hi hLi hr hdl (by rw [<-m1];omega);simp_all [Rv,Region.wanted,k0r]
  rw [if_neg (by grind)];refine hN g _ _ (fin undef g w ?_);rw [hr0,hU0,hb0];exact e0E I.heap (by rfl)
 .have hw:Region.wanted o (yielded ops a.tmps)=true:=by
   rcases hgd with hg|⟨j,want,oj,d,hg,hj,hd,hv⟩
   .simp [Region.wanted,hg]
   .have:=p0X tr hD I hc hi hLi hr (gslot j want oj d hg hj hd) (by rw [<-m1];omega);grind [Region.wanted,e0i,rbv]
  rw [if_pos hw];left;have hun:∀h q,(st i).next<=h->h<(st i).next+b i->g h q=none:=fun h q h1 h2=>I.unborn i hlt hLi h q h1 h2
  rcases hex with he|⟨f,al,l0,args0,H,r0,H',n',hco,hfc,hfit,er,eU,eb,et⟩
  .have he':(eff T S S.next o.op).is (r i) (U i) (b i) (t i):=by
    by_cases hnx:∀k,i<k->k<ops.size->L k=true->∀h∈a0s (U k),h∉t i
    .grind [a1S]
    .obtain ⟨k0,hk0,hks,hLk,hx⟩:∃k,i<k/\k<ops.size/\L k=true/\¬∀h∈a0s (U k),h∉t i:=by
      simp_all
     obtain ⟨ok0,hok0,_,q|hex⟩:=p2 k0 hk0 hks hLk
     .trivial
     obtain ⟨oi,ty,nx,ny,hoi,e1,e2,hone,hfree⟩:=d0V hex;rw [hi] at hoi;cases hoi;have hU0:U i= []:=k0M (tr.did i o (conv hi)) e1;rw [e1] at he⊢;obtain ⟨m,key,ti,g1,g2,g3,g4,hlk⟩:=w0l he;obtain ⟨n1,n2,n3⟩:=tr.mids k0 ok0 (conv hok0);have genv:∀n,(n=nx\/n=ny)->gv (mid k0) (.tmp n)=gv (mid i) (.tmp n):=by
      intro n hn;simp only [gv];rw [n1,m1];refine tr.env_free k0 (t1f hk0) (t1f hks) (fun w ow a _ c=> ?_);grind
     have gS:∀n,(n=nx\/n=ny)->gv S (.tmp n)=gv (mid i) (.tmp n):=by
      intro n hn;refine hgv _ ?_;rw [e1];rcases hn with rfl|rfl<;>simp [Op.operands]
     have hent:(∃r' b',(c0w (mid k0) ti m key).is r' (U k0) b' (t k0)):=by
      rcases tr.did k0 ok0 (conv hok0) with ⟨_,_,hU,_⟩|⟨_,hk|⟨f,al,l0,args0,H,r0,H',n',hco,_⟩⟩
      .simp_all
      .rw [e2] at hk;simp only [eff] at hk;grind
      .obtain ⟨c,hop⟩:=hco.op;simp_all
     obtain ⟨r',b',hent⟩:=hent;have away:∀h∈t i,h∈t k0->∀w,i<=w->w<k0->h∉a0s (U w):=by
      intro h hh ht w hw1 hw2 hm;by_cases ew:w=i
      .subst ew;rw [hU0] at hm;cases hm
      have hws:w<ops.size:=by omega
      obtain ⟨ow,how⟩:=c0n hws;have hlw:L w=true:=by
       rcases tr.recs1 k0 ok0 w (conv hok0) hw2 with q|⟨q,_,_⟩|q
       .simp only [s1M,i1z] at q;exact j0D hc 7 ok0 w q (hc k0 ok0 hok0 hLk)
       .grind [absurd,f0V]
       .simp only [s1M,i1z] at q;obtain ⟨o2,ty2,nx2,ny2,ho2,f1,_⟩:=d0V q;have:=k0M (tr.did w o2 (conv ho2)) f1;rw [this] at hm;cases hm
      obtain ⟨o2,ho2,_,q|q⟩:=p2 w (by omega) hws hlw
      .exact q h hm hh
      .obtain ⟨_,ty2,nx2,ny2,_,_,f2,_⟩:=d0V q;have:=h0L hone (conv ho2) (conv hok0) f2 e2;omega
     have hfin:=y0B (S:=S) hlk hent (fun h hh ht=>by
      rw [n2,m2];exact tr.heap_free k0 (t1f hk0) (t1f hks) (away h hh ht)) (fun h hh ht=>by
      rw [n2];have hn1:U k0++(st k0).heap=(st (k0+1)).heap:=by rw [tr.next k0 ok0 (conv hok0)]
      rw [hn1];refine tr.heap_at hks (fun k hk hm=> ?_) (fun k hk hks2 hLk2 hm=> ?_)
      .rcases t1B k i with q|q|q
       .exact p1 k q h hm hh
       .subst q;rw [hU0] at hm;cases hm
       .by_cases ek:k=k0
        .subst ek;exact hLk
        .exact absurd hm (away h hh ht k (by omega) (by omega))
      .obtain ⟨o2,ho2,_,q|q⟩:=p2 k (by omega) hks2 hLk2
       .exact q h hm hh
       .obtain ⟨_,ty2,nx2,ny2,_,_,f2,_⟩:=d0V q;have:=h0L hone (conv ho2) (conv hok0) f2 e2;omega)
     simp only [eff];simp_all
   obtain ⟨v,w',g',h3,A⟩:=i1s (vs:=S) hT I.glob hSe I.heap hun he';grind [i0t]
  .have hhp:=hhp (fun k a b c=>by
    obtain ⟨o2,ho2,_,q|q⟩:=p2 k a b c
    .exact q
    .obtain ⟨o3,ty2,nx2,ny2,ho3,f1,_⟩:=d0V q;rw [hi] at ho3;cases ho3;obtain ⟨c,hop⟩:=hco.op;rw [hop] at f1;cases f1)
   rw [m3] at hfit er eU;have hco':CallOf P o S f al:=by
    rcases hco with ⟨fo,args,ts,cap,l,hop,hf,hl,e⟩|⟨x,name,args,ts,t,v,l,hop,hx,hl,hm,e⟩
    .refine .inl ⟨fo,args,ts,cap,l,hop,?_,?_,e⟩
     .rw [hgv fo (by rw [hop];simp [Op.operands,Call.operands])];exact hf
     .rw [i0v args.toList (fun x hx=>hgv x (by rw [hop];simp only [Op.operands,Call.operands,s1R,k1q];exact .inr hx))];exact hl
    .refine .inr ⟨x,name,args,ts,t,v,l,hop,?_,?_,hm,e⟩
     .rw [hgv x (by rw [hop];simp [Op.operands,Call.operands])];exact hx
     .rw [i0v args.toList (fun x hx=>hgv x (by rw [hop];simp only [Op.operands,Call.operands,s1R,k1q];exact .inr hx))];exact hl
   have hfit':Fits l0 (st i).next al args0 H S.heap:=by
    refine ⟨hfit.head,hfit.inj,hfit.args,hfit.wfA,hfit.wfH,?_⟩;have:∀(X:a0k),f0O l0.length X->f0B (rho l0 (st i).next) X (mid i).heap->f0B (rho l0 (st i).next) X S.heap:=by
     intro X;induction X with
     |nil=>intro _ _;trivial
     |cons p X ih=>
      obtain ⟨k,ob⟩:=p;cases ob with
      |none=>intro _ h;exact h
      |some hb=>
       intro h1 h2;simp only [f0O] at h1;simp only [f0B] at h2⊢;refine ⟨?_,ih h1.2.2 h2.2⟩;have hk:k<l0.length:=by simpa using h1.1
       rw [hhp (rho l0 (st i).next k) (by rw [et,n1k hk];exact k1j hk)];exact h2.1
    exact this H hfit.wfH hfit.heap
   refine t0Z I.glob I.heap (hco'.run I.glob hSe) hfc hfit' ?_ ?_
   .rintro sv H1 n1 ⟨_,_,rfl⟩ h q h1 h2;exact hun h q h1 (by rw [eb];exact h2)
   .rintro v w' sv H1 n1 g' ⟨rfl,rfl,rfl⟩ A;refine hN g' _ _ (fin v g' w' ?_);rw [er,eU,eb];exact A
end
section
variable {P:Program} {T:Tab} {g:G} {C:Ctx} {vs:VS} {a:Act} {w:World}
theorem r0W:∀(dr:List Nat) (H:a0k) (h:Nat),a0w (i1p dr++H) h=if h∈dr then none else a0w H h
 | [],H,h=>by rfl
 |x::r,H,h=>by
  simp only [i1p,k1p,a0T,r0W r H h];grind
theorem r0X:∀(U:a0k) (h:Nat),¬h∈a0s U->a0w U h=none
 | [],h,_=>rfl
 |(k,v)::r,h,hn=>by
  simp only [a0s,f1I,not_or] at hn;rw [a0T,if_neg (fun e=>hn.1 e.symm)];exact r0X r h hn.2
theorem j0F:∀(cs:List BCol),j0v cs=true->∀c∈cs,c.len=0
 | [],_,c,h=>by grind
 |x::r,h0,c,h=>by
  have key:x.len=0/\j0v r=true:=by
   cases x with
   |sc y=>cases y with
    |ints k l=>cases l<;>simp_all [j0v,BCol.len,Col.len]
    |strs l=>cases l<;>simp_all [j0v,BCol.len,Col.len]
    |bools l=>cases l<;>simp_all [j0v,BCol.len,Col.len]
   |svs l=>cases l<;>simp_all [j0v,BCol.len]
   |own hh ns=>cases ns<;>simp_all [j0v,BCol.len]
   |ptrs hh n=>cases n<;>simp_all [j0v,BCol.len]
   |arrs n k rs=>all_goals trivial
  rcases f1I.1 h with rfl|h
  .omega
  .exact j0F r key.2 c h
theorem k0N {n:Nat} {R:Nat->Nat->Option (Nat×Nat)} {g g1:G} (hle:G.le g g1) (hR:∀h q p,n<=h->R h q=some p->∀β,g p.1 p.2=some β->g1 h q=some β) {sv sv':SV} {v:Value} (h:SLe n R sv sv') (hv:Rv g sv v):Rv g1 sv' v:=h g g1 v hle hR hv
theorem i1v {n:Nat} {R:Nat->Nat->Option (Nat×Nat)} {g g1:G} {β:Base} {ro:Bool} {b b':Blk} {w:World} (hle:G.le g g1) (hR:∀h q p,n<=h->R h q=some p->∀β,g p.1 p.2=some β->g1 h q=some β) (hB:BlkAt g β ro b w) (h:BLe n R b b'):BlkAt g1 β ro b' w:=by
 rcases h with rfl|h
 .exact b0E hB hle (m0c _) (fun _=>rfl)
 cases b with
 |cells l=>
  cases b' with
  |cells l'=>
   obtain ⟨h1,h2⟩:=h;refine ⟨hB.lt,by rw [hB.es];exact h1.symm,trivial,hB.cap,?_,fun i j v hi=>hB.one i j v hi,hB.rw,trivial⟩;intro i j sv' hi hj;obtain ⟨sv,k1,k2⟩:=h2 j sv' hj;obtain ⟨v,v1,v2⟩:=hB.cell i j sv hi k1;grind [k0N]
  |cols _ _=>trivial
  |obj _=>trivial
 |cols m cs=>
  cases b' with
  |cells _=>trivial
  |cols m' cs'=>
   obtain ⟨hm,h1,h2,h3⟩:=h;refine ⟨hB.lt,by rw [hB.es];exact h1.symm,h2 hB.len,fun i hi=>hB.cap i (s1j hi hm),?_,fun i j v hi=>hB.one i j v (s1j hi hm),hB.rw,trivial⟩;intro i j sv' hi hj;simp only [Blk.at] at hj;split at hj
   .rename_i c' hc';obtain ⟨c,k1,k2⟩:=h3 i j c' hi hc';obtain ⟨v,v1,v2⟩:=hB.cell i j (c.at i) (s1j hi hm) (by simp [Blk.at,k1]);grind [k0N]
   trivial
  |obj _=>trivial
 |obj o=>
  cases b' with
  |cells _=>cases o<;>exact h.elim
  |cols _ _=>cases o<;>exact h.elim
  |obj o'=>
   cases o with
   |map ka ea m ks vl bs ck=>
    cases o' with
    |map ka' ea' m' ks' vl' bs' ck'=>
     obtain ⟨rfl,rfl,rfl,rfl,rfl,rfl,h1,h2⟩:=h;obtain ⟨o1,o2,es,o3,M⟩:=hB.obj;refine ⟨hB.lt,hB.es,trivial,fun i hi=>False.elim hi,fun i j sv hi=>False.elim hi,fun i j v hi=>False.elim hi,hB.rw,o1,o2,es,o3,M.size,M.kl,h1 M.vl,M.bl,M.nd,M.lt,?_⟩;intro i e he;obtain ⟨r1,r2,r3⟩:=M.row i e he;refine ⟨r1,r2,k0N hle hR (h2 i ?_) r3⟩;rw [<-M.size];grind
    |_=>trivial
   |_=>cases o'<;>exact h.elim
theorem a1W {e:Env} {H:a0k} {n:Nat} {R:Nat->Nat->Option (Nat×Nat)} {E:Nat->Nat} {N:a0k} {dr:List Nat} {m:Nat} (RL:Rel C g ⟨e,H,n⟩ a w) (L:Relab H n R E N dr m):∃g1,G.le g g1/\Rel C g1 ⟨e,N++(i1p dr++H),n+m⟩ a w:=by
 have hup:∀h q,n<=h->g h q=none:=fun h q hh=>RL.upto h q hh
 obtain ⟨g1,hg1⟩:∃g1:G,g1=fun h q=>if h<n then g h q else if h<n+m then (match R h q with|some p=>g p.1 p.2|none=>some ⟨0,0,E h,0⟩) else none:=⟨_,rfl⟩
 have old:∀h q,h<n->g1 h q=g h q:=fun h q hh=>by simp_all
 have hle:G.le g g1:=by
  intro h q β hb;grind
 have hpn:∀h q p,n<=h->R h q=some p->h<n+m:=fun h q p h1 h2=>L.lim h q p h1 h2
 have hR:∀h q p,n<=h->R h q=some p->∀β,g p.1 p.2=some β->g1 h q=some β:=by
  grind
 have ent:∀h q ro b',Ent (N++(i1p dr++H)) h q ro b'->(h∈a0s N/\Ent N h q ro b')\/(¬h∈a0s N/\¬h∈dr/\Ent H h q ro b'):=by
  rintro h q ro b' ⟨hb,e1,e2⟩;rw [b0a] at e1;by_cases hk:h∈a0s N
  .rw [if_pos hk] at e1;exact .inl ⟨hk,hb,e1,e2⟩
  .rw [if_neg hk,r0W] at e1;by_cases hd:h∈dr
   .simp_all
   .rw [if_neg hd] at e1;exact .inr ⟨hk,hd,hb,e1,e2⟩
 have lt:∀h q ro b,Ent H h q ro b->h<n:=by
  intro h q ro b he;obtain ⟨β,hb,_⟩:=RL.heap.blk h q ro b he;grind
 have src:∀h q ro b',Ent (N++(i1p dr++H)) h q ro b'->∃β,g1 h q=some β/\BlkAt g1 β ro b' w/\(0<β.cap->∃h0 q0 b0,Ent H h0 q0 ro b0/\g h0 q0=some β/\n1d n R h q h0 q0/\(h∈a0s N\/(h0=h/\q0=q/\¬h∈dr/\¬h∈a0s N))):=by
  intro h q ro b' he;rcases ent h q ro b' he with ⟨hk,heN⟩|⟨hk,hd,heH⟩
  .have hro:=L.ro h q ro b' heN;subst hro;rcases L.src h q b' heN with ⟨h0,q0,b0,f1,f2,f3⟩|⟨f1,f2,cs,rfl,f3,f4⟩
   .obtain ⟨β,hb,hB⟩:=RL.heap.blk h0 q0 false b0 f2;refine ⟨β,?_,i1v hle hR hB f3,fun _=>⟨h0,q0,b0,f2,hb,f1,.inl hk⟩⟩;rcases f1 with ⟨x1,rfl,rfl⟩|⟨x1,x2⟩
    all_goals grind
   .refine ⟨⟨0,0,E h,0⟩,?_,?_,fun hc=>by trivial⟩
    .simp_all
    .exact ⟨fun h=>by trivial,f4,j0F cs f3,fun i hi=>by trivial,fun i j sv hi=>by trivial,fun i j v hi=>by trivial,fun _ i j hi=>by trivial,trivial⟩
  .obtain ⟨β,hb,hB⟩:=RL.heap.blk h q ro b' heH;have hl:=lt h q ro b' heH;exact ⟨β,by simp_all,b0E hB hle (m0c _) (fun _=>rfl),fun _=>⟨h,q,b',heH,hb,.inl ⟨hl,rfl,rfl⟩,.inr ⟨rfl,rfl,hd,hk⟩⟩⟩
 refine ⟨g1,hle,?_,RL.size,RL.defers,?_,?_,n1r RL.lo (Nat.le_add_right _ _),?_,⟨?_,?_⟩,RL.fr,?_⟩
 .exact fun t s ht=>Rv.mono hle _ _ (RL.env t s ht)
 .intro q;obtain ⟨es,cap,e1⟩:=RL.glob q;grind
 .intro h q hh;grind
 .intro h q hh;have:=RL.lo;simp only at this;rw [old h q (by omega)];exact RL.keep h q hh
 .grind
 .intro h q h' q' b ro' b' β β' hne he he' hg hg' hc hc';obtain ⟨β1,k1,_,k2⟩:=src h q false b he;obtain ⟨β2,k3,_,k4⟩:=src h' q' ro' b' he';rw [hg] at k1;cases k1;rw [hg'] at k3;cases k3;obtain ⟨h0,q0,b0,x1,x2,x3,x4⟩:=k2 hc;obtain ⟨h0',q0',b0',y1,y2,y3,y4⟩:=k4 hc';refine RL.heap.sep h0 q0 h0' q0' b0 ro' b0' β β' ?_ x1 y1 x2 y2 hc hc';rintro ⟨rfl,rfl⟩;rcases x4 with x4|⟨rfl,rfl,x5,x6⟩
  .rcases y4 with y4|⟨rfl,rfl,y5,y6⟩
   .exact hne (L.inj h q h' q' h0 q0 x4 y4 x3 y3)
   .rcases x3 with ⟨z1,rfl,rfl⟩|⟨z1,z2⟩
    .exact y6 x4
    .exact y5 (L.took h q _ z1 z2)
  .rcases y4 with y4|⟨rfl,rfl,y5,y6⟩
   .rcases y3 with ⟨z1,rfl,rfl⟩|⟨z1,z2⟩
    .exact x6 y4
    .exact x5 (L.took h' q' _ z1 z2)
   .exact hne ⟨rfl,rfl⟩
 .intro h q b β he hg hc;obtain ⟨β1,k1,_,k2⟩:=src h q false b he;rw [hg] at k1;cases k1;obtain ⟨h0,q0,b0,x1,x2,_⟩:=k2 hc;exact RL.own h0 q0 b0 β x1 x2 hc
theorem y0C {ops:Array Oper} {id:Nat} {Q:Exit->Act->World->Prop} {K:VS->Prop} (hm:P.follows .mixedOrders=true) (hT:b0t P T) (hD:Draw ops) (hdst:f0P C.N ops.toList=true) (R:Rel C g vs a w) (h:t0J P T ops.toList ops.toList [] vs K)
  (hq:∀vs' g' a' w',K vs'->Rel C g' vs' a' w'->Q .normal a' w'):(Code.region id ops true).wp P Q a w:=by
 obtain ⟨st,mid,r,U,b,t,tr⟩:=l0P ops.toList [] vs K h;have hKf:K (st ops.size):=by have:=tr.last;omega
 have close:∀(L:Nat->Bool) (g:G) (a:Act) (w:World),(∀(k:Nat) (o:Oper),ops[k]? =some o->L k=true)->InvD C ops vs st r U b L g a w->Q .normal a w:=by
  intro L g a w hall I;have hext:∀h,a0w (st ops.size).heap h=a0w (d0H vs.heap U L ops.size) h:=fun h=>(Tr.heap_at tr (m0c _) (fun k hk _=>by simp_all) (fun k h1 h2=>by omega)).symm
  refine hq _ g a w hKf ⟨?_,I.size,I.defers,I.glob,I.upto,?_,I.keep,r0V hext I.heap,I.fr,w0j hext I.own⟩
  .intro x sv hsv;by_cases hw:∃(k:Nat) (ok:Oper),ops[k]? =some ok/\ok.dst=some x
   .obtain ⟨k,ok,hk,hkx⟩:=hw;rw [Tr.env_some tr hD hk hkx ops.size (c0m hk) (m0c _)] at hsv;cases hsv;exact I.new k ok x hk hkx (hall k ok hk)
   .rw [Tr.env_none tr x ops.size (m0c _) (fun j oj _ hj e=>hw ⟨j,oj,hj,e⟩)] at hsv;exact I.old x sv (fun j oj hj e=>absurd ⟨j,oj,hj,e⟩ hw) hsv
  .have:=Tr.next_mono tr 0 ops.size (by omega) (m0c _);rw [tr.zero] at this;exact n1r R.lo this
 refine wp_region_any hm ?_;have main:∀(fuel:Nat) (listed:Array Bool) (a:Act) (w:World) (g:G),listed.size=ops.size->(listed.toList.countP (fun b=> !b))<=fuel->r0R ops (fun k=>listed.getD k false)->InvD C ops vs st r U b (fun k=>listed.getD k false) g a w->
   wpAny P .any ops Q fuel listed a w:=by
  intro fuel;have stuck:∀(listed:Array Bool),listed.size=ops.size->Region.ready .any ops listed= []->∀(k:Nat) (o:Oper),ops[k]? =some o->listed.getD k false=true:=by
   intro listed hs hr k;induction k using Nat.strongRecOn with
   |_ k ih=>
    intro o ho;cases hl:listed.getD k false with
    |true=>rfl
    |false=>
     exfalso;have hlt:k<listed.size:=by grind
     have hl':listed.getD k true=false:=by
      simp_all
     have:k∈Region.ready .any ops listed:=mem_ready.2 ⟨hl',o,ho,fun e he hb=>by
      have hb':=hD.back k o ho e he hb;grind⟩
     simp_all
  induction fuel with
  |zero=>
   intro listed a w g hs hcnt hc I;have hallt:∀(k:Nat) (o:Oper),ops[k]? =some o->listed.getD k false=true:=by
    intro k o ho;have hlt:k<listed.size:=by grind
    have h0:listed.toList.countP (fun b=> !b)=0:=by omega
    rw [List.countP_eq_zero] at h0;have:=h0 listed[k] (by simp);simp only [Array.getD,hlt,dif_pos];simp_all
   refine ⟨?_,close _ g a w hallt I⟩;cases hr:Region.ready .any ops listed with
   |nil=>rfl
   |cons x xs=>
    have hx:x∈Region.ready .any ops listed:=by simp_all
    obtain ⟨h1,o,ho,_⟩:=mem_ready.1 hx;grind
  |succ fuel ih=>
   intro listed a w g hs hcnt hc I;refine ⟨fun hr=>close _ g a w (stuck listed hs hr) I,?_⟩;intro i hi;obtain ⟨h1,o,ho,h2⟩:=mem_ready.1 hi;have hlt:i<listed.size:=by grind
   have hLi:(fun k=>listed.getD k false) i=false:=by
    simp_all
   refine f1H hT tr hD hdst R.lo I hc ho hLi h2 ?_;intro g' a' w' I';have hL':(fun k=>(listed.setIfInBounds i true).getD k false)=p0V (fun k=>listed.getD k false) i:=by
    funext k;simp only [p0V];by_cases e:k=i
    all_goals simp_all [Array.getD,s1t,t1r,if_neg,Ne.symm]
   refine ih _ a' w' g' (by grind) ?_ ?_ (by simp_all)
   .have a0w:listed[i]=false:=by simp_all [Array.getD]
    grind
   .rw [hL'];intro k ok hk hLk e he hb;simp only [p0V] at hLk⊢;split
    .rfl
    .split at hLk
     .simp_all
     .exact hc k ok hk hLk e he hb
 refine main ops.size _ a _ g (by simp) ?_ ?_ ?_
 .grind [List.replicate,List.countP_le_length]
 .intro i o hi hL;simp [Array.getD] at hL
 .have hno:∀n,d0H vs.heap U (fun k=>(Array.replicate ops.size false).getD k false) n=vs.heap:=by
   intro n;induction n with
   |zero=>rfl
   |succ n ih=>simp_all [d0H,Array.getD]
  refine ⟨fun x sv _ hx=>R.env x sv hx,fun k o x _ _ hL=>by simp [Array.getD] at hL,R.size,R.defers,R.glob,?_,?_,R.keep,?_,⟨R.fr.os,R.fr.tape,R.fr.output,R.fr.size,R.fr.block⟩,?_⟩
  .intro h q hh;have:=Tr.next_mono tr 0 ops.size (by omega) (m0c _);rw [tr.zero] at this;exact R.upto h q (by omega)
  .intro k hk _ h q h1 _;have:=Tr.next_mono tr 0 k (by omega) (by omega);rw [tr.zero] at this;exact R.upto h q (by omega)
  .rw [hno];exact y0q R.heap rfl
  .rw [hno];exact R.own
theorem u0b {c:Code} {Q:Exit->Act->World->Prop} (J:Nat->Act->World->Prop) (n0:Nat) (h₀:J n0 a w)
  (round:∀n a w,J n a w->c.wp P (Exit.then (fun a' w'=>∃m,m<n/\J m a' w') Q) a w):(Code.loop c).wp P Q a w:=by
 intro b k cs;have key:∀n a w,J n a w->∃e a' w',Q e a' w'/\Arrives P (lone (b.at a (.code c:: .inLoop c::k)) cs w) b k cs e a' w':=by
  intro n;induction n using Nat.strongRecOn with
  |_ n ih=>
   intro a w hI;obtain ⟨e,a₁,w₁,hq,harr⟩:=round n a w hI b (.inLoop c::k) cs;cases e with
   |normal=>
    obtain ⟨m,hlt,hI₁⟩:=hq;obtain ⟨e₂,a₂,w₂,hq₂,harr₂⟩:=ih m hlt a₁ w₁ hI₁;exact ⟨e₂,a₂,w₂,hq₂,.of_steps (Steps.trans harr (.one step_inLoop)) harr₂⟩
   |exit id=>exact ⟨_,a₁,w₁,hq,.pass (x:= .inLoop c) rfl (fun _ _=> .inl (by simp)) harr⟩
   |goto l=>exact ⟨_,a₁,w₁,hq,.pass (x:= .inLoop c) rfl (fun _ _=> .inl (by simp)) harr⟩
   |ret=>exact ⟨_,a₁,w₁,hq,.pass (x:= .inLoop c) rfl (fun _ _=> .inl (by simp)) harr⟩
   |panic ch=>exact ⟨_,a₁,w₁,hq,.pass (x:= .inLoop c) rfl (fun _ _=> .inl (by simp)) harr⟩
   |outgrown=>exact ⟨_,a₁,w₁,hq,.pass (x:= .inLoop c) rfl (fun _ _=> .inl (by simp)) harr⟩
 obtain ⟨e,a',w',hq,harr⟩:=key _ a w h₀;exact ⟨e,a',w',hq,.of_steps (.one step_loop) harr⟩
def n1n (ρ:Nat->Nat) (g g0:G):Prop:=∀h q β,g (ρ h) q=some β->g0 h q=some β
mutual
theorem Rv.back {ρ:Nat->Nat} {g g0:G} (hs:n1n ρ g g0):∀(sv:SV) (v:Value),Rv g (SV.ren ρ sv) v->Rv g0 sv v
 | .bool _,_,r=>by simp only [SV.ren,Rv] at r⊢;exact r
 | .int _ _,_,r=>by simp only [SV.ren,Rv] at r⊢;exact r
 | .str _,_,r=>by simp only [SV.ren,Rv] at r⊢;exact r
 | .ptr h q i j,v,r=>by simp only [SV.ren,Rv] at r⊢;obtain ⟨β,e,k⟩:=r;exact ⟨β,hs h q β e,k⟩
 | .nptr,_,r=>by simp only [SV.ren,Rv] at r⊢;exact r
 | .sl h q i m,v,r=>by
   simp only [SV.ren,Rv] at r⊢;obtain ⟨ad,c,e,hn,k⟩:=r;refine ⟨ad,c,e,hn,?_⟩;rcases k with k|⟨β,e1,k⟩
   .exact .inl k
   .exact .inr ⟨β,hs h q β e1,k⟩
 | .nsl,_,r=>by simp only [SV.ren,Rv] at r⊢;exact r
 | .zsl,_,r=>by simp only [SV.ren,Rv] at r⊢;exact r
 | .map h q,v,r=>by simp only [SV.ren,Rv] at r⊢;obtain ⟨β,e,k⟩:=r;exact ⟨β,hs h q β e,k⟩
 | .nmap,_,r=>by simp only [SV.ren,Rv] at r⊢;exact r
 | .fn f l,v,r=>by simp only [SV.ren,Rv] at r⊢;obtain ⟨vs,e,k⟩:=r;exact ⟨vs,e,Rvs.back hs l _ k⟩
 | .iface t s,v,r=>by simp only [SV.ren,Rv] at r⊢;obtain ⟨u,e,k⟩:=r;exact ⟨u,e,Rv.back hs s _ k⟩
 | .nif,_,r=>by simp only [SV.ren,Rv] at r⊢;exact r
 | .agg l,v,r=>by simp only [SV.ren,Rv] at r⊢;obtain ⟨vs,e,k⟩:=r;exact ⟨vs,e,Rvs.back hs l _ k⟩
 | .arr _ _,_,r=>by simp only [SV.ren,Rv] at r⊢;exact r
 | .tup l,v,r=>by simp only [SV.ren,Rv] at r⊢;obtain ⟨vs,e,k⟩:=r;exact ⟨vs,e,Rvs.back hs l _ k⟩
 | .raw _,_,r=>by simp only [SV.ren,Rv] at r⊢;exact r
 | .unk,_,_=>by simp only [Rv]
theorem Rvs.back {ρ:Nat->Nat} {g g0:G} (hs:n1n ρ g g0):∀(l:List SV) (vs:List Value),Rvs g (SV.rens ρ l) vs->Rvs g0 l vs
 | [],_,r=>by simp only [SV.rens,Rvs] at r⊢;exact r
 |s::l,vs,r=>by
  simp only [SV.rens,Rvs] at r⊢;obtain ⟨v,vs',e,h1,h2⟩:=r;exact ⟨v,vs',e,Rv.back hs s v h1,Rvs.back hs l vs' h2⟩
end
theorem u0c {ρ:Nat->Nat} {g g0:G} (hs:n1n ρ g g0) {β:Base} {b:Blk} {w:World} (h:(b.ren ρ).Ok g w β):b.Ok g0 w β:=by
 cases b with
 |obj o=>
  refine ⟨h.1,h.2.1,?_⟩;have h:=h.2.2;cases o with
  |map ka ea m ks vs bs ck=>
   obtain ⟨es,e,k⟩:=h;exact ⟨es,e,k.size,k.kl,(h0K ρ).1 k.vl,k.bl,k.nd,k.lt,fun i x hx=>⟨(k.row i x hx).1,(k.row i x hx).2.1,Rv.back hs _ _ (by rw [<-l0J];exact (k.row i x hx).2.2)⟩⟩
  |iter h0 q a b c=>
   obtain ⟨β',e1,e⟩:=h;exact ⟨β',hs h0 q β' e1,e⟩
  |niter=>exact h
  |siter s p=>exact h
  |bld0 T=>exact h
  |bld T h0 q n=>
   obtain ⟨β',e1,e⟩:=h;exact ⟨β',hs h0 q β' e1,e⟩
  |brow T s=>exact h
  |bag Q=>exact h
 |_=>trivial
theorem o0A {ρ:Nat->Nat}:∀(e0 e:Env),f0b ρ e0 e->∀t sv,a0M e0 t=some sv->a0M e t=some (SV.ren ρ sv)
 | [],e,_,t,sv,h=>by trivial
 |(k,s)::r,e,hw,t,sv,h=>by
  simp only [f0b] at hw;rw [c0i] at h;split at h
  .simp_all
  .exact o0A r e hw.2 t sv h
theorem l0W {ρ:Nat->Nat}:∀(e0 e:a0k),b0D ρ e0 e->∀h q ro b,Ent e0 h q ro b->Ent e (ρ h) q ro (b.ren ρ)
 | [],e,_,h,q,ro,b,he=>by obtain ⟨hb,x,_⟩:=he;trivial
 |(k,some hb)::r,e,hw,h,q,ro,b,he=>by
  rcases a0v.1 he with ⟨rfl,hb',e1,e2,e3⟩|⟨_,he⟩
  .cases e1;exact ⟨hb.ren ρ,hw.1,HB.ren_is.2 ⟨b,e2,rfl⟩,by rw [HB.ren_ro];omega⟩
  .exact l0W r e hw.2 h q ro b he
 |(k,none)::r,e,hw,h,q,ro,b,he=>by trivial
theorem r0Y:∀(n:Nat) (l:List Nat),f0C n l=true->∀h,h<n->l[h]? =some h
 |0,l,_,h,hh=>by omega
 |n+1,l,hi,h,hh=>by
  simp only [f0C,n0M] at hi;rcases i1B h n with h1|h1
  .exact r0Y n l hi.2 h h1
  .have:h=n:=by omega
   have h2:=hi.1;split at h2
   all_goals simp_all [b0l]
theorem p0Y {l:List Nat} {n1:Nat} {H0:a0k} (R:Rel C g vs a w) (ids:(Nat.ble 1 C.n0&&Nat.ble C.n0 l.length&&f0C C.n0 l&&Nat.beq l.length n1&&j0u l vs.next&&p0y (rho l vs.next) H0 H0)=true) (hh:b0D (rho l vs.next) H0 vs.heap):
  ∃g0:G,n1n (rho l vs.next) g g0/\g0.glob/\g0.upto n1/\C.n0<=n1/\(∀h q,h<C.n0->g0 h q=C.g h q)/\Holds g0 H0 w/\a1g g0 H0 C.W C.w:=by
 simp only [n0M] at ids;obtain ⟨⟨⟨⟨⟨i1,i2⟩,i3⟩,i5⟩,i6⟩,i4⟩:=ids;have e1:=s1C i1;have e2:=s1C i2;have e5:=q0d i5;let ρ:=rho l vs.next
 have hid:∀h,h<C.n0->ρ h=h:=by
  grind [rho,r0Y,b0l]
 let g0:G:=fun h q=>g (ρ h) q
 have hB:n1n ρ g g0:=fun h q β e=>e
 have hup:g0.upto n1:=by
  intro h q hh;simp only [g0];have:ρ h=vs.next+(h-l.length):=i1t (by omega)
  exact R.upto _ q (by omega)
 have hent:∀h q ro b,Ent H0 h q ro b->h<l.length/\∃β,Ent vs.heap (ρ h) q ro (b.ren ρ)/\g (ρ h) q=some β/\BlkAt g β ro (b.ren ρ) w:=by
  intro h q ro b he;have h1:=l0W H0 vs.heap hh h q ro b he;obtain ⟨β,h2,h3⟩:=R.heap.blk _ _ _ _ h1;refine ⟨?_,β,h1,h2,h3⟩;rcases i1B h l.length with h4|h4
  .omega
  .have:g0 h q=none:=hup h q (by omega);grind
 have hinj:∀h q b h' q' ro' b',Ent H0 h q false b->Ent H0 h' q' ro' b'->ρ h=ρ h'->h=h':=by
  intro h q b h' q' ro' b' he he' e;by_cases e':h=h'
  .omega
  .obtain ⟨hb,m1,m2⟩:=j0A H0 h q false b he;obtain ⟨hb',m3,_⟩:=j0A H0 h' q' ro' b' he';exact absurd e (p0N H0 i4 h hb m1 m2 h' (some hb') m3 (Ne.symm e'))
 refine ⟨g0,hB,?_,hup,by omega,?_,⟨?_,?_⟩,?_⟩
 .intro q;obtain ⟨es,cap,e⟩:=R.glob q;grind
 .intro h q hh;simp only [g0];rw [hid h hh];exact R.keep h q hh
 .intro h q ro b he;obtain ⟨_,β,_,h2,h3⟩:=hent h q ro b he;refine ⟨β,h2,h3.lt,by rw [h3.es,Blk.ren_es],(Blk.ren_len ρ b).1 h3.len,fun i hi=>h3.cap i ((Blk.ren_has ρ b i).2 hi),?_,fun i j v hi=>h3.one i j v ((Blk.ren_has ρ b i).2 hi),h3.rw,u0c hB h3.obj⟩;intro i j sv hi hj;obtain ⟨v,k1,k2⟩:=h3.cell i j (SV.ren ρ sv) ((Blk.ren_has ρ b i).2 hi) (by rw [Blk.ren_at,hj];rfl);grind [Rv.back]
 .intro h q h' q' b ro' b' β β' hne he he' hg hg' hc hc';obtain ⟨h1,β1,h2,h3,_⟩:=hent h q false b he;obtain ⟨k1,β2,k2,k3,_⟩:=hent h' q' ro' b' he';exact R.heap.sep (ρ h) q (ρ h') q' _ ro' _ β β' (fun e=>hne ⟨hinj h q b h' q' ro' b' he he' e.1,e.2⟩) h2 k2 hg hg' hc hc'
 .intro h q b β he hg hc;obtain ⟨h1,β1,h2,h3,_⟩:=hent h q false b he;exact R.own (ρ h) q _ β h2 hg hc
theorem a1Y {v:SV} {x:Value} (h:v.none=true) (hv:Rv g v x):∃ad,x= .slice ad 0 0:=by
 cases v<;>simp [SV.none] at h<;>simp only [Rv] at hv
 all_goals simp_all
theorem w0m {e:Env} {H:a0k} {n:Nat} {cs:List BCol} (R:Rel C g ⟨e,H,n⟩ a w) (hl:j0v cs=true):Rel C (g.add n ⟨0,0,cs.length,0⟩) ⟨e,(n,some (.one false (.cols 0 cs)))::H,n+1⟩ a w:=by
 have hn:∀q,g n q=none:=fun q=>R.upto n q (m0c _)
 have A:=l0r (r:= .unk) (v:=undef) (nx:=n) (b1:= .cols 0 cs) (β1:=⟨0,0,cs.length,0⟩) (w':=w) R.heap hn (by trivial) (by
  refine ⟨fun h=>by trivial,rfl,j0F cs hl,fun i hi=>by trivial,fun i j sv hi=>by trivial,fun i j v hi=>by trivial,fun _ i j hi=>by trivial,trivial⟩) (fun h=>by trivial) rfl rfl rfl (m0c _) (fun _ _=>rfl)
 have:=b0F (o:=⟨none,.ready 0,0,"",#[],none⟩) R A (by simp);trivial
theorem a1Z {n:Nat} {β:Base}:(g.add n β) n 0=some β:=by simp [G.add]
theorem n1o {u:Up} {v1:VS} (R:Rel C g vs a w) (h:up1 u vs=some v1):∃g1,G.le g g1/\Rel C g1 v1 a w:=by
 obtain ⟨e,H,n⟩:=vs;cases u with
 |slot t cs=>
  simp only [up1] at h;split at h
  .rename_i v hv;cases hc:(v.none&&j0v cs) with
   |false=>simp_all
   |true=>
    rw [hc] at h;simp only [cond_true,injEq] at h;subst h;simp only [n0M] at hc;have R1:=w0m R hc.2;refine ⟨_,G.le_add _ (R.upto n 0 (m0c _)),?_,R1.size,R1.defers,R1.glob,R1.upto,R1.lo,R1.keep,R1.heap,R1.fr,R1.own⟩;intro x sv hx;rw [c0i] at hx;split at hx
    .rename_i e';subst e';simp only [injEq] at hx;subst hx;obtain ⟨ad,e1⟩:=a1Y hc.1 (R.env t v hv);simp only [Rv];grind
    .exact R1.env x sv hx
  grind
 |cell hh j cs=>
  simp only [up1] at h;split at h
  .rename_i l hl;split at h
   .rename_i v hv;cases hc:(v.none&&j0v cs) with
    |false=>simp_all
    |true=>
     rw [hc] at h;simp only [cond_true,injEq] at h;subst h;simp only [n0M] at hc;have R1:=w0m R hc.2;generalize hg1:g.add n ⟨0,0,cs.length,0⟩=g1 at R1;have hne:n≠hh:=by
      intro e';subst e';obtain ⟨β,hb,_⟩:=R.heap.blk n 0 false (.cells l) ⟨_,hl,⟨rfl,rfl⟩,rfl⟩;rw [R.upto n 0 (m0c _)] at hb;grind
     have hent:Ent ((n,some (.one false (.cols 0 cs)))::H) hh 0 false (.cells l):=a0v.2 (.inr ⟨hne,_,hl,⟨rfl,rfl⟩,rfl⟩);obtain ⟨β,hβ,hB⟩:=R1.heap.blk _ _ _ _ hent;have hset:b0c ((n,some (.one false (.cols 0 cs)))::H) hh 0 (.cells (b0s l j (.sl n 0 0 0)))= [(hh,some (.one false (.cells (b0s l j (.sl n 0 0 0)))))]:=by
      have:a0w ((n,some (.one false (.cols 0 cs)))::H) hh=some (.one false (.cells l)):=by simp_all [a0T]
      rw [f0a this];rfl
     have A:=d0n (r:= .unk) (v:=undef) (nx:=n+1) (b1:= .cells (b0s l j (.sl n 0 0 0))) (w':=w) R1.heap hent hβ (hB.cap 0 rfl) (by trivial) (by
      refine ⟨hB.lt,by rw [hB.es];simp [Blk.es,d0F],trivial,hB.cap,?_,fun i j v hi=>hB.one i j v hi,hB.rw,trivial⟩;intro i x sv hi hx;simp only [Blk.at] at hx;have hs:=h0G [SV.sl n 0 0 0] l j x (by have:=c0j hv;trivial);simp only [b0k] at hs;rw [hs] at hx;split at hx
      .rename_i hc';simp only [m1T] at hc';have:x=j:=by omega
       subst this;simp only [s1N,nth,injEq] at hx;subst hx;obtain ⟨u,u1,u2⟩:=hB.cell i x v hi hv;obtain ⟨ad,e1⟩:=a1Y hc.1 u2;simp only [Rv];grind
      .exact hB.cell i x sv hi hx) rfl rfl rfl (m0c _) (fun _ _ _=>rfl)
     have R2:=b0F (o:=⟨none,.ready 0,0,"",#[],none⟩) R1 A (by simp);rw [hset] at R2;exact ⟨g1,by rw [<-hg1];exact G.le_add _ (R.upto n 0 (m0c _)),by trivial⟩
   grind
  grind
 |relab R E N dr m=>trivial
theorem r0Z:∀(us:List Up) (vs:VS) (g:G) (K:VS->Prop),Rel C g vs a w->upK us vs K->∃g1 v1,Rel C g1 v1 a w/\G.le g g1/\K v1
 | [],vs,g,K,R,h=>⟨g,vs,R,G.le.refl g,h⟩
 |u::us,vs,g,K,R,h=>by
  have key:∀v1,up1 u vs=some v1->upK us v1 K->∃g1 v1,Rel C g1 v1 a w/\G.le g g1/\K v1:=by
   intro v1 hv h;obtain ⟨g1,hle,R1⟩:=n1o R hv;obtain ⟨g2,v2,R2,hle2,hk⟩:=r0Z us v1 g1 K R1 h;exact ⟨g2,v2,R2,hle.trans hle2,hk⟩
  cases u with
  |relab R' E N dr m=>
   simp only [upK] at h;rw [i0r] at h;obtain ⟨g1,hle,R1⟩:=a1W R h.1;obtain ⟨g2,v2,R2,hle2,hk⟩:=r0Z us _ g1 K R1 h.2;exact ⟨g2,v2,R2,hle.trans hle2,hk⟩
  |slot t cs=>
   grind [upK]
  |cell hh j cs=>
   grind [upK]
theorem i1w (us:List Up) (vs:VS) (g:G) (K:VS->Prop) (R:Rel C g vs a w) (h:upK us vs K):∃g1 v1,Rel C g1 v1 a w/\K v1:=
 let ⟨g1,v1,R1,_,hk⟩:=r0Z us vs g K R h;⟨g1,v1,R1,hk⟩
theorem w0n {v0:VS} {l:List Nat} (R:Rel C g vs a w) (hw:Weak C.n0 l vs v0):∃g0,Rel C g0 v0 a w:=by
 obtain ⟨g0,hB,h1,h2,h3,h4,h5,h6⟩:=p0Y R hw.ids hw.heap;exact ⟨g0,fun t sv ht=>Rv.back hB sv _ (R.env t _ (o0A _ _ hw.env t sv ht)),R.size,R.defers,h1,h2,h3,h4,h5,R.fr,h6⟩
theorem a0Y (hm:P.follows .mixedOrders=true) (hT:b0t P T):∀(c:Code) (vs:VS) (g:G) (a:Act) (w:World) (K:Exit->VS->Prop) (Q:Exit->Act->World->Prop),c0r C.N c=true->Rel C g vs a w->b0x P T C.n0 c vs K->
  (∀e vs' g' a' w',K e vs'->Rel C g' vs' a' w'->Q e a' w')->c.wp P Q a w
 | .skip,vs,g,a,w,K,Q,_,R,h,hq=>wp_skip (hq _ _ _ _ _ h R)
 | .region id ops draw,vs,g,a,w,K,Q,ho,R,h,hq=>by
   simp only [c0r] at ho;simp only [b0x] at h;grind [wp_region_list,u0a,y0C,k1a]
 | .seq x y,vs,g,a,w,K,Q,ho,R,h,hq=>by
   simp only [c0r,n0M] at ho;refine wp_seq (a0Y hm hT x vs g a w _ _ ho.1 R h ?_);intro e vs' g' a' w' k1 k2;cases e with
   |normal=>exact a0Y hm hT y vs' g' a' w' K Q ho.2 k2 k1 hq
   |_=>exact hq _ _ _ _ _ k1 k2
 | .cond c x y,vs,g,a,w,K,Q,ho,R,h,hq=>by
   simp only [c0r,n0M] at ho;simp only [b0x] at h;split at h
   .rename_i t b hb;have hv:a.eval (.tmp t)= .bool b:=rbv (a0F R.glob R.env hb);refine wp_cond_split hv (fun e'=> ?_) (fun e'=> ?_)
    .subst e';exact a0Y hm hT x _ g a w K Q ho.1 (i0u R hb) ((j0q h).1 rfl) hq
    .subst e';exact a0Y hm hT y _ g a w K Q ho.2 (i0u R hb) ((j0q h).2 rfl) hq
   .refine wp_cond_split (t:=true) rfl (fun _=>a0Y hm hT x _ g a w K Q ho.1 R h hq) (fun e'=>by grind)
   .refine wp_cond_split (t:=false) rfl (fun e'=>by grind) (fun _=>a0Y hm hT y _ g a w K Q ho.2 R h hq)
   trivial
 | .block id c,vs,g,a,w,K,Q,ho,R,h,hq=>by
   refine wp_block (a0Y hm hT c vs g a w _ _ ho R h ?_);intro e vs' g' a' w' k1 k2;cases e with
   |exit i=>
    simp only [Exit.inBlock];by_cases hi:i=id
    .have hbb:Nat.beq i i=true:=Nat.beq_refl i;grind [a1t]
    .have:Nat.beq i id=false:=by
      cases hb:Nat.beq i id with
      |true=>simp_all
      |false=>rfl
     grind [a1t]
   |_=>exact hq _ _ _ _ _ k1 k2
 | .loop c,vs,g,a,w,K,Q,ho,R,h,hq=>by
   obtain ⟨α,st,inv,μ,x0,l0,u0,hw,hI,hr⟩:=h;obtain ⟨gu,vu,Ru,hw⟩:=i1w u0 vs g _ R hw;obtain ⟨g0,R0⟩:=w0n Ru hw;refine u0b (fun n a w=>∃x g',μ x=n/\inv x/\Rel C g' (st x) a w) (μ x0) ⟨x0,g0,rfl,hI,R0⟩ ?_;rintro n a1 w1 ⟨x,g1,rfl,hx,R1⟩;refine a0Y hm hT c (st x) g1 a1 w1 _ _ ho R1 (hr x hx) ?_;intro e vs' g' a' w' k1 k2;cases e with
   |normal=>
    obtain ⟨y,l,u,h1,h2,h3⟩:=k1;obtain ⟨gu,vu,Ru,h3⟩:=i1w u vs' g' _ k2 h3;obtain ⟨g2,R2⟩:=w0n Ru h3;exact ⟨μ y,h2,y,g2,rfl,h1,R2⟩
   |_=>exact hq _ _ _ _ _ k1 k2
 | .exit id,vs,g,a,w,K,Q,_,R,h,hq=>wp_exit (hq _ _ _ _ _ h R)
 | .label _,vs,g,a,w,K,Q,_,R,h,hq=>wp_label (hq _ _ _ _ _ h R)
 | .scope c,vs,g,a,w,K,Q,hok,R,h,hq=>by
   refine wp_scope_straight (a0Y hm hT c vs g a w _ _ hok R h ?_);intro e vs' g' a' w' h1 h2;cases e<;>first|exact h1.elim|exact hq _ _ _ _ _ h1 h2
 | .ret,vs,g,a,w,K,Q,_,R,h,hq=>wp_ret (hq _ _ _ _ _ h R)
 | .rangeFunc _ _ _ _,vs,g,a,w,K,Q,_,R,h,hq=>by trivial
 | .goto _,vs,g,a,w,K,Q,_,R,h,hq=>by trivial
 | .refuse _,vs,g,a,w,K,Q,_,R,h,hq=>by trivial
def y0D (tmps:Array Value):ResultVar->Sem Value
 | .tmp t=>pure (tmps.getD t undef)
 | .cell a t=>do loadVar t (<-asAddr (tmps.getD a undef))
theorem u0d (hT:b0t P T) (R:Rel C g vs a w):∀(rs:List ResultVar) (K:List SV->Prop),y0j T vs rs K->
  ∃svs vals,K svs/\Rvs g svs vals/\(rs.mapM (m:=Sem) (y0D a.tmps)).run P w= .ok vals w
 | [],K,h=>⟨[],[],h,by rfl,by simp⟩
 | .tmp t::rs,K,h=>by
   simp only [y0j] at h;split at h
   .rename_i v hv;obtain ⟨svs,vals,h1,h2,h3⟩:=u0d hT R rs _ h;refine ⟨v::svs,a.tmps.getD t undef::vals,h1,by exact ⟨_,_,rfl,R.env t v hv,h2⟩,?_⟩;simp_all [y0D]
   trivial
 | .cell x ty::rs,K,h=>by
   simp only [y0j] at h;split at h
   .rename_i hd q i j ti hx hti;obtain ⟨sv,U,b,t,h1,h2⟩:=t0Y h;obtain ⟨svs,vals,k1,k2,k3⟩:=u0d hT R rs _ h2;have hld:(eff T vs vs.next (.load ty (.tmp x))).is sv U b t:=by
     simp_all [eff,gv]
    obtain ⟨rfl,rfl,v,hr,hy⟩:=r0u hT R.glob R.env R.heap hld;obtain ⟨β,hβ,hpv⟩:=rpv (R.env x _ hx);have hran:=hy ⟨none,.load ty (.tmp x),ty,"",#[],none⟩ rfl;have hrun:(loadVar ty (β.addr i j)).run P w= .ok v w:=by
     simp only [execOp,Instr.loadAt,Act.eval,Instr.sureAddr] at hran;cases hl:(loadVar ty (β.addr i j)).run P w with
     |ok u w1=>simp_all
     |halt hh w1=>simp_all
    refine ⟨sv::svs,v::vals,k1,by simp only [Rvs];grind,?_⟩;simp_all [y0D,asAddr]
   trivial
theorem y0E (fn:Func) (tmps:Array Value):results fn tmps=(do let vs<-fn.results.mapM (y0D tmps);pure (if h:vs.size=1 then vs[0] else .tuple vs)):=by
 rfl
theorem p0Z:∀(args:List SV) (vals:List Value) (i:Nat),Rvs g args vals->∀t sv,a0M (l0q i args) t=some sv->i<=t/\∃v,vals[t-i]? =some v/\Rv g sv v
 | [],vals,i,_,t,sv,h=>by trivial
 |s::args,vals,i,hr,t,sv,h=>by
  obtain ⟨v,vs',e,h1,h2⟩:=hr;simp only [l0q] at h;rw [c0i] at h;split at h
  .simp_all
  .obtain ⟨k1,u,k2,k3⟩:=p0Z args vs' (i+1) h2 t sv h;grind
theorem o0B (hT:b0t P T) (R:Rel C g vs a w) {fn:Func} {K:List SV->Prop} (h:y0j T vs fn.results.toList K):
  ∃svs v,K svs/\Rv g (c0g svs) v/\(results fn a.tmps).run P w= .ok v w:=by
 obtain ⟨svs,vals,h1,h2,h3⟩:=u0d hT R fn.results.toList K h;rw [y0E];have hrun:(fn.results.mapM (m:=Sem) (y0D a.tmps)).run P w= .ok vals.toArray w:=by
  rw [Array.mapM_eq_mapM_toList,Sem.run_map,h3];rfl
 simp only [k1h,hrun];refine ⟨svs,_,h1,?_,rfl⟩
 match svs,h2 with
 | [],h2=>
   simp_all [Rvs,c0g,Rv]
 | [s],h2=>
   grind [Rvs,c0g]
 |s::t::r,h2=>
  have hl:=Rvs.length _ _ h2;simp_all [c0g,Rv]
theorem n1p (hm:P.follows .mixedOrders=true) (hT:b0t P T) {n:Nat} {f:FuncId} {fn:Func} {c:Code} (hf:P.funcs[f]? =some fn) (hb:fn.body=some c) (hname:(fn.name=="runtime.NumGoroutine")=false) {args:List SV} {H:a0k} {post:SV->a0k->Nat->Prop}
  (hN:Nat.ble args.length fn.ntmps=true) (hok:c0r fn.ntmps c=true) (h:b0x P T n c ⟨l0q 0 args,H,n⟩ (n1e T n fn.results.toList post)):FC P n f args H post:=by
 refine .inl ⟨⟨fn,c,hf,hb,hname⟩,?_⟩;intro g w vals hg hup hH hv;refine calls_of_wp hf hb ?_;have hlen:=Rvs.length _ _ hv;have hNle:=s1C hN;let C:Ctx:=⟨g,n,w,f0z g H,fn.ntmps,[]⟩
 have R:Rel C g ⟨l0q 0 args,H,n⟩ { tmps:=vals.toArray++Array.replicate (fn.ntmps-vals.toArray.size) undef,defers:= []} w:=by
  refine ⟨?_,?_,rfl,hg,hup,m0c _,fun _ _ _=>rfl,hH,Fr.refl _ _,fun h q b β he hgb hc=> .inl ⟨h,q,b,β,he,hgb,hc,rfl⟩⟩
  .intro t sv ht;obtain ⟨_,v,h1,h2⟩:=p0Z args vals 0 hv t sv ht;have hlt:t<vals.length:=by
    grind
   have e:(vals.toArray++Array.replicate (fn.ntmps-vals.toArray.size) undef).getD t undef=v:=by
    simp_all [s1i]
   simp_all
  grind
 refine a0Y (C:=C) hm hT c _ g _ w _ _ hok R h ?_;intro e vs' g' a' w' hk hR;have fin:y0j T vs' fn.results.toList (fun l=>a0E n post (c0g l) vs')->bodyPost P fn (fun e w'=>∃v,e= .returned v/\Out g w n H post v w') .ret a' w':=by
  intro hk;obtain ⟨svs,v,h1,h2,h3⟩:=o0B hT hR hk;obtain ⟨l,u,r0,H0,n1,hu,hp⟩:=h1;obtain ⟨gu,vu,Ru,hle,ro⟩:=r0Z u vs' g' _ hR hu;obtain ⟨g0,hB,k1,k2,k3,k4,k5,k6⟩:=p0Y Ru ro.ids ro.heap;exact ⟨hR.defers,v,h3,v,rfl,r0,H0,n1,g0,hp,k3,k2,k4,Rv.back hB r0 v (by rw [<-ro.res];exact Rv.mono hle _ _ h2),k5,ro.rw,Ru.fr,k6⟩
 cases e with
 |normal=>exact fin hk
 |ret=>exact fin hk
 |_=>trivial
end
theorem a0l {n:Int} (h: -9223372036854775808<=n) (h':n<=9223372036854775807):IntKind.i64.wrap n=n:=IntWalk.i64_in n ⟨h,h'⟩
theorem f0E {p:Prop} [Decidable p] {a b:Prop} (h:p->a) (k:¬p->b):br (decide p) a b:=g0F (fun e=>h (of_decide_eq_true e)) (fun e=>k (of_decide_eq_false e))
theorem q0a {p:Prop} [Decidable p] {a b:Prop} (h:¬p->a) (k:p->b):br (!decide p) a b:=g0F (fun e=>h (by simp_all)) (fun e=>k (by simp_all))
theorem w0o {x y:ByteArray} {a b:Prop} (h:x=y->a) (k:x≠y->b):br (seq x y) a b:=g0F (fun e=>h (of_decide_eq_true e)) (fun e=>k (of_decide_eq_false e))
theorem q0b {x y:ByteArray} {a b:Prop} (h:x≠y->a) (k:x=y->b):br (!seq x y) a b:=g0F (fun e=>h (by simpa [seq] using e)) (fun e=>k (by simpa [seq] using e))
theorem bnf {b:Bool} (h:b=true):¬b=false:=by simp_all
theorem a0f {c k:Prop} (h:c) (hk:k):c/\k:=⟨h,hk⟩
theorem d0p (s:ByteArray) (i:Int):0<=a0d s i/\a0d s i<=255:=by
 unfold a0d;have:=(s.data.toList.getD i.toNat 0).toNat_lt;omega
section
variable {P:Program}
theorem a0c:c0x []:=fun h q ro b he=>by obtain ⟨hb,e,_⟩:=he;trivial
theorem a0b {h:Nat} {b:Blk} {H:a0k} (k:c0x H):c0x ((h,some (.one false b))::H):=by
 intro h' q ro b' he;rcases a0v.1 he with ⟨_,hb,e1,_,e3⟩|⟨_,he⟩
 .cases e1;exact e3.symm
 .exact k h' q ro b' he
theorem a0r {h:Nat} {dom:Nat->Prop} {f:Nat->Blk} {H:a0k} (k:c0x H):c0x ((h,some (.fam false dom f))::H):=by
 intro h' q ro b' he;rcases a0v.1 he with ⟨_,hb,e1,_,e3⟩|⟨_,he⟩
 .cases e1;exact e3.symm
 .exact k h' q ro b' he
theorem i0y {f:FuncId} {l:List Nat} {nx:Nat} {args args0:List SV} {H Hc H':a0k} {r:SV} {n':Nat} {K:SV->a0k->Nat->Prop} (hc:FC P l.length f args0 H (a0g r H' n')) (hf:Fits l nx args args0 H Hc)
  (hk:K (SV.ren (rho l nx) r) (n0E (rho l nx) H'++n0F (rho l nx) H) (n'-l.length)):a0n P f args Hc nx K:=
 ⟨l,args0,H,_,hc,hf,by rintro sv H1 n1 ⟨rfl,rfl,rfl⟩;omega⟩
theorem g0L {f:FuncId} {l:List Nat} {nx:Nat} {args args0:List SV} {H Hc H':a0k} {r:SV} {n':Nat} {K:SV->a0k->Nat->List Nat->Prop} (hc:FC P l.length f args0 H (a0g r H' n')) (hf:Fits l nx args args0 H Hc)
  (hk:K (SV.ren (rho l nx) r) (n0E (rho l nx) H'++n0F (rho l nx) H) (n'-l.length) l):a0i P f args Hc nx K:=⟨l,args0,H,r,H',n',hc,hf,hk⟩
abbrev n0K:=List (Nat×Nat×List Col)
def r1z:List Col->Nat
 | .ints _ (.ofNat t::_)::_=>t
 |_=>0
def r0g (l:n0K) (q:Nat):Blk:=match a0M l q with|some x=>(bif Nat.beq x.1 0 then .cells [.iface (r1z x.2) .unk] else .cols x.1 (b0b x.2))|none=> .cells []
def GB (l:n0K):HB:= .fam true (fun q=>(a0M l q).isSome=true) (r0g l)
theorem s0a {α:Type}:∀{l:List (Nat×α)} {q:Nat},(a0M l q).isSome=true->q∈l.map (·.1)
 | [],q,h=>by trivial
 |(k,v)::r,q,h=>by
  rw [c0i] at h;by_cases e:k=q
  .grind
  .rw [if_neg e] at h;simp [s0a h]
def k1i (l:List (Nat×Nat×Nat)) (q:Nat):Base:=match a0M l q with|some x=>⟨q,0,x.1,x.2⟩|none=>⟨q,0,0,0⟩
theorem y0F (l:List (Nat×Nat×Nat)) (q:Nat):∃es cap,some (k1i l q)=some (⟨q,0,es,cap⟩:Base):=by
 unfold k1i;split<;>exact ⟨_,_,rfl⟩
theorem o0C (ρ:Nat->Nat):∀l:List Col,d0v ρ (b0b l)=b0b l
 | []=>rfl
 |c::l=>by simp only [b0b,d0v,BCol.ren,o0C ρ l]
theorem s0b (n:Nat):∀l:List Col,f0N n (b0b l)=true
 | []=>rfl
 |c::l=>by simp only [b0b,f0N,s0b n l];rfl
theorem f1J (ρ:Nat->Nat) (l:n0K) (q:Nat):(r0g l q).ren ρ=r0g l q:=by
 unfold r0g;split
 .cases Nat.beq _ 0
  .simp only [cond_false,Blk.ren,o0C]
  .rfl
 .rfl
theorem i1x (ρ:Nat->Nat) (l:n0K):(GB l).ren ρ=GB l:=by
 simp only [GB,HB.ren,f1J]
theorem b1a {n:Nat} {l:n0K}:(GB l).wf n:=by
 intro q _;unfold r0g;split
 .cases Nat.beq _ 0
  .simp only [cond_false,Blk.wf,s0b]
  .rfl
 .rfl
theorem l0X {o:Option HB} {ρ:Nat->Nat} {l:n0K} (h:o=some (GB l)):a1q o ((GB l).ren ρ):=by
 subst h;rw [i1x];trivial
theorem gwk {o:Option HB} {ρ:Nat->Nat} {l:n0K} (h:o=some (GB l)):o=some ((GB l).ren ρ):=by rw [i1x];omega
def k0D (P:Program) (l:n0K) (f:FuncId) (args:List SV) (r:SV):Prop:=FC P 1 f args [(0,some (GB l))] (a0g r [] 1)
theorem l0Y {l:n0K} {nx:Nat} {args:List SV} {Hc:a0k} (ha:args=SV.rens (rho [0] nx) args) (hw:SV.wfs 1 args=true) (hh:a0w Hc 0=some (GB l)):Fits [0] nx args args [(0,some (GB l))] Hc:=
 ⟨rfl,rfl,ha,hw,⟨rfl,b1a,trivial⟩,⟨l0X hh,trivial⟩⟩
theorem a0e {r r0:SV} {vs:VS} (h:r=r0) (hr:SV.ren (rho [0] vs.next) r0=r0:=by rfl) (hn:j0u [0] vs.next=true:=by rfl):a0E 1 (a0g r0 [] 1) r vs:=by
 subst h;refine ⟨[0],[],r,[],1,⟨?_,hr.symm,trivial,a0c⟩,rfl,rfl,rfl⟩;rw [hn];rfl
theorem b0K {n0:Nat} {l:List Nat} {r r0:SV} {H0:a0k} {vs:VS} (us:List Up) (h:upK us vs (fun v=>(Nat.ble 1 n0&&Nat.ble n0 l.length&&f0C n0 l&&j0u l v.next&&p0y (rho l v.next) H0 H0)=true/\r=SV.ren (rho l v.next) r0/\b0D (rho l v.next) H0 v.heap)) (hrw:c0x H0):a0E n0 (a0g r0 H0 l.length) r vs:=by
 refine ⟨l,us,r0,H0,l.length,?_,rfl,rfl,rfl⟩;revert h;have:∀(us:List Up) (v:VS) (K K':VS->Prop),(∀v,K v->K' v)->upK us v K->upK us v K':=by
  intro us;induction us with
  |nil=>intro v K K' h hk;exact h v hk
  |cons u us ih=>
   intro v K K' h hk;cases u with
   |relab R E N dr m=>
    obtain ⟨e,H,n⟩:=v;grind [upK,i0r]
   |_=>
    grind [upK]
 refine this us vs _ _ ?_;rintro v ⟨ids,hr,hh⟩;refine ⟨?_,hr,hh,hrw⟩;simp_all
theorem a0A {n0:Nat} {l:List Nat} {r r0:SV} {H0:a0k} {vs:VS} (ids:(Nat.ble 1 n0&&Nat.ble n0 l.length&&f0C n0 l&&j0u l vs.next&&p0y (rho l vs.next) H0 H0)=true) (hr:r=SV.ren (rho l vs.next) r0) (hh:b0D (rho l vs.next) H0 vs.heap) (hrw:c0x H0):a0E n0 (a0g r0 H0 l.length) r vs:=by
 refine ⟨l,[],r0,H0,l.length,⟨?_,hr,hh,hrw⟩,rfl,rfl,rfl⟩;simp_all
theorem a0h {α:Type} {n0:Nat} {body:VS->(Exit->VS->Prop)->Prop} {vs:VS} {K:Exit->VS->Prop} (st:α->VS) (inv:α->Prop) (μ:α->Nat) (x0:α) (l0:List Nat) (u0:List Up) (hw:upK u0 vs (fun v=>Weak n0 l0 v (st x0))) (hi:inv x0)
  (hr:∀x,inv x->body (st x) (fun e v'=>match e with| .normal=>∃y l u,inv y/\μ y<μ x/\upK u v' (fun v=>Weak n0 l v (st y))|e=>K e v')):a0o n0 body vs K:=⟨α,st,inv,μ,x0,l0,u0,hw,hi,hr⟩
theorem FC.law {n:Nat} {f:FuncId} {args:List SV} {H:a0k} {n':Nat} {H':a0k} (hc:FC P n f args H (a0g (.bool true) H' n')) (hbd:d0C P f) (hro:∀h q ro b,Ent H h q ro b->ro=true) {g:G} {w:World} {vals:List Value} (hg:g.glob) (hn:g.upto n) (hH:Holds g H w) (hv:Rvs g args vals):
  Calls P f vals.toArray w (fun e w'=>e= .returned (.bool true)/\Below w.heap.size w w'):=by
 have hc2:=hc.resolve_right (fun hx=>by
  grind [g0K])
 refine (hc2.2 g w vals hg hn hH hv).mono ?_;rintro e w' ⟨v,rfl,sv,H1,n1,g',⟨rfl,_,_⟩,_,_,_,hrv,_,_,hfr,_⟩;refine ⟨by rw [rbv hrv],hfr.os,hfr.tape,hfr.output,hfr.size,fun k hk=>hfr.block k hk ?_⟩;rintro ⟨h,q,b,β,he,_⟩;simp_all
end
theorem a0a {c k:Prop} (hk:k) (hc:c:=by (first|exact rfl|(refine ⟨rfl,?_⟩;(first|omega|(dsimp only;omega)|decide))|omega|(dsimp only;omega)|decide|(simp only [q1j,u0f, *];omega))):c/\k:=⟨hc,hk⟩
theorem k1l {P:Program} {f:FuncId} {l:List Nat} {nx:Nat} {args args0:List SV} {H Hc H':a0k} {r:SV} {n':Nat} {K:SV->a0k->Nat->Prop} (hc:FC P l.length f args0 H (a0g r H' n'))
  (hk:K (SV.ren (rho l nx) r) (n0E (rho l nx) H'++n0F (rho l nx) H) (n'-l.length))
  (h1:o0c l=true:=by exact rfl) (h2:p0y (rho l nx) H H=true:=by exact rfl) (h3:args=SV.rens (rho l nx) args0:=by exact rfl) (h4:SV.wfs l.length args0=true:=by exact rfl)
  (h5:f0O l.length H:=by (repeat' (first|exact trivial|exact b1a|exact fun _ _=>rfl|constructor));first|done|fail)
  (h6:f0B (rho l nx) H Hc:=by (repeat' (first|exact trivial|exact l0X rfl|constructor));first|done|fail):a0n P f args Hc nx K:=
 i0y hc ⟨h1,h2,h3,h4,h5,h6⟩ hk
theorem f1L {P:Program} {f:FuncId} {l:List Nat} {nx:Nat} {args args0:List SV} {H Hc H':a0k} {r:SV} {n':Nat} {K:SV->a0k->Nat->List Nat->Prop} (hc:FC P l.length f args0 H (a0g r H' n'))
  (hk:K (SV.ren (rho l nx) r) (n0E (rho l nx) H'++n0F (rho l nx) H) (n'-l.length) l)
  (h1:o0c l=true:=by exact rfl) (h2:p0y (rho l nx) H H=true:=by exact rfl) (h3:args=SV.rens (rho l nx) args0:=by exact rfl) (h4:SV.wfs l.length args0=true:=by exact rfl)
  (h5:f0O l.length H:=by (repeat' (first|exact trivial|exact b1a|exact fun _ _=>rfl|constructor));first|done|fail)
  (h6:f0B (rho l nx) H Hc:=by (repeat' (first|exact trivial|exact l0X rfl|constructor));first|done|fail):a0i P f args Hc nx K:=
 g0L hc ⟨h1,h2,h3,h4,h5,h6⟩ hk
class Bx (b:Bool) (p q:outParam Prop):Prop where
 t:b=true->p
 f:b=false->q
instance bx0 {b:Bool}:Bx b (b=true) (b=false):=⟨id,id⟩
instance bx1 {b:Bool}:Bx (!b) (b=false) (b=true):=⟨by cases b<;>simp,by cases b<;>simp⟩
instance bx2 {p:Prop} [Decidable p]:Bx (decide p) p (¬p):=⟨of_decide_eq_true,of_decide_eq_false⟩
instance bx3 {p:Prop} [Decidable p]:Bx (!decide p) (¬p) p:=⟨fun e=>by simpa using e,fun e=>by simpa using e⟩
instance bx4 {x y:ByteArray}:Bx (seq x y) (x=y) (x≠y):=⟨of_decide_eq_true,of_decide_eq_false⟩
instance bx5 {x y:ByteArray}:Bx (!seq x y) (x≠y) (x=y):=⟨fun e=>by simpa [seq] using e,fun e=>by simpa [seq] using e⟩
theorem bRx {b:Bool} {p q A C:Prop} [i:Bx b p q] (h:p->A) (k:q->C):br b A C:=g0F (fun e=>h (i.t e)) (fun e=>k (i.f e))
class Cg (g:Prop) (P:outParam Program) (f:outParam FuncId) (args:outParam (List SV)) (Hc:outParam a0k) (nx:outParam Nat) (K:outParam (SV->a0k->Nat->List Nat->Prop)):Prop where
 go:∀{l:List Nat} {args0:List SV} {H H':a0k} {r:SV} {n':Nat},FC P l.length f args0 H (a0g r H' n')->Fits l nx args args0 H Hc->K (SV.ren (rho l nx) r) (n0E (rho l nx) H'++n0F (rho l nx) H) (n'-l.length) l->g
instance cg0 {P:Program} {f:FuncId} {args:List SV} {Hc:a0k} {nx:Nat} {K:SV->a0k->Nat->Prop}:Cg (a0n P f args Hc nx K) P f args Hc nx (fun r U b _=>K r U b):=⟨i0y⟩
instance cg1 {P:Program} {f:FuncId} {args:List SV} {Hc:a0k} {nx:Nat} {K:SV->a0k->Nat->List Nat->Prop}:Cg (a0i P f args Hc nx K) P f args Hc nx K:=⟨g0L⟩
section
variable {g:Prop} {P:Program} {f:FuncId} {args args0:List SV} {Hc H H':a0k} {nx n':Nat} {K:SV->a0k->Nat->List Nat->Prop} {r:SV}
theorem cOx [c:Cg g P f args Hc nx K] {l:List Nat} (hc:FC P l.length f args0 H (a0g r H' n')) (hk:K (SV.ren (rho l nx) r) (n0E (rho l nx) H'++n0F (rho l nx) H) (n'-l.length) l)
  (h1:o0c l=true:=by exact rfl) (h2:p0y (rho l nx) H H=true:=by exact rfl) (h3:args=SV.rens (rho l nx) args0:=by exact rfl) (h4:SV.wfs l.length args0=true:=by exact rfl)
  (h5:f0O l.length H:=by (repeat' (first|exact trivial|exact b1a|exact fun _ _=>rfl|constructor));first|done|fail)
  (h6:f0B (rho l nx) H Hc:=by (repeat' (first|exact trivial|exact l0X rfl|constructor));first|done|fail):g:=c.go hc ⟨h1,h2,h3,h4,h5,h6⟩ hk
theorem cPx [c:Cg g P f args Hc nx K] (hc:a0K P f args r) (hk:K r [] 0 [0]) (ha:args=SV.rens (rho [0] nx) args:=by exact rfl) (hw:SV.wfs 1 args=true:=by exact rfl) (hr:SV.ren (rho [0] nx) r=r:=by exact rfl):g:=
 c.go (l:= [0]) hc ⟨rfl,rfl,ha,hw,trivial,trivial⟩ (by rw [hr];exact hk)
theorem cGx [c:Cg g P f args Hc nx K] {l:n0K} (hc:k0D P l f args r) (hk:K r [] 0 [0]) (ha:args=SV.rens (rho [0] nx) args:=by exact rfl) (hw:SV.wfs 1 args=true:=by exact rfl) (hr:SV.ren (rho [0] nx) r=r:=by exact rfl) (hh:a0w Hc 0=some (GB l):=by exact rfl):g:=
 c.go (l:= [0]) hc (l0Y ha hw hh) (by rw [hr];exact hk)
end
theorem rOx {n0:Nat} {r r0:SV} {H0:a0k} {vs:VS} (l:List Nat) (hrw:c0x H0) (ids:(Nat.ble 1 n0&&Nat.ble n0 l.length&&f0C n0 l&&j0u l vs.next&&p0y (rho l vs.next) H0 H0)=true:=by exact rfl) (hr:r=SV.ren (rho l vs.next) r0:=by exact rfl)
  (hh:b0D (rho l vs.next) H0 vs.heap:=by (repeat' (first|exact trivial|exact rfl|exact gwk rfl|constructor));first|done|fail):a0E n0 (a0g r0 H0 l.length) r vs:=a0A ids hr hh hrw
theorem wEx {n0:Nat} {l:List Nat} {v v0:VS} (env:f0b (rho l v.next) v0.env v.env) (ids:(Nat.ble 1 n0&&Nat.ble n0 l.length&&f0C n0 l&&Nat.beq l.length v0.next&&j0u l v.next&&p0y (rho l v.next) v0.heap v0.heap)=true:=by exact rfl)
  (heap:b0D (rho l v.next) v0.heap v.heap:=by (repeat' (first|exact trivial|exact rfl|exact gwk rfl|constructor));first|done|fail):Weak n0 l v v0:=⟨ids,env,heap⟩
theorem wHx {n0:Nat} {l:List Nat} {v v0:VS} (env:f0b (rho l v.next) v0.env v.env:=by (repeat' (first|exact trivial|exact rfl|constructor));first|done|fail) (ids:(Nat.ble 1 n0&&Nat.ble n0 l.length&&f0C n0 l&&Nat.beq l.length v0.next&&j0u l v.next&&p0y (rho l v.next) v0.heap v0.heap)=true:=by exact rfl)
  (heap:b0D (rho l v.next) v0.heap v.heap:=by (repeat' (first|exact trivial|exact rfl|exact gwk rfl|constructor));first|done|fail):Weak n0 l v v0:=⟨ids,env,heap⟩
def rwB:a0k->Bool
 | []=>true
 |(_,none)::_=>false
 |(_,some hb)::r=> !hb.ro&&rwB r
theorem i1A:∀{H:a0k},rwB H=true->c0x H
 | [],_=>a0c
 |(_,none)::_,k=>nomatch k
 |(_,some hb)::H,k=>by
  intro h' q ro b he;simp only [rwB,n0M] at k;rcases a0v.1 he with ⟨_,hb',e1,_,e3⟩|⟨_,he⟩
  .simp_all
  .exact i1A k.2 h' q ro b he
theorem rOz {n0:Nat} {r r0:SV} {H0:a0k} {vs:VS} (l:List Nat) (ids:(Nat.ble 1 n0&&Nat.ble n0 l.length&&f0C n0 l&&j0u l vs.next&&p0y (rho l vs.next) H0 H0)=true:=by exact rfl) (hr:r=SV.ren (rho l vs.next) r0:=by exact rfl)
  (hh:b0D (rho l vs.next) H0 vs.heap:=by (repeat' (first|exact trivial|exact rfl|exact gwk rfl|constructor));first|done|fail) (hrw:c0x H0:=by first|exact w|exact i1A rfl):a0E n0 (a0g r0 H0 l.length) r vs:=a0A ids hr hh hrw
theorem aX {p:Prop} (h:False:=by (try dsimp only at h);omega):p:=h.elim
theorem oM {p:Prop} (h:p:=by omega):p:=h
theorem dC {p:Prop} (h:p:=by decide):p:=h
theorem rX {p:Prop} (h:p:=by repeat' (first|exact trivial|exact rfl|constructor)):p:=h
end Go.Sy
