/- Several texts in one: YSM YS12 YC1 YC2 YSN YC3 YC4 YC5 YCX YC6 YCG YC7 YLib. -/
import Derived.Test.YtclhnagdmajfkaaGreatDoorP1
import Derived.MapKept
import Derived.Laws.BytesString
import Derived.Orders
import Derived.Scope
set_option linter.unusedVariables false
set_option linter.unusedSimpArgs false
namespace Go.Sy
abbrev i0q:=@Array.getElem?_eq_some_iff
abbrev k0T:=@MapKept.run_getObj_map
abbrev n0p:=@Array.toList_inj
abbrev o0v:=@Int.toNat_natCast
abbrev o0z:=@List.getElem_mem
abbrev s0c:=@List.map_nil
abbrev s0e:=@Nat.le_trans
abbrev s0g:=@Array.getD_eq_getD_getElem?
abbrev s0k:=@MapKept.run_setObj_map
abbrev s0l:=@List.getElem?_eraseIdx
abbrev t0F:=@List.take_of_length_le
abbrev y0Y:=@List.length_eraseIdx
abbrev z0d:=@List.getElem?_cons_zero
abbrev z0f:=@MapKept.heap_set
abbrev a1l:=@Nat.le_of_lt
abbrev a1m:=@Nat.add_sub_cancel
abbrev a1p:=@List.eraseIdx_of_length_le
abbrev b1D:=@List.size_toArray
abbrev b1E:=@List.getElem?_eq_some_iff
abbrev b1M:=@Nat.lt_succ_self
abbrev c1p:=@MapKept.run_checkKey
abbrev c1q:=@Array.getElem_toList
abbrev d1E:=@List.extract_eq_take_drop
abbrev d1T:=@Nat.add_lt_add_iff_right
abbrev e1G:=@Array.mem_filter
abbrev e1J:=@Array.toList_extract
abbrev e1K:=@Oper.upon_value
abbrev e1O:=@Array.getElem?_push
abbrev e1P:=@List.nodup_nil
end Go.Sy
namespace Go.Sy
open Go.RowKit
def b0u:List Bool->Nat
 | []=>0
 |b::p=>bif b then 0 else b0u p+1
theorem f0E:∀p,b0u p<=p.length
 | []=>d0M _
 |b::p=>by
  simp only [b0u,m0j];cases b
  .have:=f0E p;simp;omega
  .simp
theorem f0F:∀p,b0u p<p.length->p[b0u p]? =some true
 | [],h=>by simp [b0u] at h
 |b::p,h=>by
  cases b
  .simp only [b0u,cond_false,m0j] at h⊢;simpa using f0F p (by omega)
  .simp [b0u]
theorem q0J (s:ByteArray):∀l:List ByteArray,d0f l s=b0u (l.map (fun x=>seq x s))
 | []=>rfl
 |x::l=>by simp only [d0f,k0N,b0u,q0J s l]
theorem q0K (s:Int):∀l:List Int,l0c l s=b0u (l.map (fun x=>decide (x=s)))
 | []=>rfl
 |x::l=>by simp only [l0c,k0N,b0u,q0K s l]
theorem n0U (s t:ByteArray):∀l m:List ByteArray,b0v l m s t=b0u (List.zipWith (fun x y=>seq x s&&seq y t) l m)
 | [],_=>by simp [b0v,b0u]
 |_::_,[]=>by simp [b0v,b0u]
 |x::l,y::m=>by simp only [b0v,List.zipWith_cons_cons,b0u,n0U s t l m]
theorem f0e {d:TypeDesc} {kv:Value}:∀(es:List MapEntry) (p:List Bool) (off:Nat),es.length=p.length->(∀(j:Nat) e b,es[j]? =some e->p[j]? =some b->Instr.sameNow d kv e.key=some b)->
  Instr.findNow d kv es off=some ((es[b0u p]?).map (fun e=>(off+b0u p,e.val)))
 | [],p,off,h,_=>by
   cases p with
   |nil=>rfl
   |cons _ _=>simp at h
 |e::es,[],off,h,_=>by simp at h
 |e::es,b::p,off,h,hk=>by
  have h0:=hk 0 e b rfl rfl;simp only [Instr.findNow,h0];cases b with
  |true=>simp [b0u]
  |false=>
   have:=f0e es p (off+1) (by simpa using h) (fun j e' b' h1 h2=>hk (j+1) e' b' (by simpa using h1) (by simpa using h2));simp only [this,b0u,cond_false,z0c];congr 2;funext x;congr 1;omega
theorem e0T {P:Program} {w:World} {kt:TypeId} {kv:Value}:∀(es:List MapEntry) (p:List Bool) (off:Nat),es.length=p.length->(∀(j:Nat) e b,es[j]? =some e->p[j]? =some b->(Op.equal kt kv e.key).run P w= .ok b w)->
  (Instr.findAsking kt kv es off).run P w= .ok ((es[b0u p]?).map (fun e=>(off+b0u p,e.val))) w
 | [],p,off,h,_=>by
   cases p with
   |nil=>simp [Instr.findAsking]
   |cons _ _=>simp at h
 |e::es,[],off,h,_=>by simp at h
 |e::es,b::p,off,h,hk=>by
  have h0:=hk 0 e b rfl rfl;simp only [Instr.findAsking,e0M,h0,d0N];cases b with
  |true=>simp [b0u]
  |false=>
   have:=e0T (P:=P) (w:=w) es p (off+1) (by simpa using h) (fun j e' b' h1 h2=>hk (j+1) e' b' (by simpa using h1) (by simpa using h2));simp only [u0l,if_false,this,b0u,cond_false,z0c];congr 2;funext x;congr 1;omega
section ops
variable {P:Program} {T:Tab} {g:G} {vs:VS} {a:Act} {w:World} {r:SV} {U:a0g} {b:Nat} {t:List Nat} {H:a0g} {nx:Nat}
theorem g0N {ty:TypeId} {ti:TI} (h:g0H P ty=some ti) (hk:Nat.beq ti.kind 8=true):∃k e,P.underlying ty=some (.map k e)/\ti.ez=b0N P e/\ti.ega=o0Z P e/\ti.len=a0J P k/\
  ti.flat=(match P.underlying k with|some (.struct fs)=>bif !P.stoodInHeld k&& !P.eqGuardType P.depth k then (a0Z P 0 fs.toList).getD [] else []|_=> [])/\ti.ik=(match P.underlying k with|some (.int x)=>x|_=> .i64)/\(ti.bld=true->n0F P e=true):=by
 unfold g0H at h;split at h
 .rename_i i d hi hd;simp only [Option.some.injEq] at h;cases d with
  |map k e=>subst h;exact ⟨k,e,hd,rfl,rfl,rfl,rfl,rfl,fun hb=>by simp only [e0y,c0q] at hb;exact hb.2⟩
  |_=>rw [<-h] at hk;exact absurd hk (by simp [a0N])
 .cases h
theorem k0c {k:TypeId} (h:a0J P k=3):P.underlying k=some .string:=by
 unfold a0J at h;split at h<;>first|assumption|(exact absurd h (by decide))
theorem t0n {k:TypeId} (h:a0J P k=2):∃x,P.underlying k=some (.int x):=by
 unfold a0J at h;split at h<;>first|exact ⟨_,by assumption⟩|(exact absurd h (by decide))
theorem q0L (x s:ByteArray):(s==x)=seq x s:=by
 unfold seq;rw [beq_toListBytes,b0c,decide_eq_decide];exact eq_comm
structure KeyRun (P:Program) (k:TypeId) (kv:Value) (es:Array MapEntry) (n i:Nat):Prop where
 le:i<=n
 check:∀(w:World) em,(Instr.checkKey em 10000 k kv).run P w= .ok () w
 find:∀w:World,(Instr.findKey k kv es.toList).run P w= .ok ((es.toList[i]?).map (fun e=>(i,e.val))) w
 same:∀e,es[i]? =some e->e.key=kv
 stays:∀w:World,(Instr.keyThatStays kv kv).run P w= .ok kv w
theorem z0r {k:TypeId} (h:(match P.underlying k with|some (.struct fs)=>bif !P.stoodInHeld k&& !P.eqGuardType P.depth k then (a0Z P 0 fs.toList).getD [] else []|_=> [])= [3,3]):
  ∃fs:Array Field,P.underlying k=some (.struct fs)/\P.stoodInHeld k=false/\a0Z P 0 fs.toList=some [3,3]:=by
 split at h
 .rename_i fs hfs;refine ⟨fs,hfs,?_⟩;cases hc:(!P.stoodInHeld k&& !P.eqGuardType P.depth k) with
  |false=>rw [hc] at h;cases h
  |true=>
   rw [hc] at h;simp only [cond_true] at h;simp only [c0q,i0o] at hc;refine ⟨hc.1,?_⟩;cases hf:a0Z P 0 fs.toList with
   |none=>rw [hf] at h;cases h
   |some l=>rw [hf] at h;simp at h;rw [h]
 .cases h
theorem t0o {fs:List Field} (h:a0Z P 0 fs=some [3,3]):∃f0 f1,fs= [f0,f1]/\f0.name≠"_"/\a0J P f0.type=3/\f0.offset=0/\f1.name≠"_"/\a0J P f1.type=3/\f1.offset=1:=by
 have step:∀(i:Nat) (fs:List Field) (k:Nat) (l:List Nat),a0Z P i fs=some (k::l)->∃f r,fs=f::r/\f.name≠"_"/\a0J P f.type=k/\f.offset=i/\a0Z P (i+1) r=some l:=by
  intro i fs k l h;cases fs with
  |nil=>simp [a0Z] at h
  |cons f r=>
   simp only [a0Z] at h;cases hc:((f.name !="_")&& !Nat.beq (a0J P f.type) 0&&(f.offset==i)) with
   |false=>rw [hc] at h;cases h
   |true=>
    rw [hc] at h;simp only [cond_true] at h;simp only [c0q,bne_iff_ne,beq_iff_eq] at hc;split at h
    .rename_i l' hl';simp only [Option.some.injEq,List.cons.injEq] at h;exact ⟨f,r,rfl,hc.1.1,h.1,hc.2,by rw [hl',h.2]⟩
    .cases h
 obtain ⟨f0,r0,rfl,a1,a2,a3,h1⟩:=step 0 fs 3 [3] h;obtain ⟨f1,r1,rfl,b1,b2,b3,h2⟩:=step 1 r0 3 [] h1;have:r1= []:=by
  cases r1 with
  |nil=>rfl
  |cons f r=>
   simp only [a0Z] at h2;cases hc:((f.name !="_")&& !Nat.beq (a0J P f.type) 0&&(f.offset==1+1)) with
   |false=>rw [hc] at h2;cases h2
   |true=>
    rw [hc] at h2;simp only [cond_true] at h2;split at h2<;>cases h2
 subst this;exact ⟨f0,f1,rfl,a1,a2,a3,b1,b2,b3⟩
theorem h0B {ty k e:TypeId} {ti:TI} {ka ea:Bool} {n i ck:Nat} {ks:List Col} {vl:List BCol} {bs:List Nat} {es:Array MapEntry} {key:SV} {kv:Value} (hlen:ti.len=a0J P k)
  (hflat:ti.flat=(match P.underlying k with|some (.struct fs)=>bif !P.stoodInHeld k&& !P.eqGuardType P.depth k then (a0Z P 0 fs.toList).getD [] else []|_=> []))
  (hik:ti.ik=(match P.underlying k with|some (.int x)=>x|_=> .i64)) (hM:MapOk g ka ea n ks vl bs ck es) (hkey:Rv g key kv) (hi:d0q ti ka ks key=some i):KeyRun P k kv es n i:=by
 have hsz:es.toList.length=n:=by simpa using hM.size
 unfold d0q at hi;split at hi
 .
  rename_i l s;cases hb:Nat.beq ti.len 3 with
  |false=>rw [hb] at hi;cases hi
  |true=>
   rw [hb] at hi;simp only [cond_true,Option.some.injEq] at hi;have hu:=k0c (P:=P) (k:=k) (by rw [<-hlen];exact c0k hb);have hkv:=rtv hkey;subst hkv;have hl:l.length=n:=hM.kl _ (i0p.2 rfl);have hrow:∀(j:Nat) (e:MapEntry),es[j]? =some e->e.key= .string (l.getD j ⟨#[]⟩):=fun j e he=>(hM.row j e he).2.1
   rw [q0J] at hi;have hpl:(l.map (fun x=>seq x s)).length=n:=by simp [hl]
   have hf:=f0e (d:= .string) (kv:= .string s) es.toList (l.map (fun x=>seq x s)) 0 (by rw [hsz,hpl]) (by
    intro j e b h1 h2;rw [hrow j e (by simpa using h1)];simp only [Instr.sameNow,Option.some.injEq,q0L];rw [f0l] at h2;cases hx:l[j]? with
    |none=>rw [hx] at h2;cases h2
    |some y=>rw [hx] at h2;simp only [g0w,Option.some.injEq] at h2;rw [List.getD,hx];exact h2)
   rw [hi] at hf;have hle:i<=n:=by rw [<-hi,<-hpl];exact f0E _
   refine ⟨hle,fun w em=>c1p hu (by simp [MapKept.IsKey]) em 9999,fun w=>by simpa using MapKept.run_findKey (w:=w) hu hf,?_,fun w=>MapKept.run_keyThatStays (d:= .string) (by simp [MapKept.IsKey])⟩;intro e he;have hlt:i<n:=by
    have:=(i0q.1 he).1;rw [hM.size] at this;exact this
   have ht:=f0F (l.map (fun x=>seq x s)) (by rw [hi,hpl];exact hlt);rw [hi,f0l] at ht;rw [hrow i e he];cases hx:l[i]? with
   |none=>rw [hx] at ht;cases ht
   |some y=>
    rw [hx] at ht;simp only [g0w,Option.some.injEq] at ht;have:y=s:=of_decide_eq_true ht;rw [List.getD,hx,this];rfl
 .
  rename_i kk l p x;cases hb:(Nat.beq ti.len 2&&d0p p kk&&d0p p ti.ik) with
  |false=>rw [hb] at hi;cases hi
  |true=>
   rw [hb] at hi;simp only [cond_true,Option.some.injEq] at hi;simp only [c0q] at hb;obtain ⟨kd,hu⟩:=t0n (P:=P) (k:=k) (by rw [<-hlen];exact c0k hb.1.1);have hpk:=b0s hb.1.2;have hpd:=b0s hb.2;rw [hik,hu] at hpd;simp only at hpd;subst hpd;subst hpk;have hkv:=riv hkey;subst hkv;have hl:l.length=n:=hM.kl _ (i0p.2 rfl);have hrow:∀(j:Nat) (e:MapEntry),es[j]? =some e->e.key= .int p (l.getD j 0):=fun j e he=>(hM.row j e he).2.1
   rw [q0K] at hi;have hpl:(l.map (fun y=>decide (y=x))).length=n:=by simp [hl]
   have hf:=f0e (d:= .int p) (kv:= .int p x) es.toList (l.map (fun y=>decide (y=x))) 0 (by rw [hsz,hpl]) (by
    intro j e b h1 h2;rw [hrow j e (by simpa using h1)];simp only [Instr.sameNow,if_true,Option.some.injEq];rw [f0l] at h2;cases hx:l[j]? with
    |none=>rw [hx] at h2;cases h2
    |some y=>
     rw [hx] at h2;simp only [g0w,Option.some.injEq] at h2;rw [List.getD,hx,<-h2];simp only [o0y];rw [Bool.eq_iff_iff];simp only [beq_iff_eq,decide_eq_true_eq];exact eq_comm)
   rw [hi] at hf;have hle:i<=n:=by rw [<-hi,<-hpl];exact f0E _
   refine ⟨hle,fun w em=>c1p hu (by simp [MapKept.IsKey]) em 9999,fun w=>by simpa using MapKept.run_findKey (w:=w) hu hf,?_,fun w=>MapKept.run_keyThatStays (d:= .int p) (by simp [MapKept.IsKey])⟩;intro e he;have hlt:i<n:=by
    have:=(i0q.1 he).1;rw [hM.size] at this;exact this
   have ht:=f0F (l.map (fun y=>decide (y=x))) (by rw [hi,hpl];exact hlt);rw [hi,f0l] at ht;rw [hrow i e he];cases hx:l[i]? with
   |none=>rw [hx] at ht;cases ht
   |some y=>
    rw [hx] at ht;simp only [g0w,Option.some.injEq] at ht;have:y=x:=of_decide_eq_true ht;rw [List.getD,hx,this];rfl
 .
  rename_i l m s u;split at hi
  .rename_i hfl;simp only [Option.some.injEq] at hi;rw [hflat] at hfl;obtain ⟨fs,hu,hst,hff⟩:=z0r hfl;obtain ⟨kvs,rfl,hrk⟩:=rav hkey;have hkv2:kvs= #[.string s,.string u]:=by
    simp only [Rvs] at hrk;obtain ⟨v1,r1,e1,k1,v2,r2,e2,k2,e3⟩:=hrk;have:=rtv k1;subst this;have:=rtv k2;subst this;subst e3;subst e2;exact n0p.1 (by simpa using e1)
   subst hkv2;have hl:l.length=n:=hM.kl (.strs l) (by simp);have hm:m.length=n:=hM.kl (.strs m) (by simp);have hrow:∀(j:Nat) (e:MapEntry),es[j]? =some e->e.key= .agg #[.string (l.getD j ⟨#[]⟩),.string (m.getD j ⟨#[]⟩)]:=fun j e he=>(hM.row j e he).2.1
   rw [n0U] at hi;have hpl:(List.zipWith (fun x y=>seq x s&&seq y u) l m).length=n:=by simp [hl,hm]
   have hfo:P.fieldsOf k=fs:=by simp [Program.fieldsOf,hu]
   have heq:∀(w:World) (x y:ByteArray),(Op.equal k (.agg #[.string s,.string u]) (.agg #[.string x,.string y])).run P w= .ok (seq x s&&seq y u) w:=by
    intro w x y;have h1:(Op.equalIn (9998+2) k (.agg #[.string s,.string u]) (.agg #[.string x,.string y])).run P w= .ok (seq s x&&(seq u y&&true)) w:=by
     rw [run_equalIn_struct w 9999 k _ _ (by rw [hfo];exact hu) hst,hfo];exact h0q (g:=g) 9998 _ _ w fs.toList 0 [3,3] [.str s,.str u] [.str x,.str y] _ hff (by simp [Rvs,Rv]) (by simp [Rvs,Rv]) (by simp [a0K])
    have h2:(seq s x&&(seq u y&&true))=(seq x s&&seq y u):=by
     have c:∀p q:ByteArray,seq p q=seq q p:=by intro p q;unfold seq;rw [decide_eq_decide];exact eq_comm
     rw [Bool.and_true,c s x,c u y]
    rw [h2] at h1;exact h1
   have hzip:∀(j:Nat) (b:Bool),(List.zipWith (fun x y=>seq x s&&seq y u) l m)[j]? =some b->(seq (l.getD j ⟨#[]⟩) s&&seq (m.getD j ⟨#[]⟩) u)=b:=by
    intro j b h2;rw [List.getElem?_zipWith] at h2;cases hx:l[j]? with
    |none=>rw [hx] at h2;cases h2
    |some x=>
     cases hy:m[j]? with
     |none=>rw [hx,hy] at h2;cases h2
     |some y=>rw [hx,hy] at h2;simp only [Option.some.injEq] at h2;rw [List.getD,hx,List.getD,hy];exact h2
   have hle:i<=n:=by rw [<-hi,<-hpl];exact f0E _
   have hfind:∀w:World,(Instr.findKey k (.agg #[.string s,.string u]) es.toList).run P w= .ok ((es.toList[i]?).map (fun e=>(i,e.val))) w:=by
    intro w;have ha:=e0T (P:=P) (w:=w) (kt:=k) (kv:= .agg #[.string s,.string u]) es.toList (List.zipWith (fun x y=>seq x s&&seq y u) l m) 0 (by rw [hsz,hpl]) (by
     intro j e b h1 h2;rw [hrow j e (by simpa using h1),heq,hzip j b h2])
    rw [hi] at ha;simp only [Instr.findKey,e0M,run_underlying hu,d0N];cases hes:es.toList with
    |nil=>
     rw [hes] at ha;simp [Instr.findNow]
    |cons e0 es0=>
     have:Instr.findNow (.struct fs) (.agg #[.string s,.string u]) (e0::es0) 0=none:=by simp [Instr.findNow,Instr.sameNow]
     rw [this,<-hes];simpa using ha
   refine ⟨hle,?_,hfind,?_,?_⟩
   .intro w em;obtain ⟨f0,f1,hfs,n0,s0,o0,n1,s1,o1⟩:=t0o hff;obtain rfl:fs= #[f0,f1]:=n0p.1 (by simpa using hfs);have hu0:=k0c (P:=P) s0;have hu1:=k0c (P:=P) s1;have a0:(isAgg f0.type).run P w= .ok false w:=by simp [isAgg,run_underlying hu0]
    have a1:(isAgg f1.type).run P w= .ok false w:=by simp [isAgg,run_underlying hu1]
    have c0:∀v,(Instr.checkKey em 9999 f0.type (.string v)).run P w= .ok () w:=fun v=>c1p (P:=P) (w:=w) (k:= .string v) hu0 (by simp [MapKept.IsKey]) em 9998
    have c1:∀v,(Instr.checkKey em 9999 f1.type (.string v)).run P w= .ok () w:=fun v=>c1p (P:=P) (w:=w) (k:= .string v) hu1 (by simp [MapKept.IsKey]) em 9998
    have go:∀N:Nat,(∀v,(Instr.checkKey em N f0.type (.string v)).run P w= .ok () w)->(∀v,(Instr.checkKey em N f1.type (.string v)).run P w= .ok () w)->(Instr.checkKey em (N+1) k (.agg #[.string s,.string u])).run P w= .ok () w:=by
     intro N c0 c1;unfold Instr.checkKey;simp [run_underlying hu,part,a0,a1,o0,o1,n0,n1,c0,c1]
    exact go 9999 c0 c1
   .intro e he;have hlt:i<n:=by
     have:=(i0q.1 he).1;rw [hM.size] at this;exact this
    have ht:=f0F (List.zipWith (fun x y=>seq x s&&seq y u) l m) (by rw [hi,hpl];exact hlt);rw [hi] at ht;have:=hzip i true ht;simp only [c0q] at this;rw [hrow i e he,of_decide_eq_true this.1,of_decide_eq_true this.2]
   .intro w;have hb:∀x:ByteArray,(x==x)=true:=by intro x;rw [q0L];simp [seq]
    simp [Instr.keyThatStays,Instr.sameBits,hb]
  .cases hi
 .cases hi
theorem rmv {h q:Nat} {v:Value} (x:Rv g (.map h q) v):∃β,g h q=some β/\v= .map (some β.blk):=by simpa only [Rv] using x
theorem rnm {v:Value} (x:Rv g .nmap v):v= .map none:=by simpa only [Rv] using x
theorem k0d {e:TypeId} (hz:n0F P e=true):∃z:Value,(∀w,(zeroValue e).run P w= .ok z w)/\b0N P e=z.cells.toList.map cv/\((o0Z P e=true/\∃cs,z= .agg cs)\/(o0Z P e=false/\z.cells= #[z])):=by
 unfold n0F at hz;cases hi:P.info? e with
 |none=>rw [hi] at hz;cases hz
 |some i=>
  rw [hi] at hz;simp only at hz;cases hzz:i.zero with
  |none=>rw [hzz] at hz;cases hz
  |some z=>
   rw [hzz] at hz;refine ⟨z,fun w=>by simp [zeroValue,run_typeInfo w hi,hzz],by simp [b0N,hi,hzz],?_⟩;cases z with
   |agg cs=>exact .inl ⟨hz,cs,rfl⟩
   |tuple cs=>cases hz
   |_=>exact .inr ⟨by simpa using hz,rfl⟩
theorem h0C {x:Int} (h:d0Q (some x)=true):x=0:=by
 cases x with
 |ofNat n=>cases n with
  |zero=>rfl
  |succ n=>cases h
 |negSucc n=>cases h
theorem q0M {s:ByteArray} (h:s.size=0):s=⟨#[]⟩:=by
 obtain ⟨d⟩:=s;have:d.size=0:=h;have:=s0R this;subst this;rfl
theorem l0y {n:Nat}:∀(vl:List BCol) (ez:List SV),zOk vl ez=true->(∀c∈vl,c.len=n)->a0p vl n=ez
 | [],[],_,_=>rfl
 | [],_::_,h,_=>by simp [zOk] at h
 | .svs _::_,ez,h,_=>by cases ez<;>simp [zOk] at h
 | .own _ _::_,ez,h,_=>by cases ez<;>simp [zOk] at h
 | .arrs _ _ _::_,ez,h,_=>by cases ez<;>simp [zOk] at h
 | .ptrs _ _::_,ez,h,_=>by cases ez<;>simp [zOk] at h
 | .sc c::l,ez,h,hl=>by
   have hc:c.len=n:=hl (.sc c) (by simp);have hl':∀c∈l,c.len=n:=fun c hc=>hl c (by simp [hc])
   have gd:∀{α:Type} (l:List α) (d:α),l.length=n->l.getD n d=d:=fun l d e=>by rw [List.getD,f0k (by omega)];rfl
   cases c with
   |ints k xs=>
    cases ez with
    |nil=>simp [zOk] at h
    |cons z m=>
     cases z with
     |int p x=>
      simp only [zOk,c0q] at h;have:=b0s h.1.1;subst this;have:=h0C h.1.2;subst this;simp only [a0p,BCol.at,Col.at,gd xs 0 hc,l0y l m h.2 hl']
     |_=>simp [zOk] at h
   |strs xs=>
    cases ez with
    |nil=>simp [zOk] at h
    |cons z m=>
     cases z with
     |str s=>
      simp only [zOk,c0q] at h;have:=q0M (c0k h.1);subst this;simp only [a0p,BCol.at,Col.at,gd xs _ hc,l0y l m h.2 hl']
     |_=>simp [zOk] at h
   |bools xs=>
    cases ez with
    |nil=>simp [zOk] at h
    |cons z m=>
     cases z with
     |bool b=>
      cases b with
      |true=>simp [zOk] at h
      |false=>
       simp only [zOk] at h;simp only [a0p,BCol.at,Col.at,gd xs _ hc,l0y l m h hl']
     |_=>simp [zOk] at h
theorem t0p {ea:Bool} {n i:Nat} {vl:List BCol} {v:Value} (hi:i<n) (h:Rv g (a0T ea vl i) v):Rv g (f0v ea n vl i) v:=by
 unfold f0v;split
 .rw [decide_eq_true hi];exact h
 .rw [decide_eq_true hi];exact h
 .rw [decide_eq_true hi];exact h
 .rw [decide_eq_true hi];exact h
 .exact h
theorem w0l {ea ega:Bool} {vl:List BCol} {ez:List SV} (h:b1T ea ega vl ez=true):ea=true/\ega=true/\∃k l hh ns,vl= [.sc (.ints k l),.own hh ns]/\ez= [.int k 0,.nsl]:=by
 unfold b1T at h;split at h
 .rename_i k l hh ns p x;rw [c0q] at h;have h1:=b0s h.1;have h2:=h0C h.2;subst h1 h2;exact ⟨rfl,rfl,_,_,_,_,rfl,rfl⟩
 .cases h
theorem w0m {vl:List BCol} {ez:List SV} (h:b1S vl ez=true):(∃hh ns,vl= [.own hh ns]/\ez= [.nsl])\/(∃hh n,vl= [.ptrs hh n]/\ez= [.nptr])\/(∃l,vl= [.svs l]/\ez= [.nsl]):=by
 unfold b1S at h;split at h
 .exact .inl ⟨_,_,rfl,rfl⟩
 .exact .inr (.inl ⟨_,_,rfl,rfl⟩)
 .exact .inr (.inr ⟨_,rfl,rfl⟩)
 .cases h
theorem l0z {ea:Bool} {n i:Nat} {vl:List BCol} {ez:List SV} (h:zOk vl ez=true):f0v ea n vl i=a0T ea vl i:=by
 unfold f0v;split
 .cases ez<;>simp [zOk] at h
 .cases ez<;>simp [zOk] at h
 .cases ez<;>simp [zOk] at h
 .rename_i c hh ns;exfalso;cases ez with
  |nil=>cases c<;>simp [zOk] at h
  |cons v m=>
   cases v with
   |bool b=>cases b<;>cases c<;>simp [zOk] at h
   |_=>cases c<;>simp [zOk] at h
 .rfl
theorem w0n {ea ega:Bool} {vl:List BCol} {ez:List SV} (h:b1R ea ega vl ez=true):ea=false/\ega=true/\∃k rows,vl= [.arrs ez.length k rows]/\g0e k ez=true:=by
 unfold b1R at h;split at h
 .rename_i n k rows;rw [c0q] at h;have:=c0k h.1;subst this;exact ⟨rfl,rfl,k,rows,rfl,h.2⟩
 .cases h
theorem z0s {v:Value} {p:IntKind} {x:Int} (h:cv v= .int p x):v= .int p x:=by
 unfold cv at h;split at h<;>cases h;rfl
theorem j0p {k:IntKind}:∀(cs:List Value),g0e k (cs.map cv)=true->∀(i:Nat) v,cs[i]? =some v->v= .int k 0
 | [],_,i,v,hv=>by simp at hv
 |c::cs,h,i,v,hv=>by
  simp only [k0N] at h;cases hc:cv c with
  |int p x=>
   rw [hc] at h;simp only [g0e,c0q] at h;have e1:=b0s h.1.1;have e2:=h0C h.1.2;subst e1;subst e2;cases i with
   |zero=>
    simp only [z0d,Option.some.injEq] at hv;subst hv;exact z0s hc
   |succ i=>exact j0p cs h.2 i v (by simpa using hv)
  |_=>rw [hc] at h;simp [g0e] at h
theorem b1A {es:Array MapEntry} {j n:Nat} {e:MapEntry} (hs:es.size=n) (h:es[j]? =some e):j<n:=by rw [<-hs];exact (i0q.1 h).1
theorem h0D {co:Bool} {s:SV} {v:Value} {b:Bool} (h:Rv g s v):Rv g (l0d co s b) (if co=true then .tuple #[v,.bool b] else v):=by
 cases co with
 |false=>exact h
 |true=>simp only [l0d,cond_true,if_true,Rv,Rvs];exact ⟨_,rfl,_,_,rfl,h,_,_,rfl,rfl,rfl⟩
theorem q0N (hT:a0U P T) (hg:g.glob) (he:b0r g vs a) (hH:Holds g vs.heap w) {o:Oper} {ty:TypeId} {x y:Operand} {co:Bool} {m k:SV} {ti:TI} (ho:o.op= .lookup ty x y co) (hx:gv vs x=some m) (hy:gv vs y=some k) (hti:a0B T ty=some ti) (hk8:Nat.beq ti.kind 8=true) (h:(c0A vs ti m k co).is r U b t):b0h P a o w g vs.heap nx r U b:=by
 obtain ⟨kt,et,hu,hez,hega,hlen,hflat,hik,hbld⟩:=g0N (hT _ _ hti) hk8;have hkv:=a0w hg he hy;have hmv:=a0w hg he hx;unfold c0A at h;split at h
 .
  split at h
  .rename_i z hz;cases hb:ti.bld with
   |false=>rw [hb] at h;exact h.elim
   |true=>
    rw [hb] at h;simp only [Bool.not_true,cond_false] at h;split at h
    .rename_i i0 hi0;obtain ⟨rfl,rfl,rfl,_⟩:=h;obtain ⟨zv,hz1,hz2,hz3⟩:=k0d (hbld hb);have hM:MapOk g (!Nat.beq ti.len 3&& !Nat.beq ti.len 2) ti.ega 0 (bif Nat.beq ti.len 3 then [.strs []] else bif Nat.beq ti.len 2 then [.ints ti.ik []] else [.strs [],.strs []]) [] [] 0 #[]:=
      ⟨rfl,by intro c hc;cases h3:Nat.beq ti.len 3<;>cases h2:Nat.beq ti.len 2<;>simp [h3,h2] at hc<;>(try rcases hc with rfl|rfl)<;>(try subst hc)<;>rfl,by simp,rfl,e1P,by simp,by simp⟩
     have K:=h0B (P:=P) (ty:=ty) (e:=et) hlen hflat hik hM hkv hi0;have hzr:Rv g z zv:=by
      unfold z0l at hz;rw [hega,hez] at hz;rcases hz3 with ⟨ha,cs,rfl⟩|⟨ha,hc⟩
      .rw [ha] at hz;simp only [Option.some.injEq] at hz;subst hz;rw [hz2];simp only [Rv];exact ⟨cs,rfl,by simpa [Value.cells] using f0y g cs.toList⟩
      .rw [ha,hz2,hc] at hz;simp only [k0N,s0c,Option.some.injEq] at hz;subst hz;exact p0d g zv
     refine b0l hH (h0D (co:=co) (b:=false) hzr) (fun o' ho'=> ?_);have hf:=K.find w;simp only [List.getElem?_nil,Option.map_none] at hf;rw [ho] at ho';simp [execOp,ho',Instr.lookup,run_underlying hu,rnm hmv,K.check w,hf,hz1]
    .exact h.elim
  .exact h.elim
 .rename_i hh q;obtain ⟨ro,bl,hent,h⟩:=a0A h;split at h
  .rename_i ka ea n ks vl bs ck;split at h
   .rename_i i hi;replace h:=a0i h;obtain ⟨hc,h⟩:=h;obtain ⟨rfl,rfl,rfl,_⟩:=h;simp only [c0q] at hc;obtain ⟨hb,hzz⟩:=hc;obtain ⟨β,hβ,hB⟩:=hH.blk _ _ _ _ hent;obtain ⟨β',hβ',hpv⟩:=rmv hmv;rw [hβ] at hβ';cases hβ';obtain ⟨_,_,es,hes,hM⟩:=hB.obj;have K:=h0B (P:=P) (ty:=ty) (e:=et) hlen hflat hik hM hkv hi;obtain ⟨zv,hz1,hz2,hz3⟩:=k0d (hbld hb);by_cases hlt:i<n
    .obtain ⟨e0,he0⟩:∃e0,es[i]? =some e0:=⟨es[i]'(by rw [hM.size];exact hlt),d0k _⟩;rw [decide_eq_true hlt];refine b0l hH (h0D (co:=co) (b:=true) (t0p hlt (hM.row i e0 he0).2.2)) (fun o' ho'=> ?_);have hf:=K.find w;have:es.toList[i]? =some e0:=by simpa using he0
     rw [this] at hf;rw [ho] at ho';simp [execOp,ho',Instr.lookup,run_underlying hu,hpv,k0T hes,K.check w,hf]
    .have hin:i=n:=by have:=K.le;omega
     subst hin;rw [decide_eq_false hlt];have hzr:Rv g (f0v ea i vl i) zv:=by
      rw [r0b,r0b] at hzz;rcases hzz with (hzz|hzz)|hzz
      case inr=>
       obtain ⟨rfl,hga,k0,l0,h0,ns,rfl,hez1⟩:=w0l hzz;have hl0:l0.length=i:=hM.vl (.sc (.ints k0 l0)) (by simp);rcases hz3 with ⟨ha,cs,rfl⟩|⟨ha,hc⟩
       .have hez2:ti.ez=cs.toList.map cv:=by rw [hez,hz2];rfl
        simp only [f0v,decide_eq_false (w0z i),cond_false,Col.at];rw [List.getD,f0k (by omega)];simp only [Option.getD_none];rw [<-hez1,hez2];simp only [Rv];exact ⟨cs,rfl,f0y g cs.toList⟩
       .rw [hega,ha] at hga;cases hga
      case inl.inr=>
       obtain ⟨rfl,hga,k0,rows,rfl,hzs⟩:=w0n hzz;have hl0:rows.length=i:=hM.vl (.arrs ti.ez.length k0 rows) (by simp);rcases hz3 with ⟨ha,cs,rfl⟩|⟨ha,hc⟩
       .have hez2:ti.ez=cs.toList.map cv:=by rw [hez,hz2];rfl
        rw [hez2] at hzs⊢;have hat:=j0p _ hzs;show Rv g (.arr (cs.toList.map cv).length [.ints k0 (rows.getD i (List.replicate (cs.toList.map cv).length 0))]) (.agg cs);rw [List.getD,f0k (by omega),m0k,o0w];simp only [Rv];refine ⟨cs,rfl,by simp,?_,?_⟩
        .intro c hc;simp only [i0p] at hc;subst hc;simp [Col.len]
        .intro j0 j1 c hj0 hj1;cases j1 with
         |zero=>
          simp only [nth,Option.some.injEq] at hj1;subst hj1;simp only [x0C,b1G,n0r];have hs:cs[j0]? =some (cs[j0]'hj0):=d0k hj0;have:=hat j0 (cs[j0]'hj0) (by rw [n0q];exact hs);rw [hs,this];simp [Col.val,List.getD,hj0]
         |succ j1=>simp [nth] at hj1
       .rw [hega,ha] at hga;cases hga
      rw [c0q] at hzz;obtain ⟨hzo,hea⟩:=hzz;have hea':ea=ti.ega:=by
       cases ea<;>cases hq:ti.ega<;>rw [hq] at hea<;>first|rfl|cases hea
      simp only [r0b] at hzo;rcases hzo with hzo|hzo
      case inr=>
       simp only [c0q,i0o] at hzo;have hef:=hzo.1;subst hef;rcases w0m hzo.2 with ⟨hh,ns,rfl,hez1⟩|⟨hh,ns,rfl,hez1⟩|⟨ll,rfl,hez1⟩
       all_goals
        rcases hz3 with ⟨ha,cs,rfl⟩|⟨ha,hc⟩
        .rw [hega,ha] at hea';cases hea'
        .rw [hez,hz2,hc] at hez1;simp only [k0N,s0c,List.cons.injEq,and_true] at hez1;simp only [f0v,decide_eq_false (w0z i),cond_false];rw [<-hez1];exact p0d g zv
      rw [l0z hzo];have hat:=l0y vl ti.ez hzo hM.vl;subst hea';rcases hz3 with ⟨ha,cs,rfl⟩|⟨ha,hc⟩
      .rw [hega,ha];simp only [a0T,hat,hez,hz2,Rv];exact ⟨cs,rfl,by simpa [Value.cells] using f0y g cs.toList⟩
      .rw [hega,ha];rw [hez,hz2,hc] at hat;simp only [k0N,s0c] at hat
       match vl,hat with
       | [c],hat=>
         simp only [a0p,List.cons.injEq,and_true] at hat;simp only [a0T,hat];exact p0d g zv
       | [],hat=>simp [a0p] at hat
       |_::_::_,hat=>simp [a0p] at hat
     refine b0l hH (h0D (co:=co) (b:=false) hzr) (fun o' ho'=> ?_);have hf:=K.find w;have:es.toList[i]? =none:=f0k (by simp [hM.size]);rw [this] at hf;rw [ho] at ho';simp [execOp,ho',Instr.lookup,run_underlying hu,hpv,k0T hes,K.check w,hf,hz1]
   .exact h.elim
  .exact h.elim
 .exact h.elim
theorem d0F {α:Type} (i:Nat) (x:α) (l:List α):(c0x i x l).length=if i<l.length then l.length else l.length+1:=by
 unfold c0x;split<;>simp
theorem c0Q {α:Type} (i j:Nat) (x d:α) (l:List α) (h:i<=l.length):(c0x i x l).getD j d=if j=i then x else l.getD j d:=by
 unfold c0x;split
 .rename_i hlt;simp only [List.getD,e1B];by_cases e:i=j
  .subst e;simp [hlt]
  .have:¬j=i:=fun h=>e h.symm
   simp [e,this]
 .have hi:i=l.length:=by omega
  subst hi;simp only [List.getD];rcases v0n j l.length with h1|h1|h1
  .rw [o0x h1,if_neg (by omega)]
  .subst h1;simp
  .rw [m0m (by omega),if_neg (by omega),f0k (by simp;omega),f0k (by omega)]
theorem l0A {i:Nat} {c d:Col} {v:SV} {n:Nat} (h:b0H i c v=some d) (hc:c.len=n) (hi:i<=n):d.len=(if i<n then n else n+1)/\d.at i=v/\(∀j,j≠i->d.at j=c.at j/\d.val j=c.val j)/\∀x,Rv g v x->d.val i=x:=by
 subst hc;cases c with
 |ints k l=>
  cases v with
  |int p x=>
   simp only [b0H] at h;cases hk:d0p p k with
   |false=>rw [hk] at h;cases h
   |true=>
    rw [hk] at h;simp only [cond_true,Option.some.injEq] at h;subst h;have:=b0s hk;subst this;have hp:=fun j d=>c0Q i j x d l hi
    refine ⟨d0F _ _ _,by simp only [Col.at,hp,if_true],fun j hj=>by simp only [Col.at,Col.val,hp,if_neg hj];exact ⟨trivial,trivial⟩,fun y hy=>by rw [riv hy];simp only [Col.val,hp,if_true]⟩
  |_=>simp [b0H] at h
 |strs l=>
  cases v with
  |str x=>
   simp only [b0H,Option.some.injEq] at h;subst h;have hp:=fun j d=>c0Q i j x d l hi
   refine ⟨d0F _ _ _,by simp only [Col.at,hp,if_true],fun j hj=>by simp only [Col.at,Col.val,hp,if_neg hj];exact ⟨trivial,trivial⟩,fun y hy=>by rw [rtv hy];simp only [Col.val,hp,if_true]⟩
  |_=>simp [b0H] at h
 |bools l=>
  cases v with
  |bool x=>
   simp only [b0H,Option.some.injEq] at h;subst h;have hp:=fun j d=>c0Q i j x d l hi
   refine ⟨d0F _ _ _,by simp only [Col.at,hp,if_true],fun j hj=>by simp only [Col.at,Col.val,hp,if_neg hj];exact ⟨trivial,trivial⟩,fun y hy=>by rw [rbv hy];simp only [Col.val,hp,if_true]⟩
  |_=>simp [b0H] at h
theorem g0m {i n:Nat} (hi:i<=n):∀(ks:List Col) (kc:List SV) (ks':List Col),c0z i ks kc=some ks'->(∀c∈ks,c.len=n)->
  ks'.length=ks.length/\(∀c∈ks',c.len=(if i<n then n else n+1))/\(∀j,j≠i->b0q ks' j=b0q ks j)/\∀xs,Rvs g kc xs->b0q ks' i=xs
 | [],[],ks',h,_=>by
   simp only [c0z,Option.some.injEq] at h;subst h;exact ⟨rfl,by simp,fun _ _=>rfl,fun xs hx=>by simp only [Rvs] at hx;subst hx;rfl⟩
 | [],_::_,ks',h,_=>by simp [c0z] at h
 |_::_,[],ks',h,_=>by simp [c0z] at h
 |c::l,v::m,ks',h,hl=>by
  simp only [c0z] at h;split at h
  .rename_i d r' hd hr';simp only [Option.some.injEq] at h;subst h;obtain ⟨a1,a2,a3,a4⟩:=l0A (g:=g) hd (hl c (by simp)) hi;obtain ⟨b0,b1,b2,b3⟩:=g0m hi l m r' hr' (fun c hc=>hl c (by simp [hc]));refine ⟨by simp [b0],?_,fun j hj=>by simp only [b0q,(a3 j hj).2,b2 j hj],?_⟩
   .intro c hc;rcases d0z.1 hc with rfl|hc
    .exact a1
    .exact b1 c hc
   .intro xs hx;simp only [Rvs] at hx;obtain ⟨x,ys,rfl,h1,h2⟩:=hx;simp only [b0q,a4 x h1,b3 ys h2]
  .cases h
theorem e0B {i n:Nat} (hi:i<=n):∀(vl:List BCol) (vc:List SV) (vl':List BCol),b0G i vl vc=some vl'->(∀c∈vl,c.len=n)->
  vl'.length=vl.length/\(∀c∈vl',c.len=(if i<n then n else n+1))/\(∀j,j≠i->j<n->a0p vl' j=a0p vl j)/\a0p vl' i=vc
 | [],[],vl',h,_=>by
   simp only [b0G,Option.some.injEq] at h;subst h;exact ⟨rfl,by simp,fun _ _ _=>rfl,rfl⟩
 | [],_::_,vl',h,_=>by simp [b0G] at h
 |_::_,[],vl',h,_=>by simp [b0G] at h
 |c::l,v::m,vl',h,hl=>by
  simp only [b0G] at h;split at h
  .rename_i d r' hd hr';simp only [Option.some.injEq] at h;subst h;obtain ⟨b0,b1,b2,b3⟩:=e0B hi l m r' hr' (fun c hc=>hl c (by simp [hc]));have hc:=hl c (by simp);have key:d.len=(if i<n then n else n+1)/\d.at i=v/\∀j,j≠i->j<n->d.at j=c.at j:=by
    cases c with
    |sc c=>
     simp only [h0i] at hd;split at hd
     .rename_i d' hd';simp only [Option.some.injEq] at hd;subst hd;obtain ⟨a1,a2,a3,_⟩:=l0A (g:=fun _ _=>none) hd' hc hi;exact ⟨a1,a2,fun j hj _=>(a3 j hj).1⟩
     .cases hd
    |svs xs=>
     simp only [h0i,Option.some.injEq] at hd;subst hd;have hc':xs.length=n:=hc;subst hc';have hp:=fun j d=>c0Q i j v d xs hi
     exact ⟨d0F _ _ _,by simp only [BCol.at,hp,if_true],fun j hj _=>by simp only [BCol.at,hp,if_neg hj]⟩
    |arrs n0 k0 xs=>
     have hc':xs.length=n:=hc;subst hc';unfold h0i at hd;split at hd
     .rename_i e1;cases e1
     .rename_i e1;cases e1
     .rename_i e1;cases e1
     .rename_i e1;cases e1
     .rename_i n1 k1 rows m1 p1 x1 e1;cases e1;cases hb:(Nat.beq m1 n0&&d0p p1 k0) with
      |false=>rw [hb] at hd;cases hd
      |true=>
       rw [hb] at hd;simp only [cond_true,Option.some.injEq] at hd;subst hd;rw [c0q] at hb;have g1:=c0k hb.1;have g2:=b0s hb.2;subst g1;subst g2;have hp:=fun j d=>c0Q i j x1 d xs hi
       exact ⟨d0F _ _ _,by simp only [BCol.at,hp,if_true],fun j hj _=>by simp only [BCol.at,hp,if_neg hj]⟩
     .cases hd
    |own hh xs=>
     simp only [h0i,Option.some.injEq] at hd;subst hd;have hc':xs.length=n:=hc;subst hc';have hp:=fun j d=>c0Q i j v d (i0D hh xs) (by rw [b0t];exact hi)
     exact ⟨by rw [<-b0t hh xs];exact d0F _ _ _,by simp only [BCol.at,hp,if_true],fun j hj hjn=>by simp only [BCol.at,hp,if_neg hj];exact d0d hjn⟩
    |ptrs hh n0=>
     simp only [h0i,Option.some.injEq] at hd;subst hd;have hc':n0=n:=hc;subst hc';have hp:=fun j d=>c0Q i j v d (g0c hh n0) (by rw [b0j];exact hi)
     exact ⟨by have:=d0F i v (g0c hh n0);rw [b0j] at this;exact this,by simp only [BCol.at,hp,if_true],fun j hj hjn=>by simp only [BCol.at,hp,if_neg hj];exact d0W hjn⟩
   refine ⟨by simp [b0],?_,fun j hj hjn=>by simp only [a0p,key.2.2 j hj hjn,b2 j hj hjn],by simp only [a0p,key.2.1,b3]⟩;intro c' hc';rcases d0z.1 hc' with rfl|hc'
   .exact key.1
   .exact b1 c' hc'
  .cases h
theorem c0i {ea:Bool} {vl vl':List BCol} {i j:Nat} (hl:vl'.length=vl.length) (h:a0p vl' j=a0p vl i):a0T ea vl' j=a0T ea vl i:=by
 cases ea with
 |true=>simp only [a0T,h]
 |false=>
  match vl,vl',hl,h with
  | [],[],_,_=>rfl
  | [c],[d],_,h=>simp only [a0p,List.cons.injEq,and_true] at h;simp only [a0T,h]
  |_::_::_,_::_::_,_,_=>rfl
theorem d0u {ka:Bool} {ks ks':List Col} {i j:Nat} (hl:ks'.length=ks.length) (h:b0q ks' j=b0q ks i):q0e ka ks' j=q0e ka ks i:=by
 cases ka with
 |true=>simp only [q0e,h]
 |false=>
  match ks,ks',hl,h with
  | [],[],_,_=>rfl
  | [c],[d],_,h=>simp only [b0q,List.cons.injEq,and_true] at h;simp only [q0e,h]
  |_::_::_,_::_::_,_,_=>rfl
theorem k0e {ea:Bool} {v:SV} {vc:List SV} {vl:List BCol} {i:Nat} (h:a0M ea v=some vc) (hb:a0p vl i=vc):a0T ea vl i=v:=by
 cases ea with
 |true=>
  cases v<;>simp [a0M] at h;subst h;simp only [a0T,hb]
 |false=>
  simp only [a0M] at h;cases ho:(v.one||o0Y v) with
  |false=>rw [ho] at h;cases h
  |true=>
   rw [ho] at h;simp only [cond_true,Option.some.injEq] at h;subst h
   match vl,hb with
   | [c],hb=>simp only [a0p,List.cons.injEq,and_true] at hb;simp only [a0T,hb]
theorem q0O {ka:Bool} {key:SV} {kv:Value} {kc:List SV} {ks:List Col} {i:Nat} (h:a0M ka key=some kc) (hr:Rv g key kv) (hb:∀xs,Rvs g kc xs->b0q ks i=xs):q0e ka ks i=kv:=by
 cases ka with
 |true=>
  cases key<;>simp [a0M] at h;subst h;obtain ⟨xs,rfl,hx⟩:=rav hr;simp only [q0e,hb _ hx]
 |false=>
  simp only [a0M] at h;cases ho:(key.one||o0Y key) with
  |false=>rw [ho] at h;cases h
  |true=>
   rw [ho] at h;simp only [cond_true,Option.some.injEq] at h;subst h;have:=hb [kv] (by simp only [Rvs];exact ⟨_,_,rfl,hr,rfl⟩)
   match ks,this with
   | [c],this=>simp only [b0q,List.cons.injEq,and_true] at this;simp only [q0e,this]
theorem h0E {β:Base} {o:ObjS} {w':World} (hes:β.es=0) (hcap:0<β.cap) (hoff:β.off=0) (hlt:β.blk<w'.heap.size) (h:o.Ok g w' β):BlkAt g β false (.obj o) w':=
 ⟨fun _=>hlt,hes,trivial,fun i hi=>hi.elim,fun i j sv hi=>hi.elim,fun i j v hi=>hi.elim,fun _ i j _ hj=>by omega,⟨hcap,hoff,h⟩⟩
theorem q0P (hT:a0U P T) (hg:g.glob) (he:b0r g vs a) (hH:Holds g vs.heap w) {o:Oper} {ty:TypeId} {x y z:Operand} {m k v:SV} {ti:TI} (ho:o.op= .mapUpdate ty x y z) (hx:gv vs x=some m) (hy:gv vs y=some k) (hz:gv vs z=some v) (hti:a0B T ty=some ti) (hk8:Nat.beq ti.kind 8=true) (h:(g0f vs ti m k v).is r U b t):b0h P a o w g vs.heap nx r U b:=by
 obtain ⟨kt,et,hu,hez,hega,hlen,hflat,hik,hbld⟩:=g0N (hT _ _ hti) hk8;have hkv:=a0w hg he hy;have hmv:=a0w hg he hx;have hvv:=a0w hg he hz;unfold g0f at h;split at h
 .rename_i hh q;obtain ⟨ro,bl,hent,h⟩:=a0A h;split at h
  .rename_i ka ea n ks vl bs ck;split at h
   .rename_i i kc vc hi hkc hvc;split at h
    .rename_i ks' vl' hks hvl;obtain ⟨rfl,rfl,rfl,_⟩:=h;obtain ⟨β,hβ,hB⟩:=hH.blk _ _ _ _ hent;obtain ⟨β',hβ',hpv⟩:=rmv hmv;rw [hβ] at hβ';cases hβ';obtain ⟨hcap,hoff,es,hes,hM⟩:=hB.obj;have K:=h0B (P:=P) (ty:=ty) (e:=et) hlen hflat hik hM hkv hi;obtain ⟨c0,c1,c2,c3⟩:=g0m (g:=g) K.le ks kc ks' hks hM.kl;obtain ⟨d0,d1,d2,d3⟩:=e0B K.le vl vc vl' hvl hM.vl;have hkey:=q0O hkc hkv c3;have helem:=k0e hvc d3;have hblk:β.blk<w.heap.size:=hB.lt hcap;have hset:=z0f (o':=Obj.map es ck) hes;have fin:∀(es':Array MapEntry) (bs':List Nat) (ck' n':Nat),MapOk g ka ea n' ks' vl' bs' ck' es'->(Instr.mapUpdate ty (a.eval x) (a.eval y) (a.eval z)).run P w= .ok () { w with heap:=w.heap.setIfInBounds β.blk (.map es' ck')}->
       b0h P a o w g vs.heap nx (.raw undef) (a0L vs.heap hh q (.obj (.map ka ea n' ks' vl' bs' ck'))) 0:=by
      intro es' bs' ck' n' hM' hrun;obtain ⟨k1,k2⟩:=z0f (o':=Obj.map es' ck') hes;refine ⟨undef,{ w with heap:=w.heap.setIfInBounds β.blk (.map es' ck')},g,.inr ⟨?_,rfl⟩,c0u hH hent hβ hcap (by simp only [Rv]) (h0E hB.es hcap hoff (by simpa using hblk) ⟨es',k1,hM'⟩) rfl rfl rfl (by simp) (fun k _ hk=>k2 k hk)⟩;simp [execOp,ho,hrun]
     by_cases hlt:i<n
     .obtain ⟨e0,he0⟩:∃e0,es[i]? =some e0:=⟨es[i]'(by rw [hM.size];exact hlt),d0k _⟩;have hsame:=K.same e0 he0;rw [if_pos hlt] at c1 d1;rw [if_pos hlt,if_pos hlt,if_pos hlt];refine fin (es.modify i fun e=> { e with key:=a.eval y,val:=a.eval z}) bs ck n ⟨by simpa using hM.size,c1,d1,hM.bl,hM.nd,hM.lt,?_⟩ ?_
      .intro j e hj;by_cases e1:j=i
       .subst e1;rw [i0l,if_pos rfl,he0] at hj;simp only [g0w,Option.some.injEq] at hj;subst hj;exact ⟨(hM.row j e0 he0).1,hkey.symm,by rw [helem];exact hvv⟩
       .rw [i0l,if_neg (fun h=>e1 h.symm)] at hj;obtain ⟨r1,r2,r3⟩:=hM.row j e hj;exact ⟨r1,by rw [d0u c0 (c2 j e1)];exact r2,by rw [c0i d0 (d2 j e1 (b1A hM.size hj))];exact r3⟩
      .have hf:=K.find w;have h1:es.toList[i]? =some e0:=by simpa using he0
       rw [h1] at hf;simp [Instr.mapUpdate,run_underlying hu,hpv,k0T hes,K.check w,hf,he0,hsame,K.stays w,s0k _ hes,Result.andThen]
     .have hin:i=n:=by have:=K.le;omega
      subst hin;rw [if_neg hlt] at c1 d1;rw [if_neg hlt,if_neg hlt,if_neg hlt];refine fin (es.push { key:=a.eval y,val:=a.eval z,born:=ck}) (bs++ [ck]) (ck+1) (i+1) ⟨by simp [hM.size],c1,d1,by simp [hM.bl],?_,?_,?_⟩ ?_
      .rw [List.nodup_append];refine ⟨hM.nd,by simp,?_⟩;intro p hp q hq;simp only [i0p] at hq;subst hq;have:=hM.lt p hp;omega
      .intro p hp;simp only [k0Q,i0p] at hp;rcases hp with hp|rfl
       .have:=hM.lt p hp;omega
       .omega
      .intro j e hj;by_cases e1:j=i
       .subst e1;rw [e1O,if_pos hM.size.symm] at hj;simp only [Option.some.injEq] at hj;subst hj;refine ⟨?_,hkey.symm,by rw [helem];exact hvv⟩;rw [List.getD,m0m (by rw [hM.bl];exact d0M _),hM.bl];simp
       .have hjl:j<i:=by
         have:=(i0q.1 hj).1;simp [hM.size] at this;omega
        rw [w0C (by rw [hM.size];exact hjl)] at hj;have hj':es[j]? =some e:=by rw [d0k (by rw [hM.size];exact hjl)];exact hj
        obtain ⟨r1,r2,r3⟩:=hM.row j e hj';refine ⟨?_,by rw [d0u c0 (c2 j e1)];exact r2,by rw [c0i d0 (d2 j e1 hjl)];exact r3⟩;rw [r1,List.getD,List.getD,o0x (by rw [hM.bl];exact hjl)]
      .have hf:=K.find w;have h1:es.toList[i]? =none:=f0k (by simp [hM.size]);rw [h1] at hf;simp [Instr.mapUpdate,run_underlying hu,hpv,k0T hes,K.check w,hf,s0k _ hes,Result.andThen]
    .exact h.elim
   .exact h.elim
  .exact h.elim
 .exact h.elim
theorem m0R (hT:a0U P T) (hg:g.glob) (he:b0r g vs a) (hH:Holds g vs.heap w) {o:Oper} {ty:TypeId} {x y:Operand} {m k:SV} {ti:TI} (ho:o.op= .mapEntry ty x y) (hx:gv vs x=some m) (hy:gv vs y=some k) (hti:a0B T ty=some ti) (hk8:Nat.beq ti.kind 8=true) (h:(b0I vs ti m k).is r U b t):b0h P a o w g vs.heap nx r U b:=by
 obtain ⟨kt,et,hu,hez,hega,hlen,hflat,hik,hbld⟩:=g0N (hT _ _ hti) hk8;have hkv:=a0w hg he hy;have hmv:=a0w hg he hx;unfold b0I at h;split at h
 .rename_i hh q;obtain ⟨ro,bl,hent,h⟩:=a0A h;split at h
  .rename_i ka ea n ks vl bs ck;split at h
   .rename_i i kc hi hkc;split at h
    .rename_i vc hvc;split at h
     .rename_i ks' vl' hks hvl;replace h:=a0i h;obtain ⟨hc,h⟩:=h;obtain ⟨rfl,rfl,rfl,_⟩:=h;simp only [c0q] at hc;obtain ⟨⟨hb,hzo⟩,hea⟩:=hc;obtain ⟨zv,hz1,hz2,hz3⟩:=k0d (hbld hb);have hea':ea=ti.ega:=by
       cases ea<;>cases hq:ti.ega<;>rw [hq] at hea<;>first|rfl|cases hea
      obtain ⟨β,hβ,hB⟩:=hH.blk _ _ _ _ hent;obtain ⟨β',hβ',hpv⟩:=rmv hmv;rw [hβ] at hβ';cases hβ';obtain ⟨hcap,hoff,es,hes,hM⟩:=hB.obj;have K:=h0B (P:=P) (ty:=ty) (e:=et) hlen hflat hik hM hkv hi;obtain ⟨c0,c1,c2,c3⟩:=g0m (g:=g) K.le ks kc ks' hks hM.kl;obtain ⟨d0,d1,d2,d3⟩:=e0B K.le vl vc vl' hvl hM.vl;have hkey:=q0O hkc hkv c3;have helem:=k0e hvc d3;have hblk:β.blk<w.heap.size:=hB.lt hcap;have fin:∀(es':Array MapEntry) (bs':List Nat) (ck' n':Nat) (v:Value) (st:Nat),MapOk g ka ea n' ks' vl' bs' ck' es'->Rv g (a0T ea vl i) v->(Instr.mapEntry ty (a.eval x) (a.eval y)).run P w= .ok (.tuple #[v,goInt st]) { w with heap:=w.heap.setIfInBounds β.blk (.map es' ck')}->
        b0h P a o w g vs.heap nx (.tup [a0T ea vl i,.int .i64 (st:Int)]) (a0L vs.heap hh q (.obj (.map ka ea n' ks' vl' bs' ck'))) 0:=by
       intro es' bs' ck' n' v st hM' hv hrun;obtain ⟨k1,k2⟩:=z0f (o':=Obj.map es' ck') hes;refine ⟨.tuple #[v,goInt st],{ w with heap:=w.heap.setIfInBounds β.blk (.map es' ck')},g,.inl ?_,c0u hH hent hβ hcap (by simp only [Rv,Rvs];exact ⟨_,rfl,_,_,rfl,hv,_,_,rfl,rfl,rfl⟩) (h0E hB.es hcap hoff (by simpa using hblk) ⟨es',k1,hM'⟩) rfl rfl rfl (by simp) (fun k _ hk=>k2 k hk)⟩;simp [execOp,ho,hrun]
      by_cases hlt:i<n
      .obtain ⟨e0,he0⟩:∃e0,es[i]? =some e0:=⟨es[i]'(by rw [hM.size];exact hlt),d0k _⟩;have hsame:=K.same e0 he0;obtain ⟨r1,r2,r3⟩:=hM.row i e0 he0;rw [if_pos hlt] at c1 d1;rw [if_pos hlt,if_pos hlt,if_pos hlt,if_pos hlt];refine fin (es.modify i fun e=> { e with key:=a.eval y}) bs ck n e0.val (bs.getD i 0) ⟨by simpa using hM.size,c1,d1,hM.bl,hM.nd,hM.lt,?_⟩ r3 ?_
       .intro j e hj;by_cases e1:j=i
        .subst e1;rw [i0l,if_pos rfl,he0] at hj;simp only [g0w,Option.some.injEq] at hj;subst hj;exact ⟨r1,hkey.symm,by rw [helem];exact r3⟩
        .rw [i0l,if_neg (fun h=>e1 h.symm)] at hj;obtain ⟨s1,s2,s3⟩:=hM.row j e hj;exact ⟨s1,by rw [d0u c0 (c2 j e1)];exact s2,by rw [c0i d0 (d2 j e1 (b1A hM.size hj))];exact s3⟩
       .have hf:=K.find w;have h1:es.toList[i]? =some e0:=by simpa using he0
        rw [h1] at hf;rw [<-r1];simp [Instr.mapEntry,run_underlying hu,hpv,k0T hes,K.check w,hf,he0,hsame,K.stays w,s0k _ hes,Result.andThen]
      .have hin:i=n:=by have:=K.le;omega
       subst hin;have hzr:Rv g (a0T ea vl i) zv:=by
        have hat:=l0y vl ti.ez hzo hM.vl;subst hea';rcases hz3 with ⟨ha,cs,rfl⟩|⟨ha,hc⟩
        .rw [hega,ha];simp only [a0T,hat,hez,hz2,Rv];exact ⟨cs,rfl,by simpa [Value.cells] using f0y g cs.toList⟩
        .rw [hega,ha];rw [hez,hz2,hc] at hat;simp only [k0N,s0c] at hat
         match vl,hat with
         | [c],hat=>
           simp only [a0p,List.cons.injEq,and_true] at hat;simp only [a0T,hat];exact p0d g zv
         | [],hat=>simp [a0p] at hat
         |_::_::_,hat=>simp [a0p] at hat
       rw [if_neg hlt] at c1 d1;rw [if_neg hlt,if_neg hlt,if_neg hlt,if_neg hlt];refine fin (es.push { key:=a.eval y,val:=zv,born:=ck}) (bs++ [ck]) (ck+1) (i+1) zv ck ⟨by simp [hM.size],c1,d1,by simp [hM.bl],?_,?_,?_⟩ hzr ?_
       .rw [List.nodup_append];refine ⟨hM.nd,by simp,?_⟩;intro p hp q hq;simp only [i0p] at hq;subst hq;have:=hM.lt p hp;omega
       .intro p hp;simp only [k0Q,i0p] at hp;rcases hp with hp|rfl
        .have:=hM.lt p hp;omega
        .omega
       .intro j e hj;by_cases e1:j=i
        .subst e1;rw [e1O,if_pos hM.size.symm] at hj;simp only [Option.some.injEq] at hj;subst hj;refine ⟨?_,hkey.symm,by rw [helem];exact hzr⟩;rw [List.getD,m0m (by rw [hM.bl];exact d0M _),hM.bl];simp
        .have hjl:j<i:=by
          have:=(i0q.1 hj).1;simp [hM.size] at this;omega
         rw [w0C (by rw [hM.size];exact hjl)] at hj;have hj':es[j]? =some e:=by rw [d0k (by rw [hM.size];exact hjl)];exact hj
         obtain ⟨s1,s2,s3⟩:=hM.row j e hj';refine ⟨?_,by rw [d0u c0 (c2 j e1)];exact s2,by rw [c0i d0 (d2 j e1 hjl)];exact s3⟩;rw [s1,List.getD,List.getD,o0x (by rw [hM.bl];exact hjl)]
       .have hf:=K.find w;have h1:es.toList[i]? =none:=f0k (by simp [hM.size]);rw [h1] at hf;simp [Instr.mapEntry,run_underlying hu,hpv,k0T hes,K.check w,hf,hz1,s0k _ hes,Result.andThen]
     .exact h.elim
    .exact h.elim
   .exact h.elim
  .exact h.elim
 .exact h.elim
theorem k0f (hg:g.glob) (he:b0r g vs a) (hH:Holds g vs.heap w) {o:Oper} {ty:TypeId} {x y z:Operand} {m k v:SV} (ho:o.op= .entryStore ty x y z) (hx:gv vs x=some m) (hy:gv vs y=some k) (hz:gv vs z=some v) (h:(c0d vs m k v).is r U b t):b0h P a o w g vs.heap nx r U b:=by
 have hkv:=a0w hg he hy;have hmv:=a0w hg he hx;have hvv:=a0w hg he hz;unfold c0d at h;split at h
 .rename_i hh q st;obtain ⟨ro,bl,hent,h⟩:=a0A h;split at h
  .rename_i ka ea n ks vl bs ck;split at h
   .rename_i vc hvc;split at h
    .rename_i vl' hvl;obtain ⟨⟨hst,hmem⟩,rfl,rfl,rfl,_⟩:=h;obtain ⟨s,rfl⟩:=Int.eq_ofNat_of_zero_le hst;rw [o0v] at hmem hvl;obtain ⟨β,hβ,hB⟩:=hH.blk _ _ _ _ hent;obtain ⟨β',hβ',hpv⟩:=rmv hmv;rw [hβ] at hβ';cases hβ';obtain ⟨hcap,hoff,es,hes,hM⟩:=hB.obj;obtain ⟨i,hi⟩:∃i,i=bs.idxOf s:=⟨_,rfl⟩;rw [<-hi] at hvl;have hlt:i<n:=by rw [hi,<-hM.bl];exact List.idxOf_lt_length_of_mem hmem
     have a0x:bs[i]? =some s:=by
      rw [d0L (by rw [hM.bl];exact hlt)];subst hi;simp
     obtain ⟨d0,d1,d2,d3⟩:=e0B (a1l hlt) vl vc vl' hvl hM.vl;have helem:=k0e hvc d3;rw [if_pos hlt] at d1;obtain ⟨e0,he0⟩:∃e0,es[i]? =some e0:=⟨es[i]'(by rw [hM.size];exact hlt),d0k _⟩;obtain ⟨r1,r2,r3⟩:=hM.row i e0 he0;have hborn:e0.born=s:=by rw [r1,List.getD,a0x];rfl
     have hblk:β.blk<w.heap.size:=hB.lt hcap;have hfind:es.findIdx? (fun e=>(e.born:Int)==(s:Int))=some i:=by
      rw [Array.findIdx?_eq_some_iff_getElem];refine ⟨by rw [hM.size];exact hlt,?_,?_⟩
      .have:es[i]'(by rw [hM.size];exact hlt)=e0:=by
        have:=d0k (xs:=es) (i:=i) (by rw [hM.size];exact hlt);rw [he0] at this;exact (Option.some.inj this).symm
       rw [this,hborn];simp
      .intro j hj;have hjn:j<es.size:=by rw [hM.size];omega
       have hr:=(hM.row j es[j] (d0k hjn)).1;rw [hr];have hne:bs.getD j 0≠s:=by
        intro hh;rw [List.getD,d0L (by rw [hM.bl];omega)] at hh;simp only [o0y] at hh;have h2:bs[i]'(by rw [hM.bl];exact hlt)=s:=by
         rw [d0L (by rw [hM.bl];exact hlt)] at a0x;exact Option.some.inj a0x
        have:=(List.getElem_inj hM.nd).1 (hh.trans h2.symm);omega
       simpa using fun h=>hne (by exact_mod_cast h)
     have hM':MapOk g ka ea n ks vl' bs ck (es.modify i fun e=> { e with val:=a.eval z}):=by
      refine ⟨by simpa using hM.size,hM.kl,d1,hM.bl,hM.nd,hM.lt,?_⟩;intro j e hj;by_cases e1:j=i
      .subst e1;rw [i0l,if_pos rfl,he0] at hj;simp only [g0w,Option.some.injEq] at hj;subst hj;exact ⟨r1,r2,by rw [helem];exact hvv⟩
      .rw [i0l,if_neg (fun h=>e1 h.symm)] at hj;obtain ⟨s1,s2,s3⟩:=hM.row j e hj;exact ⟨s1,s2,by rw [c0i d0 (d2 j e1 (b1A hM.size hj))];exact s3⟩
     obtain ⟨k1,k2⟩:=z0f (o':=Obj.map (es.modify i fun e=> { e with val:=a.eval z}) ck) hes;refine ⟨undef,{ w with heap:=w.heap.setIfInBounds β.blk (.map (es.modify i fun e=> { e with val:=a.eval z}) ck)},g,.inr ⟨?_,rfl⟩,c0u hH hent hβ hcap (by simp only [Rv]) (h0E hB.es hcap hoff (by simpa using hblk) ⟨_,k1,hM'⟩) rfl rfl rfl (by simp) (fun k _ hk=>k2 k hk)⟩;have hkv':a.eval y= .int .i64 (s:Int):=riv hkv;simp [execOp,ho,Instr.entryStore,hpv,hkv',asInt,asIntOf,k0T hes,hfind,s0k _ hes,Result.andThen]
    .exact h.elim
   .exact h.elim
  .exact h.elim
 .exact h.elim
theorem e0C (ob:Obj):(w.alloc ob).heap=w.heap.push ob:=rfl
theorem c0v {o:ObjS} {ob:Obj} {r:SV} {v:Value} (hH:Holds g H w) (hn:∀q,g nx q=none) (hob:o.Ok (g.add nx ⟨w.heap.size,0,0,1⟩) (w.alloc ob) ⟨w.heap.size,0,0,1⟩) (hrv:Rv (g.add nx ⟨w.heap.size,0,0,1⟩) r v):
  After g H nx w r [(nx,some (.one false (.obj o)))] 1 (g.add nx ⟨w.heap.size,0,0,1⟩) v (w.alloc ob):=
 h0m hH hn hrv (h0E rfl (by simp) rfl (by rw [e0C];simp) hob) (fun _=>d0M _) rfl rfl rfl (by rw [e0C];simp) (fun k hk=>by rw [e0C,w0C hk];exact (d0k hk).symm)
theorem p0j {β:Base}:(g.add nx β) nx 0=some β:=by simp [G.add]
theorem f0G (ob:Obj):(w.alloc ob).heap[w.heap.size]? =some ob:=by rw [e0C];simp
theorem l0B (n:Nat):∀l:List SV,∀c∈d0C n l,c.len=n
 | [],c,h=>by simp [d0C] at h
 |v::l,c,h=>by
  simp only [d0C,d0z] at h;rcases h with rfl|h
  .cases v<;>simp [y0P,BCol.len,Col.len]
  .exact l0B n l c h
theorem m0S (ti:TI):∀c∈(d0g ti).2,c.len=0:=by
 unfold d0g;split
 .intro c hc;simp only [i0p] at hc;subst hc;rfl
 .exact l0B 0 _
theorem p0k (hT:a0U P T) (hH:Holds g vs.heap w) (hn:b=1->∀q,g nx q=none) {o:Oper} {ty:TypeId} {ti:TI} (ho:o.op= .makeMap ty none) (hti:a0B T ty=some ti) (hk8:Nat.beq ti.kind 8=true) (h:(j0S nx ti).is r U b t):b0h P a o w g vs.heap nx r U b:=by
 have key:∀ka ks,(∀c∈ks,Col.len c=0)->(Res.ok (.map nx 0) [(nx,some (.one false (.obj (.map ka (d0g ti).1 0 ks (d0g ti).2 [] 0))))] 1 []).is r U b t->b0h P a o w g vs.heap nx r U b:=by
  intro ka ks hks h;obtain ⟨rfl,rfl,rfl,_⟩:=h;refine ⟨.map (some w.heap.size),w.alloc (.map #[] 0),_,.inl ?_,c0v hH (hn rfl) ⟨#[],f0G _,rfl,hks,m0S ti,rfl,e1P,by simp,by simp⟩ (by simp only [Rv];exact ⟨_,p0j,rfl⟩)⟩;simp [execOp,ho,Instr.makeMap]
 unfold j0S at h;split at h
 .exact key _ _ (by intro c hc;simp at hc;subst hc;rfl) h
 .exact key _ _ (by intro c hc;simp at hc;subst hc;rfl) h
 .exact key _ _ (by intro c hc;simp at hc;subst hc;rfl) h
 .exact h.elim
theorem z0t (hT:a0U P T) (hH:Holds g vs.heap w) (hn:b=1->∀q,g nx q=none) {o:Oper} {ty:TypeId} (ho:o.op= .alloc ty) {ti:TI} (hti:a0B T ty=some ti) (h:(b1Q nx ty ti).is r U b t):b0h P a o w g vs.heap nx r U b:=by
 unfold b1Q at h;split at h
 .rename_i hzz;obtain ⟨rfl,rfl,rfl,_⟩:=h;have hti':=hT _ _ hti;unfold g0H at hti';split at hti'
  .rename_i i d hi hd;simp only [Option.some.injEq] at hti';have hz0:ti.zero=b0N P ty:=by rw [<-hti']
   rw [hzz] at hz0;cases hz:i.zero with
   |none=>rw [show b0N P ty= [] by simp [b0N,hi,hz]] at hz0;cases hz0
   |some z=>
    have hzc:Rvs g [.nptr,.nsl] z.cells.toList:=by rw [hz0];simp only [b0N,hi,hz];exact f0y g _
    have hcells:z.cells= #[.pointer none,.slice none 0 0]:=by
     simp only [Rvs,Rv] at hzc;obtain ⟨v,r1,e1,rfl,v2,r2,e2,rfl,e3⟩:=hzc;apply Array.ext';rw [e1,e2,e3]
    have hzr:(zeroValue ty).run P w= .ok z w:=by simp [zeroValue,typeInfo,hi,hz]
    refine ⟨.pointer (some ⟨w.heap.size,0,none⟩),w.alloc (.cells z.cells ty),_,.inl ?_,c0v hH (hn rfl) (by rw [hcells];exact f0G _) (by simp only [Rv];exact ⟨_,p0j,by simp [Base.addr]⟩)⟩;simp only [execOp,ho,Instr.alloc,e0M,hzr,d0N,newVar,newRow,b0O,i0S]
  .cases hti'
 .exact h.elim
theorem t0q (hT:a0U P T) (hg:g.glob) (he:b0r g vs a) (hH:Holds g vs.heap w) (hn:b=1->∀q,g nx q=none) {o:Oper} {ty:TypeId} {x:Operand} {m:SV} {ti:TI} (ho:o.op= .range ty x) (hx:gv vs x=some m) (hti:a0B T ty=some ti) (h:(i0Y vs nx ti m).is r U b t):b0h P a o w g vs.heap nx r U b:=by
 have hmv:=a0w hg he hx;unfold i0Y at h;split at h
 .rename_i s;obtain ⟨hk3,rfl,rfl,rfl,_⟩:=a0i h;obtain ⟨d,hu,hd⟩:=b0U (hT _ _ hti) hk3;have hds:d= .string:=by cases d<;>first|rfl|cases hd
  subst hds;refine ⟨.pointer (some ⟨w.heap.size,0,none⟩),w.alloc (.stringIter s 0),_,.inl ?_,c0v hH (hn rfl) (f0G _) (by simp only [Rv];exact ⟨_,p0j,by simp [Base.addr]⟩)⟩;simp [execOp,ho,Instr.range,run_underlying hu,rtv hmv]
 .obtain ⟨hk8,rfl,rfl,rfl,_⟩:=a0i h;obtain ⟨kt,et,hu,_⟩:=g0N (hT _ _ hti) hk8;refine ⟨.pointer (some ⟨w.heap.size,0,none⟩),w.alloc (.mapIter none 0 #[] 0),_,.inl ?_,c0v hH (hn rfl) ⟨0,#[],0,f0G _⟩ (by simp only [Rv];exact ⟨_,p0j,by simp [Base.addr]⟩)⟩;simp [execOp,ho,Instr.range,run_underlying hu,rnm hmv]
 .rename_i hh q;obtain ⟨hk8,h⟩:=a0i h;obtain ⟨kt,et,hu,_⟩:=g0N (hT _ _ hti) hk8;obtain ⟨ro,bl,hent,h⟩:=a0A h;split at h
  .rename_i ka ea n ks vl bs ck;obtain ⟨rfl,rfl,rfl,_⟩:=h;obtain ⟨β,hβ,hB⟩:=hH.blk _ _ _ _ hent;obtain ⟨β',hβ',hpv⟩:=rmv hmv;rw [hβ] at hβ';cases hβ';obtain ⟨hcap,hoff,es,hes,hM⟩:=hB.obj;refine ⟨.pointer (some ⟨w.heap.size,0,none⟩),w.alloc (.mapIter (some β.blk) ck #[] ck),_,.inl ?_,c0v hH (hn rfl) ⟨β,G.le_add _ (hn rfl 0) _ _ _ hβ,by simpa using f0G _,by simp⟩ (by simp only [Rv];exact ⟨_,p0j,by simp [Base.addr]⟩)⟩;simp [execOp,ho,Instr.range,run_underlying hu,hpv,k0T hes]
  .exact h.elim
 .exact h.elim
theorem w0o (hT:a0U P T) (hg:g.glob) (he:b0r g vs a) (hH:Holds g vs.heap w) {o:Oper} {ty:TypeId} {x:Operand} {hh q:Nat} {ti:TI} (ho:o.op= .call ⟨.builtin .len,#[x],#[ty]⟩) (hx:gv vs x=some (.map hh q)) (hti:a0B T ty=some ti) (hk8:Nat.beq ti.kind 8=true)
  (h:(b0w vs.heap hh q (fun _ b=>match b with| .obj (.map _ _ n _ _ _ _)=> .ok (.int .i64 (n:Int)) [] 0 [hh]|_=> .no)).is r U b t):b0h P a o w g vs.heap nx r U b:=by
 obtain ⟨kt,et,hu,_⟩:=g0N (hT _ _ hti) hk8;obtain ⟨ro,bl,hent,h⟩:=a0A h;split at h
 .rename_i ka ea n ks vl bs ck;obtain ⟨rfl,rfl,rfl,_⟩:=h;obtain ⟨β,hβ,hB⟩:=hH.blk _ _ _ _ hent;obtain ⟨β',hβ',hpv⟩:=rmv (a0w hg he hx);rw [hβ] at hβ';cases hβ';obtain ⟨hcap,hoff,es,hes,hM⟩:=hB.obj;refine b0l hH rvi (fun o' ho'=> ?_);rw [ho] at ho';simp [execOp,ho',resolve,invoke,builtin,Builtin.len_,hpv,run_underlying hu,k0T hes,hM.size,goInt]
 .exact h.elim
theorem f0H (i j:Nat) (c:Col) (hi:i<c.len):(g0G i c).at j=c.at (if j<i then j else j+1)/\(g0G i c).val j=c.val (if j<i then j else j+1)/\(g0G i c).len=c.len-1:=by
 cases c<;>simp only [Col.len] at hi<;>refine ⟨?_,?_,?_⟩<;>simp only [g0G,Col.at,Col.val,Col.len,List.getD,s0l,y0Y,if_pos hi]<;>(split<;>rfl)
theorem l0C (i:Nat) (c:Col) (hi:c.len<=i):g0G i c=c:=by
 cases c<;>simp only [g0G,Col.len] at hi⊢<;>rw [a1p hi]
theorem j0q {i n:Nat}:∀(ks:List Col),(∀c∈ks,c.len=n)->(c0e i ks).length=ks.length/\(i<n->(∀c∈c0e i ks,c.len=n-1)/\∀j,b0q (c0e i ks) j=b0q ks (if j<i then j else j+1))/\(n<=i->c0e i ks=ks)
 | [],_=>⟨rfl,fun _=>⟨by simp [c0e],fun _=>rfl⟩,fun _=>rfl⟩
 |c::l,h=>by
  obtain ⟨b0,b1,b2⟩:=j0q (i:=i) l (fun c hc=>h c (by simp [hc]));have hc:=h c (by simp);refine ⟨by simp [c0e,b0],fun hi=>⟨?_,?_⟩,fun hi=> ?_⟩
  .intro d hd;simp only [c0e,d0z] at hd;rcases hd with rfl|hd
   .rw [(f0H i 0 c (by omega)).2.2,hc]
   .exact (b1 hi).1 d hd
  .intro j;simp only [c0e,b0q,(f0H i j c (by omega)).2.1,(b1 hi).2 j]
  .simp only [c0e,l0C i c (by omega),b2 hi]
theorem l0D (i j:Nat) (c:BCol) (hi:i<c.len):(j<c.len-1->(d0r i c).at j=c.at (if j<i then j else j+1))/\(d0r i c).len=c.len-1:=by
 cases c with
 |sc c=>exact ⟨fun _=>(f0H i j c hi).1,(f0H i j c hi).2.2⟩
 |svs l=>
  simp only [BCol.len] at hi;refine ⟨fun _=> ?_,by simp only [d0r,BCol.len,y0Y,if_pos hi]⟩;simp only [d0r,BCol.at,List.getD,s0l];split<;>rfl
 |arrs n k l=>
  simp only [BCol.len] at hi;refine ⟨fun _=> ?_,by simp only [d0r,BCol.len,y0Y,if_pos hi]⟩;simp only [d0r,BCol.at,List.getD,s0l];split<;>rfl
 |own hh ns=>
  simp only [BCol.len] at hi;have e0:d0r i (.own hh ns)= .svs ((i0D hh ns).eraseIdx i):=if_pos hi;rw [e0];refine ⟨fun hj=> ?_,by simp only [BCol.len,y0Y,b0t,if_pos hi]⟩;simp only [BCol.len] at hj;rw [<-z0k (h:=hh) (ns:=ns) (by split<;>omega)];simp only [BCol.at,List.getD,s0l];split<;>rfl
 |ptrs hh n0=>
  simp only [BCol.len] at hi;have e0:d0r i (.ptrs hh n0)= .svs ((g0c hh n0).eraseIdx i):=if_pos hi;rw [e0];refine ⟨fun hj=> ?_,by simp only [BCol.len,y0Y,b0j,if_pos hi]⟩;simp only [BCol.len] at hj;have e1:(BCol.ptrs hh n0).at (if j<i then j else j+1)=(g0c hh n0).getD (if j<i then j else j+1) .unk:=(d0W (by split<;>omega)).symm;rw [e1];simp only [BCol.at,List.getD,s0l];split<;>rfl
theorem j0r {i n:Nat}:∀(vl:List BCol),(∀c∈vl,c.len=n)->(c0f i vl).length=vl.length/\(i<n->(∀c∈c0f i vl,c.len=n-1)/\∀j,j<n-1->a0p (c0f i vl) j=a0p vl (if j<i then j else j+1))/\(n<=i->c0f i vl=vl)
 | [],_=>⟨rfl,fun _=>⟨by simp [c0f],fun _ _=>rfl⟩,fun _=>rfl⟩
 |c::l,h=>by
  obtain ⟨b0,b1,b2⟩:=j0r (i:=i) l (fun c hc=>h c (by simp [hc]));have hc:=h c (by simp);refine ⟨by simp [c0f,b0],fun hi=>⟨?_,?_⟩,fun hi=> ?_⟩
  .intro d hd;simp only [c0f,d0z] at hd;rcases hd with rfl|hd
   .rw [(l0D i 0 c (by omega)).2,hc]
   .exact (b1 hi).1 d hd
  .intro j hj;simp only [c0f,a0p,(l0D i j c (by omega)).1 (by omega),(b1 hi).2 j hj]
  .have:d0r i c=c:=by
    cases c with
    |sc c=>simp only [d0r,l0C i c (show c.len<=i by simp only [BCol.len] at hc;omega)]
    |svs l=>simp only [d0r];rw [a1p (by simp only [BCol.len] at hc;omega)]
    |own hh ns=>exact if_neg (by simp only [BCol.len] at hc;omega)
    |ptrs hh n0=>exact if_neg (by simp only [BCol.len] at hc;omega)
    |arrs n0 k0 l=>simp only [d0r];rw [a1p (by simp only [BCol.len] at hc;omega)]
   simp only [c0f,this,b2 hi]
theorem q0Q (hT:a0U P T) (hg:g.glob) (he:b0r g vs a) (hH:Holds g vs.heap w) {o:Oper} {ty:TypeId} {ts:List TypeId} {tt:Array TypeId} (htt:tt.toList=ty::ts) {x y:Operand} {m k:SV} {ti:TI} (ho:o.op= .call ⟨.builtin .delete,#[x,y],tt⟩) (hx:gv vs x=some m) (hy:gv vs y=some k) (hti:a0B T ty=some ti) (hk8:Nat.beq ti.kind 8=true) (h:(g0g vs ti m k).is r U b t):b0h P a o w g vs.heap nx r U b:=by
 obtain ⟨kt,et,hu,hez,hega,hlen,hflat,hik,hbld⟩:=g0N (hT _ _ hti) hk8;have hkv:=a0w hg he hy;have hmv:=a0w hg he hx;have ht0:tt[0]? =some ty:=by rw [<-n0q,htt];rfl
 unfold g0g at h;split at h
 .rename_i hh q;obtain ⟨ro,bl,hent,h⟩:=a0A h;split at h
  .rename_i ka ea n ks vl bs ck;split at h
   .rename_i i hi;obtain ⟨rfl,rfl,rfl,_⟩:=h;obtain ⟨β,hβ,hB⟩:=hH.blk _ _ _ _ hent;obtain ⟨β',hβ',hpv⟩:=rmv hmv;rw [hβ] at hβ';cases hβ';obtain ⟨hcap,hoff,es,hes,hM⟩:=hB.obj;have K:=h0B (P:=P) (ty:=ty) (e:=et) hlen hflat hik hM hkv hi;have hblk:β.blk<w.heap.size:=hB.lt hcap;obtain ⟨c0,c1,c2⟩:=j0q (i:=i) ks hM.kl;obtain ⟨d0,d1,d2⟩:=j0r (i:=i) vl hM.vl;have fin:∀(es':Array MapEntry) (bs':List Nat) (n':Nat),MapOk g ka ea n' (c0e i ks) (c0f i vl) bs' ck es'->(Builtin.delete_ tt o.type #[a.eval x,a.eval y]).run P w= .ok (.tuple #[]) { w with heap:=w.heap.setIfInBounds β.blk (.map es' ck)}->
      b0h P a o w g vs.heap nx (.tup []) (a0L vs.heap hh q (.obj (.map ka ea n' (c0e i ks) (c0f i vl) bs' ck))) 0:=by
     intro es' bs' n' hM' hrun;obtain ⟨k1,k2⟩:=z0f (o':=Obj.map es' ck) hes;refine ⟨.tuple #[],{ w with heap:=w.heap.setIfInBounds β.blk (.map es' ck)},g,.inl ?_,c0u hH hent hβ hcap (by simp [Rv,Rvs]) (h0E hB.es hcap hoff (by simpa using hblk) ⟨es',k1,hM'⟩) rfl rfl rfl (by simp) (fun k _ hk=>k2 k hk)⟩;simp [execOp,ho,resolve,invoke,builtin,hrun]
    by_cases hlt:i<n
    .obtain ⟨e0,he0⟩:∃e0,es[i]? =some e0:=⟨es[i]'(by rw [hM.size];exact hlt),d0k _⟩;rw [if_pos hlt];refine fin (es.eraseIdxIfInBounds i) _ _ ⟨?_,(c1 hlt).1,(d1 hlt).1,?_,?_,?_,?_⟩ ?_
     .simp [Array.eraseIdxIfInBounds,hM.size,hlt]
     .rw [y0Y,if_pos (by rw [hM.bl];exact hlt),hM.bl]
     .exact hM.nd.sublist (List.eraseIdx_sublist bs i)
     .intro p hp;exact hM.lt p (List.mem_of_mem_eraseIdx hp)
     .intro j e hj;have hje:es[if j<i then j else j+1]? =some e:=by
       have h1:(es.eraseIdxIfInBounds i).toList=es.toList.eraseIdx i:=by
        unfold Array.eraseIdxIfInBounds;rw [dif_pos (by rw [hM.size];exact hlt)];simp
       have h2:(es.eraseIdxIfInBounds i).toList[j]? =some e:=by rw [n0q];exact hj
       rw [h1,s0l] at h2;split at h2
       .rename_i hji;rw [if_pos hji];simpa using h2
       .rename_i hji;rw [if_neg hji];simpa using h2
      obtain ⟨r1,r2,r3⟩:=hM.row _ e hje;refine ⟨?_,by rw [d0u c0 ((c1 hlt).2 j)];exact r2,by rw [c0i d0 ((d1 hlt).2 j (by have:=b1A hM.size hje;split at this<;>omega))];exact r3⟩;rw [r1,List.getD,List.getD,s0l];split<;>rfl
     .have hf:=K.find w;have h1:es.toList[i]? =some e0:=by simpa using he0
      rw [h1] at hf;simp [Builtin.delete_,ht0,run_underlying hu,hpv,k0T hes,K.check w,hf,s0k _ hes,Result.andThen]
    .have hin:i=n:=by have:=K.le;omega
     subst hin;rw [if_neg hlt,a1p (by rw [hM.bl];exact d0M _)];refine fin es bs i (by rw [c2 (d0M _),d2 (d0M _)];exact hM) ?_;have hf:=K.find w;have h1:es.toList[i]? =none:=f0k (by simp [hM.size]);rw [h1] at hf;simp [Builtin.delete_,ht0,run_underlying hu,hpv,k0T hes,K.check w,hf,s0k _ hes,Result.andThen]
   .exact h.elim
  .exact h.elim
 .exact h.elim
theorem q0R {ka:Bool} {ks:List Col} {i:Nat}:Rv g (s0Y ka ks i) (q0e ka ks i):=by
 have hl:∀l:List Col,Rvs g (f0q l i) (b0q l i):=by
  intro l;induction l with
  |nil=>simp only [f0q,b0q,Rvs]
  |cons c l ih=>simp only [f0q,b0q,Rvs];exact ⟨_,_,rfl,Col.at_ok g c i,ih⟩
 cases ka with
 |true=>simp only [s0Y,q0e,Rv];exact ⟨_,rfl,by simpa using hl ks⟩
 |false=>
  match ks with
  | []=>simp only [s0Y,Rv]
  | [c]=>exact Col.at_ok g c i
  |_::_::_=>simp only [s0Y,Rv]
theorem q0S {es:Array MapEntry} {bs:List Nat} {ka ea:Bool} {n ck i:Nat} {ks:List Col} {vl:List BCol} (hM:MapOk g ka ea n ks vl bs ck es) (hi:i<n):∃e,es[i]? =some e/\e.born=bs.getD i 0/\es.find? (fun x=>x.born==bs.getD i 0)=some e:=by
 obtain ⟨e,he⟩:∃e,es[i]? =some e:=⟨es[i]'(by rw [hM.size];exact hi),d0k _⟩;have hb:=(hM.row i e he).1;refine ⟨e,he,hb,?_⟩;have hl:es.toList[i]? =some e:=by simpa using he
 rw [<-Array.find?_toList,List.find?_eq_some_iff_getElem];refine ⟨by simp [hb],i,by simpa [hM.size] using hi,by simpa using (b1E.1 hl).2,?_⟩;intro j hj;have hjn:j<es.size:=by rw [hM.size];omega
 have hr:=(hM.row j es[j] (d0k hjn)).1;simp only [c1q,hr];have hne:bs.getD j 0≠bs.getD i 0:=by
  rw [List.getD,d0L (by rw [hM.bl];omega),List.getD,d0L (by rw [hM.bl];omega)];intro h;have:=(List.getElem_inj hM.nd).1 h;omega
 simpa using hne
theorem t0r (hg:g.glob) (he:b0r g vs a) (hH:Holds g vs.heap w) {o:Oper} {x:Operand} {m:SV} (ho:o.op= .entry x) (hx:gv vs x=some m) (h:(i0Z vs m).is r U b t):b0h P a o w g vs.heap nx r U b:=by
 have hmv:=a0w hg he hx;unfold i0Z at h;split at h
 .rename_i hh;obtain ⟨ro,bl,hent,h⟩:=a0A h;split at h
  .rename_i hm qm bs ck i sn;obtain ⟨ro2,bl2,hent2,h⟩:=a0A h;split at h
   .rename_i ka ea n ks vl bs2 ck2;obtain ⟨⟨rfl,rfl,hin⟩,rfl,rfl,rfl,_⟩:=h;obtain ⟨β,hβ,hB⟩:=hH.blk _ _ _ _ hent;obtain ⟨β',hβ',hpv⟩:=rpv hmv;rw [hβ] at hβ';cases hβ';obtain ⟨hcap,hoff,βm,hβm,hit,hsn⟩:=hB.obj;obtain ⟨β2,hβ2,hB2⟩:=hH.blk _ _ _ _ hent2;rw [hβm] at hβ2;cases hβ2;obtain ⟨_,_,es,hes,hM⟩:=hB2.obj;obtain ⟨e,he1,he2,he3⟩:=q0S hM hin;obtain ⟨_,r2,r3⟩:=hM.row i e he1;have hp:a.eval x= .pointer (some ⟨β.blk,0,none⟩):=by rw [hpv];simp [Base.addr,hoff]
    refine b0l (v:= .tuple #[e.key,e.val]) hH (by simp only [Rv,Rvs];exact ⟨_,rfl,_,_,rfl,by rw [r2];exact q0R,_,_,rfl,r3,rfl⟩) (fun o' ho'=> ?_);have hgi:(getObj β.blk).run P w= .ok (.mapIter (some βm.blk) ck2 (((i::sn).reverse.map (fun i=>bs2.getD i 0)).toArray) ck2) w:=by simp [getObj,Sem.run,hit]
    have hbk:(((i::sn).reverse.map (fun i=>bs2.getD i 0)).toArray).back? =some (bs2.getD i 0):=by
     rw [<-Array.getLast?_toList];simp
    rw [ho] at ho';have hrun:(Instr.entry (.pointer (some ⟨β.blk,0,none⟩))).run P w= .ok (.tuple #[e.key,e.val]) w:=by
     simp only [Instr.entry,e0M,hgi,Result.andThen];rw [hbk];simp only [e0M,k0T hes,Result.andThen];have he4:=he3;rw [List.getD_eq_getElem?_getD] at he4;simp [he4]
    simp [execOp,ho',hp,hrun]
   .exact h.elim
  .exact h.elim
 .exact h.elim
end ops
end Go.Sy
namespace Go.Sy
open Go.RowKit
section ops
variable {P:Program} {T:Tab} {g:G} {vs:VS} {a:Act} {w:World} {r:SV} {U:a0g} {b:Nat} {t:List Nat} {H:a0g} {nx:Nat}
theorem m0T (h:Array Obj) (x:Obj) (f:Obj->Obj):(h.push x).modify h.size f=h.push (f x):=by
 apply Array.ext_getElem?;intro i;rw [i0l];by_cases e:h.size=i
 .subst e;simp
 .rw [if_neg e];simp only [e1O,Ne.symm e,if_false]
theorem l0E (g:G):∀(cs:List Col) (i:Nat) (l:List Value),l.length=cs.length->(∀j c,nth cs j=some c->l[j]? =some (c.val i))->Rvs g (f0q cs i) l
 | [],i,l,hl,_=>by simp only [f0q,Rvs];exact e1A.1 hl
 |c::cs,i,[],hl,_=>by simp at hl
 |c::cs,i,v::l,hl,h=>by
  have h0:=h 0 c rfl;simp only [z0d,Option.some.injEq] at h0;subst h0;simp only [f0q,Rvs];exact ⟨_,_,rfl,Col.at_ok g c _,l0E g cs i l (by simpa using hl) (fun j c' hj=>by simpa using h (j+1) c' hj)⟩
theorem m0U (w:World) (c:Array Value) (e:TypeId):(w.alloc (.cells c e)).shape? w.heap.size=some (e,c.size):=by
 have:(w.alloc (.cells c e)).heap[w.heap.size]? =some (.cells c e):=Array.getElem?_push_size;unfold World.shape?;rw [this]
theorem j0s (q:Question) (hq:q.forced=false):(choose q).run P w= .ok (q.cut (w.tape w.drawn q)) w.drew:=by
 simp [choose,Sem.run,hq]
theorem j0t:∀(l:List Int) (s:ByteArray),l.foldl (fun r n=>r.push (UInt8.ofNat n.toNat)) s=⟨s.data++(l.map (fun x=>UInt8.ofNat x.toNat)).toArray⟩
 | [],s=>by simp
 |x::l,s=>by rw [List.foldl_cons,j0t l];simp [ByteArray.push]
theorem g0U {ad:Addr} {n c:Nat} {l:List Int} (hl:(loadCells ad n).run P w= .ok (l.map (Value.int .u8)).toArray w):(Conv.bytesToString (.slice (some ad) n c)).run P w= .ok (.string (a0m l)) w:=by
 rw [run_bytesToString w ad n c l hl,j0t];simp [a0m,ByteArray.empty,ByteArray.emptyWithCapacity];rfl
theorem w0p (hT:a0U P T) (hg:g.glob) (he:b0r g vs a) (hH:Holds g vs.heap w) (hn:b=1->∀q,g nx q=none) {o:Oper} {ts td:TypeId} {x:Operand} {v:SV} {ta tb:TI} (ho:o.op= .convert ts td x) (hx:gv vs x=some v) (hta:a0B T ts=some ta) (htb:a0B T td=some tb) (h:(s0X vs nx ta tb v).is r U b t):b0h P a o w g vs.heap nx r U b:=by
 have hxv:=a0w hg he hx;obtain ⟨ia,da,_,hda,_,hka⟩:=h0n (hT _ _ hta);have htb':=hT _ _ htb;unfold s0X at h;split at h
 .rename_i k n;replace h:=a0i h;obtain ⟨hk,h⟩:=h;obtain ⟨rfl,rfl,rfl,_⟩:=h;unfold g0H at htb';split at htb'
  .rename_i i d hi hd;simp only [Option.some.injEq] at htb';have hkd:a0N d=2:=by rw [<-htb'] at hk;exact c0k hk
   obtain ⟨k',rfl⟩:∃k,d= .int k:=by cases d<;>first|exact ⟨_,rfl⟩|(exact absurd hkd (by simp [a0N]))
   have hik:tb.ik=k':=by rw [<-htb']
   refine b0l hH rvi (fun o' ho'=> ?_);rw [ho] at ho';simp [execOp,ho',Go.convert,run_underlying hda,run_underlying hd,riv hxv,Conv.intToInt,hik]
  .cases htb'
 .rename_i s;cases hk:Nat.beq tb.kind 3 with
  |true=>
   rw [hk] at h;simp only [cond_true] at h;obtain ⟨rfl,rfl,rfl,_⟩:=h;obtain ⟨d,hd,hkd⟩:=b0U htb' hk;have hd':d= .string:=by cases d<;>first|rfl|(exact absurd hkd (by simp [a0N]))
   subst hd';refine b0l hH rvt (fun o' ho'=> ?_);rw [ho] at ho';simp [execOp,ho',Go.convert,run_underlying hda,run_underlying hd,rtv hxv]
  |false=>
   rw [hk] at h;simp only [cond_false] at h;replace h:=a0i h;obtain ⟨hu,h⟩:=h;simp only [c0q] at hu;obtain ⟨rfl,rfl,rfl,_⟩:=h;unfold g0H at htb';split at htb'
   .rename_i i d hi hd;simp only [Option.some.injEq] at htb';have hu8:=congrArg TI.u8 htb';rw [hu.1] at hu8;cases d with
    |slice e=>
     simp only at hu8;split at hu8
     .rename_i hue;let cap:=(Question.appendCap s.size 0 e).cut (w.tape w.drawn (Question.appendCap s.size 0 e))
      have hcap:s.size<=cap:=by simp only [cap,Question.cut];omega
      let cs:Array Value:=(s.data.map fun b=>Value.int .u8 b.toNat)++Array.replicate (cap-s.size) (.int .u8 0)
      have hcs:cs.size=cap:=by simp only [cs,b1B,Array.size_map,Array.size_replicate];have:s.data.size=s.size:=rfl;omega
      let w':World:=(w.drew.alloc (.cells cs e)).freeze ⟨w.heap.size,cs.size,none⟩ 1
      have hheap:w'.heap=w.heap.push (.cells cs e (cs.size,cs.size+1)):=by
       simp only [w',World.freeze,Nat.one_ne_zero,if_false];exact m0T w.heap _ _
      have hrun:(execOp a.eval o).run P w= .ok (.value (.slice (some ⟨w.heap.size,0,none⟩) s.size cap)) w':=by
       have hq:(Question.appendCap s.size 0 e).forced=false:=rfl;have hsh:(w.drew.alloc (.cells cs e)).shape? w.heap.size=some (e,cs.size):=m0U w.drew cs e;have hch:(choose (Question.appendCap s.size 0 e)).run P w= .ok cap w.drew:=j0s _ hq;have hmk:(markStringish ⟨w.heap.size,0,none⟩).run P (w.drew.alloc (.cells cs e))= .ok () w':=by
        simp [markStringish,shape,Sem.run,hsh,freeze,w']
       have hcv:(Conv.stringToBytes e s).run P w= .ok (.slice (some ⟨w.heap.size,0,none⟩) s.size cap) w':=by
        simp only [Conv.stringToBytes,e0M,hch,d0N,newRow,b0O,i0S];exact (congrArg (fun r=>Result.andThen r _) hmk).trans rfl
       simp [execOp,ho,Go.convert,run_underlying hda,run_underlying hd,rtv hxv,run_underlying hue,hcv]
      refine ⟨_,w',_,.inl hrun,e0e (bl:= .cols s.size [.sc (.ints .u8 (h0g s))]) (cap:=cap) (.inr rfl) hH hheap ?_ ?_ ?_ (hn rfl) ?_ ?_ ?_ (fun i hi=>by simp only [Blk.has] at hi;omega) ?_ (l0l hcap)⟩
      .rfl
      .rfl
      .rfl
      .intro c hc;simp at hc;subst hc;simp [BCol.len,Col.len,h0g]
      .intro v hv;simp only [cs,u0Y,k0Q,Array.toList_map,m0l,Array.toList_replicate,List.mem_replicate] at hv;rcases hv with ⟨x,_,rfl⟩|⟨_,rfl⟩<;>rfl
      .simp [Blk.es,hcs]
      .intro i j sv hi hj;simp only [Blk.has] at hi;cases j with
       |zero=>
        simp only [Blk.at,nth,Option.some.injEq] at hj;subst hj;have hlt:i<s.data.size:=hi;refine ⟨.int .u8 (s.data[i].toNat:Int),?_,?_⟩
        .simp only [Blk.es,x0C,b1G,n0r,cs];rw [r0f (by simpa using hlt),Array.getElem?_map,d0k hlt];rfl
        .simp only [BCol.at,Col.at,h0g,Rv];congr 1;rw [List.getD,f0l,n0q,d0k hlt];rfl
       |succ j=>simp [Blk.at,nth] at hj
     .cases hu8
    |_=>simp only at hu8;cases hu8
   .cases htb'
 .rename_i hd' q i n;replace h:=a0i h;obtain ⟨hc,h⟩:=h;simp only [c0q] at hc;obtain ⟨d,hd,hkd⟩:=b0U htb' hc.1;have hd':d= .string:=by cases d<;>first|rfl|(exact absurd hkd (by simp [a0N]))
  subst hd';obtain ⟨e,hde,hue⟩:∃e,P.underlying ts=some (.slice e)/\P.underlying e=some (.int .u8):=by
   have hta':=hT _ _ hta;unfold g0H at hta';split at hta'
   .rename_i i' d' hi' hd'';simp only [Option.some.injEq] at hta';have hu8:=congrArg TI.u8 hta';rw [hc.2] at hu8;cases d' with
    |slice e=>
     simp only at hu8;split at hu8
     .rename_i hh;exact ⟨e,hd'',hh⟩
     .cases hu8
    |_=>simp only at hu8;cases hu8
   .cases hta'
  replace h:=a0A h;obtain ⟨ro,bl,hent,h⟩:=h;split at h
  .rename_i m l;obtain ⟨hle,rfl,rfl,rfl,_⟩:=h;obtain ⟨base,c,hxe,hnc,hz⟩:=rsv hxv;obtain ⟨cs,k1,k2,_,k4⟩:=(f0D (P:=P) hH hent hxv hle 1 rfl).first n (d0M _)
   have hcs:cs=((seg i n l).map (Value.int .u8)).toArray:=by
    obtain ⟨β,hβ,hB⟩:=hH.blk _ _ _ _ hent;have hlen:l.length=m:=hB.len (.sc (.ints .u8 l)) (by simp);have hsl:(seg i n l).length=n:=by simp only [seg,m0z,x0A];omega
    apply Array.ext
    .simp [k2,hsl]
    .intro x h1 h2;have hx:x<n:=by rw [k2] at h1;omega
     obtain ⟨u,u1,u2⟩:=k4 x 0 (.sc (.ints .u8 (seg i n l))) hx (by simp [m0D,BCol.seg,Col.seg,nth]);simp only [b1G,n0r,d0k h1,Option.some.injEq] at u1;rw [u1];have:=riv (show Rv g (.int .u8 ((seg i n l).getD x 0)) u from u2);rw [this];simp [List.getD,hsl,hx]
   have hx0:=k1 w rfl;rw [hxe] at hx0;refine b0l hH rvt (fun o' ho'=> ?_);rw [ho] at ho';cases base with
   |none=>
    have hn0:n=0:=by
     rcases hz with hz|⟨β,_,hba,_⟩
     .omega
     .cases hba
    subst hn0;simp [execOp,ho',hxe,run_convert_bytes_string w ts td e none 0 c hde hue hd,Conv.bytesToString,a0m,seg,ByteArray.empty,ByteArray.emptyWithCapacity];rfl
   |some ad=>
    simp only [Builtin.firstCells,b1G] at hx0;rw [hcs] at hx0;simp [execOp,ho',hxe,run_convert_bytes_string w ts td e (some ad) n c hde hue hd,g0U hx0]
  .exact h.elim
 .exact h.elim
theorem v0g (hT:a0U P T) (hg:g.glob) (he:b0r g vs a) (hH:Holds g vs.heap w) {o:Oper} (hn:∀h q,nx<=h->h<nx+b->g h q=none) (h:(eff T vs nx o.op).is r U b t):b0h P a o w g vs.heap nx r U b:=by
 have hn1:b=1->∀q,g nx q=none:=fun e q=>hn nx q (d0M _) (by omega)
 have look:∀{v:Value} {s:SV},Rv g s v->c0C P o.op a w v->(Res.one s).is r U b t->b0h P a o w g vs.heap nx r U b:=by
  rintro v s hv hy ⟨rfl,rfl,rfl,_⟩;exact b0l hH hv hy
 have lookw:∀{c:Prop} {v:Value} {s:SV} {tt:List Nat},(Res.when c s [] 0 tt).is r U b t->(c->Rv g s v/\c0C P o.op a w v)->b0h P a o w g vs.heap nx r U b:=by
  rintro c v s tt ⟨hc,rfl,rfl,rfl,_⟩ hh;exact b0l hH (hh hc).1 (hh hc).2
 generalize hop:o.op=op at h;rw [hop] at look lookw;cases op with
 |move x=>
  simp only [eff] at h;split at h
  .rename_i v hv;exact look (a0w hg he hv) (fun o' ho'=>by simp [execOp,ho']) h
  .exact h.elim
 |assign x=>
  simp only [eff] at h;split at h
  .rename_i v hv;exact look (a0w hg he hv) (fun o' ho'=>by simp [execOp,ho']) h
  .exact h.elim
 |nilCheck x=>
  simp only [eff] at h;split at h
  .rename_i hx;have hv:=a0w hg he hx;obtain ⟨β,_,e⟩:=rpv hv;exact look hv (fun o' ho'=>by simp [execOp,ho',e]) h
  .rename_i hx;have hv:=a0w hg he hx;have hv':=hv;simp only [Rv] at hv';obtain ⟨_,e,_⟩:=hv';exact look hv (fun o' ho'=>by
    unfold fnV at e;revert e;cases Nat.blt _ 1048576<;>intro e<;>simp only [cond_true,cond_false] at e<;>simp [execOp,ho',e]) h
  .rename_i hx;have hv:=a0w hg he hx;have hv':=hv;simp only [Rv] at hv';obtain ⟨_,e,_⟩:=hv';exact look hv (fun o' ho'=>by simp [execOp,ho',e]) h
  .exact h.elim
 |pick c x y=>
  simp only [eff] at h;split at h
  .rename_i hc;split at h
   .rename_i v hv;exact look (a0w hg he hv) (fun o' ho'=>by simp [execOp,ho',rbv (a0w hg he hc),asBool]) h
   .exact h.elim
  .rename_i hc;split at h
   .rename_i v hv;exact look (a0w hg he hv) (fun o' ho'=>by simp [execOp,ho',rbv (a0w hg he hc),asBool]) h
   .exact h.elim
  .exact h.elim
 |binOp op ty x y t'=>
  simp only [eff] at h;split at h
  .rename_i s u hx hy;obtain ⟨rfl,rfl,v,hr,hyy⟩:=w0g (w:=w) hT (t':=t') (a0w hg he hx) (a0w hg he hy) h;exact b0l hH hr (by rw [hop];exact hyy)
  .exact h.elim
 |unOp op ty x=>
  simp only [eff] at h;split at h
  .rename_i c hx;exact look rvb (fun o' ho'=>by simp [execOp,ho',rbv (a0w hg he hx),Op.unary]) h
  .rename_i k n hx;exact look rvi (fun o' ho'=>by simp [execOp,ho',riv (a0w hg he hx),Op.unary,Op.intArith]) h
  .rename_i k n hx;exact look rvi (fun o' ho'=>by simp [execOp,ho',riv (a0w hg he hx),Op.unary,Op.intBits,w0c,m0F]) h
  .exact h.elim
 |fieldAddr s x f=>
  simp only [eff] at h;split at h
  .rename_i hd q i j ti hx hti;replace h:=c0g h;obtain ⟨hk,h⟩:=h;split at h
   .rename_i of n ag hf;replace h:=c0g h;obtain ⟨hn0,h⟩:=h;obtain ⟨fs,fld,hu,hfld,hoff,hsz,_⟩:=l0j (hT _ _ hti) (by simpa using hk) hf hn0;obtain ⟨β,hβ,e⟩:=rpv (a0w hg he hx);refine look (v:= .pointer (some (β.addr i (j+of)))) (by simp only [Rv];exact ⟨β,hβ,rfl⟩) (fun o' ho'=> ?_) h;have hne:n≠0:=by intro e0;rw [e0] at hn0;simp at hn0
    simp [execOp,ho',Instr.fieldAt,run_underlying hu,hfld,e,Instr.sureAddr,fieldPlace,hsz,hne,hoff,c0n]
   .exact h.elim
  .exact h.elim
 |field s x f=>
  simp only [eff] at h;split at h
  .rename_i l ti hx hti;replace h:=c0g h;obtain ⟨hk,h⟩:=h;split at h
   .rename_i of n ag hf;replace h:=c0g h;obtain ⟨hn0,h⟩:=h;obtain ⟨fs,fld,hu,hfld,hoff,hsz,hag⟩:=l0j (hT _ _ hti) (by simpa using hk) hf hn0;obtain ⟨xs,e,rx⟩:=rav (a0w hg he hx);cases ag with
    |true=>
     simp only [cond_true] at h;split at h
     .rename_i r' hr';obtain ⟨t1,t2⟩:=n0O n _ _ r' (n0P of l _ rx) hr';refine look (v:= .agg (xs.extract of (of+n))) ?_ (fun o' ho'=> ?_) h
      .simp only [Rv];refine ⟨_,rfl,?_⟩;rw [e1J,d1E];simpa using t1
      .simp [execOp,ho',Instr.field,run_underlying hu,hfld,e,asAgg,part,hag,hsz,hoff]
     .exact h.elim
    |false=>
     simp only [cond_false] at h;split at h
     .rename_i v hv;obtain ⟨u,hu1,hu2⟩:=Rvs.nth l xs.toList of v rx hv;have hu':xs[of]? =some u:=by simpa using hu1
      exact look hu2 (fun o' ho'=>by simp [execOp,ho',Instr.field,run_underlying hu,hfld,e,asAgg,part,hag,hoff,hu']) h
     .exact h.elim
   .exact h.elim
  .exact h.elim
 |load ty x=>exact w0i hT hg he hH hop h
 |store ty x y=>exact t0h hT hg he hH hop h
 |extract x ix=>
  simp only [eff] at h;split at h
  .rename_i l hx;split at h
   .rename_i v hv;obtain ⟨xs,e,rx⟩:=ruv (a0w hg he hx);obtain ⟨u,hu,hr⟩:=Rvs.nth l xs.toList ix v rx hv;have hu':xs[ix]? =some u:=by simpa using hu
    exact look hr (fun o' ho'=>by simp [execOp,ho',e,Instr.extract,hu']) h
   .exact h.elim
  .exact h.elim
 |index ty x ix=>
  simp only [eff] at h;split at h
  .rename_i s k i ti hx hix hti;replace h:=a0i h;obtain ⟨hk,h⟩:=h;obtain ⟨d,hd,hkd⟩:=b0U (hT _ _ hti) hk;have hd':d= .string:=by cases d<;>first|rfl|(exact absurd hkd (by simp [a0N]))
   subst hd';refine lookw (v:= .int .u8 (a0h s i)) h (fun hc=>⟨rvi,fun o' ho'=> ?_⟩);have hlt:i.toNat<s.size:=by omega
   have hb:s[i.toNat]? =some s[i.toNat]:=by simp [hlt]
   have e:a0h s i=((s[i.toNat]).toNat:Int):=by
    unfold a0h;have:s.data.toList.getD i.toNat 0=s[i.toNat]:=by
     have h':i.toNat<s.data.toList.length:=by simpa using hlt
     have e1:s.data.toList.getD i.toNat 0=s.data.toList[i.toNat]:=by rw [List.getD,d0L h'];rfl
     rw [e1];rfl
    rw [this]
   simp [execOp,ho',Instr.index,rtv (a0w hg he hx),riv (a0w hg he hix),asIntOf,run_underlying hd,hc.1,hb,e]
  .rename_i n c k i ti hx hix hti;replace h:=a0i h;obtain ⟨hk,h⟩:=h;simp only [c0q,i0o] at hk;obtain ⟨⟨⟨h1,h2⟩,h3⟩,h4⟩:=hk;obtain ⟨e,hdd,hel,hag,_⟩:=e0g (hT _ _ hti) h1;have e1:=c0k h2;have e4:=c0k h4;have hsz:∀w,(sizeOf e).run P w= .ok 1 w:=fun w=>by rw [<-e1,hel];exact c0F (by rw [<-hel,e1];simp) w
   have hna:∀w,(isAgg e).run P w= .ok false w:=by
    intro w;rw [h3] at hag;have hag':b1w P e=true:=by simpa using hag.symm
    unfold b1w at hag';split at hag'<;>first|(cases hag';done)|skip
    rename_i d hd1 hd2 hd3;unfold isAgg;simp only [e0M,run_underlying hd3,d0N];cases d<;>first|rfl|(rename_i x;exact absurd rfl (hd1 x))|(rename_i x y;exact absurd rfl (hd2 x y))
   obtain ⟨xs,ex,a1,a2,a3⟩:=b1y (a0w hg he hx);refine lookw (v:=c.val i.toNat) h (fun hc=>⟨Col.at_ok g c _,fun o' ho'=> ?_⟩);have a0x:=a3 i.toNat 0 c (by omega) rfl;simp only [x0C,b1G,n0r] at a0x;simp [execOp,ho',Instr.index,ex,riv (a0w hg he hix),asIntOf,run_underlying hdd,hc.1,hc.2,hsz,part,hna,a0x]
  .rename_i n cs k i ti _ hx hix hti;replace h:=a0i h;obtain ⟨hk,h⟩:=h;simp only [c0q,i0o] at hk;obtain ⟨⟨⟨⟨h1,h2⟩,h3⟩,h4⟩,h5⟩:=hk;obtain ⟨e,hdd,hel,_,hag⟩:=e0g (hT _ _ hti) h1;have e1:=c0k h2;have e4:=c0k h4;have e5:ti.el≠0:=Nat.ne_of_beq_eq_false h5;have hsz:∀w,(sizeOf e).run P w= .ok cs.length w:=fun w=>by rw [<-e1,hel];exact c0F (by rw [<-hel];exact e5) w
   have hna:∀w,(isAgg e).run P w= .ok true w:=by
    intro w;rw [h3] at hag;have hag':o0Z P e=true:=hag.symm;unfold o0Z at hag';split at hag'<;>first|(cases hag';done)|skip
    .rename_i hd1;unfold isAgg;simp only [e0M,run_underlying hd1,d0N];rfl
    .rename_i hd1;unfold isAgg;simp only [e0M,run_underlying hd1,d0N];rfl
   obtain ⟨xs,ex,a1,a2,a3⟩:=b1y (a0w hg he hx);refine lookw (v:= .agg (xs.extract (i.toNat*cs.length) (i.toNat*cs.length+cs.length))) h (fun hc=>⟨?_,fun o' ho'=> ?_⟩)
   .have hi:i.toNat<n:=by omega
    have hle:i.toNat*cs.length+cs.length<=xs.size:=by
     rw [a1,show i.toNat*cs.length+cs.length=(i.toNat+1)*cs.length from by rw [Nat.add_mul,Nat.one_mul]];exact j0c _ hi
    simp only [Rv];refine ⟨_,rfl,l0E g cs i.toNat _ (by simp;omega) (fun j c hj=> ?_)⟩;have hjl:=b0y hj;have:=a3 i.toNat j c hi hj;simp only [n0q];rw [Array.getElem?_extract];rw [if_pos (by omega)];exact this
   .simp [execOp,ho',Instr.index,ex,riv (a0w hg he hix),asIntOf,run_underlying hdd,hc.1,hc.2,hsz,part,hna]
  .exact h.elim
 |indexAddr ty x ix=>
  simp only [eff] at h;split at h
  .rename_i hd q i n k m ti hx hix hti;replace h:=c0g h;obtain ⟨hk,h⟩:=h;replace h:=a0A h;obtain ⟨ro,bl,hent,h⟩:=h;replace h:=a0i h;obtain ⟨hes,h⟩:=h;simp only [c0q,i0o] at hes;obtain ⟨e,hdd,hel⟩:=c0P (hT _ _ hti) (by simpa using hk);have he0:P.cellsOf e≠0:=by intro e0;rw [hel,e0] at hes;simp at hes
   have hsz:∀w,(sizeOf e).run P w= .ok ti.el w:=fun w=>by rw [hel];exact c0F he0 w
   obtain ⟨β,hβ,hB⟩:=hH.blk _ _ _ _ hent;have hes':β.es=ti.el:=hB.es.trans (c0k hes.1);obtain ⟨base,c,hxe,hnc,hz⟩:=rsv (a0w hg he hx);refine lookw (v:= .pointer (some (β.addr (m.toNat+i) 0))) h (fun hc=>⟨by simp only [Rv];exact ⟨β,hβ,rfl⟩,fun o' ho'=> ?_⟩);rcases hz with hz|⟨β',hβ',hba,hcap⟩
   .omega
   .rw [hβ] at hβ';cases hβ';subst hba;have ha:(β.addr i 0).add (m.toNat*ti.el)=β.addr (m.toNat+i) 0:=by rw [<-hes',c0M,y0W]
    simp [execOp,ho',Instr.indexAt,hxe,riv (a0w hg he hix),asIntOf,run_underlying hdd,hc.1,hc.2,hsz,ha]
  .rename_i hd q k m ti hx hix hti;replace h:=c0g h;obtain ⟨hk,h⟩:=h;replace h:=a0A h;obtain ⟨ro,bl,hent,h⟩:=h;split at h
   .rename_i n l;replace h:=a0i h;obtain ⟨hes,h⟩:=h;simp only [c0q,i0o] at hes;obtain ⟨e,hdd,hel,_⟩:=e0g (hT _ _ hti) (by simpa using hk);have he0:P.cellsOf e≠0:=by intro e0;rw [hel,e0] at hes;simp at hes
    have hsz:∀w,(sizeOf e).run P w= .ok ti.el w:=fun w=>by rw [hel];exact c0F he0 w
    obtain ⟨β,hβ,hB⟩:=hH.blk _ _ _ _ hent;have hes':β.es=ti.el:=hB.es.trans (c0k hes.1.2);obtain ⟨β',hβ',hpv⟩:=rpv (a0w hg he hx);rw [hβ] at hβ';cases hβ';refine lookw (v:= .pointer (some (β.addr m.toNat 0))) h (fun hc=>⟨by simp only [Rv];exact ⟨β,hβ,rfl⟩,fun o' ho'=> ?_⟩);have ha:(β.addr 0 0).add (m.toNat*ti.el)=β.addr m.toNat 0:=by rw [<-hes',c0M,i0s]
    simp [execOp,ho',Instr.indexAt,hpv,Instr.sureAddr,riv (a0w hg he hix),asIntOf,run_underlying hdd,hc.1,hc.2,hsz,ha]
   .exact h.elim
  .rename_i hd q i j k m ti hx hix hti;replace h:=a0i h;obtain ⟨hes,h⟩:=h;simp only [c0q] at hes;obtain ⟨e,hdd,hel,_⟩:=e0g (hT _ _ hti) hes.1;have h1:=c0k hes.2;have hsz:∀w,(sizeOf e).run P w= .ok ti.el w:=fun w=>by rw [hel];exact c0F (by rw [<-hel,h1];decide) w
   rw [h1] at hsz;obtain ⟨β,hβ,hpv⟩:=rpv (a0w hg he hx);refine lookw (v:= .pointer (some (β.addr i (j+1+m.toNat)))) h (fun hc=>⟨by simp only [Rv];exact ⟨β,hβ,rfl⟩,fun o' ho'=> ?_⟩);simp [execOp,ho',Instr.indexAt,hpv,Instr.sureAddr,riv (a0w hg he hix),asIntOf,run_underlying hdd,hc.1,hc.2,hsz,c0n]
  .exact h.elim
 |build ty parts=>exact t0j hT hg he hH hop h
 |buildSlice ty len parts=>exact k0a hT hg he hH hn1 hop h
 |makeSlice ty x y=>exact l0q hT hg he hH hn1 hop h
 |slice ty x lo hi mx=>
  simp only [eff] at h;split at h
  .rename_i v ti hx hti;exact t0m hT hg he hH hop hx hti h
  .exact h.elim
 |alloc ty=>
  simp only [eff] at h;split at h
  .rename_i ti hti;cases hc:(Nat.beq ti.kind 4&&Nat.beq ti.len 1) with
   |false=>rw [hc] at h;exact t0i hT hH hn1 hop hti h
   |true=>rw [hc] at h;exact z0t hT hH hn1 hop hti h
  .exact h.elim
 |box ty x=>exact z0p hg he hH hn1 hop h
 |makeFunc fn first captured=>
  cases fn with
  |func f=>
   simp only [eff] at h;cases hb:Nat.blt f 1048576 with
   |false=>rw [hb] at h;exact h.elim
   |true=>
    rw [hb,cond_true] at h;split at h
    .rename_i l hf hl;have hf':first= #[]:=by
      have h0:=h0l hg he _ _ hf;simp only [Rvs,List.map_eq_nil_iff] at h0;exact n0p.1 (by simpa using h0)
     have hr:=h0l hg he _ _ hl;refine look (v:= .func (.func f) #[] (captured.map a.eval)) (by simp only [Rv];exact ⟨_,(n0D hb).symm,by rw [Array.toList_map];exact hr⟩) (fun o' ho'=> ?_) h;simp [execOp,ho',Instr.makeFunc,hf']
    .rename_i l hne hl hc;have hc':captured= #[]:=by
      have h0:=h0l hg he _ _ hc;simp only [Rvs,List.map_eq_nil_iff] at h0;exact n0p.1 (by simpa using h0)
     have hr:=h0l hg he _ _ hl;have hb2:Nat.blt (f+1048576) 1048576=false:=by
      cases q:Nat.blt (f+1048576) 1048576 with
      |false=>rfl
      |true=>have:=k0S q;omega
     refine look (v:= .func (.func f) (first.map a.eval) #[]) (by simp only [Rv];exact ⟨_,(by rw [z0i hb2,a1m]),by rw [Array.toList_map];exact hr⟩) (fun o' ho'=> ?_) h;simp [execOp,ho',Instr.makeFunc,hc']
    .exact h.elim
  |_=>simp only [eff] at h;exact h.elim
 |makeInterface ty x=>
  simp only [eff] at h;split at h
  .rename_i v ti hx hti;replace h:=c0g h;obtain ⟨hk,h⟩:=h;obtain ⟨i,d,_,hd,_,hkd⟩:=h0n (hT _ _ hti);refine look (v:= .iface ty (a.eval x)) (by simp only [Rv];exact ⟨_,rfl,a0w hg he hx⟩) (fun o' ho'=> ?_) h;cases d<;>first|(simp [execOp,ho',Instr.makeInterface,run_underlying hd];done)|(rw [<-hkd] at hk;simp [a0N] at hk)
  .exact h.elim
 |call c=>
  obtain ⟨callee,args,ts⟩:=c;cases callee with
  |value f=>simp only [eff] at h;exact h.elim
  |invoke r m=>simp only [eff] at h;exact h.elim
  |builtin bi=>
   simp only [eff] at h;split at h
   .rename_i x hargs;have ha:args= #[x]:=n0p.1 (by simpa using hargs);subst ha;split at h
    .rename_i ty hts;have ht:ts= #[ty]:=n0p.1 (by simpa using hts);subst ht;split at h
     .rename_i s ti hx hti;replace h:=a0i h;obtain ⟨hk,h⟩:=h;obtain ⟨d,hd,hkd⟩:=b0U (hT _ _ hti) hk;have hd':d= .string:=by cases d<;>first|rfl|(exact absurd hkd (by simp [a0N]))
      subst hd';exact look rvi (fun o' ho'=>by simp [execOp,ho',resolve,invoke,builtin,Builtin.len_,rtv (a0w hg he hx),run_underlying hd,goInt]) h
     .rename_i n ti hx hti;replace h:=a0i h;obtain ⟨hk,h⟩:=h;obtain ⟨e,hd,_⟩:=c0P (hT _ _ hti) hk;obtain ⟨ad,c,hv,_⟩:=rsv (a0w hg he hx);exact look rvi (fun o' ho'=>by simp [execOp,ho',resolve,invoke,builtin,Builtin.len_,hv,run_underlying hd,goInt]) h
     .rename_i ti hx hti;replace h:=a0i h;obtain ⟨hk,h⟩:=h;obtain ⟨e,hd,_⟩:=c0P (hT _ _ hti) hk;have hv:a.eval x= .slice none 0 0:=by have:=a0w hg he hx;simpa only [Rv] using this
      exact look rvi (fun o' ho'=>by simp [execOp,ho',resolve,invoke,builtin,Builtin.len_,hv,run_underlying hd,goInt]) h
     .rename_i ti hx hti;replace h:=a0i h;obtain ⟨hk,h⟩:=h;obtain ⟨e,hd,_⟩:=c0P (hT _ _ hti) hk;obtain ⟨ad,hv⟩:∃ad,a.eval x= .slice ad 0 0:=by have:=a0w hg he hx;simpa only [Rv] using this
      exact look rvi (fun o' ho'=>by simp [execOp,ho',resolve,invoke,builtin,Builtin.len_,hv,run_underlying hd,goInt]) h
     .rename_i ti hx hti;replace h:=a0i h;obtain ⟨hk,h⟩:=h;obtain ⟨kt,et,hd,_⟩:=g0N (hT _ _ hti) hk;exact look rvi (fun o' ho'=>by simp [execOp,ho',resolve,invoke,builtin,Builtin.len_,rnm (a0w hg he hx),run_underlying hd,goInt]) h
     .rename_i ti hx hti;replace h:=a0i h;obtain ⟨hk,h⟩:=h;exact w0o hT hg he hH hop hx hti hk h
     .exact h.elim
    .exact h.elim
   .rename_i x y hargs;have ha:args= #[x,y]:=n0p.1 (by simpa using hargs);subst ha;split at h
    .rename_i t1 tr hts;split at h
     .rename_i m k ti hx hy hti;replace h:=a0i h;obtain ⟨hk,h⟩:=h;exact q0Q hT hg he hH hts hop hx hy hti hk h
     .exact h.elim
    .exact h.elim
   .rename_i x hargs;have ha:args= #[x]:=n0p.1 (by simpa using hargs);subst ha;split at h
    .rename_i t1 tr hts;split at h
     .rename_i s ti hx hti;replace h:=a0i h;obtain ⟨hk,h⟩:=h;exact t0l hT hg he hH hts hop hx hti hk h
     .exact h.elim
    .exact h.elim
   .rename_i x y hargs;have ha:args= #[x,y]:=n0p.1 (by simpa using hargs);subst ha;split at h
    .rename_i p m q n hx hy;replace h:=a0i h;obtain ⟨hk,h⟩:=h;have:=b0s hk;subst this;refine look rvi (fun o' ho'=> ?_) h;simp only [execOp,ho',resolve,invoke,builtin,Builtin.min_];simp [riv (a0w hg he hx),riv (a0w hg he hy),Builtin.min2];omega
    .rename_i m n hx hy;refine look rvt (fun o' ho'=> ?_) h;simp only [execOp,ho',resolve,invoke,builtin,Builtin.min_];have hb:∀(b:Bool) (w:World),(asBool (.bool b)).run P w= .ok b w:=fun _ _=>rfl
     simp [rtv (a0w hg he hx),rtv (a0w hg he hy),Builtin.min2,Op.stringOp,v0a,c0J,b0c,seq,hb]
    .exact h.elim
   .rename_i x y hargs;have ha:args= #[x,y]:=n0p.1 (by simpa using hargs);subst ha;split at h
    .rename_i p m q n hx hy;replace h:=a0i h;obtain ⟨hk,h⟩:=h;have:=b0s hk;subst this;refine look rvi (fun o' ho'=> ?_) h;simp only [execOp,ho',resolve,invoke,builtin,Builtin.max_];simp [riv (a0w hg he hx),riv (a0w hg he hy),Builtin.max2];omega
    .rename_i m n hx hy;refine look rvt (fun o' ho'=> ?_) h;simp only [execOp,ho',resolve,invoke,builtin,Builtin.max_];have hb:∀(b:Bool) (w:World),(asBool (.bool b)).run P w= .ok b w:=fun _ _=>rfl
     simp [rtv (a0w hg he hx),rtv (a0w hg he hy),Builtin.max2,Op.stringOp,v0b,c0J,hb]
    .exact h.elim
   .rename_i x y hargs;have ha:args= #[x,y]:=n0p.1 (by simpa using hargs);subst ha;split at h
    .rename_i t1 t2 hts;have ht:ts= #[t1,t2]:=n0p.1 (by simpa using hts);subst ht;split at h
     .rename_i s v ti ti2 hx hy hti hti2;replace h:=a0i h;obtain ⟨hk,h⟩:=h;exact q0I hT hg he hH hn1 hop hx hy hti hti2 hk h
     .exact h.elim
    .exact h.elim
   .rename_i x y hargs;have ha:args= #[x,y]:=n0p.1 (by simpa using hargs);subst ha;split at h
    .rename_i t1 tr hts;split at h
     .rename_i s v ti hx hy hti;replace h:=a0i h;obtain ⟨hk,h⟩:=h;exact w0j hT hg he hH hts hop hx hy hti hk h
     .exact h.elim
    .exact h.elim
   .exact h.elim
 |convert src dst x=>
  simp only [eff] at h;split at h
  .rename_i v ta tb hx hta htb;exact w0p hT hg he hH hn1 hop hx hta htb h
  .exact h.elim
 |makeMap ty c=>
  cases c with
  |none=>
   simp only [eff] at h;split at h
   .rename_i ti hti;replace h:=a0i h;exact p0k hT hH hn1 hop hti h.1 h.2
   .exact h.elim
  |some c=>simp only [eff] at h;exact h.elim
 |lookup ty x y co=>
  simp only [eff] at h;split at h
  .rename_i m k ti hx hy hti;replace h:=a0i h;exact q0N hT hg he hH hop hx hy hti h.1 h.2
  .exact h.elim
 |mapUpdate ty x y z=>
  simp only [eff] at h;split at h
  .rename_i m k v ti hx hy hz hti;replace h:=a0i h;exact q0P hT hg he hH hop hx hy hz hti h.1 h.2
  .exact h.elim
 |mapEntry ty x y=>
  simp only [eff] at h;split at h
  .rename_i m k ti hx hy hti;replace h:=a0i h;exact m0R hT hg he hH hop hx hy hti h.1 h.2
  .exact h.elim
 |entryStore ty x y z=>
  simp only [eff] at h;split at h
  .rename_i m k v hx hy hz;exact k0f hg he hH hop hx hy hz h
  .exact h.elim
 |range ty x=>
  simp only [eff] at h;split at h
  .rename_i m ti hx hti;exact t0q hT hg he hH hn1 hop hx hti h
  .exact h.elim
 |entry x=>
  simp only [eff] at h;split at h
  .rename_i m hx;exact t0r hg he hH hop hx h
  .exact h.elim
 |_=>simp only [eff] at h;exact h.elim
end ops
end Go.Sy
namespace Go.Sy
open Go.RowKit
def y0T (n:Nat) (ρ:Nat->Nat) (g g':G):Prop:=∀h q β,h<n->(g h q=some β↔g' (ρ h) q=some β)
mutual
theorem Rv.ren {n:Nat} {ρ:Nat->Nat} {g g':G} (hs:y0T n ρ g g'):∀(sv:SV) (v:Value),SV.wf n sv=true->(Rv g sv v↔Rv g' (SV.ren ρ sv) v)
 | .bool _,_,_=>by simp only [SV.ren,Rv]
 | .int _ _,_,_=>by simp only [SV.ren,Rv]
 | .str _,_,_=>by simp only [SV.ren,Rv]
 | .ptr h q i j,v,hw=>by
   simp only [SV.ren,Rv];have hl:h<n:=by simpa [SV.wf] using hw
   constructor
   .rintro ⟨β,e,k⟩;exact ⟨β,(hs h q β hl).1 e,k⟩
   .rintro ⟨β,e,k⟩;exact ⟨β,(hs h q β hl).2 e,k⟩
 | .nptr,_,_=>by simp only [SV.ren,Rv]
 | .sl h q i m,v,hw=>by
   simp only [SV.ren,Rv];have hl:h<n:=by simpa [SV.wf] using hw
   constructor
   .rintro ⟨ad,c,e,hn,k⟩;refine ⟨ad,c,e,hn,?_⟩;rcases k with k|⟨β,e1,k⟩
    .exact .inl k
    .exact .inr ⟨β,(hs h q β hl).1 e1,k⟩
   .rintro ⟨ad,c,e,hn,k⟩;refine ⟨ad,c,e,hn,?_⟩;rcases k with k|⟨β,e1,k⟩
    .exact .inl k
    .exact .inr ⟨β,(hs h q β hl).2 e1,k⟩
 | .nsl,_,_=>by simp only [SV.ren,Rv]
 | .zsl,_,_=>by simp only [SV.ren,Rv]
 | .map h q,v,hw=>by
   simp only [SV.ren,Rv];have hl:h<n:=by simpa [SV.wf] using hw
   constructor
   .rintro ⟨β,e,k⟩;exact ⟨β,(hs h q β hl).1 e,k⟩
   .rintro ⟨β,e,k⟩;exact ⟨β,(hs h q β hl).2 e,k⟩
 | .nmap,_,_=>by simp only [SV.ren,Rv]
 | .fn f l,v,hw=>by
   simp only [SV.ren,Rv];have hw':SV.wfs n l=true:=by simpa [SV.wf] using hw
   constructor
   .rintro ⟨vs,e,k⟩;exact ⟨vs,e,(Rvs.ren hs l _ hw').1 k⟩
   .rintro ⟨vs,e,k⟩;exact ⟨vs,e,(Rvs.ren hs l _ hw').2 k⟩
 | .iface t s,v,hw=>by
   simp only [SV.ren,Rv];have hw':SV.wf n s=true:=by simpa [SV.wf] using hw
   constructor
   .rintro ⟨u,e,k⟩;exact ⟨u,e,(Rv.ren hs s _ hw').1 k⟩
   .rintro ⟨u,e,k⟩;exact ⟨u,e,(Rv.ren hs s _ hw').2 k⟩
 | .nif,_,_=>by simp only [SV.ren,Rv]
 | .agg l,v,hw=>by
   simp only [SV.ren,Rv];have hw':SV.wfs n l=true:=by simpa [SV.wf] using hw
   constructor
   .rintro ⟨vs,e,k⟩;exact ⟨vs,e,(Rvs.ren hs l _ hw').1 k⟩
   .rintro ⟨vs,e,k⟩;exact ⟨vs,e,(Rvs.ren hs l _ hw').2 k⟩
 | .arr _ _,_,_=>by simp only [SV.ren,Rv]
 | .tup l,v,hw=>by
   simp only [SV.ren,Rv];have hw':SV.wfs n l=true:=by simpa [SV.wf] using hw
   constructor
   .rintro ⟨vs,e,k⟩;exact ⟨vs,e,(Rvs.ren hs l _ hw').1 k⟩
   .rintro ⟨vs,e,k⟩;exact ⟨vs,e,(Rvs.ren hs l _ hw').2 k⟩
 | .raw _,_,_=>by simp only [SV.ren,Rv]
 | .unk,_,_=>by simp only [SV.ren,Rv]
theorem Rvs.ren {n:Nat} {ρ:Nat->Nat} {g g':G} (hs:y0T n ρ g g'):∀(l:List SV) (vs:List Value),SV.wfs n l=true->(Rvs g l vs↔Rvs g' (SV.rens ρ l) vs)
 | [],_,_=>by simp only [SV.rens,Rvs]
 |s::l,vs,hw=>by
  simp only [SV.rens,Rvs];have hw':SV.wf n s=true/\SV.wfs n l=true:=by simpa [SV.wfs] using hw
  constructor
  .rintro ⟨v,vs',e,h1,h2⟩;exact ⟨v,vs',e,(Rv.ren hs s v hw'.1).1 h1,(Rvs.ren hs l vs' hw'.2).1 h2⟩
  .rintro ⟨v,vs',e,h1,h2⟩;exact ⟨v,vs',e,(Rv.ren hs s v hw'.1).2 h1,(Rvs.ren hs l vs' hw'.2).2 h2⟩
end
def y0U (ρ:Nat->Nat) (g g':G):Prop:=∀h q β,g h q=some β->g' (ρ h) q=some β
mutual
theorem Rv.into {ρ:Nat->Nat} {g g':G} (hs:y0U ρ g g'):∀(sv:SV) (v:Value),Rv g sv v->Rv g' (SV.ren ρ sv) v
 | .bool _,_,r=>by simp only [SV.ren,Rv] at r⊢;exact r
 | .int _ _,_,r=>by simp only [SV.ren,Rv] at r⊢;exact r
 | .str _,_,r=>by simp only [SV.ren,Rv] at r⊢;exact r
 | .ptr h q i j,v,r=>by simp only [SV.ren,Rv] at r⊢;obtain ⟨β,e,k⟩:=r;exact ⟨β,hs h q β e,k⟩
 | .nptr,_,r=>by simp only [SV.ren,Rv] at r⊢;exact r
 | .sl h q i m,v,r=>by
   simp only [SV.ren,Rv] at r⊢;obtain ⟨ad,c,e,hn,k⟩:=r;refine ⟨ad,c,e,hn,?_⟩;rcases k with k|⟨β,e1,k⟩
   .exact .inl k
   .exact .inr ⟨β,hs h q β e1,k⟩
 | .nsl,_,r=>by simp only [SV.ren,Rv] at r⊢;exact r
 | .zsl,_,r=>by simp only [SV.ren,Rv] at r⊢;exact r
 | .map h q,v,r=>by simp only [SV.ren,Rv] at r⊢;obtain ⟨β,e,k⟩:=r;exact ⟨β,hs h q β e,k⟩
 | .nmap,_,r=>by simp only [SV.ren,Rv] at r⊢;exact r
 | .fn f l,v,r=>by simp only [SV.ren,Rv] at r⊢;obtain ⟨vs,e,k⟩:=r;exact ⟨vs,e,Rvs.into hs l _ k⟩
 | .iface t s,v,r=>by simp only [SV.ren,Rv] at r⊢;obtain ⟨u,e,k⟩:=r;exact ⟨u,e,Rv.into hs s _ k⟩
 | .nif,_,r=>by simp only [SV.ren,Rv] at r⊢;exact r
 | .agg l,v,r=>by simp only [SV.ren,Rv] at r⊢;obtain ⟨vs,e,k⟩:=r;exact ⟨vs,e,Rvs.into hs l _ k⟩
 | .arr _ _,_,r=>by simp only [SV.ren,Rv] at r⊢;exact r
 | .tup l,v,r=>by simp only [SV.ren,Rv] at r⊢;obtain ⟨vs,e,k⟩:=r;exact ⟨vs,e,Rvs.into hs l _ k⟩
 | .raw _,_,r=>by simp only [SV.ren,Rv] at r⊢;exact r
 | .unk,_,_=>by simp only [SV.ren,Rv]
theorem Rvs.into {ρ:Nat->Nat} {g g':G} (hs:y0U ρ g g'):∀(l:List SV) (vs:List Value),Rvs g l vs->Rvs g' (SV.rens ρ l) vs
 | [],_,r=>by simp only [SV.rens,Rvs] at r⊢;exact r
 |s::l,vs,r=>by
  simp only [SV.rens,Rvs] at r⊢;obtain ⟨v,vs',e,h1,h2⟩:=r;exact ⟨v,vs',e,Rv.into hs s v h1,Rvs.into hs l vs' h2⟩
end
theorem g0n (ρ:Nat->Nat):∀l:List SV,SV.rens ρ l=l.map (SV.ren ρ)
 | []=>rfl
 |s::l=>by simp [SV.rens,g0n ρ l]
theorem d0v (ρ:Nat->Nat):∀l:List BCol,c0B ρ l=l.map (BCol.ren ρ)
 | []=>rfl
 |s::l=>by simp [c0B,d0v ρ l]
theorem BCol.ren_at (ρ:Nat->Nat) (c:BCol) (i:Nat):(c.ren ρ).at i=SV.ren ρ (c.at i):=by
 cases c with
 |sc c=>cases c<;>rfl
 |svs l=>
  simp only [BCol.ren,BCol.at,g0n,List.getD,f0l];cases l[i]?<;>rfl
 |own h ns=>rfl
 |arrs n k r=>rfl
 |ptrs h n=>rfl
theorem Blk.ren_at (ρ:Nat->Nat) (b:Blk) (i j:Nat):(b.ren ρ).at i j=(b.at i j).map (SV.ren ρ):=by
 cases b with
 |cells l=>simp only [Blk.ren,Blk.at,g0n,a0S,f0l]
 |cols n l=>
  simp only [Blk.ren,Blk.at,d0v,a0S,f0l];cases l[j]? with
  |none=>rfl
  |some c=>simp [BCol.ren_at]
 |obj o=>rfl
theorem Blk.ren_has (ρ:Nat->Nat) (b:Blk) (i:Nat):(b.ren ρ).has i↔b.has i:=by cases b<;>exact Iff.rfl
theorem Blk.ren_es (ρ:Nat->Nat) (b:Blk):(b.ren ρ).es=b.es:=by
 cases b<;>simp [Blk.ren,Blk.es,g0n,d0v]
theorem Blk.ren_len (ρ:Nat->Nat) (b:Blk):(b.ren ρ).lenOk↔b.lenOk:=by
 cases b with
 |cells l=>exact Iff.rfl
 |cols n l=>
  simp only [Blk.ren,Blk.lenOk,d0v,m0l,forall_exists_index,and_imp,forall_apply_eq_imp_iff₂];have:∀c:BCol,(c.ren ρ).len=c.len:=by intro c;cases c<;>simp [BCol.ren,BCol.len,g0n]
  simp [this]
 |obj o=>exact Iff.rfl
theorem h0F (ρ:Nat->Nat):∀(l:List BCol) (i:Nat),a0p (c0B ρ l) i=SV.rens ρ (a0p l i)
 | [],_=>rfl
 |c::l,i=>by simp only [c0B,a0p,SV.rens,BCol.ren_at,h0F ρ l i]
theorem h0G (ρ:Nat->Nat) (ea:Bool) (l:List BCol) (i:Nat):a0T ea (c0B ρ l) i=SV.ren ρ (a0T ea l i):=by
 cases ea with
 |true=>simp only [a0T,SV.ren,h0F]
 |false=>
  match l with
  | []=>rfl
  | [c]=>simp only [c0B,a0T,BCol.ren_at]
  |_::_::_=>rfl
theorem f0f (ρ:Nat->Nat) {l:List BCol} {n:Nat}:(∀c∈c0B ρ l,c.len=n)↔∀c∈l,c.len=n:=by
 have:∀c:BCol,(c.ren ρ).len=c.len:=by intro c;cases c<;>simp [BCol.ren,BCol.len,g0n]
 simp [d0v,this]
theorem k0g {n:Nat}:∀{l:List SV} {s:SV},SV.wfs n l=true->s∈l->SV.wf n s=true
 | [],s,_,h=>by cases h
 |x::l,s,hw,h=>by
  simp only [SV.wfs,c0q] at hw;rcases d0z.1 h with rfl|h
  .exact hw.1
  .exact k0g hw.2 h
theorem j0u {n:Nat}:∀{l:List BCol} {c:BCol},e0a n l=true->c∈l->c.wf n=true
 | [],s,_,h=>by cases h
 |x::l,s,hw,h=>by
  simp only [e0a,c0q] at hw;rcases d0z.1 h with rfl|h
  .exact hw.1
  .exact j0u hw.2 h
theorem Col.at_wf (n:Nat) (c:Col) (i:Nat):SV.wf n (c.at i)=true:=by cases c<;>rfl
theorem Blk.wf_at {n:Nat} {b:Blk} {i j:Nat} {sv:SV} (h:b.wf n=true) (hj:b.at i j=some sv):SV.wf n sv=true:=by
 cases b with
 |cells l=>
  simp only [Blk.at] at hj;exact k0g h (b0d hj)
 |cols m l=>
  simp only [Blk.at] at hj;split at hj
  .rename_i c hc;simp only [Option.some.injEq] at hj;subst hj;have hw:=j0u h (b0d hc);cases c with
   |sc c=>exact Col.at_wf n c i
   |svs l=>
    simp only [BCol.at,List.getD];cases hx:l[i]? with
    |none=>rfl
    |some s=>exact k0g hw (s0h hx)
   |own h ns=>exact hw
   |ptrs h m=>exact hw
   |arrs n k r=>rfl
  .cases hj
 |obj o=>cases hj
theorem BCol.at_wf {n:Nat} {c:BCol} (h:c.wf n=true) (i:Nat):SV.wf n (c.at i)=true:=by
 cases c with
 |sc c=>exact Col.at_wf n c i
 |svs l=>
  simp only [BCol.at,List.getD];cases hx:l[i]? with
  |none=>rfl
  |some s=>exact k0g h (s0h hx)
 |own hh ns=>exact h
 |ptrs hh m=>exact h
 |arrs n k r=>rfl
theorem j0v {n:Nat}:∀{l:List BCol} (i:Nat),e0a n l=true->SV.wfs n (a0p l i)=true
 | [],_,_=>rfl
 |c::l,i,h=>by
  simp only [e0a,c0q] at h;simp only [a0p,SV.wfs,c0q];exact ⟨BCol.at_wf h.1 i,j0v i h.2⟩
theorem t0s {n:Nat} {ea:Bool} {l:List BCol} (i:Nat) (h:e0a n l=true):SV.wf n (a0T ea l i)=true:=by
 cases ea with
 |true=>simp only [a0T,SV.wf];exact j0v i h
 |false=>
  match l,h with
  | [],_=>rfl
  | [c],h=>simp only [e0a,Bool.and_true] at h;exact BCol.at_wf h i
  |_::_::_,_=>rfl
theorem p0l {n:Nat} {ρ:Nat->Nat} {g g':G} (hs:y0T n ρ g g') {β:Base} {o:ObjS} {w:World} (hw:o.wf n=true) (h:(o.ren ρ).Ok g' w β):o.Ok g w β:=by
 cases o with
 |map ka ea m ks vs bs ck=>
  obtain ⟨es,e,k⟩:=h;exact ⟨es,e,k.size,k.kl,(f0f ρ).1 k.vl,k.bl,k.nd,k.lt,fun i x hx=>⟨(k.row i x hx).1,(k.row i x hx).2.1,(Rv.ren hs _ _ (t0s i hw)).2 (by rw [<-h0G];exact (k.row i x hx).2.2)⟩⟩
 |iter h0 q a b c=>
  obtain ⟨β',e1,e⟩:=h;exact ⟨β',(hs h0 q β' (by simpa [ObjS.wf] using hw)).2 e1,e⟩
 |niter=>exact h
 |siter s p=>exact h
 |bld0 T=>exact h
 |bld T h0 q n=>
  obtain ⟨β',e1,e⟩:=h;exact ⟨β',(hs h0 q β' (by simpa [ObjS.wf] using hw)).2 e1,e⟩
 |brow T s=>exact h
 |bag Q=>exact h
theorem p0m {n:Nat} {ρ:Nat->Nat} {g g':G} (hs:y0T n ρ g g') {β:Base} {b:Blk} {w:World} (hw:b.wf n=true) (h:(b.ren ρ).Ok g' w β):b.Ok g w β:=by
 cases b with
 |obj o=>exact ⟨h.1,h.2.1,p0l hs hw h.2.2⟩
 |_=>trivial
theorem p0n {ρ:Nat->Nat} {g g':G} (hs:y0U ρ g g') {β:Base} {o:ObjS} {w:World} (h:o.Ok g w β):(o.ren ρ).Ok g' w β:=by
 cases o with
 |map ka ea m ks vs bs ck=>
  obtain ⟨es,e,k⟩:=h;exact ⟨es,e,k.size,k.kl,(f0f ρ).2 k.vl,k.bl,k.nd,k.lt,fun i x hx=>⟨(k.row i x hx).1,(k.row i x hx).2.1,by rw [h0G];exact Rv.into hs _ _ (k.row i x hx).2.2⟩⟩
 |iter h0 q a b c=>
  obtain ⟨β',e1,e⟩:=h;exact ⟨β',hs h0 q β' e1,e⟩
 |niter=>exact h
 |siter s p=>exact h
 |bld0 T=>exact h
 |bld T h0 q n=>
  obtain ⟨β',e1,e⟩:=h;exact ⟨β',hs h0 q β' e1,e⟩
 |brow T s=>exact h
 |bag Q=>exact h
theorem p0o {ρ:Nat->Nat} {g g':G} (hs:y0U ρ g g') {β:Base} {b:Blk} {w:World} (h:b.Ok g w β):(b.ren ρ).Ok g' w β:=by
 cases b with
 |obj o=>exact ⟨h.1,h.2.1,p0n hs h.2.2⟩
 |_=>trivial
theorem p0p {n:Nat} {ρ:Nat->Nat} {g g':G} (hs:y0T n ρ g g') {β:Base} {ro ro':Bool} {b:Blk} {w:World} (hw:b.wf n=true) (hro:ro=false->ro'=false) (h:BlkAt g' β ro' (b.ren ρ) w):BlkAt g β ro b w:=by
 refine ⟨h.lt,by rw [h.es,Blk.ren_es],(Blk.ren_len ρ b).1 h.len,fun i hi=>h.cap i ((Blk.ren_has ρ b i).2 hi),?_,fun i j v hi=>h.one i j v ((Blk.ren_has ρ b i).2 hi),fun hr=>h.rw (hro hr),p0m hs hw h.obj⟩;intro i j sv hi hj;obtain ⟨v,h1,h2⟩:=h.cell i j (SV.ren ρ sv) ((Blk.ren_has ρ b i).2 hi) (by rw [Blk.ren_at,hj];rfl);exact ⟨v,h1,(Rv.ren hs sv v (Blk.wf_at hw hj)).2 h2⟩
theorem p0q {ρ:Nat->Nat} {g g':G} (hs:y0U ρ g g') {β:Base} {ro:Bool} {b:Blk} {w:World} (h:BlkAt g β ro b w):BlkAt g' β ro (b.ren ρ) w:=by
 refine ⟨h.lt,by rw [h.es,Blk.ren_es],(Blk.ren_len ρ b).2 h.len,fun i hi=>h.cap i ((Blk.ren_has ρ b i).1 hi),?_,fun i j v hi=>h.one i j v ((Blk.ren_has ρ b i).1 hi),h.rw,p0o hs h.obj⟩;intro i j sv hi hj;rw [Blk.ren_at] at hj;cases hb:b.at i j with
 |none=>rw [hb] at hj;cases hj
 |some s=>
  rw [hb] at hj;simp only [g0w,Option.some.injEq] at hj;subst hj;obtain ⟨v,h1,h2⟩:=h.cell i j s ((Blk.ren_has ρ b i).1 hi) hb;exact ⟨v,h1,Rv.into hs s v h2⟩
theorem HB.ren_is {ρ:Nat->Nat} {hb:HB} {q:Nat} {b:Blk}:(hb.ren ρ).is q b↔∃b0,hb.is q b0/\b=b0.ren ρ:=by
 cases hb with
 |one r b'=>
  simp only [HB.ren,HB.is];constructor
  .rintro ⟨rfl,rfl⟩;exact ⟨_,⟨rfl,rfl⟩,rfl⟩
  .rintro ⟨_,⟨rfl,rfl⟩,rfl⟩;exact ⟨rfl,rfl⟩
 |fam r dom f=>
  simp only [HB.ren,HB.is];constructor
  .rintro ⟨h,rfl⟩;exact ⟨_,⟨h,rfl⟩,rfl⟩
  .rintro ⟨_,⟨h,rfl⟩,rfl⟩;exact ⟨h,rfl⟩
theorem HB.ren_ro (ρ:Nat->Nat) (hb:HB):(hb.ren ρ).ro=hb.ro:=by cases hb<;>rfl
theorem HB.fits_is {hb hb':HB} (h:hb.fits hb') {q:Nat} {b:Blk} (hi:hb.is q b):hb'.is q b/\(hb.ro=false->hb'.ro=false):=by
 cases hb<;>cases hb'<;>simp only [HB.fits] at h
 .obtain ⟨h1,rfl⟩:=h;exact ⟨hi,fun e=>by simp only [HB.ro] at e⊢;rw [e] at h1;simpa using h1⟩
 .obtain ⟨h1,rfl,rfl⟩:=h;exact ⟨hi,fun e=>by simp only [HB.ro] at e⊢;rw [e] at h1;simpa using h1⟩
theorem j0w {ρ:Nat->Nat} {Hc:a0g}:∀(H:a0g),d0R ρ H Hc->∀h q ro b,Ent H h q ro b->∃ro',Ent Hc (ρ h) q ro' (b.ren ρ)/\(ro=false->ro'=false)
 | [],_,h,q,ro,b,he=>by obtain ⟨hb,e,_⟩:=he;simp [a0x] at e
 |(k,some hb)::r,hm,h,q,ro,b,he=>by
  simp only [d0R] at hm;rcases a0l.1 he with ⟨rfl,hb',e1,e2,e3⟩|⟨_,he⟩
  .cases e1;have h1:=hm.1;unfold q0r at h1;split at h1
   .rename_i hc hhc;obtain ⟨k1,k2⟩:=HB.fits_is h1 (HB.ren_is.2 ⟨b,e2,rfl⟩);exact ⟨hc.ro,⟨hc,hhc,k1,rfl⟩,fun e=>k2 (by rw [HB.ren_ro,e3,e])⟩
   .exact h1.elim
  .exact j0w r hm.2 h q ro b he
 |(k,none)::r,hm,h,q,ro,b,he=>by simp only [d0R] at hm
theorem j0x {n:Nat}:∀(H:a0g),e0b n H->∀h q ro b,Ent H h q ro b->h<n/\b.wf n=true
 | [],_,h,q,ro,b,he=>by obtain ⟨hb,e,_⟩:=he;simp [a0x] at e
 |(k,some hb)::r,hm,h,q,ro,b,he=>by
  simp only [e0b] at hm;rcases a0l.1 he with ⟨rfl,hb',e1,e2,e3⟩|⟨_,he⟩
  .cases e1;refine ⟨by simpa using hm.1,?_⟩;cases hb with
   |one r' b'=>simp only [HB.is] at e2;rw [e2.2];exact hm.2.1
   |fam r' dom f=>simp only [HB.is] at e2;rw [e2.2];exact hm.2.1 q e2.1
  .exact j0x r hm.2.2 h q ro b he
 |(k,none)::r,hm,h,q,ro,b,he=>by simp only [e0b] at hm
theorem t0t {ρ:Nat->Nat} {X:a0g}:∀(H:a0g) (h q:Nat) (ro:Bool) (b:Blk),Ent (i0B ρ H++X) h q ro b->(∃k b0,ρ k=h/\Ent H k q ro b0/\b=b0.ren ρ)\/Ent X h q ro b:=by
 intro H;induction H with
 |nil=>intro h q ro b he;exact .inr he
 |cons p r ih=>
  intro h q ro b he;obtain ⟨k,o⟩:=p;have up:∀(he':Ent (i0B ρ r++X) h q ro b),ρ k≠h->(∃k' b0,ρ k'=h/\Ent ((k,o)::r) k' q ro b0/\b=b0.ren ρ)\/Ent X h q ro b:=by
   intro he' hne;rcases ih h q ro b he' with ⟨k',b0,e1,e2,e3⟩|hx
   .exact .inl ⟨k',b0,e1,a0l.2 (.inr ⟨fun e=>hne (by rw [e];exact e1),e2⟩),e3⟩
   .exact .inr hx
  cases o with
  |none=>
   simp only [i0B,i0k] at he;rcases a0l.1 he with ⟨_,hb,e1,_⟩|⟨hne,he'⟩
   .cases e1
   .exact up he' hne
  |some hb=>
   simp only [i0B,i0k] at he;rcases a0l.1 he with ⟨e,hb',e1,e2,e3⟩|⟨hne,he'⟩
   .cases e1;obtain ⟨b0,k1,k2⟩:=HB.ren_is.1 e2;exact .inl ⟨k,b0,e,a0l.2 (.inl ⟨rfl,hb,rfl,k1,by rw [<-e3,HB.ren_ro]⟩),k2⟩
   .exact up he' hne
theorem t0u {ρ:Nat->Nat} {X:a0g}:∀(H:a0g) (h q:Nat) (ro:Bool) (b:Blk),Ent (i0C ρ H++X) h q ro b->Ent X h q ro b/\∀k hb,(k,some hb)∈H->hb.ro=false->ρ k≠h:=by
 intro H;induction H with
 |nil=>intro h q ro b he;exact ⟨he,by simp⟩
 |cons p r ih=>
  intro h q ro b he;obtain ⟨k,o⟩:=p;cases o with
  |none=>
   simp only [i0C] at he;obtain ⟨h1,h2⟩:=ih h q ro b he;exact ⟨h1,fun k' hb hm hr=>by rcases d0z.1 hm with e|hm;cases e;exact h2 k' hb hm hr⟩
  |some hb=>
   simp only [i0C] at he;cases hr:hb.ro with
   |true=>
    rw [hr] at he;obtain ⟨h1,h2⟩:=ih h q ro b he;refine ⟨h1,fun k' hb' hm hr'=> ?_⟩;rcases d0z.1 hm with e|hm
    .cases e;rw [hr] at hr';cases hr'
    .exact h2 k' hb' hm hr'
   |false=>
    rw [hr] at he;simp only [cond_false,i0k] at he;rcases a0l.1 he with ⟨_,hb',e1,_⟩|⟨hne,he'⟩
    .cases e1
    .obtain ⟨h1,h2⟩:=ih h q ro b he';refine ⟨h1,fun k' hb' hm hr'=> ?_⟩;rcases d0z.1 hm with e|hm
     .cases e;exact hne
     .exact h2 k' hb' hm hr'
theorem g0o:∀(H:a0g) (h q:Nat) (ro:Bool) (b:Blk),Ent H h q ro b->∃hb,(h,some hb)∈H/\hb.ro=ro:=by
 intro H;induction H with
 |nil=>intro h q ro b he;obtain ⟨hb,e,_⟩:=he;simp [a0x] at e
 |cons p r ih=>
  intro h q ro b he;obtain ⟨k,o⟩:=p;rcases a0l.1 he with ⟨rfl,hb',e1,e2,e3⟩|⟨_,he⟩
  .subst e1;exact ⟨hb',by simp,e3⟩
  .obtain ⟨hb,h1,h2⟩:=ih h q ro b he;exact ⟨hb,by simp [h1],h2⟩
end Go.Sy
namespace Go.Sy
open Go.RowKit
theorem l0F {ρ:Nat->Nat} {h:Nat}:∀(H:a0g),n0G ρ h H=true->∀k o,(k,o)∈H->k≠h->ρ h≠ρ k
 | [],_,k,o,hm,_=>by cases hm
 |(x,y)::r,hi,k,o,hm,hne=>by
  simp only [n0G,c0q,r0b,i0o] at hi;rcases d0z.1 hm with e|hm
  .cases e;rcases hi.1 with h1|h1
   .exact absurd (c0k h1).symm hne
   .intro e;rw [e] at h1;simp at h1
  .exact l0F r hi.2 k o hm hne
theorem k0h {ρ:Nat->Nat} {all:a0g}:∀(H:a0g),j0T ρ all H=true->∀h hb,(h,some hb)∈H->hb.ro=false->∀k o,(k,o)∈all->k≠h->ρ h≠ρ k
 | [],_,h,hb,hm,_=>by cases hm
 |(x,some y)::r,hi,h,hb,hm,hr=>by
  simp only [j0T,c0q,r0b] at hi;rcases d0z.1 hm with e|hm
  .cases e;rcases hi.1 with h1|h1
   .rw [hr] at h1;cases h1
   .exact fun k o hk hne=>l0F all h1 k o hk hne
  .exact k0h r hi.2 h hb hm hr
 |(x,none)::r,hi,h,hb,hm,hr=>by
  simp only [j0T] at hi;rcases d0z.1 hm with e|hm
  .cases e
  .exact k0h r hi h hb hm hr
theorem z0u {l:List Nat} {nx h:Nat} (hh:h<l.length):rho l nx h=l[h]:=by
 unfold rho;rw [a0S,d0L hh]
theorem v0h {l:List Nat} {nx h:Nat} (hh:l.length<=h):rho l nx h=nx+(h-l.length):=by
 unfold rho;rw [a0S,f0k hh]
theorem l0G {g:G} {w:World} {l:List Nat} {nx:Nat} {args args0:List SV} {H Hc:a0g} {post:SV->a0g->Nat->Prop} {vals:List Value} (hf:Fits l nx args args0 H Hc) (hg:g.glob) (hH:Holds g Hc w) (hv:Rvs g args vals)
  (hun:∀sv H' n',post sv H' n'->∀h q,nx<=h->h<nx+(n'-l.length)->g h q=none):
  ∃g0:G,g0.glob/\g0.upto l.length/\Holds g0 H w/\Rvs g0 args0 vals/\∀v w',Out g0 w l.length H post v w'->∃sv H' n' g',post sv H' n'/\After g Hc nx w (SV.ren (rho l nx) sv) (i0B (rho l nx) H'++i0C (rho l nx) H) (n'-l.length) g' v w':=by
 have hpos:0<l.length/\rho l nx 0=0:=by
  have:=hf.head;unfold j0a at this;split at this
  .exact ⟨by simp,by simp [rho,nth]⟩
  .cases this
 let ρ:=rho l nx
 let g0:G:=fun h q=>if h<l.length then g (ρ h) q else none
 have hs:y0T l.length ρ g0 g:=by intro h q β hh;simp only [g0,hh,if_true]
 have hg0:g0.glob:=by
  intro q;obtain ⟨es,cap,e⟩:=hg q;refine ⟨es,cap,?_⟩;simp only [g0,hpos.1,if_true];rw [show ρ 0=0 from hpos.2];exact e
 have hup:g0.upto l.length:=by intro h q hh;simp only [g0];rw [if_neg (by omega)]
 have toC:∀h q ro b,Ent H h q ro b->h<l.length/\b.wf l.length=true/\∃ro' β,Ent Hc (ρ h) q ro' (b.ren ρ)/\(ro=false->ro'=false)/\g (ρ h) q=some β/\g0 h q=some β/\BlkAt g0 β ro b w:=by
  intro h q ro b he;obtain ⟨h1,h2⟩:=j0x H hf.wfH h q ro b he;obtain ⟨ro',h3,h4⟩:=j0w H hf.heap h q ro b he;obtain ⟨β,h5,h6⟩:=hH.blk _ _ _ _ h3;exact ⟨h1,h2,ro',β,h3,h4,h5,(hs h q β h1).2 h5,p0p hs h2 h4 h6⟩
 have hH0:Holds g0 H w:=by
  refine ⟨?_,?_⟩
  .intro h q ro b he;obtain ⟨_,_,_,β,_,_,_,h7,h8⟩:=toC h q ro b he;exact ⟨β,h7,h8⟩
  .intro h q h' q' b ro' b' β β' hne he he' hgb hgb' hc hc';obtain ⟨h1,h2,ro1,β1,h3,h4,h5,h6,_⟩:=toC h q false b he;obtain ⟨k1,k2,ro2,β2,k3,k4,k5,k6,_⟩:=toC h' q' ro' b' he';rw [hgb] at h6;cases h6;rw [hgb'] at k6;cases k6;have:=h4 rfl;subst this;refine hH.sep (ρ h) q (ρ h') q' (b.ren ρ) ro2 (b'.ren ρ) β β' ?_ h3 k3 h5 k5 hc hc';rintro ⟨e1,e2⟩;by_cases e:h=h'
   .exact hne ⟨e,e2⟩
   .obtain ⟨hb,m1,m2⟩:=g0o H h q false b he;obtain ⟨hb',m3,_⟩:=g0o H h' q' ro' b' he';exact k0h H hf.inj h hb m1 m2 h' (some hb') m3 (Ne.symm e) e1
 have hv0:Rvs g0 args0 vals:=(Rvs.ren hs args0 vals hf.wfA).2 (by rw [<-hf.args];exact hv);refine ⟨g0,hg0,hup,hH0,hv0,?_⟩;rintro v w' ⟨sv,H',n',g',hp,hnn,hup',hkeep,hrv,hH',hrw,hfr,hown⟩;have hunb:=hun sv H' n' hp;let gc:G:=fun k q=>if nx<=k/\k<nx+(n'-l.length) then g' (l.length+(k-nx)) q else g k q
 have hle:G.le g gc:=by
  intro k q β e;simp only [gc];rw [if_neg]
  .exact e
  .rintro ⟨h1,h2⟩;rw [hunb k q h1 h2] at e;cases e
 have hinto:y0U ρ g' gc:=by
  intro h q β e;rcases f0m h l.length with hh|hh
  .rw [hkeep h q hh] at e;exact hle _ _ _ ((hs h q β hh).1 e)
  .have hlt:h<n':=by
    rcases f0m h n' with h1|h1
    .exact h1
    .rw [hup' h q h1] at e;cases e
   have e1:ρ h=nx+(h-l.length):=v0h hh;simp only [gc,e1];rw [if_pos (by omega),show l.length+(nx+(h-l.length)-nx)=h from by omega];exact e
 have wsub:∀k,d0o g0 H k->d0o g Hc k:=by
  rintro k ⟨h,q,b,β,he,hgb,hc,hk⟩;obtain ⟨h1,h2,ro1,β1,h3,h4,h5,h6,_⟩:=toC h q false b he;rw [hgb] at h6;cases h6;have:=h4 rfl;subst this;exact ⟨ρ h,q,_,β,h3,h5,hc,hk⟩
 have apart:∀h q ro b β,Ent Hc h q ro b->(∀k hb,(k,some hb)∈H->hb.ro=false->ρ k≠h)->g h q=some β->0<β.cap->¬d0o g0 H β.blk:=by
  rintro h q ro b β he hno hgb hc ⟨k,q',b',β',he',hgb',hc',hk⟩;obtain ⟨h1,h2,ro1,β1,h3,h4,h5,h6,_⟩:=toC k q' false b' he';rw [hgb'] at h6;cases h6;have:=h4 rfl;subst this;obtain ⟨hb,m1,m2⟩:=g0o H k q' false b' he';exact hH.sep (ρ k) q' h q _ ro b β' β (fun e=>hno k hb m1 m2 e.1) h3 he h5 hgb hc' hc hk
 have cls:∀h q ro b,Ent ((i0B ρ H'++i0C ρ H)++Hc) h q ro b->(∃k b0 β,ρ k=h/\Ent H' k q ro b0/\b=b0.ren ρ/\g' k q=some β/\gc h q=some β/\BlkAt g' β ro b0 w')\/(∃β,Ent Hc h q ro b/\g h q=some β/\gc h q=some β/\BlkAt g β ro b w/\(0<β.cap->¬d0o g0 H β.blk)):=by
  intro h q ro b he;rw [r0d] at he;rcases t0t H' h q ro b he with ⟨k,b0,e1,e2,e3⟩|he
  .obtain ⟨β,h1,h2⟩:=hH'.blk k q ro b0 e2;exact .inl ⟨k,b0,β,e1,e2,e3,h1,by rw [<-e1];exact hinto _ _ _ h1,h2⟩
  .obtain ⟨h1,h2⟩:=t0u H h q ro b he;obtain ⟨β,h3,h4⟩:=hH.blk h q ro b h1;exact .inr ⟨β,h1,h3,hle _ _ _ h3,h4,fun hc=>apart h q ro b β h1 h2 h3 hc⟩
 refine ⟨sv,H',n',gc,hp,hle,?_,Rv.into hinto sv v hrv,⟨?_,?_⟩,⟨hfr.os,hfr.tape,hfr.output,hfr.size,fun k hk hW=>hfr.block k hk (fun h=>hW (wsub k h))⟩,?_⟩
 .intro k q e hk;simp only [gc];rw [if_neg hk];exact e
 .intro h q ro b he;rcases cls h q ro b he with ⟨k,b0,β,_,_,e3,_,h5,h6⟩|⟨β,h1,h2,h3,h4,h5⟩
  .subst e3;exact ⟨β,h5,p0q hinto h6⟩
  .exact ⟨β,h3,b0o h4 hle hfr.size (fun hc=>hfr.block _ (h4.lt hc) (h5 hc))⟩
 .intro h q h' q' b ro' b' β β' hne he he' hgb hgb' hc hc';have own:∀k b0 β,Ent H' k q false b0->g' k q=some β->0<β.cap->d0o g0 H β.blk\/w.heap.size<=β.blk:=fun k b0 β he hgb hc=>hown k q b0 β he hgb hc
  have own':∀k b0 β,Ent H' k q' false b0->g' k q'=some β->0<β.cap->d0o g0 H β.blk\/w.heap.size<=β.blk:=fun k b0 β he hgb hc=>hown k q' b0 β he hgb hc
  rcases cls h q false b he with ⟨k,b0,β1,e1,e2,e3,e4,e5,e6⟩|⟨β1,e1,e2,e3,e4,e5⟩
  .rw [hgb] at e5;cases e5;rcases cls h' q' ro' b' he' with ⟨k',b0',β2,f1,f2,f3,f4,f5,f6⟩|⟨β2,f1,f2,f3,f4,f5⟩
   .rw [hgb'] at f5;cases f5;exact hH'.sep k q k' q' b0 ro' b0' β β' (fun e=>hne ⟨by rw [<-e1,<-f1,e.1],e.2⟩) e2 f2 e4 f4 hc hc'
   .rw [hgb'] at f3;cases f3;rcases own k b0 β e2 e4 hc with ho|ho
    .intro e;rw [e] at ho;exact f5 hc' ho
    .have:=f4.lt hc';omega
  .rw [hgb] at e3;cases e3;rcases cls h' q' ro' b' he' with ⟨k',b0',β2,f1,f2,f3,f4,f5,f6⟩|⟨β2,f1,f2,f3,f4,f5⟩
   .rw [hgb'] at f5;cases f5;have hr:=hrw k' q' ro' b0' f2;subst hr;rcases own' k' b0' β' f2 f4 hc' with ho|ho
    .intro e;rw [<-e] at ho;exact e5 hc ho
    .have:=e4.lt hc;omega
   .rw [hgb'] at f3;cases f3;exact hH.sep h q h' q' b ro' b' β β' hne e1 f1 e2 f2 hc hc'
 .intro h q b β he hgb hc;rcases cls h q false b he with ⟨k,b0,β1,e1,e2,e3,e4,e5,e6⟩|⟨β1,e1,e2,e3,e4,e5⟩
  .rw [hgb] at e5;cases e5;rcases hown k q b0 β e2 e4 hc with ho|ho
   .exact .inl (wsub _ ho)
   .exact .inr ho
  .rw [hgb] at e3;cases e3;exact .inl ⟨h,q,b,β,e1,e2,hc,rfl⟩
end Go.Sy
namespace Go.Sy
open Go.RowKit
section ops
variable {P:Program} {T:Tab} {g:G} {vs:VS} {a:Act} {w:World} {r:SV} {U:a0g} {b:Nat} {t:List Nat} {H:a0g} {nx:Nat}
theorem h0H {n:Nat} (hn:0<n):∃k w1,k<n/\(choose (.mapNext n)).run P w= .ok k w1/\w1.heap=w.heap/\w1.os=w.os/\w1.tape=w.tape/\w1.output=w.output:=by
 by_cases hf:(Question.mapNext n).forced=true
 .have h1:n=1:=by simp [Question.forced] at hf;omega
  subst h1;exact ⟨0,w,by omega,by simp [choose,Sem.run,hf],rfl,rfl,rfl,rfl⟩
 .simp only [Bool.not_eq_true] at hf;exact ⟨_,w.drew,b1W _ hn,j0s _ hf,rfl,rfl,rfl,rfl⟩
theorem w0q (hg:g.glob) (he:b0r g vs a) (hH:Holds g vs.heap w) {o:Oper} {x:Operand} {hh hm qm:Nat} {bs sn:List Nat} {ck n:Nat} {ro2 ka ea:Bool} {ks:List Col} {vl:List BCol} (ho:o.op= .next x false) (hx:gv vs x=some (.ptr hh 0 0 0)) (hent:Ent vs.heap hh 0 false (.obj (.iter hm qm bs ck sn))) (hent2:Ent vs.heap hm qm ro2 (.obj (.map ka ea n ks vl bs ck))):
  (∃i v w',i<n/\¬i∈sn/\Ran P a o w v w'/\After g vs.heap nx w (.tup [.bool true,s0Y ka ks i,a0T ea vl i]) (a0L vs.heap hh 0 (.obj (.iter hm qm bs ck (i::sn)))) 0 g v w')\/
  ((∀i,i<n->i∈sn)/\∃v w',Ran P a o w v w'/\After g vs.heap nx w (.tup [.bool false]) [] 0 g v w'):=by
 have hmv:=a0w hg he hx;obtain ⟨β,hβ,hB⟩:=hH.blk _ _ _ _ hent;obtain ⟨β',hβ',hpv⟩:=rpv hmv;rw [hβ] at hβ';cases hβ';obtain ⟨hcap,hoff,βm,hβm,hit,hsn⟩:=hB.obj;obtain ⟨β2,hβ2,hB2⟩:=hH.blk _ _ _ _ hent2;rw [hβm] at hβ2;cases hβ2;obtain ⟨_,_,es,hes,hM⟩:=hB2.obj;have hp:a.eval x= .pointer (some ⟨β.blk,0,none⟩):=by rw [hpv];simp [Base.addr,hoff]
 have hgi:(getObj β.blk).run P w= .ok (.mapIter (some βm.blk) ck ((sn.reverse.map (fun i=>bs.getD i 0)).toArray) ck) w:=by simp [getObj,Sem.run,hit]
 obtain ⟨seen,hseen⟩:∃seen,seen=(sn.reverse.map (fun i=>bs.getD i 0)).toArray:=⟨_,rfl⟩;rw [<-hseen] at hgi;have hlt:∀e∈es,e.born<ck:=by
  intro e hem;obtain ⟨j,hj,rfl⟩:=Array.getElem_of_mem hem;have hr:=(hM.row j es[j] (d0k hj)).1;rw [hr];have hjb:j<bs.length:=by rw [hM.bl,<-hM.size];exact hj
  rw [List.getD,d0L hjb];exact hM.lt _ (o0z hjb)
 have hcon:∀j,j<n->(seen.contains (bs.getD j 0)=true↔j∈sn):=by
  intro j hj;rw [hseen];simp only [Array.contains_iff_mem,List.mem_toArray,m0l,List.mem_reverse];constructor
  .rintro ⟨i,hi,e⟩;have h1:i<bs.length:=hsn i hi;have h2:j<bs.length:=by rw [hM.bl];exact hj
   rw [List.getD,d0L h1,List.getD,d0L h2] at e;have:=(List.getElem_inj hM.nd).1 e;exact this▸hi
  .intro h;exact ⟨j,h,rfl⟩
 obtain ⟨left,hleft⟩:∃left,left=es.filter (fun e=> !seen.contains e.born):=⟨_,rfl⟩;have hmem:∀e∈left,∃i,i<n/\¬i∈sn/\es[i]? =some e:=by
  intro e hem;rw [hleft,e1G] at hem;obtain ⟨hem,hc⟩:=hem;obtain ⟨j,hj,rfl⟩:=Array.getElem_of_mem hem;have hr:=(hM.row j es[j] (d0k hj)).1;have hjn:j<n:=by rw [<-hM.size];exact hj
  refine ⟨j,hjn,?_,d0k hj⟩;intro hin;rw [hr,(hcon j hjn).2 hin] at hc;cases hc
 have hnone:left.isEmpty=true->∀i,i<n->i∈sn:=by
  intro hl i hi;by_cases h:i∈sn
  .exact h
  .exfalso;have hj:i<es.size:=by rw [hM.size];exact hi
   have hr:=(hM.row i es[i] (d0k hj)).1;have:es[i]∈left:=by
    rw [hleft,e1G];refine ⟨Array.getElem_mem hj,?_⟩;rw [hr];cases hc:seen.contains (bs.getD i 0) with
    |true=>exact absurd ((hcon i hi).1 hc) h
    |false=>rfl
   rw [Array.isEmpty_iff] at hl;rw [hl] at this;simp at this
 have hold:left.filter (fun e=>decide (e.born<ck))=left:=by
  rw [Array.filter_eq_self];intro e hem;rw [hleft,e1G] at hem;simpa using hlt e hem.1
 have hnew:left.filter (fun e=>decide (e.born>=ck))= #[]:=by
  rw [Array.filter_eq_empty_iff];intro e hem;rw [hleft,e1G] at hem;have:=hlt e hem.1;simp;omega
 have hstop:(!seen.isEmpty&& !es.isEmpty&&es.all (fun e=>decide (e.born>=ck)))=false:=by
  cases hs:seen.isEmpty with
  |true=>rfl
  |false=>
   cases h2:es.isEmpty with
   |true=>rfl
   |false=>
    simp only [Bool.not_false,z0b];have hne:0<es.size:=by
     rcases i0m es.size with h|h
     .rw [Array.isEmpty_iff_size_eq_zero.2 h] at h2;cases h2
     .exact h
    cases h3:es.all (fun e=>decide (e.born>=ck)) with
    |false=>rfl
    |true=>
     have h4:=Array.all_eq_true.1 h3 0 hne;have h5:=hlt es[0] (Array.getElem_mem hne);simp at h4;omega
 have hall:∀w1:World,w1.heap=w.heap->w1.os=w.os->w1.tape=w.tape->w1.output=w.output->After g vs.heap nx w (.tup [.bool false]) [] 0 g (.tuple #[.bool false]) w1:=by
  intro w1 h1 h2 h3 h4;refine ⟨G.le.refl g,fun _ _ h _=>h,by simp only [Rv,Rvs];exact ⟨_,rfl,_,_,rfl,rfl,rfl⟩,⟨fun h q ro b hq=> ?_,hH.sep⟩,⟨h2,h3,h4,by rw [h1];exact d0M _,fun k _ _=>by rw [h1]⟩,fun h q b β he hg hc=> .inl ⟨h,q,b,β,he,hg,hc,rfl⟩⟩;obtain ⟨β,k1,k2⟩:=hH.blk h q ro b hq;exact ⟨β,k1,b0o k2 (G.le.refl g) (by rw [h1];exact d0M _) (fun _=>by rw [h1])⟩
 cases hl:left.isEmpty with
 |true=>
  obtain ⟨k,w1,hk,hch,hw1,hw2,hw3,hw4⟩:=h0H (P:=P) (w:=w) (n:=1) (by omega);have hk0:k=0:=by omega
  subst hk0;refine .inr ⟨hnone hl,.tuple #[.bool false],w1,.inl ?_,hall w1 hw1 hw2 hw3 hw4⟩;have hrun:(Instr.next (a.eval x) false o.type).run P w= .ok (.tuple #[.bool false]) w1:=by
   rw [hp];simp only [Instr.next,e0M,hgi,d0N,k0T hes,hstop,u0l,if_false,<-hleft,hold,hnew,hl,if_true,Array.append_empty];have hl0:left= #[]:=Array.isEmpty_iff.1 hl;rw [hl0];simp only [Array.map_empty,Array.append_empty,b1D,m0j,s0f,i0s];rw [hch];simp
  simp [execOp,ho,hrun]
 |false=>
  have hpos:0<left.size:=by
   rcases i0m left.size with h|h
   .rw [Array.isEmpty_iff_size_eq_zero.2 h] at hl;cases hl
   .exact h
  obtain ⟨k,w1,hk,hch,hw1,hw2,hw3,hw4⟩:=h0H (P:=P) (w:=w) (n:=left.size) hpos;obtain ⟨i,hin,hns,hei⟩:=hmem left[k] (Array.getElem_mem hk);obtain ⟨r1,r2,r3⟩:=hM.row i _ hei;have hes1:w1.heap[β.blk]? =some (.mapIter (some βm.blk) ck seen ck):=by rw [hw1,hseen];exact hit
  have hblk:β.blk<w.heap.size:=hB.lt hcap;refine .inl ⟨i,.tuple #[.bool true,left[k].key,left[k].val],{ w1 with heap:=w1.heap.setIfInBounds β.blk (.mapIter (some βm.blk) ck (seen.push left[k].born) ck)},hin,hns,.inl ?_,?_⟩
  .have hrun:(Instr.next (a.eval x) false o.type).run P w= .ok (.tuple #[.bool true,left[k].key,left[k].val]) { w1 with heap:=w1.heap.setIfInBounds β.blk (.mapIter (some βm.blk) ck (seen.push left[k].born) ck)}:=by
    rw [hp];simp only [Instr.next,e0M,hgi,d0N,k0T hes,hstop,u0l,if_false,<-hleft,hold,hnew,hl,Array.append_empty,Array.empty_append,Array.size_map,hch];have hk2:(Array.map some left)[k]? =some (some left[k]):=by simp [hk]
    rw [hk2];have hset:∀ob:Obj,(setObj β.blk ob).run P w1= .ok () { w1 with heap:=w1.heap.setIfInBounds β.blk ob}:=by
     intro ob;simp [setObj,Sem.run,hes1]
    simp [hset,Result.andThen]
   simp [execOp,ho,hrun]
  .obtain ⟨k1,k2⟩:=z0f (o':=Obj.mapIter (some βm.blk) ck (seen.push left[k].born) ck) hes1;refine c0u hH hent hβ hcap (by simp only [Rv,Rvs];exact ⟨_,rfl,_,_,rfl,rfl,_,_,rfl,by rw [r2];exact q0R,_,_,rfl,r3,rfl⟩) (h0E hB.es hcap hoff (by simp [hw1,hblk]) ⟨βm,hβm,?_,?_⟩) hw2 hw3 hw4 (by simp [hw1]) (fun k _ hk=>(k2 k hk).trans (by rw [hw1]))
   .rw [k1,hseen,r1];simp
   .intro j hj;simp only [d0z] at hj;rcases hj with rfl|hj
    .rw [hM.bl];exact hin
    .exact hsn j hj
theorem t0v (hg:g.glob) (he:b0r g vs a) (hH:Holds g vs.heap w) {o:Oper} {x:Operand} {hh p:Nat} {s:ByteArray} (ho:o.op= .next x true) (hx:gv vs x=some (.ptr hh 0 0 0)) (hent:Ent vs.heap hh 0 false (.obj (.siter s p))):
  (p<s.size/\∃v w',Ran P a o w v w'/\After g vs.heap nx w (.tup [.bool true,.int .i64 (p:Int),.int .i32 ((Utf8.decode s p).1:Int)]) (a0L vs.heap hh 0 (.obj (.siter s (p+(Utf8.decode s p).2)))) 0 g v w')\/
  (¬p<s.size/\∃v w',Ran P a o w v w'/\After g vs.heap nx w (.tup [.bool false]) [] 0 g v w'):=by
 have hmv:=a0w hg he hx;obtain ⟨β,hβ,hB⟩:=hH.blk _ _ _ _ hent;obtain ⟨β',hβ',hpv⟩:=rpv hmv;rw [hβ] at hβ';cases hβ';obtain ⟨hcap,hoff,hit⟩:=hB.obj;have hit:w.heap[β.blk]? =some (.stringIter s p):=hit;have hp:a.eval x= .pointer (some ⟨β.blk,0,none⟩):=by rw [hpv];simp [Base.addr,hoff]
 have hgi:(getObj β.blk).run P w= .ok (.stringIter s p) w:=by simp [getObj,Sem.run,hit]
 have hblk:β.blk<w.heap.size:=hB.lt hcap;by_cases hlt:p<s.size
 .refine .inl ⟨hlt,.tuple #[.bool true,goInt (p:Int),.int .i32 ((Utf8.decode s p).1:Int)],{ w with heap:=w.heap.setIfInBounds β.blk (.stringIter s (p+(Utf8.decode s p).2))},.inl ?_,?_⟩
  .have hset:∀ob:Obj,(setObj β.blk ob).run P w= .ok () { w with heap:=w.heap.setIfInBounds β.blk ob}:=by
    intro ob;simp [setObj,Sem.run,hit]
   have hrun:(Instr.next (a.eval x) true o.type).run P w= .ok (.tuple #[.bool true,goInt (p:Int),.int .i32 ((Utf8.decode s p).1:Int)]) { w with heap:=w.heap.setIfInBounds β.blk (.stringIter s (p+(Utf8.decode s p).2))}:=by
    rw [hp];simp [Instr.next,e0M,hgi,d0N,hlt,hset,Result.andThen]
   simp [execOp,ho,hrun]
  .obtain ⟨k1,k2⟩:=z0f (o':=Obj.stringIter s (p+(Utf8.decode s p).2)) hit;exact c0u hH hent hβ hcap (by simp only [Rv,Rvs];exact ⟨_,rfl,_,_,rfl,rfl,_,_,rfl,rfl,_,_,rfl,rfl,rfl⟩) (h0E hB.es hcap hoff (by simp [hblk]) k1) rfl rfl rfl (by simp) (fun k _ hk=>k2 k hk)
 .refine .inr ⟨hlt,.tuple #[.bool false],w,.inl ?_,?_⟩
  .have hrun:(Instr.next (a.eval x) true o.type).run P w= .ok (.tuple #[.bool false]) w:=by
    rw [hp];simp [Instr.next,e0M,hgi,d0N,hlt]
   simp [execOp,ho,hrun]
  .exact ⟨G.le.refl g,fun _ _ h _=>h,by simp only [Rv,Rvs];exact ⟨_,rfl,_,_,rfl,rfl,rfl⟩,hH,⟨rfl,rfl,rfl,d0M _,fun k _ _=>rfl⟩,fun h q b β he hg hc=> .inl ⟨h,q,b,β,he,hg,hc,rfl⟩⟩
end ops
end Go.Sy
namespace Go.Sy
open Go.RowKit
structure Ctx where
 g:G
 n0:Nat
 w:World
 W:Nat->Prop
 N:Nat
 ds:List Deferred
structure Rel (C:Ctx) (g:G) (vs:VS) (a:Act) (w:World):Prop where
 env:b0r g vs a
 size:a.tmps.size=C.N
 defers:a.defers=C.ds
 glob:g.glob
 upto:g.upto vs.next
 lo:C.n0<=vs.next
 keep:∀h q,h<C.n0->g h q=C.g h q
 heap:Holds g vs.heap w
 fr:Fr C.W C.w w
 own:s0T g vs.heap C.W C.w
def p0r (d:Option Nat) (r:SV) (e:Env):Env:=match d with|some d=>(d,r)::e|none=>e
theorem f0I:∀(U H:a0g) (K:a0g->Prop),q0s U H K↔K (U++H)
 | [],H,K=>Iff.rfl
 |x::U,H,K=>by simp only [q0s,i0k];exact f0I U H _
theorem b0D {vs:VS} {d:Option Nat} {r:SV} {U:a0g} {b:Nat} {K:VS->Prop}:j0b vs d r U b K↔K ⟨p0r d r vs.env,U++vs.heap,vs.next+b⟩:=by
 obtain ⟨e,H,n⟩:=vs;simp only [j0b];rw [f0I];cases d<;>cases b<;>rfl
section
variable {P:Program} {T:Tab} {g:G} {C:Ctx} {vs:VS} {a:Act} {w:World}
theorem f0J {t:Array Value} {d:Nat} {v:Value} (h:d<t.size):(t.setIfInBounds d v).getD d undef=v:=by
 simp [Array.getD,h]
theorem h0I {t:Array Value} {d x:Nat} {v:Value} (h:d≠x):(t.setIfInBounds d v).getD x undef=t.getD x undef:=by
 simp only [s0g,b1O h]
theorem n0V {g':G} {H:a0g} {nx b:Nat} {r:SV} {U:a0g} {v:Value} {w':World} (A:After g H nx w r U b g' v w') (hfr:Fr C.W C.w w) (hown:s0T g H C.W C.w):Fr C.W C.w w'/\s0T g' (U++H) C.W C.w:=by
 refine ⟨⟨A.fr.os.trans hfr.os,A.fr.tape.trans hfr.tape,A.fr.output.trans hfr.output,s0e hfr.size A.fr.size,?_⟩,?_⟩
 .intro k hk hW;rw [A.fr.block k (r0k hk hfr.size) ?_]
  .exact hfr.block k hk hW
  .rintro ⟨h,q,b,β,he,hg,hc,e⟩;rcases hown h q b β he hg hc with ho|ho
   .exact hW (e▸ho)
   .omega
 .intro h q b β he hg hc;rcases A.own h q b β he hg hc with ⟨h',q',b',β',he',hg',hc',e⟩|ho
  .rcases hown h' q' b' β' he' hg' hc' with ho|ho
   .exact .inl (e▸ho)
   .exact .inr (e▸ho)
  .exact .inr (s0e hfr.size ho)
theorem q0T {g':G} {d:Option Nat} {r:SV} {v:Value} {e:Env} {H H':a0g} {n n':Nat} (he:b0r g ⟨e,H,n⟩ a) (hle:G.le g g') (hv:Rv g' r v) (hd:∀x,d=some x->x<a.tmps.size):b0r g' ⟨p0r d r e,H',n'⟩ (a.put d v):=by
 intro t s ht;cases d with
 |none=>exact Rv.mono hle _ _ (he t s ht)
 |some d=>
  simp only [p0r] at ht;rw [b0x] at ht;simp only [Act.put];split at ht
  .rename_i e';subst e';simp only [Option.some.injEq] at ht;subst ht;rw [f0J (hd d rfl)];exact hv
  .rename_i hne;rw [h0I hne];exact Rv.mono hle _ _ (he t s ht)
theorem e0D {d:Option Nat} {v:Value}:(a.put d v).tmps.size=a.tmps.size/\(a.put d v).defers=a.defers:=by
 cases d<;>simp [Act.put]
theorem b0f {o:Oper} {r:SV} {U:a0g} {b:Nat} {g':G} {v:Value} {w':World} (R:Rel C g vs a w) (A:After g vs.heap vs.next w r U b g' v w') (hd:∀x,o.dst=some x->x<C.N):Rel C g' ⟨p0r o.dst r vs.env,U++vs.heap,vs.next+b⟩ (a.put o.dst v) w':=by
 obtain ⟨f1,f2⟩:=n0V A R.fr R.own;refine ⟨q0T (H:=vs.heap) (n:=vs.next) R.env A.le A.rv (by rw [R.size];exact hd),e0D.1.trans R.size,e0D.2.trans R.defers,?_,?_,s0e R.lo (Nat.le_add_right _ _),?_,A.heap,f1,f2⟩
 .intro q;obtain ⟨es,cap,e⟩:=R.glob q;exact ⟨es,cap,A.le _ _ _ e⟩
 .intro h q hh;simp only at hh;exact A.born h q (R.upto h q (by omega)) (by omega)
 .intro h q hh;rw [<-R.keep h q hh];cases e:g h q with
  |some β=>exact A.le _ _ _ e
  |none=>exact A.born h q e (by have:=R.lo;omega)
def z0v (P:Program) (C:Ctx) (o:Oper) (a:Act) (w:World) (K:VS->Prop) (Q:Exit->Act->World->Prop):Prop:=
 ∀next:Act->World->Prop,(∀vs' g' a' w',K vs'->Rel C g' vs' a' w'->next a' w')->o.wp P a w next Q
theorem m0V {R:Res} {K:SV->a0g->Nat->List Nat->Prop} (h:y0R R K):∃r U b t,R.is r U b t/\K r U b t:=by
 cases R with
 |no=>exact h.elim
 |ok r U b t=>exact ⟨r,U,b,t,⟨rfl,rfl,rfl,rfl⟩,h⟩
 |when c r U b t=>exact ⟨r,U,b,t,⟨h.1,rfl,rfl,rfl,rfl⟩,h.2⟩
theorem f0K {o:Oper} {v:Value} {w':World} {next:Act->World->Prop} {Q:Exit->Act->World->Prop} (h:Ran P a o w v w') (hn:next (a.put o.dst v) w'):o.wp P a w next Q:=by
 rcases h with h|⟨h,rfl⟩
 .simp only [Oper.wp,h,e1K];exact hn
 .simp only [Oper.wp,h,Oper.upon_skip];exact hn
theorem q0U (l c:List SV):y0Q l c=l++c:=by cases c<;>simp [y0Q]
theorem Rvs.append:∀(l m:List SV) (xs ys:List Value),Rvs g l xs->Rvs g m ys->Rvs g (l++m) (xs++ys)
 | [],m,xs,ys,h1,h2=>by simp only [Rvs] at h1;subst h1;simpa using h2
 |s::l,m,xs,ys,h1,h2=>by
  simp only [Rvs] at h1;obtain ⟨v,vs',e,k1,k2⟩:=h1;subst e;simp only [i0k,Rvs];exact ⟨v,_,rfl,k1,Rvs.append l m vs' ys k2 h2⟩
theorem q0V {K:Nat} {o:Oper} {fo:Operand} {args:Array Operand} {ts:Array TypeId} {f:Nat} {cap l:List SV} {cs:Array Value} (hop:o.op= .call ⟨.value fo,args,ts⟩) (hcs:a.eval fo=bif Nat.blt f K then Value.func (.func f) #[] cs else Value.func (.func (f-K)) cs #[]) (hcr:Rvs g cap cs.toList) (hvals:Rvs g l (args.toList.map a.eval)):
  ∃vals:List Value,Rvs g (bif Nat.blt f K then y0Q l cap else y0Q cap l) vals/\(execOp a.eval o).run P w=(callFunc (bif Nat.blt f K then f else f-K) vals.toArray).run P w:=by
 generalize f-K=F at*;generalize Nat.blt f K=b at*;cases b with
 |true=>
  rw [cond_true] at hcs;refine ⟨args.toList.map a.eval++cs.toList,by rw [cond_true,q0U];exact Rvs.append _ _ _ _ hvals hcr,?_⟩;have ha:(args.toList.map a.eval++cs.toList).toArray=args.map a.eval++cs:=by apply Array.ext';simp
  rw [ha,cond_true];simp [execOp,hop,resolve,hcs,Deferred.ofValue,invoke]
 |false=>
  rw [cond_false] at hcs;refine ⟨cs.toList++args.toList.map a.eval,by rw [cond_false,q0U];exact Rvs.append _ _ _ _ hcr hvals,?_⟩;have ha:(cs.toList++args.toList.map a.eval).toArray=cs++args.map a.eval:=by apply Array.ext';simp
  rw [ha,cond_false];simp [execOp,hop,resolve,hcs,Deferred.ofValue,invoke]
theorem n0W (hg:g.glob) (he:b0r g vs a) {o:Oper} {fo:Operand} {args:Array Operand} {ts:Array TypeId} {f:Nat} {cap l:List SV} (hop:o.op= .call ⟨.value fo,args,ts⟩) (hf:gv vs fo=some (.fn f cap)) (hl:gvs vs args.toList=some l):
  ∃vals:List Value,Rvs g (fnA f l cap) vals/\(execOp a.eval o).run P w=(callFunc (fnF f) vals.toArray).run P w:=by
 have hfv:=a0w hg he hf;simp only [Rv] at hfv;obtain ⟨cs,hcs,hcr⟩:=hfv;exact q0V hop hcs hcr (h0l hg he args.toList l hl)
theorem g0p {f:Nat} {vals:Array Value} (hb:d0s P f):(callFunc f vals).run P w= .ok (.enter f vals) w:=by
 obtain ⟨fn,c,hfn,hbody,hname⟩:=hb;have hname':¬fn.name="runtime.NumGoroutine":=by simpa using hname
 simp [callFunc,hfn,hname',hbody]
theorem j0y (hg:g.glob) (he:b0r g vs a) {o:Oper} {x:Operand} {name:String} {args:Array Operand} {ts:Array TypeId} {t:TypeId} {v:SV} {f:FuncId} {l:List SV} (hop:o.op= .call ⟨.invoke x name,args,ts⟩) (hx:gv vs x=some (.iface t v)) (hl:gvs vs args.toList=some l) (hm:n0H P t name f):
  ∃vals:List Value,Rvs g (v::l) vals/\(execOp a.eval o).run P w=(callFunc f vals.toArray).run P w:=by
 have hxv:=a0w hg he hx;simp only [Rv] at hxv;obtain ⟨u,hu,hur⟩:=hxv;have hvals:=h0l hg he args.toList l hl;refine ⟨u::args.toList.map a.eval,by simp only [Rvs];exact ⟨u,_,rfl,hur,hvals⟩,?_⟩;have ha:(u::args.toList.map a.eval).toArray= #[u]++args.map a.eval:=by apply Array.ext';simp
 have hz:(#[Value.iface t u]++args.map a.eval)[0]? =some (.iface t u):=by
  rw [r0f (by simp)];rfl
 have he2:(#[Value.iface t u]++args.map a.eval).extract 1 (#[Value.iface t u]++args.map a.eval).size=args.map a.eval:=by
  apply Array.ext';simp;exact t0F (by simp)
 rw [ha];simp only [execOp,hop,resolve,hu,e0M,i0S,d0N,invoke];simp only [hz,he2,callMethod,e0M,run_program,d0N,hm u w]
def CallOf (P:Program) (o:Oper) (s:VS) (f:FuncId) (al:List SV):Prop:=
 (∃fo args ts k cap l,o.op= .call ⟨.value fo,args,ts⟩/\gv s fo=some (.fn k cap)/\gvs s args.toList=some l/\f=fnF k/\al=fnA k l cap)\/
 (∃x name args ts t v l,o.op= .call ⟨.invoke x name,args,ts⟩/\gv s x=some (.iface t v)/\gvs s args.toList=some l/\n0H P t name f/\al=v::l)
theorem CallOf.run {o:Oper} {f:FuncId} {al:List SV} (h:CallOf P o vs f al) (hg:g.glob) (he:b0r g vs a):∃vals:List Value,Rvs g al vals/\(execOp a.eval o).run P w=(callFunc f vals.toArray).run P w:=by
 rcases h with ⟨fo,args,ts,k,cap,l,hop,hf,hl,rfl,rfl⟩|⟨x,name,args,ts,t,v,l,hop,hx,hl,hm,rfl⟩
 .exact n0W hg he hop hf hl
 .exact j0y hg he hop hx hl hm
theorem CallOf.op {o:Oper} {s:VS} {f:FuncId} {al:List SV} (h:CallOf P o s f al):∃c,o.op= .call c:=by
 rcases h with ⟨fo,args,ts,k,cap,l,hop,_⟩|⟨x,name,args,ts,t,v,l,hop,_⟩
 .exact ⟨_,hop⟩
 .exact ⟨_,hop⟩
theorem m0W (hg:g.glob) {Hc:a0g} {nx:Nat} (hH:Holds g Hc w) {o:Oper} {f:Nat} {al:List SV} (hr:∃vals:List Value,Rvs g al vals/\(execOp a.eval o).run P w=(callFunc f vals.toArray).run P w)
  {l0:List Nat} {args0:List SV} {H:a0g} {post:SV->a0g->Nat->Prop} (hfc:FC P l0.length f args0 H post) (hfit:Fits l0 nx al args0 H Hc) (hun:∀sv H' n',post sv H' n'->∀h q,nx<=h->h<nx+(n'-l0.length)->g h q=none)
  {next:Act->World->Prop} {Q:Exit->Act->World->Prop} (hn:∀v w' sv H' n' g',post sv H' n'->After g Hc nx w (SV.ren (rho l0 nx) sv) (i0B (rho l0 nx) H'++i0C (rho l0 nx) H) (n'-l0.length) g' v w'->next (a.put o.dst v) w'):o.wp P a w next Q:=by
 obtain ⟨vals,hv,hrun⟩:=hr;obtain ⟨g0,k1,k2,k3,k4,k5⟩:=l0G hfit hg hH hv hun;rcases hfc with ⟨hb,hc⟩|hx
 .rw [g0p hb] at hrun;simp only [Oper.wp,hrun,Oper.upon_enter];refine (hc g0 w vals k1 k2 k3 k4).mono ?_;rintro e' w' ⟨v,rfl,ho⟩;obtain ⟨sv,H',n',g',hp,A⟩:=k5 v w' ho;exact hn v w' sv H' n' g' hp A
 .obtain ⟨v,w',hr,ho⟩:=hx g0 w vals k1 k2 k3 k4;rw [hr] at hrun;obtain ⟨sv,H',n',g',hp,A⟩:=k5 v w' ho;exact f0K (.inl hrun) (hn v w' sv H' n' g' hp A)
theorem t0w (hT:a0U P T) {o:Oper} {K:VS->Prop} {Q:Exit->Act->World->Prop} (R:Rel C g vs a w) (hd:∀d,o.dst=some d->d<C.N) (h:vex P T o vs K):z0v P C o a w K Q:=by
 intro next hn
 have look:y0R (eff T vs vs.next o.op) (fun r U b _=>j0b vs o.dst r U b K)->o.wp P a w next Q:=by
  intro h;obtain ⟨r,U,b,t,h1,h2⟩:=m0V h;obtain ⟨v,w',g',h3,A⟩:=v0g hT R.glob R.env R.heap (fun h q hh _=>R.upto h q hh) h1;exact f0K h3 (hn _ g' _ _ (b0D.1 h2) (b0f R A hd))
 obtain ⟨e0,H0,n0⟩:=vs;unfold vex at h;dsimp only at h;split at h
 .rename_i fo args ts hop;split at h
  .rename_i f cap l hf hl;obtain ⟨l0,args0,H,post,hfc,hfit,hk⟩:=h;exact m0W R.glob R.heap (n0W R.glob R.env hop hf hl) hfc hfit (fun _ _ _ _ h q hh _=>R.upto h q hh) (fun v w' sv H' n' g' hp A=>hn _ g' _ _ (b0D.1 (hk sv H' n' hp)) (b0f R A hd))
  .exact h.elim
 .rename_i x name args ts hop;split at h
  .rename_i t v l hx hl;obtain ⟨f,hm,l0,args0,H,post,hfc,hfit,hk⟩:=h;exact m0W R.glob R.heap (j0y R.glob R.env hop hx hl hm) hfc hfit (fun _ _ _ _ h q hh _=>R.upto h q hh) (fun v w' sv H' n' g' hp A=>hn _ g' _ _ (b0D.1 (hk sv H' n' hp)) (b0f R A hd))
  .exact h.elim
 .rename_i x hop;split at h
  .rename_i it hit;unfold z0m at h;split at h
   .rename_i hh;split at h
    .rename_i hm bs ck sn hg1;split at h
     .rename_i ro2 ka ea n ks vl bs2 ck2 hg2;obtain ⟨⟨rfl,rfl⟩,h1,h2⟩:=h;have en1:Ent H0 hh 0 false (.obj (.iter hm 0 bs2 ck2 sn)):=⟨_,hg1,⟨rfl,rfl⟩,rfl⟩;have en2:Ent H0 hm 0 ro2 (.obj (.map ka ea n ks vl bs2 ck2)):=⟨_,hg2,⟨rfl,rfl⟩,rfl⟩;rcases w0q (P:=P) (nx:=n0) R.glob R.env R.heap hop hit en1 en2 with ⟨i,v,w',hi,hns,hran,A⟩|⟨hall,v,w',hran,A⟩
      .have hset:a0L H0 hh 0 (.obj (.iter hm 0 bs2 ck2 (i::sn)))= [(hh,some (.one false (.obj (.iter hm 0 bs2 ck2 (i::sn)))))]:=by
        unfold a0L;rw [hg1]
       have A':=A;rw [hset] at A';exact f0K hran (hn _ g _ _ (b0D.1 (h1 i hi hns)) (b0f R A' hd))
      .exact f0K hran (hn _ g _ _ (b0D.1 (h2 hall)) (b0f R A hd))
     .exact h.elim
    .exact h.elim
   .exact h.elim
  .exact h.elim
 .rename_i x hop;split at h
  .rename_i it hit;unfold v0c at h;split at h
   .rename_i hh;split at h
    .rename_i s p hg1;obtain ⟨h1,h2⟩:=h;have en1:Ent H0 hh 0 false (.obj (.siter s p)):=⟨_,hg1,⟨rfl,rfl⟩,rfl⟩;rcases t0v (P:=P) (nx:=n0) R.glob R.env R.heap hop hit en1 with ⟨hi,v,w',hran,A⟩|⟨hi,v,w',hran,A⟩
     .have hset:a0L H0 hh 0 (.obj (.siter s (p+(Utf8.decode s p).2)))= [(hh,some (.one false (.obj (.siter s (p+(Utf8.decode s p).2)))))]:=by
       unfold a0L;rw [hg1]
      have A':=A;rw [hset] at A';exact f0K hran (hn _ g _ _ (b0D.1 (h1 hi)) (b0f R A' hd))
     .exact f0K hran (hn _ g _ _ (b0D.1 (h2 hi)) (b0f R A hd))
    .exact h.elim
   .exact h.elim
  .exact h.elim
 .rename_i t x y ty hop;split at h
  .rename_i h1 q1 i1 hx hy;split at h
   .rename_i ti hti;cases hk:Nat.beq ti.kind 6 with
    |false=>rw [hk] at h;exact h.elim
    |true=>
     rw [hk] at h;obtain ⟨ht,hf⟩:=h;have hxv:=a0w R.glob R.env hx;have hyv:=q0B (a0w R.glob R.env hy);simp only [Rv] at hxv;obtain ⟨c1,cc,ex,_⟩:=hxv;obtain ⟨_,_,v,hv,hy1⟩:=m0J (P:=P) (T:=T) (g:=g) (w:=w) (a:=a) (t':=ty) (op:= .eql) (ty:=t) (r:= .bool c1.isNone) (U:= []) (b:=0) (t:= []) hT ex hyv (by rw [hti];simp only [hk,cond_true];exact ⟨rfl,rfl,rfl,rfl⟩);obtain ⟨v',w',g',hran,A⟩:=b0l (nx:=n0) (o:=o) R.heap hv (by rw [hop];exact hy1);cases hb:c1.isNone with
     |true=>rw [hb] at A;exact f0K hran (hn _ g' _ _ (b0D.1 ht) (b0f R A hd))
     |false=>rw [hb] at A;exact f0K hran (hn _ g' _ _ (b0D.1 hf) (b0f R A hd))
   .exact h.elim
  .exact look (by rw [hop];exact h)
 .exact look h
theorem d0b {ops:Array Oper} {j d:Nat} {oj:Oper} {b:Bool} (hj:nth ops.toList j=some oj) (hd:oj.dst=some d) (hv:a.tmps.getD d undef= .bool b):yielded ops a.tmps j=some b:=by
 rw [a0S] at hj;have hj':ops[j]? =some oj:=by simpa using hj
 unfold yielded;simp only [hj',Option.bind_some,hd];rw [s0g] at hv;cases h:a.tmps[d]? with
 |none=>rw [h] at hv;simp [undef] at hv
 |some x=>rw [h] at hv;simp at hv;simp [hv]
theorem g0O {ops:Array Oper} {j d:Nat} {oj:Oper} {x:Array Value} (hj:nth ops.toList j=some oj) (hd:oj.dst=some d) (hv:a.tmps.getD d undef= .tuple x):yielded ops a.tmps j=none:=by
 rw [a0S] at hj;have hj':ops[j]? =some oj:=by simpa using hj
 unfold yielded;simp only [hj',Option.bind_some,hd];rw [s0g] at hv;cases h:a.tmps[d]? with
 |none=>rfl
 |some y=>rw [h] at hv;simp at hv;simp [hv]
theorem q0W (hT:a0U P T) {ops:Array Oper} {o:Oper} {rest:List Oper} {K:VS->Prop} {Q:Exit->Act->World->Prop} (R:Rel C g vs a w) (hd:∀d,o.dst=some d->d<C.N) (h:vop P T ops.toList o vs K)
  (hn:∀vs' g' a' w',K vs'->Rel C g' vs' a' w'->wpList P ops Q rest a' w'):wpList P ops Q (o::rest) a w:=by
 have exec:vex P T o vs K->Region.wanted o (yielded ops a.tmps)=true->wpList P ops Q (o::rest) a w:=by
  intro h hw;unfold wpList;rw [if_pos hw];exact .inl (t0w hT R hd h _ hn)
 have skip:j0b vs o.dst (.raw undef) [] 0 K->Region.wanted o (yielded ops a.tmps)=false->wpList P ops Q (o::rest) a w:=by
  intro h hw;unfold wpList;rw [if_neg (by simp [hw])];exact hn _ g _ _ (b0D.1 h) (b0f (r:= .raw undef) (v:=undef) R (d0t R.heap (by simp only [Rv])) hd)
 unfold vop at h;split at h
 .rename_i hg;exact exec h (by simp [Region.wanted,hg])
 .rename_i j want hg;split at h
  .rename_i oj hj;split at h
   .rename_i d hdst;split at h
    .rename_i hv;have hy:=d0b hj hdst (rbv (R.env d _ hv));cases want with
     |true=>exact exec h (by simp [Region.wanted,hg,hy])
     |false=>exact skip h (by simp [Region.wanted,hg,hy])
    .rename_i hv;have hy:=d0b hj hdst (rbv (R.env d _ hv));cases want with
     |true=>exact skip h (by simp [Region.wanted,hg,hy])
     |false=>exact exec h (by simp [Region.wanted,hg,hy])
    .rename_i x hv;have hy:=g0O hj hdst (by have:=R.env d _ hv;simpa only [Rv] using this);exact skip h (by simp [Region.wanted,hg,hy])
    .exact h.elim
   .exact h.elim
  .exact h.elim
theorem f0L {e:Env} {H:a0g} {n d:Nat} {b:Bool} (h:Rel C g ⟨e,H,n⟩ a w) (hb:a0B e d=some (.bool b)):Rel C g ⟨(d,.bool b)::e,H,n⟩ a w:=by
 refine ⟨?_,h.size,h.defers,h.glob,h.upto,h.lo,h.keep,h.heap,h.fr,h.own⟩;intro t s ht;simp only at ht;rw [b0x] at ht;split at ht
 .rename_i e';subst e';simp only [Option.some.injEq] at ht;subst ht;exact h.env d _ hb
 .exact h.env t s ht
theorem t0x {d:Nat} {K:VS->Prop} (R:Rel C g vs a w) (h:q0t vs d K):∃vs',K vs'/\Rel C g vs' a w:=by
 obtain ⟨e,H,n⟩:=vs;unfold q0t at h;simp only at h;split at h
 .rename_i b hb;cases b with
  |true=>exact ⟨_,(g0d h).1 rfl,f0L R hb⟩
  |false=>exact ⟨_,(g0d h).2 rfl,f0L R hb⟩
 .exact ⟨_,h,R⟩
 .exact h.elim
theorem m0X (hT:a0U P T) {ops:Array Oper} {Q:Exit->Act->World->Prop}:∀(l:List Oper) (vs:VS) (g:G) (a:Act) (w:World) (K:VS->Prop),e0c C.N l=true->Rel C g vs a w->y0S P T ops.toList l vs K->
  (∀vs' g' a' w',K vs'->Rel C g' vs' a' w'->Q .normal a' w')->wpList P ops Q l a w
 | [],vs,g,a,w,K,_,R,h,hq=>by simp only [y0S] at h;exact hq _ _ _ _ h R
 |o::l,vs,g,a,w,K,hds,R,h,hq=>by
  simp only [e0c,c0q] at hds;have hd:∀d,o.dst=some d->d<C.N:=by
   intro d e;have:=hds.1;rw [e] at this;exact k0S this
  simp only [y0S] at h;split at h
  .exact q0W hT R hd h (fun vs' g' a' w' k1 k2=>m0X hT l vs' g' a' w' K hds.2 k2 k1 hq)
  .obtain ⟨v1,h1,R1⟩:=t0x R h;exact q0W hT R1 hd h1 (fun vs' g' a' w' k1 k2=>m0X hT l vs' g' a' w' K hds.2 k2 k1 hq)
end
end Go.Sy
namespace Go.Sy
open Go.RowKit
theorem e0h {vs vs':VS}:∀(xs:List Operand),(∀x∈xs,gv vs' x=gv vs x)->gvs vs' xs=gvs vs xs
 | [],_=>rfl
 |x::xs,h=>by
  simp only [gvs];rw [h x (by simp),e0h xs (fun y hy=>h y (by simp [hy]))]
theorem e0i {vs vs':VS} (pl:Nat->Option (Nat×Nat)):∀(ps:List (Nat×Operand)) (l:List SV),(∀p∈ps,gv vs' p.2=gv vs p.2)->f0r vs' pl ps l=f0r vs pl ps l
 | [],_,_=>rfl
 |(i,x)::ps,l,h=>by
  simp only [f0r];have e:gv vs' x=gv vs x:=h (i,x) (by simp);rw [e];split
  .simp only [c0K];split
   .rw [e0i pl ps _ (fun p hp=>h p (by simp [hp]))]
   .rfl
  .rfl
section
variable {s S:VS} {T:Tab} {nx:Nat} {r:SV} {U:a0g} {b:Nat} {t:List Nat}
theorem a0s {H H':a0g} {h q:Nat} {F F':Bool->Blk->Res} (hh:a0x H' h=a0x H h) (hF:∀ro bl,(F ro bl).is r U b t->(F' ro bl).is r U b t) (hr:(b0w H h q F).is r U b t):(b0w H' h q F').is r U b t:=by
 unfold b0w at hr⊢;rw [hh];split at hr
 .split at hr
  .exact hF _ _ hr
  .exact hr.elim
 .rw [Res.is_guard] at hr⊢;exact ⟨hr.1,hF _ _ hr.2⟩
 .exact hr.elim
def g0q (h:Nat) (R:Res):Prop:=∀r U b t,R.is r U b t->h∈t
theorem w0r {bl:Blk} {i j:Nat} {ti:TI} {h:Nat}:g0q h (q0n bl i j ti h):=by
 intro r U b t hr;have e1:∀R:Res,(∀r U b t,R.is r U b t->h∈t)->∀r U b t,(bl.elt i R).is r U b t->h∈t:=fun R hR r U b t hr=>hR r U b t (l0h hr).2
 unfold q0n at hr;split at hr
 .replace hr:=(a0i hr).2;split at hr
  .obtain ⟨_,_,_,rfl⟩:=hr;simp
  .exact hr.elim
 .cases hag:ti.agg with
  |true=>
   rw [hag] at hr;simp only [cond_true] at hr;replace hr:=(l0h hr).2;split at hr
   .obtain ⟨_,_,_,rfl⟩:=hr;simp
   .exact hr.elim
  |false=>
   rw [hag] at hr;simp only [cond_false] at hr;replace hr:=(l0h hr).2;split at hr
   .obtain ⟨_,_,_,rfl⟩:=hr;simp
   .exact hr.elim
theorem t0y {H:a0g} {bl:Blk} {h q i j:Nat} {v:SV} {ti:TI}:g0q h (h0h H h q i j v ti bl):=by
 intro r U b t hr;unfold h0h at hr;split at hr
 .obtain ⟨_,_,_,rfl⟩:=(a0i hr).2;simp
 .split at hr
  .replace hr:=(a0i hr).2;split at hr
   .obtain ⟨_,_,_,_,rfl⟩:=hr;simp
   .exact hr.elim
  .exact hr.elim
 .split at hr
  .replace hr:=(a0i hr).2;rw [c0K] at hr;obtain ⟨_,_,_,rfl⟩:=hr;simp
  .exact hr.elim
 .exact hr.elim
theorem b0A {H:a0g} {h q:Nat} {F:Bool->Blk->Res} (hF:∀ro bl,g0q h (F ro bl)):g0q h (b0w H h q F):=by
 intro r U b t hr;obtain ⟨ro,bl,_,hr⟩:=a0A hr;exact hF ro bl r U b t hr
theorem b0i {H H':a0g} {h q:Nat} {bl:Blk} (hh:a0x H' h=a0x H h):a0L H' h q bl=a0L H h q bl:=by unfold a0L;rw [hh]
theorem k0i {H H':a0g} {h q:Nat} (hh:a0x H' h=a0x H h):d0Y H' h q=d0Y H h q:=by unfold d0Y;rw [hh]
theorem n0X {ti:TI} {x:SV} {F:Nat->List BCol->List Nat->Res} (hr:(g0T s ti x F).is r U b t):∃n l tt,(F n l tt).is r U b t:=by
 unfold g0T at hr;split at hr
 .obtain ⟨ro,bl,_,hr'⟩:=a0A hr;split at hr'
  .replace hr':=(a0i hr').2;rw [Res.is_guard] at hr';exact ⟨_,_,_,hr'.2⟩
  .exact hr'.elim
 .exact ⟨_,_,_,hr⟩
 .exact ⟨_,_,_,hr⟩
 .exact ⟨_,_,_,(a0i hr).2⟩
 .exact hr.elim
theorem d0G {ti:TI} {x:SV} {F F':Nat->List BCol->List Nat->Res} (hh:∀h∈t,a0x S.heap h=a0x s.heap h) (hsub:∀n l tt,(F n l tt).is r U b t->∀h∈tt,h∈t) (hF:∀n l tt,(F n l tt).is r U b t->(F' n l tt).is r U b t) (hr:(g0T s ti x F).is r U b t):(g0T S ti x F').is r U b t:=by
 unfold g0T at hr⊢;split at hr
 .rename_i h q i n;have ht:h∈t:=by
   obtain ⟨ro,bl,_,hr'⟩:=a0A hr;split at hr'
   .replace hr':=(a0i hr').2;rw [Res.is_guard] at hr';exact hsub _ _ _ hr'.2 h (by simp)
   .exact hr'.elim
  refine a0s (hh h ht) (fun ro bl hr'=> ?_) hr;split at hr'
  .obtain ⟨h1,h2⟩:=a0i hr';rw [Res.is_guard] at h2;simp only [h1,cond_true];rw [Res.is_guard];exact ⟨h2.1,hF _ _ _ h2.2⟩
  .exact hr'.elim
 .exact hF _ _ _ hr
 .exact hF _ _ _ hr
 .obtain ⟨h1,h2⟩:=a0i hr;simp only [h1,cond_true];exact hF _ _ _ h2
 .exact hr.elim
theorem e0j {d:Int} {x:Option Operand} (h:∀y,x=some y->gv S y=gv s y):b0m S d x=b0m s d x:=by
 cases x with
 |none=>rfl
 |some y=>simp only [b0m];rw [h y rfl]
theorem k0j {ti:TI} {m k:SV} {co:Bool} (hh:∀h∈t,a0x S.heap h=a0x s.heap h) (hr:(c0A s ti m k co).is r U b t):(c0A S ti m k co).is r U b t:=by
 unfold c0A at hr⊢;split at hr
 .exact hr
 .rename_i h q;have ht:h∈t:=by
   refine b0A ?_ _ _ _ _ hr;intro ro bl r U b t hr;split at hr
   .split at hr
    .obtain ⟨_,_,_,rfl⟩:=(a0i hr).2;simp
    .exact hr.elim
   .exact hr.elim
  exact a0s (hh h ht) (fun _ _ h=>h) hr
 .exact hr.elim
theorem k0k {ti:TI} {m k v:SV} (hh:∀h∈t,a0x S.heap h=a0x s.heap h) (hr:(g0f s ti m k v).is r U b t):(g0f S ti m k v).is r U b t:=by
 unfold g0f at hr⊢;split at hr
 .rename_i h q;have ht:h∈t:=by
   refine b0A ?_ _ _ _ _ hr;intro ro bl r U b t hr;split at hr
   .split at hr
    .split at hr
     .obtain ⟨_,_,_,rfl⟩:=hr;simp
     .exact hr.elim
    .exact hr.elim
   .exact hr.elim
  refine a0s (hh h ht) (fun _ _ h=> ?_) hr;simp only [b0i (hh _ ht)];exact h
 .exact hr.elim
theorem h0J {ti:TI} {m k:SV} (hh:∀h∈t,a0x S.heap h=a0x s.heap h) (hr:(b0I s ti m k).is r U b t):(b0I S ti m k).is r U b t:=by
 unfold b0I at hr⊢;split at hr
 .rename_i h q;have ht:h∈t:=by
   refine b0A ?_ _ _ _ _ hr;intro ro bl r U b t hr;split at hr
   .split at hr
    .split at hr
     .split at hr
      .obtain ⟨_,_,_,rfl⟩:=(a0i hr).2;simp
      .exact hr.elim
     .exact hr.elim
    .exact hr.elim
   .exact hr.elim
  refine a0s (hh h ht) (fun _ _ h=> ?_) hr;simp only [b0i (hh _ ht)];exact h
 .exact hr.elim
theorem g0r {m k v:SV} (hh:∀h∈t,a0x S.heap h=a0x s.heap h) (hr:(c0d s m k v).is r U b t):(c0d S m k v).is r U b t:=by
 unfold c0d at hr⊢;split at hr
 .rename_i h q st;have ht:h∈t:=by
   refine b0A ?_ _ _ _ _ hr;intro ro bl r U b t hr;split at hr
   .split at hr
    .split at hr
     .obtain ⟨_,_,_,_,rfl⟩:=hr;simp
     .exact hr.elim
    .exact hr.elim
   .exact hr.elim
  refine a0s (hh h ht) (fun _ _ h=> ?_) hr;simp only [b0i (hh _ ht)];exact h
 .exact hr.elim
theorem k0l {ti:TI} {m k:SV} (hh:∀h∈t,a0x S.heap h=a0x s.heap h) (hr:(g0g s ti m k).is r U b t):(g0g S ti m k).is r U b t:=by
 unfold g0g at hr⊢;split at hr
 .rename_i h q;have ht:h∈t:=by
   refine b0A ?_ _ _ _ _ hr;intro ro bl r U b t hr;split at hr
   .split at hr
    .obtain ⟨_,_,_,rfl⟩:=hr;simp
    .exact hr.elim
   .exact hr.elim
  refine a0s (hh h ht) (fun _ _ h=> ?_) hr;simp only [b0i (hh _ ht)];exact h
 .exact hr.elim
theorem l0H {ti:TI} {m:SV} (hh:∀h∈t,a0x S.heap h=a0x s.heap h) (hr:(i0X s ti m).is r U b t):(i0X S ti m).is r U b t:=by
 unfold i0X at hr⊢;split at hr
 .rename_i h q i n;have ht:h∈t:=by
   refine b0A ?_ _ _ _ _ hr;intro ro bl r U b t hr;split at hr
   .obtain ⟨_,hr⟩:=a0i hr;obtain ⟨_,_,_,_,rfl⟩:=hr;simp
   .exact hr.elim
  refine a0s (hh h ht) (fun _ _ h=> ?_) hr;simp only [b0i (hh _ ht)];exact h
 .exact hr.elim
theorem l0I {ti:TI} {m:SV} (hh:∀h∈t,a0x S.heap h=a0x s.heap h) (hr:(i0Y s nx ti m).is r U b t):(i0Y S nx ti m).is r U b t:=by
 unfold i0Y at hr⊢;split at hr
 .exact hr
 .exact hr
 .rename_i h q;obtain ⟨h1,hr⟩:=a0i hr;simp only [h1,cond_true];have ht:h∈t:=by
   refine b0A ?_ _ _ _ _ hr;intro ro bl r U b t hr;split at hr
   .obtain ⟨_,_,_,rfl⟩:=hr;simp
   .exact hr.elim
  exact a0s (hh h ht) (fun _ _ h=>h) hr
 .exact hr.elim
theorem l0J {m:SV} (hh:∀h∈t,a0x S.heap h=a0x s.heap h) (hr:(i0Z s m).is r U b t):(i0Z S m).is r U b t:=by
 unfold i0Z at hr⊢;split at hr
 .rename_i h;have hin:∀hm qm bs ck i,g0q h (b0w s.heap hm qm (fun _ b2=>match b2 with
   | .obj (.map ka ea n ks vl bs2 ck2)=> .when (bs2=bs/\ck2=ck/\i<n) (.tup [s0Y ka ks i,a0T ea vl i]) [] 0 [h,hm]
   |_=> .no))/\g0q hm (b0w s.heap hm qm (fun _ b2=>match b2 with
   | .obj (.map ka ea n ks vl bs2 ck2)=> .when (bs2=bs/\ck2=ck/\i<n) (.tup [s0Y ka ks i,a0T ea vl i]) [] 0 [h,hm]
   |_=> .no)):=by
   intro hm qm bs ck i;constructor
   .intro r U b t hr;obtain ⟨_,_,_,hr⟩:=a0A hr;split at hr
    .obtain ⟨_,_,_,_,rfl⟩:=hr;simp
    .exact hr.elim
   .intro r U b t hr;obtain ⟨_,_,_,hr⟩:=a0A hr;split at hr
    .obtain ⟨_,_,_,_,rfl⟩:=hr;simp
    .exact hr.elim
  have ht:h∈t:=by
   refine b0A ?_ _ _ _ _ hr;intro ro bl r U b t hr;split at hr
   .exact (hin _ _ _ _ _).1 _ _ _ _ hr
   .exact hr.elim
  refine a0s (hh h ht) (fun _ _ hr=> ?_) hr;split at hr
  .exact a0s (hh _ ((hin _ _ _ _ _).2 _ _ _ _ hr)) (fun _ _ h=>h) hr
  .exact hr.elim
 .exact hr.elim
theorem q0X {op:Op} (hs:∀x∈op.operands.toList,gv S x=gv s x) (hh:∀h∈t,a0x S.heap h=a0x s.heap h) (hr:(eff T s nx op).is r U b t):(eff T S nx op).is r U b t:=by
 cases op with
 |move x=>simp only [eff] at hr⊢;rw [hs x (by simp [Op.operands])];exact hr
 |assign x=>simp only [eff] at hr⊢;rw [hs x (by simp [Op.operands])];exact hr
 |nilCheck x=>simp only [eff] at hr⊢;rw [hs x (by simp [Op.operands])];exact hr
 |pick c x y=>simp only [eff] at hr⊢;rw [hs c (by simp [Op.operands]),hs x (by simp [Op.operands]),hs y (by simp [Op.operands])];exact hr
 |binOp op ty x y t'=>simp only [eff] at hr⊢;rw [hs x (by simp [Op.operands]),hs y (by simp [Op.operands])];exact hr
 |unOp op ty x=>simp only [eff] at hr⊢;rw [hs x (by simp [Op.operands])];exact hr
 |fieldAddr ty x f=>simp only [eff] at hr⊢;rw [hs x (by simp [Op.operands])];exact hr
 |field ty x f=>simp only [eff] at hr⊢;rw [hs x (by simp [Op.operands])];exact hr
 |load ty x=>
  simp only [eff] at hr⊢;rw [hs x (by simp [Op.operands])];split at hr
  .rename_i h q i j ti _ _;exact a0s (hh h (b0A (fun _ _=>w0r) _ _ _ _ hr)) (fun _ _ h=>h) hr
  .exact hr.elim
 |store ty x y=>
  simp only [eff] at hr⊢;rw [hs x (by simp [Op.operands]),hs y (by simp [Op.operands])];split at hr
  .rename_i h q i j v ti _ _ _;have ht:h∈t:=b0A (fun ro bl r U b t hr=>t0y r U b t (c0g hr).2) _ _ _ _ hr;refine a0s (hh h ht) (fun ro bl hr'=> ?_) hr;have:h0h S.heap h q i j v ti bl=h0h s.heap h q i j v ti bl:=by
    unfold h0h;simp only [b0i (hh h ht)]
   rw [this];exact hr'
  .exact hr.elim
 |extract x ix=>simp only [eff] at hr⊢;rw [hs x (by simp [Op.operands])];exact hr
 |index ty x ix=>simp only [eff] at hr⊢;rw [hs x (by simp [Op.operands]),hs ix (by simp [Op.operands])];exact hr
 |indexAddr ty x ix=>
  simp only [eff] at hr⊢;rw [hs x (by simp [Op.operands]),hs ix (by simp [Op.operands])];split at hr
  .rename_i h q i n k m ti _ _ _;obtain ⟨h1,h2⟩:=c0g hr;simp only [h1,cond_false];have ht:h∈t:=by
    refine b0A ?_ _ _ _ _ h2;intro ro bl r U b t hr;obtain ⟨_,_,_,_,rfl⟩:=(a0i hr).2;simp
   exact a0s (hh h ht) (fun _ _ h=>h) h2
  .rename_i h q k m ti _ _ _;obtain ⟨h1,h2⟩:=c0g hr;simp only [h1,cond_false];have ht:h∈t:=by
    refine b0A ?_ _ _ _ _ h2;intro ro bl r U b t hr;split at hr
    .obtain ⟨_,_,_,_,rfl⟩:=(a0i hr).2;simp
    .exact hr.elim
   exact a0s (hh h ht) (fun _ _ h=>h) h2
  .exact hr
  .exact hr.elim
 |build ty parts=>
  simp only [eff] at hr⊢;split at hr
  .rw [e0i _ parts.toList _ (fun p hp=>hs p.2 (by simp only [Op.operands,m0l];exact ⟨p,hp,rfl⟩))];exact hr
  .exact hr.elim
 |buildSlice ty len parts=>
  simp only [eff] at hr⊢;split at hr
  .rw [e0i _ parts.toList _ (fun p hp=>hs p.2 (by simp only [Op.operands,m0l];exact ⟨p,hp,rfl⟩))];exact hr
  .exact hr.elim
 |makeSlice ty x y=>simp only [eff] at hr⊢;rw [hs x (by simp [Op.operands]),hs y (by simp [Op.operands])];exact hr
 |slice ty x lo hi mx=>
  simp only [eff] at hr⊢;rw [hs x (by simp [Op.operands])];split at hr
  .rename_i v ti _ _;have h1:∀d,b0m S d lo=b0m s d lo:=fun d=>e0j (fun y e=>hs y (by simp [Op.operands,e]))
   have h2:∀d,b0m S d hi=b0m s d hi:=fun d=>e0j (fun y e=>hs y (by simp [Op.operands,e]))
   have h3:∀d,b0m S d mx=b0m s d mx:=fun d=>e0j (fun y e=>hs y (by simp [Op.operands,e]))
   unfold n0E at hr⊢;simp only [h1,h2,h3];split at hr
   .exact hr
   .rename_i hd q i n _;split at hr
    .rename_i l h m _ _ _ _ _ _;cases hz:(d0Q (some h)&&d0Q (some m)) with
     |true=>rw [hz] at hr;simp only [cond_true] at hr⊢;exact hr
     |false=>
      rw [hz] at hr;simp only [cond_false] at hr⊢;have ht:hd∈t:=by
       refine b0A ?_ _ _ _ _ hr;intro ro bl r U b t hr;obtain ⟨_,_,_,_,rfl⟩:=(a0i hr).2;simp
      exact a0s (hh hd ht) (fun _ _ h=>h) hr
    .have ht:hd∈t:=by
      refine b0A ?_ _ _ _ _ hr;intro ro bl r U b t hr;obtain ⟨_,_,_,_,rfl⟩:=(a0i hr).2;simp
     exact a0s (hh hd ht) (fun _ _ h=>h) hr
    .exact hr.elim
   .exact hr
   .rename_i hd q _;split at hr
    .have ht:hd∈t:=by
      refine b0A ?_ _ _ _ _ hr;intro ro bl r U b t hr;split at hr
      .obtain ⟨_,_,_,_,rfl⟩:=(a0i hr).2;simp
      .exact hr.elim
     exact a0s (hh hd ht) (fun _ _ h=>h) hr
    .exact hr.elim
   .exact hr.elim
  .exact hr.elim
 |alloc ty=>simp only [eff] at hr⊢;exact hr
 |box ty x=>simp only [eff] at hr⊢;rw [hs x (by simp [Op.operands])];exact hr
 |makeFunc fn first captured=>
  cases fn with
  |func f=>
   simp only [eff] at hr⊢;rw [e0h first.toList (fun x hx=>hs x (by simp only [Op.operands,u0Y,k0Q];exact .inl hx)),e0h captured.toList (fun x hx=>hs x (by simp only [Op.operands,u0Y,k0Q];exact .inr hx))];exact hr
  |_=>simp only [eff] at hr;exact hr.elim
 |makeInterface ty x=>simp only [eff] at hr⊢;rw [hs x (by simp [Op.operands])];exact hr
 |makeMap ty c=>
  cases c with
  |none=>simp only [eff] at hr⊢;exact hr
  |some c=>simp only [eff] at hr;exact hr.elim
 |lookup ty x y co=>
  simp only [eff] at hr⊢;rw [hs x (by simp [Op.operands]),hs y (by simp [Op.operands])];split at hr
  .obtain ⟨h1,h2⟩:=a0i hr;simp only [h1,cond_true];exact k0j hh h2
  .exact hr.elim
 |mapUpdate ty x y z=>
  simp only [eff] at hr⊢;rw [hs x (by simp [Op.operands]),hs y (by simp [Op.operands]),hs z (by simp [Op.operands])];split at hr
  .obtain ⟨h1,h2⟩:=a0i hr;simp only [h1,cond_true];exact k0k hh h2
  .exact hr.elim
 |mapEntry ty x y=>
  simp only [eff] at hr⊢;rw [hs x (by simp [Op.operands]),hs y (by simp [Op.operands])];split at hr
  .obtain ⟨h1,h2⟩:=a0i hr;simp only [h1,cond_true];exact h0J hh h2
  .exact hr.elim
 |entryStore ty x y z=>
  simp only [eff] at hr⊢;rw [hs x (by simp [Op.operands]),hs y (by simp [Op.operands]),hs z (by simp [Op.operands])];split at hr
  .exact g0r hh hr
  .exact hr.elim
 |range ty x=>
  simp only [eff] at hr⊢;rw [hs x (by simp [Op.operands])];split at hr
  .exact l0I hh hr
  .exact hr.elim
 |entry x=>
  simp only [eff] at hr⊢;rw [hs x (by simp [Op.operands])];split at hr
  .exact l0J hh hr
  .exact hr.elim
 |convert src dst x=>
  simp only [eff] at hr⊢;rw [hs x (by simp [Op.operands])];split at hr
  .unfold s0X at hr⊢;split at hr
   .exact hr
   .exact hr
   .rename_i h q i n _;obtain ⟨h1,h2⟩:=a0i hr;simp only [h1,cond_true];have ht:h∈t:=by
     refine b0A ?_ _ _ _ _ h2;intro ro bl r U b t hr;split at hr
     .obtain ⟨_,_,_,_,rfl⟩:=hr;simp
     .exact hr.elim
    exact a0s (hh h ht) (fun _ _ h=>h) h2
   .exact hr.elim
  .exact hr.elim
 |call c=>
  obtain ⟨callee,args,ts⟩:=c;cases callee with
  |value f=>simp only [eff] at hr;exact hr.elim
  |invoke r m=>simp only [eff] at hr;exact hr.elim
  |builtin bi=>
   have ha:∀x∈args.toList,gv S x=gv s x:=fun x hx=>hs x (by simp only [Op.operands,Call.operands];simpa using hx)
   simp only [eff] at hr⊢;split at hr
   .rename_i x hargs;have:=ha x (by rw [hargs];simp);simp only [this];split at hr
    .split at hr
     .exact hr
     .exact hr
     .exact hr
     .exact hr
     .exact hr
     .rename_i h q ti _ _;obtain ⟨h1,h2⟩:=a0i hr;simp only [h1,cond_true];have ht:h∈t:=by
       refine b0A ?_ _ _ _ _ h2;intro ro bl r U b t hr;split at hr
       .obtain ⟨_,_,_,rfl⟩:=hr;simp
       .exact hr.elim
      exact a0s (hh h ht) (fun _ _ h=>h) h2
     .exact hr.elim
    .exact hr.elim
   .rename_i x y hargs;have e1:=ha x (by rw [hargs];simp);have e2:=ha y (by rw [hargs];simp);simp only [e1,e2];split at hr
    .split at hr
     .obtain ⟨h1,h2⟩:=a0i hr;simp only [h1,cond_true];exact k0l hh h2
     .exact hr.elim
    .exact hr.elim
   .rename_i x hargs;have e1:=ha x (by rw [hargs];simp);simp only [e1];split at hr
    .split at hr
     .obtain ⟨h1,h2⟩:=a0i hr;simp only [h1,cond_true];exact l0H hh h2
     .exact hr.elim
    .exact hr.elim
   .rename_i x y hargs;have e1:=ha x (by rw [hargs];simp);have e2:=ha y (by rw [hargs];simp);simp only [e1,e2];exact hr
   .rename_i x y hargs;have e1:=ha x (by rw [hargs];simp);have e2:=ha y (by rw [hargs];simp);simp only [e1,e2];exact hr
   .rename_i x y hargs;have e1:=ha x (by rw [hargs];simp);have e2:=ha y (by rw [hargs];simp);simp only [e1,e2];split at hr
    .split at hr
     .rename_i v1 v2 ti ti2 _ _ _ _;obtain ⟨h1,h2⟩:=a0i hr;simp only [h1,cond_true];unfold j0R at h2⊢;split at h2
      .rename_i h q i n _;have ht:h∈t:=by
        obtain ⟨ro,bl,_,h3⟩:=a0A h2;split at h3
        .obtain ⟨n',l',tt,h4⟩:=n0X (a0i h3).2;split at h4
         .obtain ⟨_,_,_,_,rfl⟩:=h4;simp
         .obtain ⟨_,_,_,_,rfl⟩:=h4;simp
        .exact h3.elim
       refine a0s (hh h ht) (fun ro bl h3=> ?_) h2;split at h3
       .obtain ⟨h4,h5⟩:=a0i h3;simp only [h4,cond_true];refine d0G hh ?_ ?_ h5
        .intro n l tt h6;split at h6
         .obtain ⟨_,_,_,_,rfl⟩:=h6;intro h hm;simp [hm]
         .obtain ⟨_,_,_,_,rfl⟩:=h6;intro h hm;simp [hm]
        .intro n l tt h6;rw [k0i (hh h ht),b0i (hh h ht)];exact h6
       .exact h3.elim
      .refine d0G hh ?_ (fun _ _ _ h=>h) h2;intro n l tt h6;obtain ⟨_,_,_,_,rfl⟩:=h6;exact fun h hm=>hm
      .refine d0G hh ?_ (fun _ _ _ h=>h) h2;intro n l tt h6;obtain ⟨_,_,_,_,rfl⟩:=h6;exact fun h hm=>hm
      .exact h2.elim
     .exact hr.elim
    .exact hr.elim
   .rename_i x y hargs;have e1:=ha x (by rw [hargs];simp);have e2:=ha y (by rw [hargs];simp);simp only [e1,e2];split at hr
    .split at hr
     .rename_i v1 v2 ti _ _ _;obtain ⟨h1,h2⟩:=a0i hr;simp only [h1,cond_true];unfold s0W at h2⊢;split at h2
      .rename_i h q i n _;have ht:h∈t:=by
        obtain ⟨ro,bl,_,h3⟩:=a0A h2;split at h3
        .obtain ⟨n',l',tt,h4⟩:=n0X (a0i h3).2;split at h4
         .obtain ⟨_,_,_,_,rfl⟩:=h4;simp
         .exact h4.elim
        .exact h3.elim
       refine a0s (hh h ht) (fun ro bl h3=> ?_) h2;split at h3
       .obtain ⟨h4,h5⟩:=a0i h3;simp only [h4,cond_true];refine d0G hh ?_ ?_ h5
        .intro n l tt h6;split at h6
         .obtain ⟨_,_,_,_,rfl⟩:=h6;intro h hm;simp [hm]
         .exact h6.elim
        .intro n l tt h6;simp only [b0i (hh h ht)];exact h6
       .exact h3.elim
      .exact h2.elim
     .exact hr.elim
    .exact hr.elim
   .exact hr.elim
 |_=>simp only [eff] at hr;exact hr.elim
end
end Go.Sy
namespace Go.Sy
open Go.RowKit
theorem h0K:∀(l:List Nat) (t:Nat),q0u l t=true↔t∈l
 | [],t=>by simp [q0u]
 |x::r,t=>by
  simp only [q0u,r0b,h0K r t,d0z];constructor
  .rintro (h|h)
   .exact .inl (c0k h).symm
   .exact .inr h
  .rintro (rfl|h)
   .exact .inl (by simp)
   .exact .inr h
theorem e0k:∀(l m:List Nat),c0L l m=true->∀x∈l,x∉m
 | [],m,_,x,hx=>by cases hx
 |y::l,m,h,x,hx=>by
  simp only [c0L,c0q,i0o] at h;rcases d0z.1 hx with rfl|hx
  .intro hm;rw [(h0K m x).2 hm] at h;exact absurd h.1 (by simp)
  .exact e0k l m h.2 x hx
theorem j0z:∀(l:List Operand) (t:Nat),Operand.tmp t∈l->t∈f0a l
 | [],t,h=>by cases h
 |x::r,t,h=>by
  rcases d0z.1 h with e|h
  .subst e;simp [f0a]
  .have:=j0z r t h;cases x<;>simp [f0a,this]
theorem l0K {o:Oper} {j:Nat} (h:n0I o j=true):∃e∈o.after,Region.binds .any e=true/\e.on=j:=by
 unfold n0I at h;rw [List.any_eq_true] at h;obtain ⟨e,he,h⟩:=h;simp only [c0q] at h;exact ⟨e,by simpa using he,h.1,c0k h.2⟩
def l0L (ops:Array Oper) (L:Nat->Bool):Prop:=∀(i:Nat) (o:Oper),ops[i]? =some o->L i=true->∀e∈o.after,Region.binds .any e=true->L e.on=true
theorem g0s {ops:Array Oper} {L:Nat->Bool} (hc:l0L ops L):∀(n:Nat) (o:Oper) (j:Nat),h0j ops.toList n o j=true->(∀e∈o.after,Region.binds .any e=true->L e.on=true)->L j=true
 |0,o,j,h,hd=>by
  obtain ⟨e,h1,h2,h3⟩:=l0K h;rw [<-h3];exact hd e h1 h2
 |n+1,o,j,h,hd=>by
  simp only [h0j,r0b,List.any_eq_true] at h;rcases h with h|⟨e,he,h⟩
  .obtain ⟨e,h1,h2,h3⟩:=l0K h;rw [<-h3];exact hd e h1 h2
  .simp only [c0q] at h;obtain ⟨⟨h1,_⟩,h3⟩:=h;split at h3
   .rename_i oe hoe;have he':e∈o.after:=by simpa using he
    have hoe':ops[e.on]? =some oe:=by rw [a0S] at hoe;simpa using hoe
    exact g0s hc n oe j h3 (hc e.on oe hoe' (hd e he' h1))
   .cases h3
structure Draw (ops:Array Oper):Prop where
 dst:∀(i j:Nat) (oi oj:Oper) (t:Nat),ops[i]? =some oi->ops[j]? =some oj->i≠j->oj.dst=some t->oi.dst≠some t
 slot:∀(i j:Nat) (oi oj:Oper) (t:Nat),ops[i]? =some oi->ops[j]? =some oj->i≠j->oj.dst=some t->t∈looks ops.toList oi->(j<i/\h0j ops.toList 7 oi j=true)\/(i<j/\h0j ops.toList 7 oj i=true)
 self:∀(i:Nat) (o:Oper) (t:Nat),ops[i]? =some o->o.dst=some t->t∉looks ops.toList o
 back:∀(i:Nat) (o:Oper),ops[i]? =some o->∀e∈o.after,Region.binds .any e=true->e.on<i
 guard:∀(i:Nat) (o:Oper),ops[i]? =some o->∀j want,o.guard=some (j,want)->∃d,c0t ops.toList o=some d
theorem n0Y (l:List Oper) (i:Nat) (oi:Oper):∀(r:List Oper) (j:Nat),p0c l i oi j r=true->∀k o,r[k]? =some o->l0f l i (j+k) oi o=true
 | [],j,_,k,o,h=>by simp at h
 |x::r,j,hr,k,o,h=>by
  simp only [p0c,c0q] at hr;cases k with
  |zero=>simp at h;subst h;exact hr.1
  |succ k=>simp at h;have:=n0Y l i oi r (j+1) hr.2 k o h;rwa [show j+1+k=j+(k+1) from by omega] at this
theorem l0M (l:List Oper):∀(r:List Oper) (i:Nat),n0K l i r=true->∀k o,r[k]? =some o->j0d l (i+k) o=true/\p0c l (i+k) o 0 l=true
 | [],i,_,k,o,h=>by simp at h
 |x::r,i,hr,k,o,h=>by
  simp only [n0K,c0q] at hr;cases k with
  |zero=>simp at h;subst h;exact hr.1
  |succ k=>simp at h;have:=l0M l r (i+1) hr.2 k o h;rwa [show i+1+k=i+(k+1) from by omega] at this
theorem w0s {ops:Array Oper} (h:q0v ops.toList=true):Draw ops:=by
 have conv:∀{i:Nat} {o:Oper},ops[i]? =some o->ops.toList[i]? =some o:=fun h=>by simpa using h
 have key:∀(i:Nat) (o:Oper),ops[i]? =some o->j0d ops.toList i o=true/\p0c ops.toList i o 0 ops.toList=true:=by
  intro i o ho;have:=l0M ops.toList ops.toList 0 h i o (conv ho);simpa using this
 have pair:∀(i j:Nat) (oi oj:Oper),ops[i]? =some oi->ops[j]? =some oj->l0f ops.toList i j oi oj=true:=by
  intro i j oi oj hi hj;have:=n0Y ops.toList i oi ops.toList 0 (key i oi hi).2 j oj (conv hj);simpa using this
 refine ⟨?_,?_,?_,?_,?_⟩
 .intro i j oi oj t hi hj hne ht e;have:=pair i j oi oj hi hj;simp only [l0f,r0b,ht,e] at this;rcases this with h|h
  .exact hne (c0k h)
  .simp at h
 .intro i j oi oj t hi hj hne ht hl;have:=pair i j oi oj hi hj;simp only [l0f,r0b,ht,c0q,i0o] at this;rcases this with h|⟨_,(h|h)|h⟩
  .exact absurd (c0k h) hne
  .rw [(h0K _ _).2 hl] at h;cases h
  .exact .inl ⟨by simpa using h.1,h.2⟩
  .exact .inr ⟨by simpa using h.1,h.2⟩
 .intro i o t hi ht hl;have:=(key i o hi).1;simp only [j0d,c0q,ht,i0o] at this;rw [(h0K _ _).2 hl] at this;exact absurd this.1.1 (by simp)
 .intro i o hi e he hb;have:=(key i o hi).1;simp only [j0d,c0q] at this;have h2:=this.1.2;unfold l0g at h2;rw [z0e] at h2;have h3:=h2 e (by simpa using he);rw [hb] at h3;simpa using h3
 .intro i o hi j want hg;have:=(key i o hi).1;simp only [j0d,c0q] at this;have h2:=this.2;cases hgs:c0t ops.toList o with
  |none=>rw [hgs,hg] at h2;cases h2
  |some d=>exact ⟨d,rfl⟩
def Did (P:Program) (T:Tab) (ops:List Oper) (o:Oper) (s:VS) (r:SV) (U:a0g) (b:Nat) (t:List Nat):Prop:=
 ((∃j want oj d,o.guard=some (j,want)/\nth ops j=some oj/\oj.dst=some d/\((∃c,a0B s.env d=some (.bool c)/\c≠want)\/(∃x,a0B s.env d=some (.raw (.tuple x)))))/\r= .raw undef/\U= []/\b=0/\t= [])\/
 ((o.guard=none\/∃j want oj d,o.guard=some (j,want)/\nth ops j=some oj/\oj.dst=some d/\a0B s.env d=some (.bool want))/\
   ((eff T s s.next o.op).is r U b t\/
    ∃f al l0 args0 H r0 H' n',CallOf P o s f al/\FC P l0.length f args0 H (a0d r0 H' n')/\Fits l0 s.next al args0 H s.heap/\
     r=SV.ren (rho l0 s.next) r0/\U=i0B (rho l0 s.next) H'++i0C (rho l0 s.next) H/\b=n'-l0.length/\t=l0))
theorem k0m {P:Program} {T:Tab} {ops:List Oper} {o:Oper} {recs:List Rec} {vs:VS} {K:List Rec->VS->Prop} (h:z0n P T ops o recs vs K):
  ∃r U b t,e0R ops o (a0q U) t 0 recs=true/\K (p0a recs ⟨a0q U,t⟩) ⟨p0r o.dst r vs.env,U++vs.heap,vs.next+b⟩/\((eff T vs vs.next o.op).is r U b t\/
   ∃f al l0 args0 H r0 H' n',CallOf P o vs f al/\FC P l0.length f args0 H (a0d r0 H' n')/\Fits l0 vs.next al args0 H vs.heap/\
    r=SV.ren (rho l0 vs.next) r0/\U=i0B (rho l0 vs.next) H'++i0C (rho l0 vs.next) H/\b=n'-l0.length/\t=l0):=by
 have st:∀r U b t,i0E ops o recs vs r U b t K->e0R ops o (a0q U) t 0 recs=true/\K (p0a recs ⟨a0q U,t⟩) ⟨p0r o.dst r vs.env,U++vs.heap,vs.next+b⟩:=by
  intro r U b t h;unfold i0E at h;rw [j0V] at h;cases hc:e0R ops o (a0q U) t 0 recs with
  |false=>rw [hc] at h;exact h.elim
  |true=>rw [hc,cond_true,j0U] at h;exact ⟨rfl,b0D.1 h⟩
 obtain ⟨e0,H0,n0⟩:=vs;unfold z0n at h;dsimp only at h;split at h
 .rename_i fo args ts hop;split at h
  .rename_i f cap l hf hl;obtain ⟨l0,args0,H,r0,H',n',h1,h2,h3⟩:=h;obtain ⟨k1,k2⟩:=st _ _ _ _ h3;exact ⟨_,_,_,_,k1,k2,.inr ⟨fnF f,_,l0,args0,H,r0,H',n',.inl ⟨fo,args,ts,f,cap,l,hop,hf,hl,rfl,rfl⟩,h1,h2,rfl,rfl,rfl,rfl⟩⟩
  .exact h.elim
 .rename_i x name args ts hop;split at h
  .rename_i t v l hx hl;obtain ⟨f,hm,l0,args0,H,r0,H',n',h1,h2,h3⟩:=h;obtain ⟨k1,k2⟩:=st _ _ _ _ h3;exact ⟨_,_,_,_,k1,k2,.inr ⟨f,_,l0,args0,H,r0,H',n',.inr ⟨x,name,args,ts,t,v,l,hop,hx,hl,hm,rfl⟩,h1,h2,rfl,rfl,rfl,rfl⟩⟩
  .exact h.elim
 .obtain ⟨r,U,b,t,h1,h2⟩:=m0V h;obtain ⟨k1,k2⟩:=st _ _ _ _ h2;exact ⟨r,U,b,t,k1,k2,.inl h1⟩
theorem t0z {P:Program} {T:Tab} {ops:List Oper} {o:Oper} {recs:List Rec} {vs:VS} {K:List Rec->VS->Prop} (h:z0o P T ops o recs vs K):
  ∃r U b t,e0R ops o (a0q U) t 0 recs=true/\K (p0a recs ⟨a0q U,t⟩) ⟨p0r o.dst r vs.env,U++vs.heap,vs.next+b⟩/\Did P T ops o vs r U b t:=by
 have st:i0E ops o recs vs (.raw undef) [] 0 [] K->e0R ops o (a0q []) [] 0 recs=true/\K (p0a recs ⟨a0q [],[]⟩) ⟨p0r o.dst (.raw undef) vs.env,[]++vs.heap,vs.next+0⟩:=by
  intro h;unfold i0E at h;rw [j0V] at h;cases hc:e0R ops o (a0q []) [] 0 recs with
  |false=>rw [hc] at h;exact h.elim
  |true=>rw [hc,cond_true,j0U] at h;exact ⟨rfl,b0D.1 h⟩
 unfold z0o at h;split at h
 .rename_i hg;obtain ⟨r,U,b,t,h1,h2,h3⟩:=k0m h;exact ⟨r,U,b,t,h1,h2,.inr ⟨.inl hg,h3⟩⟩
 .rename_i j want hg;split at h
  .rename_i oj hj;split at h
   .rename_i d hdst;split at h
    .rename_i hv;cases want with
     |true=>
      obtain ⟨r,U,b,t,h1,h2,h3⟩:=k0m h;exact ⟨r,U,b,t,h1,h2,.inr ⟨.inr ⟨j,true,oj,d,hg,hj,hdst,hv⟩,h3⟩⟩
     |false=>
      obtain ⟨k1,k2⟩:=st h;exact ⟨_,_,_,_,k1,k2,.inl ⟨⟨j,false,oj,d,hg,hj,hdst,.inl ⟨true,hv,by simp⟩⟩,rfl,rfl,rfl,rfl⟩⟩
    .rename_i hv;cases want with
     |true=>
      obtain ⟨k1,k2⟩:=st h;exact ⟨_,_,_,_,k1,k2,.inl ⟨⟨j,true,oj,d,hg,hj,hdst,.inl ⟨false,hv,by simp⟩⟩,rfl,rfl,rfl,rfl⟩⟩
     |false=>
      obtain ⟨r,U,b,t,h1,h2,h3⟩:=k0m h;exact ⟨r,U,b,t,h1,h2,.inr ⟨.inr ⟨j,false,oj,d,hg,hj,hdst,hv⟩,h3⟩⟩
    .rename_i x hv;obtain ⟨k1,k2⟩:=st h;exact ⟨_,_,_,_,k1,k2,.inl ⟨⟨j,want,oj,d,hg,hj,hdst,.inr ⟨x,hv⟩⟩,rfl,rfl,rfl,rfl⟩⟩
    .exact h.elim
   .exact h.elim
  .exact h.elim
theorem h0L {α:Type}:∀(l:List α) (x:α),(p0a l x).length=l.length+1
 | [],x=>rfl
 |y::l,x=>by simp [p0a,h0L l x]
theorem k0n {α:Type}:∀(l:List α) (x:α) (i:Nat),(p0a l x)[i]? =if i=l.length then some x else l[i]?
 | [],x,i=>by cases i<;>simp [p0a]
 |y::l,x,0=>by simp [p0a]
 |y::l,x,i+1=>by simp [p0a,k0n l x i]
structure Steps (P:Program) (T:Tab) (ops:List Oper) (l:List Oper) (recs:List Rec) (vs:VS) (K:VS->Prop) (st mid:Nat->VS) (r:Nat->SV) (U:Nat->a0g) (b:Nat->Nat) (t:Nat->List Nat):Prop where
 zero:st 0=vs
 last:K (st l.length)
 mids:∀i o,l[i]? =some o->(∀x,a0B (mid i).env x=a0B (st i).env x)/\(mid i).heap=(st i).heap/\(mid i).next=(st i).next
 next:∀i o,l[i]? =some o->st (i+1)=⟨p0r o.dst (r i) (mid i).env,U i++(st i).heap,(st i).next+b i⟩
 did:∀i o,l[i]? =some o->Did P T ops o (mid i) (r i) (U i) (b i) (t i)
 recs0:∀i o (k:Nat) c,l[i]? =some o->recs[k]? =some c->h0j ops 7 o k=true\/(c0L c.keys (t i)=true/\c0L c.keys (a0q (U i))=true/\c0L (a0q (U i)) c.touch=true)\/h0k ops k o=true
 recs1:∀i o k,l[i]? =some o->k<i->h0j ops 7 o (recs.length+k)=true\/(c0L (a0q (U k)) (t i)=true/\c0L (a0q (U k)) (a0q (U i))=true/\c0L (a0q (U i)) (t k)=true)\/h0k ops (recs.length+k) o=true
theorem l0N {ops:List Oper} {o:Oper} {ks t:List Nat}:∀(recs:List Rec) (i:Nat),e0R ops o ks t i recs=true->∀(k:Nat) c,recs[k]? =some c->h0j ops 7 o (i+k)=true\/(c0L c.keys t=true/\c0L c.keys ks=true/\c0L ks c.touch=true)\/h0k ops (i+k) o=true
 | [],i,_,k,c,h=>by simp at h
 |x::r,i,hr,k,c,h=>by
  simp only [e0R,c0q,r0b] at hr;cases k with
  |zero=>
   simp at h;subst h;rcases hr.1 with (h1|h1)|h1
   .exact .inr (.inl ⟨h1.1.1,h1.1.2,h1.2⟩)
   .exact .inl h1
   .exact .inr (.inr h1)
  |succ k=>
   simp at h;have:=l0N r (i+1) hr.2 k c h
   rwa [show i+1+k=i+(k+1) from by omega] at this
theorem h0M {P:Program} {T:Tab} {ops:List Oper}:∀(l:List Oper) (recs:List Rec) (vs:VS) (K:VS->Prop),m0G P T ops l recs vs K->∃st mid r U b t,Steps P T ops l recs vs K st mid r U b t
 | [],recs,vs,K,h=>⟨fun _=>vs,fun _=>vs,fun _=> .unk,fun _=> [],fun _=>0,fun _=> [],⟨rfl,h,by simp,by simp,by simp,by simp,by simp⟩⟩
 |o::l,recs,vs,K,h=>by
  have key:∃m,(∀x,a0B m.env x=a0B vs.env x)/\m.heap=vs.heap/\m.next=vs.next/\z0o P T ops o recs m (fun recs' vs'=>m0G P T ops l recs' vs' K):=by
   simp only [m0G] at h;split at h
   .exact ⟨vs,fun _=>rfl,rfl,rfl,h⟩
   .rename_i d _;obtain ⟨e,H,n⟩:=vs;unfold q0t at h;simp only at h;split at h
    .rename_i c hc;have ext:∀x,a0B ((d,SV.bool c)::e) x=a0B e x:=by
      intro x;rw [b0x];split
      .rename_i e';subst e';exact hc.symm
      .rfl
     cases c with
     |true=>exact ⟨⟨(d,.bool true)::e,H,n⟩,ext,rfl,rfl,(g0d h).1 rfl⟩
     |false=>exact ⟨⟨(d,.bool false)::e,H,n⟩,ext,rfl,rfl,(g0d h).2 rfl⟩
    .exact ⟨_,fun _=>rfl,rfl,rfl,h⟩
    .exact h.elim
  obtain ⟨m,m1,m2,m3,hm⟩:=key;obtain ⟨r0,U0,b0,t0,h1,h2,h3⟩:=t0z hm;obtain ⟨st,mid,r,U,b,t,S⟩:=h0M l _ _ K h2;refine ⟨fun i=>match i with|0=>vs|i+1=>st i,fun i=>match i with|0=>m|i+1=>mid i,fun i=>match i with|0=>r0|i+1=>r i,fun i=>match i with|0=>U0|i+1=>U i,fun i=>match i with|0=>b0|i+1=>b i,fun i=>match i with|0=>t0|i+1=>t i,⟨rfl,S.last,?_,?_,?_,?_,?_⟩⟩
  .intro i o' ho;cases i with
   |zero=>exact ⟨m1,m2,m3⟩
   |succ i=>exact S.mids i o' (by simpa using ho)
  .intro i o' ho;cases i with
   |zero=>simp at ho;subst ho;simp only;rw [S.zero,m2,m3]
   |succ i=>exact S.next i o' (by simpa using ho)
  .intro i o' ho;cases i with
   |zero=>simp at ho;subst ho;exact h3
   |succ i=>exact S.did i o' (by simpa using ho)
  .intro i o' k c ho hk;cases i with
   |zero=>simp at ho;subst ho;have:=l0N recs 0 h1 k c hk;simpa using this
   |succ i=>
    refine S.recs0 i o' k c (by simpa using ho) ?_;rw [k0n,if_neg]
    .exact hk
    .intro e;subst e;simp at hk
  .intro i o' k ho hki;cases i with
   |zero=>omega
   |succ i=>
    cases k with
    |zero=>
     have:=S.recs0 i o' recs.length ⟨a0q U0,t0⟩ (by simpa using ho) (by rw [k0n,if_pos rfl]);simpa using this
    |succ k=>
     have:=S.recs1 i o' k (by simpa using ho) (by omega);rw [h0L] at this
     rwa [show recs.length+1+k=recs.length+(k+1) from by omega] at this
end Go.Sy
namespace Go.Sy
open Go.RowKit
theorem h0N {α:Type} (l:List α) (i:Nat) (d:α):(c0x i (l.getD i d) l).getD i d=l.getD i d:=by
 unfold c0x;split
 .rename_i h;simp [List.getD,h]
 .rename_i h;by_cases e:i=l.length
  .subst e;simp [List.getD]
  .simp only [List.getD];rw [f0k (show (l++ [l[i]?.getD d]).length<=i by simp;omega),f0k (show l.length<=i by omega)]
theorem q0Y {i:Nat} {c c':Col} (h:b0H i c (c.at i)=some c'):c'.at i=c.at i:=by
 cases c with
 |ints k l=>
  simp only [Col.at,b0H] at h;cases hk:d0p k k with
  |false=>rw [hk] at h;cases h
  |true=>
   rw [hk] at h;simp only [cond_true,Option.some.injEq] at h;subst h;simp only [Col.at];rw [h0N]
 |strs l=>
  simp only [Col.at,b0H,Option.some.injEq] at h;subst h;simp only [Col.at];rw [h0N]
 |bools l=>
  simp only [Col.at,b0H,Option.some.injEq] at h;subst h;simp only [Col.at];rw [h0N]
theorem v0i (d:Col) (vl:List BCol) (z:SV) (ez:List SV):zOk (.sc d::vl) (z::ez)=(zOk [.sc d] [z]&&zOk vl ez):=by
 cases d<;>cases z<;>(try simp [zOk]);rename_i b;cases b<;>simp [zOk]
theorem w0t {i:Nat} {d d':Col} {v z:SV} (h:b0H i d v=some d'):zOk [.sc d'] [z]=zOk [.sc d] [z]:=by
 cases d with
 |ints k l=>
  cases v<;>simp only [b0H] at h<;>first|contradiction|skip
  rename_i p x;cases hk:d0p p k with
  |false=>rw [hk] at h;cases h
  |true=>
   rw [hk] at h;simp only [cond_true,Option.some.injEq] at h;subst h;cases z<;>simp [zOk]
 |strs l=>
  cases v<;>simp only [b0H] at h<;>first|contradiction|skip
  simp only [Option.some.injEq] at h;subst h;cases z<;>simp [zOk]
 |bools l=>
  cases v<;>simp only [b0H] at h<;>first|contradiction|skip
  simp only [Option.some.injEq] at h;subst h;cases z<;>(try simp [zOk]);rename_i b;cases b<;>simp [zOk]
theorem t0A {c:BCol} {vl:List BCol} {z:SV} {ez:List SV} (h:zOk (c::vl) (z::ez)=true):∃d,c= .sc d/\zOk [.sc d] [z]=true/\zOk vl ez=true:=by
 cases c with
 |sc d=>rw [v0i,c0q] at h;exact ⟨d,rfl,h.1,h.2⟩
 |svs l=>cases z<;>simp [zOk] at h
 |own a ns=>cases z<;>simp [zOk] at h
 |ptrs a n=>cases z<;>simp [zOk] at h
 |arrs n k r=>cases z<;>simp [zOk] at h
theorem g0t {i:Nat}:∀(vl vl':List BCol) (ez:List SV),zOk vl ez=true->b0G i vl (a0p vl i)=some vl'->a0p vl' i=a0p vl i/\zOk vl' ez=true
 | [],vl',ez,hz,h=>by
   simp only [a0p,b0G,Option.some.injEq] at h;subst h;exact ⟨rfl,hz⟩
 |c::vl,vl',[],hz,h=>by cases c<;>simp [zOk] at hz
 |c::vl,vl',z::ez,hz,h=>by
  obtain ⟨d,rfl,hz3,hz2⟩:=t0A hz;simp only [a0p,b0G,h0i,BCol.at] at h;cases hp:b0H i d (d.at i) with
  |none=>rw [hp] at h;cases h
  |some d'=>
   rw [hp] at h;cases hr:b0G i vl (a0p vl i) with
   |none=>rw [hr] at h;cases h
   |some r=>
    rw [hr] at h;simp only [Option.some.injEq] at h;subst h;obtain ⟨q1,q2⟩:=g0t vl r ez hz2 hr;refine ⟨?_,?_⟩
    .simp only [a0p,BCol.at];rw [q0Y hp,q1]
    .rw [v0i,w0t hp,hz3,q2];rfl
theorem t0B {ea:Bool} {i:Nat} {vl vl':List BCol} {ez vc:List SV} (hz:zOk vl ez=true) (ha:a0M ea (a0T ea vl i)=some vc) (hp:b0G i vl vc=some vl'):a0T ea vl' i=a0T ea vl i/\zOk vl' ez=true:=by
 cases ea with
 |true=>
  simp only [a0T,a0M,Option.some.injEq] at ha;subst ha;obtain ⟨q1,q2⟩:=g0t vl vl' ez hz hp;exact ⟨by simp only [a0T];rw [q1],q2⟩
 |false=>
  have key:∀c,vl= [c]->vc= [c.at i]:=by
   rintro c rfl;simp only [a0T,a0M] at ha;cases ho:((c.at i).one||o0Y (c.at i)) with
   |false=>rw [ho] at ha;cases ha
   |true=>rw [ho] at ha;simp only [cond_true,Option.some.injEq] at ha;exact ha.symm
  match vl,hz,hp,ha,key with
  | [],hz,hp,ha,_=>
    simp only [a0T,a0M] at ha;cases vc with
    |nil=>simp [SV.one,o0Y] at ha
    |cons x r=>simp [b0G] at hp
  | [c],hz,hp,ha,key=>
    have e:=key c rfl;subst e;obtain ⟨q1,q2⟩:=g0t [c] vl' ez hz hp
    match vl',q1,q2,hp with
    | [],q1,_,_=>simp [a0p] at q1
    | [c'],q1,q2,_=>
      simp only [a0p,List.cons.injEq,and_true] at q1;exact ⟨q1,q2⟩
    |c'::d'::r,q1,_,_=>simp [a0p] at q1
  |c::d::r,hz,hp,ha,_=>
   simp only [a0T,a0M] at ha;cases ho:(SV.unk.one||o0Y SV.unk) with
   |false=>rw [ho] at ha;cases ha
   |true=>
    rw [ho] at ha;simp only [cond_true,Option.some.injEq] at ha;subst ha;simp only [b0G] at hp;split at hp<;>first|cases hp;done|skip
    rename_i h2;simp at h2
theorem n0Z {ea:Bool} {n i:Nat} {vl:List BCol} {ez:List SV} (hz:zOk vl ez=true):f0v ea n vl i=a0T ea vl i:=l0z hz
theorem o0a:∀(l:List ByteArray) (s:ByteArray),d0f (c0x (d0f l s) s l) s=d0f l s
 | [],s=>by simp [d0f,c0x,seq]
 |x::l,s=>by
  by_cases h:seq x s=true
  .have e:d0f (x::l) s=0:=by simp [d0f,h]
   rw [e];simp [c0x,d0f,seq]
  .have h':seq x s=false:=by simpa using h
   have e:d0f (x::l) s=d0f l s+1:=by simp [d0f,h']
   have e2:c0x (d0f l s+1) s (x::l)=x::c0x (d0f l s) s l:=by
    unfold c0x;simp only [m0j,d1T];split<;>rfl
   rw [e,e2];simp only [d0f,h',cond_false];rw [o0a l s]
theorem o0b:∀(l:List Int) (s:Int),l0c (c0x (l0c l s) s l) s=l0c l s
 | [],s=>by simp [l0c,c0x]
 |x::l,s=>by
  by_cases h:x=s
  .have e:l0c (x::l) s=0:=by simp [l0c,h]
   rw [e];simp [c0x,l0c]
  .have e:l0c (x::l) s=l0c l s+1:=by simp [l0c,h]
   have e2:c0x (l0c l s+1) s (x::l)=x::c0x (l0c l s) s l:=by
    unfold c0x;simp only [m0j,d1T];split<;>rfl
   rw [e,e2];simp only [l0c,decide_eq_false h,cond_false];rw [o0b l s]
theorem l0O {α:Type} (i:Nat) (s x:α) (l:List α):c0x (i+1) s (x::l)=x::c0x i s l:=by
 unfold c0x;simp only [m0j,d1T];split<;>rfl
theorem d0w {α:Type} (s:α) (l:List α):∃r,c0x 0 s l=s::r:=by
 cases l with
 |nil=>exact ⟨[],by simp [c0x]⟩
 |cons x l=>exact ⟨l,by simp [c0x]⟩
theorem l0P:∀(l m:List ByteArray) (s t:ByteArray),b0v (c0x (b0v l m s t) s l) (c0x (b0v l m s t) t m) s t=b0v l m s t
 | [],m,s,t=>by
   have e:b0v [] m s t=0:=by simp [b0v]
   obtain ⟨r1,h1⟩:=d0w s ([]:List ByteArray);obtain ⟨r2,h2⟩:=d0w t m;rw [e,h1,h2];simp [b0v,seq]
 |x::l,[],s,t=>by
  have e:b0v (x::l) [] s t=0:=by simp [b0v]
  obtain ⟨r1,h1⟩:=d0w s (x::l);obtain ⟨r2,h2⟩:=d0w t ([]:List ByteArray);rw [e,h1,h2];simp [b0v,seq]
 |x::l,y::m,s,t=>by
  cases h:(seq x s&&seq y t) with
  |true=>
   have e:b0v (x::l) (y::m) s t=0:=by simp only [b0v,h,cond_true]
   obtain ⟨r1,h1⟩:=d0w s (x::l);obtain ⟨r2,h2⟩:=d0w t (y::m);rw [e,h1,h2];simp [b0v,seq]
  |false=>
   have e:b0v (x::l) (y::m) s t=b0v l m s t+1:=by simp only [b0v,h,cond_false]
   rw [e,l0O,l0O];simp only [b0v,h,cond_false];rw [l0P l m s t]
theorem p0s {ti:TI} {ka:Bool} {ks ks':List Col} {key:SV} {kc:List SV} {i:Nat} (h:d0q ti ka ks key=some i) (hk:a0M ka key=some kc) (hp:c0z i ks kc=some ks'):d0q ti ka ks' key=some i:=by
 unfold d0q at h;split at h
 .rename_i l s;cases hl:Nat.beq ti.len 3 with
  |false=>rw [hl] at h;cases h
  |true=>
   rw [hl] at h;simp only [cond_true,Option.some.injEq] at h;subst h;simp only [a0M,SV.one,Bool.true_or,cond_true,Option.some.injEq] at hk;subst hk;simp only [c0z,b0H,Option.some.injEq] at hp;subst hp;simp only [d0q,hl,cond_true];rw [o0a]
 .rename_i k l p x;cases hl:(Nat.beq ti.len 2&&d0p p k&&d0p p ti.ik) with
  |false=>rw [hl] at h;cases h
  |true=>
   rw [hl] at h;simp only [cond_true,Option.some.injEq] at h;subst h;simp only [a0M,SV.one,Bool.true_or,cond_true,Option.some.injEq] at hk;subst hk;have hl':=hl;simp only [c0q] at hl';simp only [c0z,b0H,hl'.1.2,cond_true,Option.some.injEq] at hp;subst hp;simp only [d0q,hl,cond_true];rw [o0b]
 .rename_i l m s t;split at h
  .rename_i hf;simp only [Option.some.injEq] at h;subst h;simp only [a0M,Option.some.injEq] at hk;subst hk;simp only [c0z,b0H,Option.some.injEq] at hp;subst hp;simp only [d0q,hf];rw [l0P]
  .cases h
 .cases h
def Mem (H:a0g) (h q:Nat) (ro:Bool) (bl:Blk):Prop:=(a0x H h=some (.one ro bl)/\q=0)\/∃dom f,a0x H h=some (.fam ro dom f)/\f q=bl/\dom q
theorem o0c {c:Prop} {x:Res} {r:SV} {U:a0g} {b:Nat} {t:List Nat}:(x.guard c).is r U b t↔c/\x.is r U b t:=by
 cases x with
 |no=>exact ⟨fun h=>h.elim,fun h=>h.2⟩
 |ok=>exact ⟨fun h=>⟨h.1,h.2⟩,fun h=>⟨h.1,h.2⟩⟩
 | «when» =>exact ⟨fun h=>⟨h.1.1,h.1.2,h.2⟩,fun h=>⟨⟨h.1,h.2.1⟩,h.2.2⟩⟩
theorem h0O {H:a0g} {h q:Nat} {F:Bool->Blk->Res} {r:SV} {U:a0g} {b:Nat} {t:List Nat} (hh:(b0w H h q F).is r U b t):∃ro bl,Mem H h q ro bl/\(F ro bl).is r U b t:=by
 unfold b0w at hh;split at hh
 .rename_i ro bl e;split at hh
  .exact ⟨ro,bl,.inl ⟨e,rfl⟩,hh⟩
  .exact hh.elim
 .rename_i ro dom f e;obtain ⟨k1,k2⟩:=o0c.1 hh;exact ⟨ro,f q,.inr ⟨dom,f,e,rfl,k1⟩,k2⟩
 .exact hh.elim
theorem t0C {H:a0g} {h q:Nat} {F:Bool->Blk->Res} {ro:Bool} {bl:Blk} {r:SV} {U:a0g} {b:Nat} {t:List Nat} (hm:Mem H h q ro bl) (hh:(F ro bl).is r U b t):(b0w H h q F).is r U b t:=by
 unfold b0w;rcases hm with ⟨e,rfl⟩|⟨dom,f,e,rfl,hd⟩
 .rw [e];exact hh
 .rw [e];exact o0c.2 ⟨hd,hh⟩
theorem w0u {H H':a0g} {h q:Nat} {ro ro':Bool} {bl bl':Blk} (e:a0x H' h=a0x H h) (h1:Mem H h q ro bl) (h2:Mem H' h q ro' bl'):ro'=ro/\bl'=bl:=by
 rcases h1 with ⟨e1,_⟩|⟨dom,f,e1,rfl,_⟩<;>rcases h2 with ⟨e2,_⟩|⟨dom2,f2,e2,rfl,_⟩<;>rw [e,e1] at e2<;>simp at e2
 .exact ⟨e2.1.symm,e2.2.symm⟩
 .exact ⟨e2.1.symm,by rw [e2.2.2]⟩
theorem w0v {H S:a0g} {h q:Nat} {ro:Bool} {bl b1:Blk} (hm:Mem H h q ro bl) (e:a0x S h=a0x (a0L H h q b1++H) h):Mem S h q ro b1:=by
 rcases hm with ⟨e1,e2⟩|⟨dom,f,e1,rfl,hd⟩
 .rw [d0D e1] at e;simp only [i0k,y0V] at e;rw [a0Q,if_pos rfl] at e;subst e2;exact .inl ⟨e,rfl⟩
 .rw [d0D e1] at e;simp only [i0k,y0V] at e;rw [a0Q,if_pos rfl] at e;exact .inr ⟨dom,_,e,by simp,hd⟩
theorem f0M {c:Bool} {X:Res} {r:SV} {U:a0g} {b:Nat} {t:List Nat} (h:(bif c then X else Res.no).is r U b t):c=true/\X.is r U b t:=by
 cases c with
 |false=>exact h.elim
 |true=>exact ⟨rfl,h⟩
theorem q0Z {c:Bool} {X:Res} {r:SV} {U:a0g} {b:Nat} {t:List Nat} (hc:c=true) (h:X.is r U b t):(bif c then X else Res.no).is r U b t:=by subst hc;exact h
theorem p0t {vs0 vs1 S:VS} {ti:TI} {m key r r':SV} {U U':a0g} {b b':Nat} {t t':List Nat} (h0:(c0A vs0 ti m key false).is r U b t) (h1:(b0I vs1 ti m key).is r' U' b' t') (he:∀h∈t,h∈t'->a0x vs1.heap h=a0x vs0.heap h) (hS:∀h∈t,h∈t'->a0x S.heap h=a0x (U'++vs1.heap) h):(c0A S ti m key false).is r U b t:=by
 cases m<;>try (simp [b0I,Res.is] at h1;done)
 rename_i h q;simp only [c0A,b0I] at h0 h1⊢;obtain ⟨ro0,bl0,m0,k0⟩:=h0O h0;obtain ⟨ro1,bl1,m1,k1⟩:=h0O h1;clear h0 h1;split at k0
 .rename_i ka ea n ks vl bs ck;split at k0
  .rename_i i hi;obtain ⟨hc,k0⟩:=f0M k0;simp only [Res.is] at k0;obtain ⟨rfl,rfl,rfl,rfl⟩:=k0;split at k1
   .rename_i ka1 ea1 n1 ks1 vl1 bs1 ck1;split at k1
    .rename_i i1 kc hi1 hkc;split at k1
     .rename_i vc hvc;split at k1
      .rename_i ks' vl' hks hvl;obtain ⟨hc1,k1⟩:=f0M k1;simp only [Res.is] at k1;obtain ⟨_,rfl,_,rfl⟩:=k1;have e1:=he h (by simp) (by simp);obtain ⟨_,e2⟩:=w0u e1 m0 m1;simp only [Blk.obj.injEq,ObjS.map.injEq] at e2;obtain ⟨rfl,rfl,rfl,rfl,rfl,rfl,rfl⟩:=e2;rw [hi] at hi1;simp only [Option.some.injEq] at hi1;subst hi1;simp only [c0q] at hc1 hc;obtain ⟨q1,q2⟩:=t0B hc1.1.2 hvc hvl;refine t0C (w0v m1 (hS h (by simp) (by simp))) ?_;dsimp only;rw [p0s hi hkc hks];dsimp only;refine q0Z ?_ ?_
       .rw [c0q,r0b,r0b,c0q];exact ⟨hc.1,.inl (.inl ⟨by rw [q2];rfl,hc1.2⟩)⟩
       .refine ⟨?_,rfl,rfl,rfl⟩;unfold l0d;rw [cond_false,cond_false,n0Z q2,n0Z hc1.1.2,q1]
      .exact k1.elim
     .exact k1.elim
    .exact k1.elim
   .exact k1.elim
  .exact k0.elim
 .exact k0.elim
end Go.Sy
namespace Go.Sy
open Go.RowKit
theorem a0P:∀(U H:a0g) (h:Nat),a0x (U++H) h=if h∈a0q U then a0x U h else a0x H h
 | [],H,h=>by simp [a0q]
 |(k,v)::U,H,h=>by
  rw [i0k,a0Q,a0Q,a0P U H h];simp only [a0q,d0z];by_cases e:k=h
  .subst e;simp
  .simp [e,Ne.symm e]
def c0G (H:a0g) (U:Nat->a0g) (L:Nat->Bool):Nat->a0g
 |0=>H
 |n+1=>if L n then U n++c0G H U L n else c0G H U L n
theorem k0o {H H':a0g} (h:∀k,a0x H' k=a0x H k) {k q:Nat} {ro:Bool} {b:Blk}:Ent H' k q ro b↔Ent H k q ro b:=by unfold Ent;rw [h k]
theorem l0Q {g:G} {H H':a0g} {w:World} (h:∀k,a0x H' k=a0x H k) (hH:Holds g H w):Holds g H' w:=
 ⟨fun k q ro b he=>hH.blk k q ro b ((k0o h).1 he),fun k q k' q' b ro' b' β β' hne he he'=>hH.sep k q k' q' b ro' b' β β' hne ((k0o h).1 he) ((k0o h).1 he')⟩
theorem o0d {g:G} {H H':a0g} {W:Nat->Prop} {w:World} (h:∀k,a0x H' k=a0x H k) (hH:s0T g H W w):s0T g H' W w:=fun k q b β he=>hH k q b β ((k0o h).1 he)
def k0p (L:Nat->Bool) (i:Nat):Nat->Bool:=fun k=>if k=i then true else L k
theorem w0w {L:Nat->Bool} {i k:Nat} (h:k≠i):k0p L i k=L k:=by simp [k0p,h]
theorem w0x {L:Nat->Bool} {i:Nat}:k0p L i i=true:=by simp [k0p]
def k0q {α:Type} (e:List (Nat×α)):List Nat->List (Nat×α)
 | []=> []
 |t::ts=>match a0B e t with
  |some v=>(t,v)::k0q e ts
  |none=>k0q e ts
theorem f0N {α:Type} (e:List (Nat×α)):∀(ts:List Nat) (t:Nat) (v:α),a0B (k0q e ts) t=some v->t∈ts/\a0B e t=some v
 | [],t,v,h=>by simp [k0q,a0B] at h
 |x::ts,t,v,h=>by
  simp only [k0q] at h;split at h
  .rename_i u hu;rw [b0x] at h;split at h
   .rename_i e';subst e';simp only [Option.some.injEq] at h;subst h;exact ⟨by simp,hu⟩
   .obtain ⟨h1,h2⟩:=f0N e ts t v h;exact ⟨by simp [h1],h2⟩
  .obtain ⟨h1,h2⟩:=f0N e ts t v h;exact ⟨by simp [h1],h2⟩
theorem h0P {α:Type} (e:List (Nat×α)):∀(ts:List Nat) (t:Nat),t∈ts->a0B (k0q e ts) t=a0B e t
 | [],t,h=>by cases h
 |x::ts,t,h=>by
  simp only [k0q];split
  .rename_i u hu;rw [b0x];split
   .rename_i e';subst e';exact hu.symm
   .rename_i hne;rcases d0z.1 h with rfl|h
    .exact absurd rfl hne
    .exact h0P e ts t h
  .rename_i hu;rcases d0z.1 h with rfl|h
   .rw [hu];cases hx:a0B (k0q e ts) t with
    |none=>rfl
    |some v=>have:=(f0N e ts t v hx).2;rw [hu] at this;cases this
   .exact h0P e ts t h
section
variable {P:Program} {T:Tab} {C:Ctx} {ops:Array Oper} {vs:VS} {K:VS->Prop} {st mid:Nat->VS} {r:Nat->SV} {U:Nat->a0g} {b:Nat->Nat} {t:Nat->List Nat}
theorem b0B {ops:Array Oper} {i:Nat} {o:Oper} (h:ops[i]? =some o):i<ops.size:=(i0q.1 h).1
theorem b0C {ops:Array Oper} {i:Nat} (h:i<ops.size):∃o,ops[i]? =some o:=⟨ops[i],d0k h⟩
theorem conv {i:Nat} {o:Oper} (h:ops[i]? =some o):ops.toList[i]? =some o:=by simpa using h
abbrev Tr (P:Program) (T:Tab) (ops:Array Oper) (vs:VS) (K:VS->Prop) (st mid:Nat->VS) (r:Nat->SV) (U:Nat->a0g) (b:Nat->Nat) (t:Nat->List Nat):Prop:=Steps P T ops.toList ops.toList [] vs K st mid r U b t
theorem Tr.env (tr:Tr P T ops vs K st mid r U b t) {i:Nat} {o:Oper} (ho:ops[i]? =some o) (x:Nat):a0B (st (i+1)).env x=if o.dst=some x then some (r i) else a0B (st i).env x:=by
 rw [tr.next i o (conv ho)];obtain ⟨m1,_,_⟩:=tr.mids i o (conv ho);cases hd:o.dst with
 |none=>simp [p0r,m1]
 |some d=>simp only [p0r,b0x,Option.some.injEq,m1]
theorem Tr.env_none (tr:Tr P T ops vs K st mid r U b t) (x:Nat):∀i,i<=ops.size->(∀(k:Nat) (o:Oper),k<i->ops[k]? =some o->o.dst≠some x)->a0B (st i).env x=a0B vs.env x:=by
 intro i;induction i with
 |zero=>intro _ _;rw [tr.zero]
 |succ i ih=>
  intro hi hk;obtain ⟨o,ho⟩:=b0C (ops:=ops) (i:=i) (by omega);rw [tr.env ho,if_neg (hk i o (by omega) ho)];exact ih (by omega) (fun k o' h=>hk k o' (by omega))
theorem Tr.env_some (tr:Tr P T ops vs K st mid r U b t) (hD:Draw ops) {k:Nat} {ok:Oper} {x:Nat} (hk:ops[k]? =some ok) (hx:ok.dst=some x):∀i,k<i->i<=ops.size->a0B (st i).env x=some (r k):=by
 intro i;induction i with
 |zero=>intro h;omega
 |succ i ih=>
  intro h1 h2;obtain ⟨o,ho⟩:=b0C (ops:=ops) (i:=i) (by omega);rw [tr.env ho];by_cases e:k=i
  .subst e;rw [hk] at ho;cases ho;rw [if_pos hx]
  .rw [if_neg (hD.dst i k o ok x ho hk (Ne.symm e) hx)];exact ih (by omega) (by omega)
theorem Tr.next_mono (tr:Tr P T ops vs K st mid r U b t):∀i j,i<=j->j<=ops.size->(st i).next<=(st j).next:=by
 intro i j hij;induction j with
 |zero=>intro _;have:i=0:=by omega
        subst this;exact d0M _
 |succ j ih=>
  intro hj;rcases f0m i (j+1) with h|h
  .obtain ⟨o,ho⟩:=b0C (ops:=ops) (i:=j) (by omega);have:=ih (by omega) (by omega);rw [tr.next j o (conv ho)];simp only;omega
  .have:i=j+1:=by omega
   subst this;exact d0M _
theorem Tr.next_step (tr:Tr P T ops vs K st mid r U b t) {i:Nat} {o:Oper} (ho:ops[i]? =some o):(st (i+1)).next=(st i).next+b i:=by rw [tr.next i o (conv ho)]
theorem Tr.heap_at (tr:Tr P T ops vs K st mid r U b t) {L:Nat->Bool} {h i:Nat} (hi:i<=ops.size) (h1:∀k,k<i->h∈a0q (U k)->L k=true) (h2:∀k,i<=k->k<ops.size->L k=true->h∉a0q (U k)):a0x (c0G vs.heap U L ops.size) h=a0x (st i).heap h:=by
 have lo:∀m,m<=i->a0x (c0G vs.heap U L m) h=a0x (st m).heap h:=by
  intro m;induction m with
  |zero=>intro _;rw [tr.zero];rfl
  |succ m ih=>
   intro hm;obtain ⟨o,ho⟩:=b0C (ops:=ops) (i:=m) (by omega);have hst:(st (m+1)).heap=U m++(st m).heap:=by rw [tr.next m o (conv ho)]
   rw [hst,a0P];simp only [c0G];by_cases hk:h∈a0q (U m)
   .rw [if_pos hk,if_pos (h1 m (by omega) hk),a0P,if_pos hk]
   .rw [if_neg hk,<-ih (by omega)];split
    .rw [a0P,if_neg hk]
    .rfl
 have hi':∀m,i<=m->m<=ops.size->a0x (c0G vs.heap U L m) h=a0x (c0G vs.heap U L i) h:=by
  intro m;induction m with
  |zero=>intro h0 _;have:i=0:=by omega
         subst this;rfl
  |succ m ih=>
   intro h0 hm;rcases f0m i (m+1) with hlt|hge
   .simp only [c0G];split
    .rename_i hL;rw [a0P,if_neg (h2 m (by omega) (by omega) hL)];exact ih (by omega) (by omega)
    .exact ih (by omega) (by omega)
   .have:i=m+1:=by omega
    subst this;rfl
 rw [hi' ops.size hi (d0M _),lo i (d0M _)]
theorem r0a {H:a0g} {L:Nat->Bool} {i n:Nat} (hi:i<n) (hL:L i=false) (hap:∀k,i<k->k<n->L k=true->∀h∈a0q (U k),h∉a0q (U i)):∀h,a0x (c0G H U (k0p L i) n) h=a0x (U i++c0G H U L n) h:=by
 have lo:∀m,m<=i->c0G H U (k0p L i) m=c0G H U L m:=by
  intro m;induction m with
  |zero=>intro _;rfl
  |succ m ih=>
   intro hm;simp only [c0G];rw [w0w (show m≠i by omega),ih (by omega)]
 have key:∀m,i<m->m<=n->∀h,a0x (c0G H U (k0p L i) m) h=a0x (U i++c0G H U L m) h:=by
  intro m;induction m with
  |zero=>intro h;omega
  |succ m ih=>
   intro h1 h2 h;by_cases e:m=i
   .subst e;simp only [c0G];rw [w0x,hL,lo m (d0M _)];simp
   .have h3:=ih (by omega) (by omega) h;simp only [c0G];have e2:k0p L i m=L m:=by simp [k0p,e]
    rw [e2];split
    .rename_i hLm;have hd:=hap m (by omega) (by omega) hLm;rw [a0P,a0P (U i)];by_cases hk:h∈a0q (U m)
     .rw [if_pos hk,if_neg (hd h hk),a0P,if_pos hk]
     .rw [if_neg hk,h3,a0P];by_cases hk2:h∈a0q (U i)
      .rw [if_pos hk2,if_pos hk2]
      .rw [if_neg hk2,if_neg hk2,a0P,if_neg hk]
    .exact h3
 exact key n hi (d0M _)
structure InvD (C:Ctx) (ops:Array Oper) (vs:VS) (st:Nat->VS) (r:Nat->SV) (U:Nat->a0g) (b:Nat->Nat) (L:Nat->Bool) (g:G) (a:Act) (w:World):Prop where
 old:∀x sv,(∀(k:Nat) (o:Oper),ops[k]? =some o->o.dst=some x->L k=false)->a0B vs.env x=some sv->Rv g sv (a.tmps.getD x undef)
 new:∀(k:Nat) (o:Oper) x,ops[k]? =some o->o.dst=some x->L k=true->Rv g (r k) (a.tmps.getD x undef)
 size:a.tmps.size=C.N
 defers:a.defers=C.ds
 glob:g.glob
 upto:g.upto (st ops.size).next
 unborn:∀k,k<ops.size->L k=false->∀h q,(st k).next<=h->h<(st k).next+b k->g h q=none
 keep:∀h q,h<C.n0->g h q=C.g h q
 heap:Holds g (c0G vs.heap U L ops.size) w
 fr:Fr C.W C.w w
 own:s0T g (c0G vs.heap U L ops.size) C.W C.w
theorem k0r {L:Nat->Bool} {g:G} {a:Act} {w:World} (tr:Tr P T ops vs K st mid r U b t) (hD:Draw ops) (I:InvD C ops vs st r U b L g a w) (hc:l0L ops L) {i:Nat} {o:Oper} (hi:ops[i]? =some o) (hLi:L i=false)
  (hr:∀e∈o.after,Region.binds .any e=true->L e.on=true) {x:Nat} {sv:SV} (hx:x∈looks ops.toList o) (hsv:a0B (st i).env x=some sv):Rv g sv (a.tmps.getD x undef):=by
 by_cases hw:∃(k:Nat) (ok:Oper),ops[k]? =some ok/\ok.dst=some x
 .obtain ⟨k,ok,hk,hkx⟩:=hw;have hne:i≠k:=by
   intro e;subst e;rw [hi] at hk;cases hk;exact hD.self i o x hi hkx hx
  rcases hD.slot i k o ok x hi hk hne hkx hx with ⟨h1,h2⟩|⟨h1,h2⟩
  .have hLk:=g0s hc 7 o k h2 hr;rw [tr.env_some hD hk hkx i h1 (a1l (b0B hi))] at hsv;cases hsv;exact I.new k ok x hk hkx hLk
  .have hLk:L k=false:=by
    cases hl:L k with
    |false=>rfl
    |true=>have:=g0s hc 7 ok i h2 (hc k ok hk hl);rw [hLi] at this;cases this
   refine I.old x sv ?_ ?_
   .intro k' o' hk' hd';by_cases e:k'=k
    .subst e;exact hLk
    .exact absurd hd' (hD.dst k' k o' ok x hk' hk e hkx)
   .rw [<-hsv];refine (tr.env_none x i (a1l (b0B hi)) ?_).symm;intro k' o' hlt hk' hd';by_cases e:k'=k
    .omega
    .exact absurd hd' (hD.dst k' k o' ok x hk' hk e hkx)
 .refine I.old x sv (fun k o' hk hd=>absurd ⟨k,o',hk,hd⟩ hw) ?_;rw [<-hsv];exact (tr.env_none x i (a1l (b0B hi)) (fun k o' _ hk hd=>hw ⟨k,o',hk,hd⟩)).symm
theorem o0e {x y:Operand} (h:t0a x y=true):∃n,x= .tmp n/\y= .tmp n:=by
 unfold t0a at h;split at h
 .rename_i a b;have:=c0k h;subst this;exact ⟨a,rfl,rfl⟩
 .cases h
theorem h0Q {n:Nat} {l:List Oper} (h:g0X (.tmp n) l=true):∀o∈l,o.dst≠some n:=by
 unfold g0X at h;rw [z0e] at h;intro o ho e;have:=h o ho;rw [e] at this;simp at this
theorem c0R {k:Nat} {o:Oper} (h:h0k ops.toList k o=true):∃ok ty nx ny,ops[k]? =some ok/\ok.op= .lookup ty (.tmp nx) (.tmp ny) false/\o.op= .mapEntry ty (.tmp nx) (.tmp ny)/\d0h ops.toList=1/\∀(w:Nat) ow,k<=w->ops[w]? =some ow->ow.dst≠some nx/\ow.dst≠some ny:=by
 unfold h0k at h;split at h
 .rename_i ok ty x y hn ho;split at h
  .rename_i ty' x' y' hok;simp only [c0q] at h;obtain ⟨⟨⟨⟨⟨h1,h2⟩,h3⟩,h4⟩,h5⟩,h6⟩:=h;have e1:=c0k h1;obtain ⟨nx,rfl,rfl⟩:=o0e h2;obtain ⟨ny,rfl,rfl⟩:=o0e h3;subst e1;rw [a0S] at hn;refine ⟨ok,_,nx,ny,by simpa using hn,hok,ho,c0k h4,fun w ow hw how=> ?_⟩;have hm:ow∈ops.toList.drop k:=by
    have hwl:=(i0q.1 how).1;have e:ops.toList[w]? =some ow:=by simpa using how
    refine List.mem_iff_getElem?.2 ⟨w-k,?_⟩;rw [a1k,show k+(w-k)=w by omega];exact e
   exact ⟨h0Q h5 ow hm,h0Q h6 ow hm⟩
  .cases h
 .cases h
theorem h0R:∀{l:List Oper} {o:Oper} {ty:TypeId} {x y:Operand},o∈l->o.op= .mapEntry ty x y->1<=d0h l
 | [],o,ty,x,y,hm,_=>by cases hm
 |a::l,o,ty,x,y,hm,ho=>by
  simp only [d0h];rcases d0z.1 hm with rfl|hm
  .rw [ho];dsimp only;omega
  .have:=h0R hm ho;split<;>omega
theorem f0g:∀{l:List Oper} {i j:Nat} {oi oj:Oper} {ti tj:TypeId} {xi yi xj yj:Operand},d0h l=1->l[i]? =some oi->l[j]? =some oj->oi.op= .mapEntry ti xi yi->oj.op= .mapEntry tj xj yj->i=j
 | [],i,j,oi,oj,_,_,_,_,_,_,hc,hi,_,_,_=>by simp at hi
 |a::l,i,j,oi,oj,ti,tj,xi,yi,xj,yj,hc,hi,hj,ei,ej=>by
  simp only [d0h] at hc;have pos:∀{k:Nat} {o:Oper} {t:TypeId} {x y:Operand},l[k]? =some o->o.op= .mapEntry t x y->1<=d0h l:=fun h e=>h0R (s0h h) e
  cases i with
  |zero=>
   simp at hi;subst hi;rw [ei] at hc;dsimp only at hc;cases j with
   |zero=>rfl
   |succ j=>simp at hj;have:=pos hj ej;omega
  |succ i=>
   simp at hi;cases j with
   |zero=>
    simp at hj;subst hj;rw [ej] at hc;dsimp only at hc;have:=pos hi ei;omega
   |succ j=>
    simp at hj;have p1:=pos hi ei;have:d0h l=1:=by split at hc<;>omega
    rw [f0g this hi hj ei ej]
theorem z0w {vs:VS} {ti:TI} {m key r:SV} {co:Bool} {U:a0g} {b:Nat} {t:List Nat} (h:(c0A vs ti m key co).is r U b t):U= []:=by
 unfold c0A at h;split at h
 .split at h
  .cases hb: !ti.bld with
   |true=>rw [hb] at h;exact h.elim
   |false=>
    rw [hb,cond_false] at h;split at h
    .exact h.2.1
    .exact h.elim
  .exact h.elim
 .obtain ⟨ro,bl,_,h⟩:=h0O h;split at h
  .split at h
   .exact (f0M h).2.2.1
   .exact h.elim
  .exact h.elim
 .exact h.elim
theorem o0f {s:VS} {ty:TypeId} {x y:Operand} {co:Bool} {r:SV} {U:a0g} {b:Nat} {t:List Nat} (h:(eff T s s.next (.lookup ty x y co)).is r U b t):∃m k ti,gv s x=some m/\gv s y=some k/\a0B T ty=some ti/\Nat.beq ti.kind 8=true/\(c0A s ti m k co).is r U b t:=by
 simp only [eff] at h;split at h
 .rename_i m k ti h1 h2 h3;obtain ⟨h4,h5⟩:=f0M h;exact ⟨m,k,ti,h1,h2,h3,h4,h5⟩
 .exact h.elim
theorem g0Y {P:Program} {l:List Oper} {o:Oper} {s:VS} {r:SV} {U:a0g} {b:Nat} {t:List Nat} {ty:TypeId} {x y:Operand} {co:Bool} (h:Did P T l o s r U b t) (ho:o.op= .lookup ty x y co):U= []:=by
 rcases h with ⟨_,_,hU,_⟩|⟨_,he|⟨f,al,l0,args0,H,r0,H',n',hco,_⟩⟩
 .exact hU
 .rw [ho] at he;obtain ⟨_,_,_,_,_,_,_,h⟩:=o0f he;exact z0w h
 .obtain ⟨c,hop⟩:=hco.op;rw [ho] at hop;cases hop
theorem w0y {L:Nat->Bool} (tr:Tr P T ops vs K st mid r U b t) (hc:l0L ops L) {i:Nat} {o:Oper} (hi:ops[i]? =some o) (hLi:L i=false) (hr:∀e∈o.after,Region.binds .any e=true->L e.on=true):
  (∀k,k<i->∀h∈a0q (U k),h∈t i->L k=true)/\(∀k,i<k->k<ops.size->L k=true->∃ok,ops[k]? =some ok/\(∀h∈a0q (U k),h∉a0q (U i))/\((∀h∈a0q (U k),h∉t i)\/h0k ops.toList i ok=true)):=by
 refine ⟨?_,?_⟩
 .intro k hk h hh ht;have hlt:k<ops.size:=by have:=b0B hi;omega
  rcases tr.recs1 i o k (conv hi) hk with h1|⟨h1,_,_⟩|h1
  .simp only [s0f,i0s] at h1;exact g0s hc 7 o k h1 hr
  .exact absurd ht (e0k _ _ h1 h hh)
  .simp only [s0f,i0s] at h1;obtain ⟨ok,ty,nx,ny,hok,e1,_⟩:=c0R h1;have:=g0Y (tr.did k ok (conv hok)) e1;rw [this] at hh;cases hh
 .intro k hk hks hLk;obtain ⟨ok,hok⟩:=b0C hks;refine ⟨ok,hok,?_⟩;rcases tr.recs1 k ok i (conv hok) hk with h1|⟨_,h2,h3⟩|h1
  .simp only [s0f,i0s] at h1;have:=g0s hc 7 ok i h1 (hc k ok hok hLk);rw [hLi] at this;cases this
  .exact ⟨fun h hh hm=>e0k _ _ h2 h hm hh,.inl (fun h hh=>e0k _ _ h3 h hh)⟩
  .simp only [s0f,i0s] at h1;obtain ⟨oi,ty,nx,ny,hoi,e1,_⟩:=c0R h1;have:=g0Y (tr.did i oi (conv hoi)) e1;refine ⟨fun h hh hm=> ?_,.inr h1⟩;rw [this] at hm;cases hm
theorem Tr.env_free (tr:Tr P T ops vs K st mid r U b t) {x i:Nat}:∀j,i<=j->j<=ops.size->(∀(w:Nat) ow,i<=w->w<j->ops[w]? =some ow->ow.dst≠some x)->a0B (st j).env x=a0B (st i).env x:=by
 intro j;induction j with
 |zero=>intro h _ _;have:i=0:=by omega
        subst this;rfl
 |succ j ih=>
  intro h1 h2 h3;rcases f0m i (j+1) with h|h
  .obtain ⟨o,ho⟩:=b0C (ops:=ops) (i:=j) (by omega);rw [tr.env ho,if_neg (h3 j o (by omega) (by omega) ho)];exact ih (by omega) (by omega) (fun w ow a b c=>h3 w ow a (by omega) c)
  .have:i=j+1:=by omega
   subst this;rfl
theorem Tr.heap_free (tr:Tr P T ops vs K st mid r U b t) {h i:Nat}:∀j,i<=j->j<=ops.size->(∀w,i<=w->w<j->h∉a0q (U w))->a0x (st j).heap h=a0x (st i).heap h:=by
 intro j;induction j with
 |zero=>intro h _ _;have:i=0:=by omega
        subst this;rfl
 |succ j ih=>
  intro h1 h2 h3;rcases f0m i (j+1) with hh|hh
  .obtain ⟨o,ho⟩:=b0C (ops:=ops) (i:=j) (by omega);rw [tr.next j o (conv ho)];dsimp only;rw [a0P,if_neg (h3 j (by omega) (by omega))];exact ih (by omega) (by omega) (fun w a b=>h3 w a (by omega))
  .have:i=j+1:=by omega
   subst this;rfl
theorem t0D {x:Operand} {o:Oper} {n:Nat} (hx:x∈o.op.operands.toList) (e:x= .tmp n):n∈looks ops.toList o:=by
 subst e;have:=j0z _ _ hx;unfold looks;split
 .simp [this]
 .exact this
theorem t0E {L:Nat->Bool} {g:G} {a:Act} {w:World} {Q:Exit->Act->World->Prop} {N:Act->World->Prop} (hT:a0U P T) (tr:Tr P T ops vs K st mid r U b t) (hD:Draw ops) (hdst:e0c C.N ops.toList=true) (hlo:C.n0<=vs.next) (I:InvD C ops vs st r U b L g a w) (hc:l0L ops L) {i:Nat} {o:Oper} (hi:ops[i]? =some o) (hLi:L i=false)
  (hr:∀e∈o.after,Region.binds .any e=true->L e.on=true) (hN:∀g' a' w',InvD C ops vs st r U b (k0p L i) g' a' w'->N a' w'):wpOp P ops Q i N a w:=by
 have hlt:=b0B hi;have hdi:∀d,o.dst=some d->d<a.tmps.size:=by
  intro d e;rw [I.size];have:∀(l:List Oper),e0c C.N l=true->o∈l->d<C.N:=by
   intro l;induction l with
   |nil=>intro _ h;cases h
   |cons y l ih=>
    intro h hm;simp only [e0c,c0q] at h;rcases d0z.1 hm with e'|hm
    .subst e';have:=h.1;rw [e] at this;exact k0S this
    .exact ih h.2 hm
  exact this _ hdst (s0h (conv hi))
 obtain ⟨p1,p2⟩:=w0y tr hc hi hLi hr;obtain ⟨m1,m2,m3⟩:=tr.mids i o (conv hi);have fin:∀v g' w',After g (c0G vs.heap U L ops.size) (st i).next w (r i) (U i) (b i) g' v w'->InvD C ops vs st r U b (k0p L i) g' (a.put o.dst v) w':=by
  intro v g' w' A;have hext:=r0a (H:=vs.heap) (U:=U) hlt hLi (fun k h1 h2 h3 h hh=>by obtain ⟨_,_,q,_⟩:=p2 k h1 h2 h3;exact q h hh);obtain ⟨f1,f2⟩:=n0V A I.fr I.own;have hnx:(st i).next+b i<=(st ops.size).next:=by rw [<-tr.next_step hi];exact tr.next_mono (i+1) ops.size hlt (d0M _)
  have hni:C.n0<=(st i).next:=by have:=tr.next_mono 0 i (by omega) (by omega);rw [tr.zero] at this;omega
  have getp:∀x,o.dst≠some x->(a.put o.dst v).tmps.getD x undef=a.tmps.getD x undef:=by
   intro x hx;cases hd:o.dst with
   |none=>rfl
   |some d=>simp only [Act.put];exact h0I (fun e=>hx (by rw [hd,e]))
  refine ⟨?_,?_,e0D.1.trans I.size,e0D.2.trans I.defers,?_,?_,?_,?_,l0Q hext A.heap,f1,o0d hext f2⟩
  .intro x sv hk hsv;have hx:o.dst≠some x:=fun e=>by have:=hk i o hi e;simp [k0p] at this
   rw [getp x hx];refine Rv.mono A.le _ _ (I.old x sv (fun k o' hk' hd'=> ?_) hsv);have:=hk k o' hk' hd';simp only [k0p] at this;split at this
   .cases this
   .exact this
  .intro k ok x hk hkx hLk;by_cases e:k=i
   .subst e;rw [hi] at hk;cases hk;rw [hkx];simp only [Act.put];rw [f0J (hdi x hkx)];exact A.rv
   .have hx:o.dst≠some x:=hD.dst i k o ok x hi hk (Ne.symm e) hkx;rw [getp x hx];refine Rv.mono A.le _ _ (I.new k ok x hk hkx ?_);simpa [k0p,e] using hLk
  .intro q;obtain ⟨es,cap,e⟩:=I.glob q;exact ⟨es,cap,A.le _ _ _ e⟩
  .intro h q hh;exact A.born h q (I.upto h q hh) (by omega)
  .intro k hk hLk h q h1 h2;have hki:k≠i:=by intro e;subst e;simp [k0p] at hLk
   have hLk':L k=false:=by simpa [k0p,hki] using hLk
   refine A.born h q (I.unborn k hk hLk' h q h1 h2) ?_;rintro ⟨h3,h4⟩;obtain ⟨ok,hok⟩:=b0C hk;rcases f0m k i with h5|h5
   .have h6:=tr.next_mono (k+1) i (by omega) (by omega);rw [tr.next_step hok] at h6;omega
   .have h6:=tr.next_mono (i+1) k (by omega) (by omega);rw [tr.next_step hi] at h6;omega
  .intro h q hh;rw [<-I.keep h q hh];cases e:g h q with
   |some β=>exact A.le _ _ _ e
   |none=>exact A.born h q e (by omega)
 let S:VS:=⟨k0q (st i).env (looks ops.toList o),c0G vs.heap U L ops.size,(st i).next⟩
 have hSe:b0r g S a:=by
  intro x sv hx;obtain ⟨h1,h2⟩:=f0N _ _ _ _ hx;exact k0r tr hD I hc hi hLi hr h1 h2
 have hgv:∀x∈o.op.operands.toList,gv S x=gv (mid i) x:=by
  intro x hx;cases x with
  |tmp n=>simp only [gv,S];rw [h0P _ _ _ (t0D hx rfl),m1]
  |const v=>rfl
  |func f=>rfl
  |global n=>rfl
 have hhp:(∀k,i<k->k<ops.size->L k=true->∀h∈a0q (U k),h∉t i)->∀h∈t i,a0x S.heap h=a0x (mid i).heap h:=by
  intro hnx h hh;rw [m2];refine tr.heap_at (a1l hlt) (fun k hk hm=>p1 k hk h hm hh) (fun k hk hks hLk hm=> ?_);rcases f0m i k with h1|h1
  .exact hnx k h1 hks hLk h hm hh
  .have:k=i:=by omega
   subst this;rw [hLi] at hLk;cases hLk
 have gslot:∀j want oj d,o.guard=some (j,want)->nth ops.toList j=some oj->oj.dst=some d->d∈looks ops.toList o:=by
  intro j want oj d h1 h2 h3;unfold looks c0t;simp [h1,h2,h3]
 unfold wpOp;rw [hi];simp only;rcases tr.did i o (conv hi) with ⟨⟨j,want,oj,d,hg,hj,hd,hv⟩,hr0,hU0,hb0,ht0⟩|⟨hgd,hex⟩
 .
  have hw:Region.wanted o (yielded ops a.tmps)=false:=by
   have hdl:=gslot j want oj d hg hj hd;rcases hv with ⟨c,hc1,hc2⟩|⟨x,hx⟩
   .have:=k0r tr hD I hc hi hLi hr hdl (by rw [<-m1];exact hc1);have hy:=d0b hj hd (rbv this);simp only [Region.wanted,hg,hy];simpa using hc2
   .have:=k0r tr hD I hc hi hLi hr hdl (by rw [<-m1];exact hx);have hy:=g0O hj hd (by simpa only [Rv] using this);simp [Region.wanted,hg,hy]
  rw [if_neg (by simp [hw])];refine hN g _ _ (fin undef g w ?_);rw [hr0,hU0,hb0];exact d0t I.heap (by simp only [Rv])
 .have hw:Region.wanted o (yielded ops a.tmps)=true:=by
   rcases hgd with hg|⟨j,want,oj,d,hg,hj,hd,hv⟩
   .simp [Region.wanted,hg]
   .have:=k0r tr hD I hc hi hLi hr (gslot j want oj d hg hj hd) (by rw [<-m1];exact hv);have hy:=d0b hj hd (rbv this);simp [Region.wanted,hg,hy]
  rw [if_pos hw];left;have hun:∀h q,(st i).next<=h->h<(st i).next+b i->g h q=none:=fun h q h1 h2=>I.unborn i hlt hLi h q h1 h2
  rcases hex with he|⟨f,al,l0,args0,H,r0,H',n',hco,hfc,hfit,er,eU,eb,et⟩
  .have he':(eff T S S.next o.op).is (r i) (U i) (b i) (t i):=by
    by_cases hnx:∀k,i<k->k<ops.size->L k=true->∀h∈a0q (U k),h∉t i
    .rw [m3] at he;exact q0X hgv (hhp hnx) he
    .obtain ⟨k0,hk0,hks,hLk,hx⟩:∃k,i<k/\k<ops.size/\L k=true/\¬∀h∈a0q (U k),h∉t i:=by
      refine Classical.byContradiction fun q=>hnx fun k a b c=>Classical.byContradiction fun d=>q ⟨k,a,b,c,d⟩
     obtain ⟨ok0,hok0,_,q|hex⟩:=p2 k0 hk0 hks hLk
     .exact absurd q hx
     obtain ⟨oi,ty,nx,ny,hoi,e1,e2,hone,hfree⟩:=c0R hex;rw [hi] at hoi;cases hoi;have hU0:U i= []:=g0Y (tr.did i o (conv hi)) e1;rw [e1] at he⊢;obtain ⟨m,key,ti,g1,g2,g3,g4,hlk⟩:=o0f he;obtain ⟨n1,n2,n3⟩:=tr.mids k0 ok0 (conv hok0);have genv:∀n,(n=nx\/n=ny)->gv (mid k0) (.tmp n)=gv (mid i) (.tmp n):=by
      intro n hn;simp only [gv];rw [n1,m1];refine tr.env_free k0 (a1l hk0) (a1l hks) (fun w ow a _ c=> ?_);obtain ⟨f1,f2⟩:=hfree w ow a c;rcases hn with rfl|rfl
      .exact f1
      .exact f2
     have gS:∀n,(n=nx\/n=ny)->gv S (.tmp n)=gv (mid i) (.tmp n):=by
      intro n hn;refine hgv _ ?_;rw [e1];rcases hn with rfl|rfl<;>simp [Op.operands]
     have hent:(∃r' b',(b0I (mid k0) ti m key).is r' (U k0) b' (t k0)):=by
      rcases tr.did k0 ok0 (conv hok0) with ⟨_,_,hU,_⟩|⟨_,hk|⟨f,al,l0,args0,H,r0,H',n',hco,_⟩⟩
      .exact absurd (by rw [hU];intro h hh;cases hh) hx
      .rw [e2] at hk;simp only [eff] at hk;rw [genv nx (.inl rfl),genv ny (.inr rfl),g1,g2,g3] at hk;dsimp only at hk;exact ⟨_,_,(f0M hk).2⟩
      .obtain ⟨c,hop⟩:=hco.op;rw [e2] at hop;cases hop
     obtain ⟨r',b',hent⟩:=hent;have away:∀h∈t i,h∈t k0->∀w,i<=w->w<k0->h∉a0q (U w):=by
      intro h hh ht w hw1 hw2 hm;by_cases ew:w=i
      .subst ew;rw [hU0] at hm;cases hm
      have hws:w<ops.size:=by omega
      obtain ⟨ow,how⟩:=b0C hws;have hlw:L w=true:=by
       rcases tr.recs1 k0 ok0 w (conv hok0) hw2 with q|⟨q,_,_⟩|q
       .simp only [s0f,i0s] at q;exact g0s hc 7 ok0 w q (hc k0 ok0 hok0 hLk)
       .exact absurd ht (e0k _ _ q h hm)
       .simp only [s0f,i0s] at q;obtain ⟨o2,ty2,nx2,ny2,ho2,f1,_⟩:=c0R q;have:=g0Y (tr.did w o2 (conv ho2)) f1;rw [this] at hm;cases hm
      obtain ⟨o2,ho2,_,q|q⟩:=p2 w (by omega) hws hlw
      .exact q h hm hh
      .obtain ⟨_,ty2,nx2,ny2,_,_,f2,_⟩:=c0R q;have:=f0g hone (conv ho2) (conv hok0) f2 e2;omega
     have hfin:=p0t (S:=S) hlk hent (fun h hh ht=>by
      rw [n2,m2];exact tr.heap_free k0 (a1l hk0) (a1l hks) (away h hh ht)) (fun h hh ht=>by
      rw [n2];have hn1:U k0++(st k0).heap=(st (k0+1)).heap:=by rw [tr.next k0 ok0 (conv hok0)]
      rw [hn1];refine tr.heap_at hks (fun k hk hm=> ?_) (fun k hk hks2 hLk2 hm=> ?_)
      .rcases v0n k i with q|q|q
       .exact p1 k q h hm hh
       .subst q;rw [hU0] at hm;cases hm
       .by_cases ek:k=k0
        .subst ek;exact hLk
        .exact absurd hm (away h hh ht k (by omega) (by omega))
      .obtain ⟨o2,ho2,_,q|q⟩:=p2 k (by omega) hks2 hLk2
       .exact q h hm hh
       .obtain ⟨_,ty2,nx2,ny2,_,_,f2,_⟩:=c0R q;have:=f0g hone (conv ho2) (conv hok0) f2 e2;omega)
     simp only [eff];rw [gS nx (.inl rfl),gS ny (.inr rfl),g1,g2,g3];dsimp only;exact q0Z g4 hfin
   obtain ⟨v,w',g',h3,A⟩:=v0g (vs:=S) hT I.glob hSe I.heap hun he';exact f0K h3 (hN g' _ _ (fin v g' w' A))
  .have hhp:=hhp (fun k a b c=>by
    obtain ⟨o2,ho2,_,q|q⟩:=p2 k a b c
    .exact q
    .obtain ⟨o3,ty2,nx2,ny2,ho3,f1,_⟩:=c0R q;rw [hi] at ho3;cases ho3;obtain ⟨c,hop⟩:=hco.op;rw [hop] at f1;cases f1)
   rw [m3] at hfit er eU;have hco':CallOf P o S f al:=by
    rcases hco with ⟨fo,args,ts,k',cap,l,hop,hf,hl,e⟩|⟨x,name,args,ts,t,v,l,hop,hx,hl,hm,e⟩
    .refine .inl ⟨fo,args,ts,k',cap,l,hop,?_,?_,e⟩
     .rw [hgv fo (by rw [hop];simp [Op.operands,Call.operands])];exact hf
     .rw [e0h args.toList (fun x hx=>hgv x (by rw [hop];simp only [Op.operands,Call.operands,u0Y,k0Q];exact .inr hx))];exact hl
    .refine .inr ⟨x,name,args,ts,t,v,l,hop,?_,?_,hm,e⟩
     .rw [hgv x (by rw [hop];simp [Op.operands,Call.operands])];exact hx
     .rw [e0h args.toList (fun x hx=>hgv x (by rw [hop];simp only [Op.operands,Call.operands,u0Y,k0Q];exact .inr hx))];exact hl
   have hfit':Fits l0 (st i).next al args0 H S.heap:=by
    refine ⟨hfit.head,hfit.inj,hfit.args,hfit.wfA,hfit.wfH,?_⟩;have:∀(X:a0g),e0b l0.length X->d0R (rho l0 (st i).next) X (mid i).heap->d0R (rho l0 (st i).next) X S.heap:=by
     intro X;induction X with
     |nil=>intro _ _;trivial
     |cons p X ih=>
      obtain ⟨k,ob⟩:=p;cases ob with
      |none=>intro _ h;exact h
      |some hb=>
       intro h1 h2;simp only [e0b] at h1;simp only [d0R] at h2⊢;refine ⟨?_,ih h1.2.2 h2.2⟩;have hk:k<l0.length:=by simpa using h1.1
       rw [hhp (rho l0 (st i).next k) (by rw [et,z0u hk];exact o0z hk)];exact h2.1
    exact this H hfit.wfH hfit.heap
   refine m0W I.glob I.heap (hco'.run I.glob hSe) hfc hfit' ?_ ?_
   .rintro sv H1 n1 ⟨_,_,rfl⟩ h q h1 h2;exact hun h q h1 (by rw [eb];exact h2)
   .rintro v w' sv H1 n1 g' ⟨rfl,rfl,rfl⟩ A;refine hN g' _ _ (fin v g' w' ?_);rw [er,eU,eb];exact A
end
end Go.Sy
namespace Go.Sy
open Go.RowKit
section
variable {P:Program} {T:Tab} {g:G} {C:Ctx} {vs:VS} {a:Act} {w:World}
theorem l0R:∀(dr:List Nat) (H:a0g) (h:Nat),a0x (v0d dr++H) h=if h∈dr then none else a0x H h
 | [],H,h=>by simp [v0d]
 |x::r,H,h=>by
  simp only [v0d,i0k,a0Q,l0R r H h,d0z];by_cases e:x=h
  .subst e;simp
  .rw [if_neg e];have:¬h=x:=fun e'=>e e'.symm
   simp [this]
theorem h0S:∀(cs:List BCol),f0x cs=true->∀c∈cs,c.len=0
 | [],_,c,h=>by cases h
 |x::r,h0,c,h=>by
  have key:x.len=0/\f0x r=true:=by
   cases x with
   |sc y=>cases y with
    |ints k l=>cases l<;>simp_all [f0x,BCol.len,Col.len]
    |strs l=>cases l<;>simp_all [f0x,BCol.len,Col.len]
    |bools l=>cases l<;>simp_all [f0x,BCol.len,Col.len]
   |svs l=>cases l<;>simp_all [f0x,BCol.len]
   |own hh ns=>cases ns<;>simp_all [f0x,BCol.len]
   |ptrs hh n=>cases n<;>simp_all [f0x,BCol.len]
   |arrs n k rs=>cases rs<;>simp_all [f0x]
  rcases d0z.1 h with rfl|h
  .exact key.1
  .exact h0S r key.2 c h
theorem k0s {n:Nat} {R:Nat->Nat->Option (Nat×Nat)} {g g1:G} (hle:G.le g g1) (hR:∀h q p,n<=h->R h q=some p->∀β,g p.1 p.2=some β->g1 h q=some β) {sv sv':SV} {v:Value} (h:SLe n R sv sv') (hv:Rv g sv v):Rv g1 sv' v:=h g g1 v hle hR hv
theorem z0x {n:Nat} {R:Nat->Nat->Option (Nat×Nat)} {g g1:G} {β:Base} {ro:Bool} {b b':Blk} {w:World} (hle:G.le g g1) (hR:∀h q p,n<=h->R h q=some p->∀β,g p.1 p.2=some β->g1 h q=some β) (hB:BlkAt g β ro b w) (h:BLe n R b b'):BlkAt g1 β ro b' w:=by
 rcases h with rfl|h
 .exact b0o hB hle (d0M _) (fun _=>rfl)
 cases b with
 |cells l=>
  cases b' with
  |cells l'=>
   obtain ⟨h1,h2⟩:=h;refine ⟨hB.lt,by rw [hB.es];exact h1.symm,trivial,hB.cap,?_,fun i j v hi=>hB.one i j v hi,hB.rw,trivial⟩;intro i j sv' hi hj;obtain ⟨sv,k1,k2⟩:=h2 j sv' hj;obtain ⟨v,v1,v2⟩:=hB.cell i j sv hi k1;exact ⟨v,v1,k0s hle hR k2 v2⟩
  |cols _ _=>exact h.elim
  |obj _=>exact h.elim
 |cols m cs=>
  cases b' with
  |cells _=>exact h.elim
  |cols m' cs'=>
   obtain ⟨hm,h1,h2,h3⟩:=h;refine ⟨hB.lt,by rw [hB.es];exact h1.symm,h2 hB.len,fun i hi=>hB.cap i (r0k hi hm),?_,fun i j v hi=>hB.one i j v (r0k hi hm),hB.rw,trivial⟩;intro i j sv' hi hj;simp only [Blk.at] at hj;split at hj
   .rename_i c' hc';simp only [Option.some.injEq] at hj;subst hj;obtain ⟨c,k1,k2⟩:=h3 i j c' hi hc';obtain ⟨v,v1,v2⟩:=hB.cell i j (c.at i) (r0k hi hm) (by simp [Blk.at,k1]);exact ⟨v,v1,k0s hle hR k2 v2⟩
   .cases hj
  |obj _=>exact h.elim
 |obj o=>
  cases b' with
  |cells _=>cases o<;>exact h.elim
  |cols _ _=>cases o<;>exact h.elim
  |obj o'=>
   cases o with
   |map ka ea m ks vl bs ck=>
    cases o' with
    |map ka' ea' m' ks' vl' bs' ck'=>
     obtain ⟨rfl,rfl,rfl,rfl,rfl,rfl,h1,h2⟩:=h;obtain ⟨o1,o2,es,o3,M⟩:=hB.obj;refine ⟨hB.lt,hB.es,trivial,fun i hi=>False.elim hi,fun i j sv hi=>False.elim hi,fun i j v hi=>False.elim hi,hB.rw,o1,o2,es,o3,M.size,M.kl,h1 M.vl,M.bl,M.nd,M.lt,?_⟩;intro i e he;obtain ⟨r1,r2,r3⟩:=M.row i e he;refine ⟨r1,r2,k0s hle hR (h2 i ?_) r3⟩;rw [<-M.size];exact (i0q.1 he).1
    |_=>exact h.elim
   |_=>cases o'<;>exact h.elim
theorem r0c {e:Env} {H:a0g} {n:Nat} {R:Nat->Nat->Option (Nat×Nat)} {E:Nat->Nat} {N:a0g} {dr:List Nat} {m:Nat} (RL:Rel C g ⟨e,H,n⟩ a w) (L:Relab H n R E N dr m):∃g1,G.le g g1/\Rel C g1 ⟨e,N++(v0d dr++H),n+m⟩ a w:=by
 have hup:∀h q,n<=h->g h q=none:=fun h q hh=>RL.upto h q hh
 obtain ⟨g1,hg1⟩:∃g1:G,g1=fun h q=>if h<n then g h q else if h<n+m then (match R h q with|some p=>g p.1 p.2|none=>some ⟨0,0,E h,0⟩) else none:=⟨_,rfl⟩
 have old:∀h q,h<n->g1 h q=g h q:=fun h q hh=>by rw [hg1];simp only;rw [if_pos hh]
 have hle:G.le g g1:=by
  intro h q β hb;have hh:h<n:=by
   refine Nat.lt_of_not_le fun hx=> ?_
   rw [hup h q hx] at hb;cases hb
  rw [old h q hh];exact hb
 have hpn:∀h q p,n<=h->R h q=some p->h<n+m:=fun h q p h1 h2=>L.lim h q p h1 h2
 have hR:∀h q p,n<=h->R h q=some p->∀β,g p.1 p.2=some β->g1 h q=some β:=by
  intro h q p h1 h2 β hb;rw [hg1];simp only;rw [if_neg (by omega),if_pos (hpn h q p h1 h2),h2];exact hb
 have ent:∀h q ro b',Ent (N++(v0d dr++H)) h q ro b'->(h∈a0q N/\Ent N h q ro b')\/(¬h∈a0q N/\¬h∈dr/\Ent H h q ro b'):=by
  rintro h q ro b' ⟨hb,e1,e2⟩;rw [a0P] at e1;by_cases hk:h∈a0q N
  .rw [if_pos hk] at e1;exact .inl ⟨hk,hb,e1,e2⟩
  .rw [if_neg hk,l0R] at e1;by_cases hd:h∈dr
   .rw [if_pos hd] at e1;cases e1
   .rw [if_neg hd] at e1;exact .inr ⟨hk,hd,hb,e1,e2⟩
 have lt:∀h q ro b,Ent H h q ro b->h<n:=by
  intro h q ro b he;obtain ⟨β,hb,_⟩:=RL.heap.blk h q ro b he;refine Nat.lt_of_not_le fun hx=> ?_
  rw [hup h q hx] at hb;cases hb
 have src:∀h q ro b',Ent (N++(v0d dr++H)) h q ro b'->∃β,g1 h q=some β/\BlkAt g1 β ro b' w/\(0<β.cap->∃h0 q0 b0,Ent H h0 q0 ro b0/\g h0 q0=some β/\b1x n R h q h0 q0/\(h∈a0q N\/(h0=h/\q0=q/\¬h∈dr/\¬h∈a0q N))):=by
  intro h q ro b' he;rcases ent h q ro b' he with ⟨hk,heN⟩|⟨hk,hd,heH⟩
  .have hro:=L.ro h q ro b' heN;subst hro;rcases L.src h q b' heN with ⟨h0,q0,b0,f1,f2,f3⟩|⟨f1,f2,cs,rfl,f3,f4⟩
   .obtain ⟨β,hb,hB⟩:=RL.heap.blk h0 q0 false b0 f2;refine ⟨β,?_,z0x hle hR hB f3,fun _=>⟨h0,q0,b0,f2,hb,f1,.inl hk⟩⟩;rcases f1 with ⟨x1,rfl,rfl⟩|⟨x1,x2⟩
    .rw [old _ _ x1];exact hb
    .exact hR h q _ x1 x2 β hb
   .refine ⟨⟨0,0,E h,0⟩,?_,?_,fun hc=>by simp at hc⟩
    .rw [hg1];simp only;rw [if_neg (by omega),if_pos f1.2,f2]
    .exact ⟨fun h=>by simp at h,f4,h0S cs f3,fun i hi=>by simp only [Blk.has] at hi;omega,fun i j sv hi=>by simp only [Blk.has] at hi;omega,fun i j v hi=>by simp only [Blk.has] at hi;omega,fun _ i j hi=>by simp at hi,trivial⟩
  .obtain ⟨β,hb,hB⟩:=RL.heap.blk h q ro b' heH;have hl:=lt h q ro b' heH;exact ⟨β,by rw [old h q hl];exact hb,b0o hB hle (d0M _) (fun _=>rfl),fun _=>⟨h,q,b',heH,hb,.inl ⟨hl,rfl,rfl⟩,.inr ⟨rfl,rfl,hd,hk⟩⟩⟩
 refine ⟨g1,hle,?_,RL.size,RL.defers,?_,?_,s0e RL.lo (Nat.le_add_right _ _),?_,⟨?_,?_⟩,RL.fr,?_⟩
 .exact fun t s ht=>Rv.mono hle _ _ (RL.env t s ht)
 .intro q;obtain ⟨es,cap,e1⟩:=RL.glob q;exact ⟨es,cap,hle _ _ _ e1⟩
 .intro h q hh;simp only at hh;rw [hg1];simp only;rw [if_neg (by omega),if_neg (by omega)]
 .intro h q hh;have:=RL.lo;simp only at this;rw [old h q (by omega)];exact RL.keep h q hh
 .intro h q ro b' he;obtain ⟨β,h1,h2,_⟩:=src h q ro b' he;exact ⟨β,h1,h2⟩
 .intro h q h' q' b ro' b' β β' hne he he' hg hg' hc hc';obtain ⟨β1,k1,_,k2⟩:=src h q false b he;obtain ⟨β2,k3,_,k4⟩:=src h' q' ro' b' he';rw [hg] at k1;cases k1;rw [hg'] at k3;cases k3;obtain ⟨h0,q0,b0,x1,x2,x3,x4⟩:=k2 hc;obtain ⟨h0',q0',b0',y1,y2,y3,y4⟩:=k4 hc';refine RL.heap.sep h0 q0 h0' q0' b0 ro' b0' β β' ?_ x1 y1 x2 y2 hc hc';rintro ⟨rfl,rfl⟩;rcases x4 with x4|⟨rfl,rfl,x5,x6⟩
  .rcases y4 with y4|⟨rfl,rfl,y5,y6⟩
   .exact hne (L.inj h q h' q' h0 q0 x4 y4 x3 y3)
   .rcases x3 with ⟨z1,rfl,rfl⟩|⟨z1,z2⟩
    .exact y6 x4
    .exact y5 (L.took h q _ z1 z2)
  .rcases y4 with y4|⟨rfl,rfl,y5,y6⟩
   .rcases y3 with ⟨z1,rfl,rfl⟩|⟨z1,z2⟩
    .exact x6 y4
    .exact x5 (L.took h' q' _ z1 z2)
   .exact hne ⟨rfl,rfl⟩
 .intro h q b β he hg hc;obtain ⟨β1,k1,_,k2⟩:=src h q false b he;rw [hg] at k1;cases k1;obtain ⟨h0,q0,b0,x1,x2,_⟩:=k2 hc;exact RL.own h0 q0 b0 β x1 x2 hc
end
end Go.Sy
namespace Go.Sy
open Go.RowKit
section
variable {P:Program} {T:Tab} {g:G} {C:Ctx} {vs:VS} {a:Act} {w:World}
theorem p0u {ops:Array Oper} {id:Nat} {Q:Exit->Act->World->Prop} {K:VS->Prop} (hm:P.follows .mixedOrders=true) (hT:a0U P T) (hD:Draw ops) (hdst:e0c C.N ops.toList=true) (R:Rel C g vs a w) (h:m0G P T ops.toList ops.toList [] vs K)
  (hq:∀vs' g' a' w',K vs'->Rel C g' vs' a' w'->Q .normal a' w'):(Code.region id ops true).wp P Q a w:=by
 obtain ⟨st,mid,r,U,b,t,tr⟩:=h0M ops.toList [] vs K h;have hKf:K (st ops.size):=by have:=tr.last;simpa using this
 have close:∀(L:Nat->Bool) (g:G) (a:Act) (w:World),(∀(k:Nat) (o:Oper),ops[k]? =some o->L k=true)->InvD C ops vs st r U b L g a w->Q .normal a w:=by
  intro L g a w hall I;have hext:∀h,a0x (st ops.size).heap h=a0x (c0G vs.heap U L ops.size) h:=fun h=>(Tr.heap_at tr (d0M _) (fun k hk _=>by obtain ⟨o,ho⟩:=b0C hk;exact hall k o ho) (fun k h1 h2=>by omega)).symm
  refine hq _ g a w hKf ⟨?_,I.size,I.defers,I.glob,I.upto,?_,I.keep,l0Q hext I.heap,I.fr,o0d hext I.own⟩
  .intro x sv hsv;by_cases hw:∃(k:Nat) (ok:Oper),ops[k]? =some ok/\ok.dst=some x
   .obtain ⟨k,ok,hk,hkx⟩:=hw;rw [Tr.env_some tr hD hk hkx ops.size (b0B hk) (d0M _)] at hsv;cases hsv;exact I.new k ok x hk hkx (hall k ok hk)
   .rw [Tr.env_none tr x ops.size (d0M _) (fun j oj _ hj e=>hw ⟨j,oj,hj,e⟩)] at hsv;exact I.old x sv (fun j oj hj e=>absurd ⟨j,oj,hj,e⟩ hw) hsv
  .have:=Tr.next_mono tr 0 ops.size (by omega) (d0M _);rw [tr.zero] at this;exact s0e R.lo this
 refine wp_region_any hm ?_;have main:∀(fuel:Nat) (listed:Array Bool) (a:Act) (w:World) (g:G),listed.size=ops.size->(listed.toList.countP (fun b=> !b))<=fuel->l0L ops (fun k=>listed.getD k false)->InvD C ops vs st r U b (fun k=>listed.getD k false) g a w->
   wpAny P .any ops Q fuel listed a w:=by
  intro fuel;have stuck:∀(listed:Array Bool),listed.size=ops.size->Region.ready .any ops listed= []->∀(k:Nat) (o:Oper),ops[k]? =some o->listed.getD k false=true:=by
   intro listed hs hr k;induction k using Nat.strongRecOn with
   |_ k ih=>
    intro o ho;cases hl:listed.getD k false with
    |true=>rfl
    |false=>
     exfalso;have hlt:k<listed.size:=by rw [hs];exact b0B ho
     have hl':listed.getD k true=false:=by
      simp only [Array.getD,hlt,dif_pos] at hl⊢;exact hl
     have:k∈Region.ready .any ops listed:=mem_ready.2 ⟨hl',o,ho,fun e he hb=>by
      have hb':=hD.back k o ho e he hb;obtain ⟨oe,hoe⟩:=b0C (ops:=ops) (i:=e.on) (by have:=b0B ho;omega);exact ih e.on hb' oe hoe⟩
     rw [hr] at this;cases this
  induction fuel with
  |zero=>
   intro listed a w g hs hcnt hc I;have hallt:∀(k:Nat) (o:Oper),ops[k]? =some o->listed.getD k false=true:=by
    intro k o ho;have hlt:k<listed.size:=by rw [hs];exact b0B ho
    have h0:listed.toList.countP (fun b=> !b)=0:=by omega
    rw [List.countP_eq_zero] at h0;have:=h0 listed[k] (by simp);simp only [Array.getD,hlt,dif_pos];simpa using this
   refine ⟨?_,close _ g a w hallt I⟩;cases hr:Region.ready .any ops listed with
   |nil=>rfl
   |cons x xs=>
    have hx:x∈Region.ready .any ops listed:=by rw [hr];simp
    obtain ⟨h1,o,ho,_⟩:=mem_ready.1 hx;have hlt:x<listed.size:=by rw [hs];exact b0B ho
    have:=hallt x o ho;simp only [Array.getD,hlt,dif_pos] at h1 this;rw [this] at h1;cases h1
  |succ fuel ih=>
   intro listed a w g hs hcnt hc I;refine ⟨fun hr=>close _ g a w (stuck listed hs hr) I,?_⟩;intro i hi;obtain ⟨h1,o,ho,h2⟩:=mem_ready.1 hi;have hlt:i<listed.size:=by rw [hs];exact b0B ho
   have hLi:(fun k=>listed.getD k false) i=false:=by
    simp only [Array.getD,hlt,dif_pos] at h1⊢;exact h1
   refine t0E hT tr hD hdst R.lo I hc ho hLi h2 ?_;intro g' a' w' I';have hL':(fun k=>(listed.setIfInBounds i true).getD k false)=k0p (fun k=>listed.getD k false) i:=by
    funext k;simp only [k0p];by_cases e:k=i
    .subst e;simp [Array.getD,hlt]
    .rw [if_neg e];simp only [s0g,b1O (Ne.symm e)]
   refine ih _ a' w' g' (by simp [hs]) ?_ ?_ (by rw [hL'];exact I')
   .have a0x:listed[i]=false:=by simp only [Array.getD,hlt,dif_pos] at h1;exact h1
    have e1:(listed.setIfInBounds i true).toList=listed.toList.set i true:=by simp
    rw [e1];have e2:(listed.toList.set i true).countP (fun b=> !b)+1=listed.toList.countP (fun b=> !b):=by
     have:∀(l:List Bool) (i:Nat) (hi:i<l.length),l[i]=false->(l.set i true).countP (fun b=> !b)+1=l.countP (fun b=> !b):=by
      intro l;induction l with
      |nil=>intro i hi;simp at hi
      |cons b l ihl=>
       intro i hi hb;cases i with
       |zero=>simp at hb;subst hb;simp
       |succ i=>
        have:=ihl i (by simpa using hi) (by simpa using hb);simp only [List.set_cons_succ,List.countP_cons];omega
     exact this listed.toList i (by simpa using hlt) (by simpa using a0x)
    omega
   .rw [hL'];intro k ok hk hLk e he hb;simp only [k0p] at hLk⊢;split
    .rfl
    .split at hLk
     .rename_i e1;subst e1;rw [ho] at hk;cases hk;exact h2 e he hb
     .exact hc k ok hk hLk e he hb
 refine main ops.size _ a _ g (by simp) ?_ ?_ ?_
 .have:∀n,(List.replicate n false).countP (fun b=> !b)<=n:=fun n=>by simpa using List.countP_le_length (p:=fun b=> !b) (l:=List.replicate n false)
  simpa using this ops.size
 .intro i o hi hL;simp [Array.getD] at hL
 .have hno:∀n,c0G vs.heap U (fun k=>(Array.replicate ops.size false).getD k false) n=vs.heap:=by
   intro n;induction n with
   |zero=>rfl
   |succ n ih=>simp only [c0G];rw [if_neg (by simp [Array.getD]),ih]
  refine ⟨fun x sv _ hx=>R.env x sv hx,fun k o x _ _ hL=>by simp [Array.getD] at hL,R.size,R.defers,R.glob,?_,?_,R.keep,?_,⟨R.fr.os,R.fr.tape,R.fr.output,R.fr.size,R.fr.block⟩,?_⟩
  .intro h q hh;have:=Tr.next_mono tr 0 ops.size (by omega) (d0M _);rw [tr.zero] at this;exact R.upto h q (by omega)
  .intro k hk _ h q h1 _;have:=Tr.next_mono tr 0 k (by omega) (by omega);rw [tr.zero] at this;exact R.upto h q (by omega)
  .rw [hno];exact p0i R.heap rfl
  .rw [hno];exact R.own
theorem h0T {c:Code} {Q:Exit->Act->World->Prop} (J:Nat->Act->World->Prop) (n0:Nat) (h₀:J n0 a w)
  (round:∀n a w,J n a w->c.wp P (Exit.then (fun a' w'=>∃m,m<n/\J m a' w') Q) a w):(Code.loop c).wp P Q a w:=by
 intro b k cs;have key:∀n a w,J n a w->∃e a' w',Q e a' w'/\Arrives P (lone (b.at a (.code c:: .inLoop c::k)) cs w) b k cs e a' w':=by
  intro n;induction n using Nat.strongRecOn with
  |_ n ih=>
   intro a w hI;obtain ⟨e,a₁,w₁,hq,harr⟩:=round n a w hI b (.inLoop c::k) cs;cases e with
   |normal=>
    obtain ⟨m,hlt,hI₁⟩:=hq;obtain ⟨e₂,a₂,w₂,hq₂,harr₂⟩:=ih m hlt a₁ w₁ hI₁;exact ⟨e₂,a₂,w₂,hq₂,.of_steps (Steps.trans harr (.one step_inLoop)) harr₂⟩
   |exit id=>exact ⟨_,a₁,w₁,hq,.pass (x:= .inLoop c) rfl (fun _ _=> .inl (by simp)) harr⟩
   |goto l=>exact ⟨_,a₁,w₁,hq,.pass (x:= .inLoop c) rfl (fun _ _=> .inl (by simp)) harr⟩
   |ret=>exact ⟨_,a₁,w₁,hq,.pass (x:= .inLoop c) rfl (fun _ _=> .inl (by simp)) harr⟩
   |panic ch=>exact ⟨_,a₁,w₁,hq,.pass (x:= .inLoop c) rfl (fun _ _=> .inl (by simp)) harr⟩
   |outgrown=>exact ⟨_,a₁,w₁,hq,.pass (x:= .inLoop c) rfl (fun _ _=> .inl (by simp)) harr⟩
 obtain ⟨e,a',w',hq,harr⟩:=key _ a w h₀;exact ⟨e,a',w',hq,.of_steps (.one step_loop) harr⟩
def z0y (ρ:Nat->Nat) (g g0:G):Prop:=∀h q β,g (ρ h) q=some β->g0 h q=some β
mutual
theorem Rv.back {ρ:Nat->Nat} {g g0:G} (hs:z0y ρ g g0):∀(sv:SV) (v:Value),Rv g (SV.ren ρ sv) v->Rv g0 sv v
 | .bool _,_,r=>by simp only [SV.ren,Rv] at r⊢;exact r
 | .int _ _,_,r=>by simp only [SV.ren,Rv] at r⊢;exact r
 | .str _,_,r=>by simp only [SV.ren,Rv] at r⊢;exact r
 | .ptr h q i j,v,r=>by simp only [SV.ren,Rv] at r⊢;obtain ⟨β,e,k⟩:=r;exact ⟨β,hs h q β e,k⟩
 | .nptr,_,r=>by simp only [SV.ren,Rv] at r⊢;exact r
 | .sl h q i m,v,r=>by
   simp only [SV.ren,Rv] at r⊢;obtain ⟨ad,c,e,hn,k⟩:=r;refine ⟨ad,c,e,hn,?_⟩;rcases k with k|⟨β,e1,k⟩
   .exact .inl k
   .exact .inr ⟨β,hs h q β e1,k⟩
 | .nsl,_,r=>by simp only [SV.ren,Rv] at r⊢;exact r
 | .zsl,_,r=>by simp only [SV.ren,Rv] at r⊢;exact r
 | .map h q,v,r=>by simp only [SV.ren,Rv] at r⊢;obtain ⟨β,e,k⟩:=r;exact ⟨β,hs h q β e,k⟩
 | .nmap,_,r=>by simp only [SV.ren,Rv] at r⊢;exact r
 | .fn f l,v,r=>by simp only [SV.ren,Rv] at r⊢;obtain ⟨vs,e,k⟩:=r;exact ⟨vs,e,Rvs.back hs l _ k⟩
 | .iface t s,v,r=>by simp only [SV.ren,Rv] at r⊢;obtain ⟨u,e,k⟩:=r;exact ⟨u,e,Rv.back hs s _ k⟩
 | .nif,_,r=>by simp only [SV.ren,Rv] at r⊢;exact r
 | .agg l,v,r=>by simp only [SV.ren,Rv] at r⊢;obtain ⟨vs,e,k⟩:=r;exact ⟨vs,e,Rvs.back hs l _ k⟩
 | .arr _ _,_,r=>by simp only [SV.ren,Rv] at r⊢;exact r
 | .tup l,v,r=>by simp only [SV.ren,Rv] at r⊢;obtain ⟨vs,e,k⟩:=r;exact ⟨vs,e,Rvs.back hs l _ k⟩
 | .raw _,_,r=>by simp only [SV.ren,Rv] at r⊢;exact r
 | .unk,_,_=>by simp only [Rv]
theorem Rvs.back {ρ:Nat->Nat} {g g0:G} (hs:z0y ρ g g0):∀(l:List SV) (vs:List Value),Rvs g (SV.rens ρ l) vs->Rvs g0 l vs
 | [],_,r=>by simp only [SV.rens,Rvs] at r⊢;exact r
 |s::l,vs,r=>by
  simp only [SV.rens,Rvs] at r⊢;obtain ⟨v,vs',e,h1,h2⟩:=r;exact ⟨v,vs',e,Rv.back hs s v h1,Rvs.back hs l vs' h2⟩
end
theorem m0Y {ρ:Nat->Nat} {g g0:G} (hs:z0y ρ g g0) {β:Base} {b:Blk} {w:World} (h:(b.ren ρ).Ok g w β):b.Ok g0 w β:=by
 cases b with
 |obj o=>
  refine ⟨h.1,h.2.1,?_⟩;have h:=h.2.2;cases o with
  |map ka ea m ks vs bs ck=>
   obtain ⟨es,e,k⟩:=h;exact ⟨es,e,k.size,k.kl,(f0f ρ).1 k.vl,k.bl,k.nd,k.lt,fun i x hx=>⟨(k.row i x hx).1,(k.row i x hx).2.1,Rv.back hs _ _ (by rw [<-h0G];exact (k.row i x hx).2.2)⟩⟩
  |iter h0 q a b c=>
   obtain ⟨β',e1,e⟩:=h;exact ⟨β',hs h0 q β' e1,e⟩
  |niter=>exact h
  |siter s p=>exact h
  |bld0 T=>exact h
  |bld T h0 q n=>
   obtain ⟨β',e1,e⟩:=h;exact ⟨β',hs h0 q β' e1,e⟩
  |brow T s=>exact h
  |bag Q=>exact h
 |_=>trivial
theorem j0A {ρ:Nat->Nat}:∀(e0 e:Env),d0E ρ e0 e->∀t sv,a0B e0 t=some sv->a0B e t=some (SV.ren ρ sv)
 | [],e,_,t,sv,h=>by simp [a0B] at h
 |(k,s)::r,e,hw,t,sv,h=>by
  simp only [d0E] at hw;rw [b0x] at h;split at h
  .rename_i e';subst e';simp only [Option.some.injEq] at h;subst h;exact hw.1
  .exact j0A r e hw.2 t sv h
theorem h0U {ρ:Nat->Nat}:∀(e0 e:a0g),b0e ρ e0 e->∀h q ro b,Ent e0 h q ro b->Ent e (ρ h) q ro (b.ren ρ)
 | [],e,_,h,q,ro,b,he=>by obtain ⟨hb,x,_⟩:=he;simp [a0x] at x
 |(k,some hb)::r,e,hw,h,q,ro,b,he=>by
  simp only [b0e] at hw;rcases a0l.1 he with ⟨rfl,hb',e1,e2,e3⟩|⟨_,he⟩
  .cases e1;exact ⟨hb.ren ρ,hw.1,HB.ren_is.2 ⟨b,e2,rfl⟩,by rw [HB.ren_ro];exact e3⟩
  .exact h0U r e hw.2 h q ro b he
 |(k,none)::r,e,hw,h,q,ro,b,he=>by simp only [b0e] at hw
theorem l0S:∀(n:Nat) (l:List Nat),d0S n l=true->∀h,h<n->l[h]? =some h
 |0,l,_,h,hh=>by omega
 |n+1,l,hi,h,hh=>by
  simp only [d0S,c0q] at hi;rcases f0m h n with h1|h1
  .exact l0S n l hi.2 h h1
  .have:h=n:=by omega
   subst this;have h2:=hi.1;split at h2
   .rename_i k hk;rw [a0S] at hk;rw [hk,c0k h2]
   .cases h2
theorem k0t {l:List Nat} {n1:Nat} {H0:a0g} (R:Rel C g vs a w) (ids:(Nat.ble 1 C.n0&&Nat.ble C.n0 l.length&&d0S C.n0 l&&Nat.beq l.length n1&&g0h l vs.next&&j0T (rho l vs.next) H0 H0)=true) (hh:b0e (rho l vs.next) H0 vs.heap):
  ∃g0:G,z0y (rho l vs.next) g g0/\g0.glob/\g0.upto n1/\C.n0<=n1/\(∀h q,h<C.n0->g0 h q=C.g h q)/\Holds g0 H0 w/\s0T g0 H0 C.W C.w:=by
 simp only [c0q] at ids;obtain ⟨⟨⟨⟨⟨i1,i2⟩,i3⟩,i5⟩,i6⟩,i4⟩:=ids;have e1:=k0S i1;have e2:=k0S i2;have e5:=c0k i5;let ρ:=rho l vs.next
 have hid:∀h,h<C.n0->ρ h=h:=by
  intro h hh;have:=l0S C.n0 l i3 h hh;simp only [ρ,rho,a0S,this]
 let g0:G:=fun h q=>g (ρ h) q
 have hB:z0y ρ g g0:=fun h q β e=>e
 have hup:g0.upto n1:=by
  intro h q hh;simp only [g0];have:ρ h=vs.next+(h-l.length):=v0h (by omega)
  rw [this];exact R.upto _ q (by omega)
 have hent:∀h q ro b,Ent H0 h q ro b->h<l.length/\∃β,Ent vs.heap (ρ h) q ro (b.ren ρ)/\g (ρ h) q=some β/\BlkAt g β ro (b.ren ρ) w:=by
  intro h q ro b he;have h1:=h0U H0 vs.heap hh h q ro b he;obtain ⟨β,h2,h3⟩:=R.heap.blk _ _ _ _ h1;refine ⟨?_,β,h1,h2,h3⟩;rcases f0m h l.length with h4|h4
  .exact h4
  .have:g0 h q=none:=hup h q (by omega);simp only [g0] at this;rw [h2] at this;cases this
 have hinj:∀h q b h' q' ro' b',Ent H0 h q false b->Ent H0 h' q' ro' b'->ρ h=ρ h'->h=h':=by
  intro h q b h' q' ro' b' he he' e;by_cases e':h=h'
  .exact e'
  .obtain ⟨hb,m1,m2⟩:=g0o H0 h q false b he;obtain ⟨hb',m3,_⟩:=g0o H0 h' q' ro' b' he';exact absurd e (k0h H0 i4 h hb m1 m2 h' (some hb') m3 (Ne.symm e'))
 refine ⟨g0,hB,?_,hup,by omega,?_,⟨?_,?_⟩,?_⟩
 .intro q;obtain ⟨es,cap,e⟩:=R.glob q;exact ⟨es,cap,by simp only [g0];rw [hid 0 (by omega)];exact e⟩
 .intro h q hh;simp only [g0];rw [hid h hh];exact R.keep h q hh
 .intro h q ro b he;obtain ⟨_,β,_,h2,h3⟩:=hent h q ro b he;refine ⟨β,h2,h3.lt,by rw [h3.es,Blk.ren_es],(Blk.ren_len ρ b).1 h3.len,fun i hi=>h3.cap i ((Blk.ren_has ρ b i).2 hi),?_,fun i j v hi=>h3.one i j v ((Blk.ren_has ρ b i).2 hi),h3.rw,m0Y hB h3.obj⟩;intro i j sv hi hj;obtain ⟨v,k1,k2⟩:=h3.cell i j (SV.ren ρ sv) ((Blk.ren_has ρ b i).2 hi) (by rw [Blk.ren_at,hj];rfl);exact ⟨v,k1,Rv.back hB sv v k2⟩
 .intro h q h' q' b ro' b' β β' hne he he' hg hg' hc hc';obtain ⟨h1,β1,h2,h3,_⟩:=hent h q false b he;obtain ⟨k1,β2,k2,k3,_⟩:=hent h' q' ro' b' he';simp only [g0] at hg hg';exact R.heap.sep (ρ h) q (ρ h') q' _ ro' _ β β' (fun e=>hne ⟨hinj h q b h' q' ro' b' he he' e.1,e.2⟩) h2 k2 hg hg' hc hc'
 .intro h q b β he hg hc;obtain ⟨h1,β1,h2,h3,_⟩:=hent h q false b he;exact R.own (ρ h) q _ β h2 hg hc
theorem r0e {v:SV} {x:Value} (h:v.none=true) (hv:Rv g v x):∃ad,x= .slice ad 0 0:=by
 cases v<;>simp [SV.none] at h<;>simp only [Rv] at hv
 .exact ⟨_,hv⟩
 .exact hv
theorem o0g {e:Env} {H:a0g} {n:Nat} {cs:List BCol} (R:Rel C g ⟨e,H,n⟩ a w) (hl:f0x cs=true):Rel C (g.add n ⟨0,0,cs.length,0⟩) ⟨e,(n,some (.one false (.cols 0 cs)))::H,n+1⟩ a w:=by
 have hn:∀q,g n q=none:=fun q=>R.upto n q (d0M _)
 have A:=h0m (r:= .unk) (v:=undef) (nx:=n) (b1:= .cols 0 cs) (β1:=⟨0,0,cs.length,0⟩) (w':=w) R.heap hn (by simp only [Rv]) (by
  refine ⟨fun h=>by simp at h,rfl,h0S cs hl,fun i hi=>by simp only [Blk.has] at hi;omega,fun i j sv hi=>by simp only [Blk.has] at hi;omega,fun i j v hi=>by simp only [Blk.has] at hi;omega,fun _ i j hi=>by simp at hi,trivial⟩) (fun h=>by simp at h) rfl rfl rfl (d0M _) (fun _ _=>rfl)
 have:=b0f (o:=⟨none,.ready 0,0,"",#[],none⟩) R A (by intro x h;cases h);simpa [p0r,Act.put] using this
theorem z0z {u:Up} {v1:VS} (R:Rel C g vs a w) (h:up1 u vs=some v1):∃g1,G.le g g1/\Rel C g1 v1 a w:=by
 obtain ⟨e,H,n⟩:=vs;cases u with
 |slot t cs=>
  simp only [up1] at h;split at h
  .rename_i v hv;cases hc:(v.none&&f0x cs) with
   |false=>rw [hc] at h;simp at h
   |true=>
    rw [hc] at h;simp only [cond_true,Option.some.injEq] at h;subst h;simp only [c0q] at hc;have R1:=o0g R hc.2;refine ⟨_,G.le_add _ (R.upto n 0 (d0M _)),?_,R1.size,R1.defers,R1.glob,R1.upto,R1.lo,R1.keep,R1.heap,R1.fr,R1.own⟩;intro x sv hx;simp only at hx;rw [b0x] at hx;split at hx
    .rename_i e';subst e';simp only [Option.some.injEq] at hx;subst hx;obtain ⟨ad,e1⟩:=r0e hc.1 (R.env t v hv);rw [e1];simp only [Rv];exact ⟨ad,0,rfl,d0M _,.inl rfl⟩
    .exact R1.env x sv hx
  .cases h
 |cell hh j cs=>
  simp only [up1] at h;split at h
  .rename_i l hl;split at h
   .rename_i v hv;cases hc:(v.none&&f0x cs) with
    |false=>rw [hc] at h;simp at h
    |true=>
     rw [hc] at h;simp only [cond_true,Option.some.injEq] at h;subst h;simp only [c0q] at hc;have R1:=o0g R hc.2;generalize hg1:g.add n ⟨0,0,cs.length,0⟩=g1 at R1;have hne:n≠hh:=by
      intro e';subst e';obtain ⟨β,hb,_⟩:=R.heap.blk n 0 false (.cells l) ⟨_,hl,⟨rfl,rfl⟩,rfl⟩;rw [R.upto n 0 (d0M _)] at hb;cases hb
     have hent:Ent ((n,some (.one false (.cols 0 cs)))::H) hh 0 false (.cells l):=a0l.2 (.inr ⟨hne,_,hl,⟨rfl,rfl⟩,rfl⟩);obtain ⟨β,hβ,hB⟩:=R1.heap.blk _ _ _ _ hent;have hset:a0L ((n,some (.one false (.cols 0 cs)))::H) hh 0 (.cells (c0a l j (.sl n 0 0 0)))= [(hh,some (.one false (.cells (c0a l j (.sl n 0 0 0)))))]:=by
      have:a0x ((n,some (.one false (.cols 0 cs)))::H) hh=some (.one false (.cells l)):=by rw [a0Q,if_neg hne];exact hl
      rw [d0D this];rfl
     have A:=c0u (r:= .unk) (v:=undef) (nx:=n+1) (b1:= .cells (c0a l j (.sl n 0 0 0))) (w':=w) R1.heap hent hβ (hB.cap 0 rfl) (by simp only [Rv]) (by
      refine ⟨hB.lt,by rw [hB.es];simp [Blk.es,c0E],trivial,hB.cap,?_,fun i j v hi=>hB.one i j v hi,hB.rw,trivial⟩;intro i x sv hi hx;simp only [Blk.at] at hx;have hs:=f0d [SV.sl n 0 0 0] l j x (by have:=b0y hv;simp;omega);simp only [c0c] at hs;rw [hs] at hx;split at hx
      .rename_i hc';simp only [x0C] at hc';have:x=j:=by omega
       subst this;simp only [Nat.sub_self,nth,Option.some.injEq] at hx;subst hx;obtain ⟨u,u1,u2⟩:=hB.cell i x v hi hv;obtain ⟨ad,e1⟩:=r0e hc.1 u2;refine ⟨u,u1,?_⟩;rw [e1];simp only [Rv];exact ⟨ad,0,rfl,d0M _,.inl rfl⟩
      .exact hB.cell i x sv hi hx) rfl rfl rfl (d0M _) (fun _ _ _=>rfl)
     have R2:=b0f (o:=⟨none,.ready 0,0,"",#[],none⟩) R1 A (by intro x h;cases h);rw [hset] at R2;exact ⟨g1,by rw [<-hg1];exact G.le_add _ (R.upto n 0 (d0M _)),by simpa [p0r,Act.put] using R2⟩
   .cases h
  .cases h
 |relab R E N dr m=>simp only [up1] at h;cases h
theorem l0T:∀(us:List Up) (vs:VS) (g:G) (K:VS->Prop),Rel C g vs a w->upK us vs K->∃g1 v1,Rel C g1 v1 a w/\G.le g g1/\K v1
 | [],vs,g,K,R,h=>⟨g,vs,R,G.le.refl g,h⟩
 |u::us,vs,g,K,R,h=>by
  have key:∀v1,up1 u vs=some v1->upK us v1 K->∃g1 v1,Rel C g1 v1 a w/\G.le g g1/\K v1:=by
   intro v1 hv h;obtain ⟨g1,hle,R1⟩:=z0z R hv;obtain ⟨g2,v2,R2,hle2,hk⟩:=l0T us v1 g1 K R1 h;exact ⟨g2,v2,R2,hle.trans hle2,hk⟩
  cases u with
  |relab R' E N dr m=>
   obtain ⟨e,H,n⟩:=vs;simp only [upK] at h;rw [f0I] at h;obtain ⟨g1,hle,R1⟩:=r0c R h.1;obtain ⟨g2,v2,R2,hle2,hk⟩:=l0T us _ g1 K R1 h.2;exact ⟨g2,v2,R2,hle.trans hle2,hk⟩
  |slot t cs=>
   simp only [upK] at h;split at h
   .rename_i v1 hv;exact key v1 hv h
   .exact h.elim
  |cell hh j cs=>
   simp only [upK] at h;split at h
   .rename_i v1 hv;exact key v1 hv h
   .exact h.elim
theorem v0j (us:List Up) (vs:VS) (g:G) (K:VS->Prop) (R:Rel C g vs a w) (h:upK us vs K):∃g1 v1,Rel C g1 v1 a w/\K v1:=
 let ⟨g1,v1,R1,_,hk⟩:=l0T us vs g K R h;⟨g1,v1,R1,hk⟩
theorem o0h {v0:VS} {l:List Nat} (R:Rel C g vs a w) (hw:Weak C.n0 l vs v0):∃g0,Rel C g0 v0 a w:=by
 obtain ⟨g0,hB,h1,h2,h3,h4,h5,h6⟩:=k0t R hw.ids hw.heap;exact ⟨g0,fun t sv ht=>Rv.back hB sv _ (R.env t _ (j0A _ _ hw.env t sv ht)),R.size,R.defers,h1,h2,h3,h4,h5,R.fr,h6⟩
theorem a0H (hm:P.follows .mixedOrders=true) (hT:a0U P T):∀(c:Code) (vs:VS) (g:G) (a:Act) (w:World) (K:Exit->VS->Prop) (Q:Exit->Act->World->Prop),b0n C.N c=true->Rel C g vs a w->b0k P T C.n0 c vs K->
  (∀e vs' g' a' w',K e vs'->Rel C g' vs' a' w'->Q e a' w')->c.wp P Q a w
 | .skip,vs,g,a,w,K,Q,_,R,h,hq=>wp_skip (hq _ _ _ _ _ h R)
 | .region id ops draw,vs,g,a,w,K,Q,ho,R,h,hq=>by
   simp only [b0n,c0q] at ho;simp only [b0k] at h;cases draw with
   |false=>exact wp_region_list (m0X hT ops.toList vs g a w (K .normal) ho.1 R h (fun vs' g' a' w' k1 k2=>hq .normal vs' g' a' w' k1 k2))
   |true=>
    have hdr:q0v ops.toList=true:=by simpa using ho.2
    exact p0u hm hT (w0s hdr) ho.1 R h (fun vs' g' a' w' k1 k2=>hq .normal vs' g' a' w' k1 k2)
 | .seq x y,vs,g,a,w,K,Q,ho,R,h,hq=>by
   simp only [b0n,c0q] at ho;simp only [b0k] at h;refine wp_seq (a0H hm hT x vs g a w _ _ ho.1 R h ?_);intro e vs' g' a' w' k1 k2;cases e with
   |normal=>exact a0H hm hT y vs' g' a' w' K Q ho.2 k2 k1 hq
   |_=>exact hq _ _ _ _ _ k1 k2
 | .cond c x y,vs,g,a,w,K,Q,ho,R,h,hq=>by
   simp only [b0n,c0q] at ho;simp only [b0k] at h;split at h
   .rename_i t b hb;obtain ⟨e,H,n⟩:=vs;have hv:a.eval (.tmp t)= .bool b:=rbv (a0w R.glob R.env hb);refine wp_cond_split hv (fun e'=> ?_) (fun e'=> ?_)
    .subst e';exact a0H hm hT x _ g a w K Q ho.1 (f0L R hb) ((g0d h).1 rfl) hq
    .subst e';exact a0H hm hT y _ g a w K Q ho.2 (f0L R hb) ((g0d h).2 rfl) hq
   .refine wp_cond_split (t:=true) rfl (fun _=>a0H hm hT x _ g a w K Q ho.1 R h hq) (fun e'=>by cases e')
   .refine wp_cond_split (t:=false) rfl (fun e'=>by cases e') (fun _=>a0H hm hT y _ g a w K Q ho.2 R h hq)
   .exact h.elim
 | .block id c,vs,g,a,w,K,Q,ho,R,h,hq=>by
   simp only [b0n] at ho;simp only [b0k] at h;refine wp_block (a0H hm hT c vs g a w _ _ ho R h ?_);intro e vs' g' a' w' k1 k2;cases e with
   |exit i=>
    simp only [Exit.inBlock];by_cases hi:i=id
    .subst hi;rw [if_pos rfl];have hbb:Nat.beq i i=true:=Nat.beq_refl i;simp only [n0J,hbb,cond_true] at k1;exact hq _ _ _ _ _ k1 k2
    .rw [if_neg hi];have:Nat.beq i id=false:=by
      cases hb:Nat.beq i id with
      |true=>exact absurd (c0k hb) hi
      |false=>rfl
     simp only [n0J,this,cond_false] at k1;exact hq _ _ _ _ _ k1 k2
   |_=>exact hq _ _ _ _ _ k1 k2
 | .loop c,vs,g,a,w,K,Q,ho,R,h,hq=>by
   simp only [b0n] at ho;simp only [b0k,a0v] at h;rcases h with ⟨α,st,inv,μ,x0,l0,u0,hw,hI,hr⟩|⟨N,h⟩
   case inr=>
    refine h0T (fun n a w=>∃v g',vun (b0k P T C.n0 c) K n v/\Rel C g' v a w) N ⟨vs,g,h,R⟩ ?_;rintro n a1 w1 ⟨v,g1,hv,R1⟩;cases n with
    |zero=>exact hv.elim
    |succ n=>
     refine a0H hm hT c v g1 a1 w1 _ _ ho R1 hv ?_;intro e vs' g' a' w' k1 k2;cases e with
     |normal=>exact ⟨n,b1M n,vs',g',k1,k2⟩
     |_=>exact hq _ _ _ _ _ k1 k2
   obtain ⟨gu,vu,Ru,hw⟩:=v0j u0 vs g _ R hw;obtain ⟨g0,R0⟩:=o0h Ru hw;refine h0T (fun n a w=>∃x g',μ x=n/\inv x/\Rel C g' (st x) a w) (μ x0) ⟨x0,g0,rfl,hI,R0⟩ ?_;rintro n a1 w1 ⟨x,g1,rfl,hx,R1⟩;refine a0H hm hT c (st x) g1 a1 w1 _ _ ho R1 (hr x hx) ?_;intro e vs' g' a' w' k1 k2;cases e with
   |normal=>
    obtain ⟨y,l,u,h1,h2,h3⟩:=k1;obtain ⟨gu,vu,Ru,h3⟩:=v0j u vs' g' _ k2 h3;obtain ⟨g2,R2⟩:=o0h Ru h3;exact ⟨μ y,h2,y,g2,rfl,h1,R2⟩
   |_=>exact hq _ _ _ _ _ k1 k2
 | .exit id,vs,g,a,w,K,Q,_,R,h,hq=>wp_exit (hq _ _ _ _ _ h R)
 | .label _,vs,g,a,w,K,Q,_,R,h,hq=>wp_label (hq _ _ _ _ _ h R)
 | .scope c,vs,g,a,w,K,Q,hok,R,h,hq=>by
   simp only [b0k] at h;simp only [b0n] at hok;refine wp_scope_straight (a0H hm hT c vs g a w _ _ hok R h ?_);intro e vs' g' a' w' h1 h2;cases e<;>first|exact h1.elim|exact hq _ _ _ _ _ h1 h2
 | .ret,vs,g,a,w,K,Q,_,R,h,hq=>wp_ret (hq _ _ _ _ _ h R)
 | .rangeFunc _ _ _ _,vs,g,a,w,K,Q,_,R,h,hq=>by simp only [b0k] at h
 | .goto _,vs,g,a,w,K,Q,_,R,h,hq=>by simp only [b0k] at h
 | .refuse _,vs,g,a,w,K,Q,_,R,h,hq=>by simp only [b0k] at h
def p0v (tmps:Array Value):ResultVar->Sem Value
 | .tmp t=>pure (tmps.getD t undef)
 | .cell a t=>do loadVar t (<-asAddr (tmps.getD a undef))
theorem m0Z (hT:a0U P T) (R:Rel C g vs a w):∀(rs:List ResultVar) (K:List SV->Prop),p0b T vs rs K->
  ∃svs vals,K svs/\Rvs g svs vals/\(rs.mapM (m:=Sem) (p0v a.tmps)).run P w= .ok vals w
 | [],K,h=>⟨[],[],h,by simp [Rvs],by simp⟩
 | .tmp t::rs,K,h=>by
   simp only [p0b] at h;split at h
   .rename_i v hv;obtain ⟨svs,vals,h1,h2,h3⟩:=m0Z hT R rs _ h;refine ⟨v::svs,a.tmps.getD t undef::vals,h1,by simp only [Rvs];exact ⟨_,_,rfl,R.env t v hv,h2⟩,?_⟩;simp only [List.mapM_cons,p0v,e0M,i0S,d0N,h3]
   .exact h.elim
 | .cell x ty::rs,K,h=>by
   simp only [p0b] at h;split at h
   .rename_i hd q i j ti hx hti;obtain ⟨sv,U,b,t,h1,h2⟩:=m0V h;obtain ⟨svs,vals,k1,k2,k3⟩:=m0Z hT R rs _ h2;have hld:(eff T vs vs.next (.load ty (.tmp x))).is sv U b t:=by
     simp only [eff,gv,hx,hti];exact h1
    obtain ⟨rfl,rfl,v,hr,hy⟩:=l0o hT R.glob R.env R.heap hld;obtain ⟨β,hβ,hpv⟩:=rpv (R.env x _ hx);have hran:=hy ⟨none,.load ty (.tmp x),ty,"",#[],none⟩ rfl;have hrun:(loadVar ty (β.addr i j)).run P w= .ok v w:=by
     simp only [execOp,Instr.loadAt,Act.eval,hpv,Instr.sureAddr,e0M,i0S,d0N] at hran;cases hl:(loadVar ty (β.addr i j)).run P w with
     |ok u w1=>rw [hl] at hran;simp only [d0N] at hran;cases hran;rfl
     |halt hh w1=>rw [hl] at hran;simp [Result.andThen] at hran
    refine ⟨sv::svs,v::vals,k1,by simp only [Rvs];exact ⟨_,_,rfl,hr,k2⟩,?_⟩;simp only [List.mapM_cons,p0v,e0M,i0S,d0N,hpv,asAddr,hrun,k3]
   .exact h.elim
theorem p0w (fn:Func) (tmps:Array Value):results fn tmps=(do let vs<-fn.results.mapM (p0v tmps);pure (if h:vs.size=1 then vs[0] else .tuple vs)):=by
 have:(fun (r:ResultVar)=>match r with| .tmp t=>(pure (tmps.getD t undef):Sem Value)| .cell a t=>do loadVar t (<-asAddr (tmps.getD a undef)))=p0v tmps:=by
  funext r;cases r<;>rfl
 unfold results;rw [<-this];rfl
theorem k0u:∀(args:List SV) (vals:List Value) (i:Nat),Rvs g args vals->∀t sv,a0B (g0i i args) t=some sv->i<=t/\∃v,vals[t-i]? =some v/\Rv g sv v
 | [],vals,i,_,t,sv,h=>by simp [g0i,a0B] at h
 |s::args,vals,i,hr,t,sv,h=>by
  simp only [Rvs] at hr;obtain ⟨v,vs',e,h1,h2⟩:=hr;subst e;simp only [g0i] at h;rw [b0x] at h;split at h
  .rename_i e;subst e;simp only [Option.some.injEq] at h;subst h;exact ⟨d0M _,v,by simp,h1⟩
  .rename_i hne;obtain ⟨k1,u,k2,k3⟩:=k0u args vs' (i+1) h2 t sv h;refine ⟨by omega,u,?_,k3⟩;rw [show t-i=(t-(i+1))+1 from by omega];simpa using k2
theorem j0B (hT:a0U P T) (R:Rel C g vs a w) {fn:Func} {K:List SV->Prop} (h:p0b T vs fn.results.toList K):
  ∃svs v,K svs/\Rv g (e0P svs) v/\(results fn a.tmps).run P w= .ok v w:=by
 obtain ⟨svs,vals,h1,h2,h3⟩:=m0Z hT R fn.results.toList K h;rw [p0w];have hrun:(fn.results.mapM (m:=Sem) (p0v a.tmps)).run P w= .ok vals.toArray w:=by
  rw [Array.mapM_eq_mapM_toList,Sem.run_map,h3];rfl
 simp only [e0M,hrun,d0N,i0S];refine ⟨svs,_,h1,?_,rfl⟩
 match svs,h2 with
 | [],h2=>
   simp only [Rvs] at h2;subst h2;simp only [e0P,Rv];exact ⟨#[],by simp,by simp [Rvs]⟩
 | [s],h2=>
   simp only [Rvs] at h2;obtain ⟨v,vs',e,r,e2⟩:=h2;subst e2;subst e;simpa [e0P] using r
 |s::t::r,h2=>
  have hl:=Rvs.length _ _ h2;simp only [e0P,Rv];refine ⟨vals.toArray,?_,by simpa using h2⟩;rw [dif_neg (by simp [hl])]
theorem z0A (hm:P.follows .mixedOrders=true) (hT:a0U P T) {n:Nat} {f:FuncId} {fn:Func} {c:Code} (hf:P.funcs[f]? =some fn) (hb:fn.body=some c) (hname:(fn.name=="runtime.NumGoroutine")=false) {args:List SV} {H:a0g} {post:SV->a0g->Nat->Prop}
  (hN:Nat.ble args.length fn.ntmps=true) (hok:b0n fn.ntmps c=true) (h:b0k P T n c ⟨g0i 0 args,H,n⟩ (t0d T n fn.results.toList post)):FC P n f args H post:=by
 refine .inl ⟨⟨fn,c,hf,hb,hname⟩,?_⟩;intro g w vals hg hup hH hv;refine calls_of_wp hf hb ?_;have hlen:=Rvs.length _ _ hv;have hNle:=k0S hN;let C:Ctx:=⟨g,n,w,d0o g H,fn.ntmps,[]⟩
 have R:Rel C g ⟨g0i 0 args,H,n⟩ { tmps:=vals.toArray++Array.replicate (fn.ntmps-vals.toArray.size) undef,defers:= []} w:=by
  refine ⟨?_,?_,rfl,hg,hup,d0M _,fun _ _ _=>rfl,hH,Fr.refl _ _,fun h q b β he hgb hc=> .inl ⟨h,q,b,β,he,hgb,hc,rfl⟩⟩
  .intro t sv ht;obtain ⟨_,v,h1,h2⟩:=k0u args vals 0 hv t sv ht;have hlt:t<vals.length:=by
    rcases f0m t vals.length with h|h
    .exact h
    .simp only [Nat.sub_zero] at h1;rw [f0k h] at h1;cases h1
   have e:(vals.toArray++Array.replicate (fn.ntmps-vals.toArray.size) undef).getD t undef=v:=by
    rw [s0g,r0f (by simpa using hlt)];simp only [Nat.sub_zero] at h1;simp [h1]
   show Rv g sv ((vals.toArray++Array.replicate (fn.ntmps-vals.toArray.size) undef).getD t undef);rw [e];exact h2
  .show (vals.toArray++Array.replicate (fn.ntmps-vals.toArray.size) undef).size=fn.ntmps;simp;omega
 refine a0H (C:=C) hm hT c _ g _ w _ _ hok R h ?_;intro e vs' g' a' w' hk hR;have fin:p0b T vs' fn.results.toList (fun l=>b0b n post (e0P l) vs')->bodyPost P fn (fun e w'=>∃v,e= .returned v/\Out g w n H post v w') .ret a' w':=by
  intro hk;obtain ⟨svs,v,h1,h2,h3⟩:=j0B hT hR hk;obtain ⟨l,u,r0,H0,n1,hu,hp⟩:=h1;obtain ⟨gu,vu,Ru,hle,ro⟩:=l0T u vs' g' _ hR hu;obtain ⟨g0,hB,k1,k2,k3,k4,k5,k6⟩:=k0t Ru ro.ids ro.heap;exact ⟨hR.defers,v,h3,v,rfl,r0,H0,n1,g0,hp,k3,k2,k4,Rv.back hB r0 v (by rw [<-ro.res];exact Rv.mono hle _ _ h2),k5,ro.rw,Ru.fr,k6⟩
 cases e with
 |normal=>exact fin hk
 |ret=>exact fin hk
 |_=>exact hk.elim
end
end Go.Sy
namespace Go.Sy
open Go.RowKit
theorem a0e {n:Int} (h: -9223372036854775808<=n) (h':n<=9223372036854775807):IntKind.i64.wrap n=n:=IntWalk.i64_in n ⟨h,h'⟩
theorem g0P {p:Prop} [Decidable p] {a b:Prop} (h:p->a) (k:¬p->b):br (decide p) a b:=e0x (fun e=>h (of_decide_eq_true e)) (fun e=>k (of_decide_eq_false e))
theorem a0f {c k:Prop} (h:c) (hk:k):c/\k:=⟨h,hk⟩
theorem l0U (s:ByteArray) (k:Nat) (h:k<s.size):a0h s (k:Int)=(s[k].toNat:Int):=by
 unfold a0h;have h':k<s.data.toList.length:=by simpa using h
 have e1:s.data.toList.getD k 0=s.data.toList[k]:=by rw [List.getD,d0L h'];rfl
 rw [o0v,e1];rfl
theorem f0O (s:ByteArray) (i:Int):0<=a0h s i/\a0h s i<=255:=by
 unfold a0h;have:=(s.data.toList.getD i.toNat 0).toNat_lt;omega
section
variable {P:Program}
theorem a0t:f0w []:=fun h q ro b he=>by obtain ⟨hb,e,_⟩:=he;simp [a0x] at e
theorem a0k {h:Nat} {b:Blk} {H:a0g} (k:f0w H):f0w ((h,some (.one false b))::H):=by
 intro h' q ro b' he;rcases a0l.1 he with ⟨_,hb,e1,_,e3⟩|⟨_,he⟩
 .cases e1;exact e3.symm
 .exact k h' q ro b' he
theorem f0P {f:FuncId} {l:List Nat} {nx:Nat} {args args0:List SV} {H Hc H':a0g} {r:SV} {n':Nat} {K:SV->a0g->Nat->Prop} (hc:FC P l.length f args0 H (a0d r H' n')) (hf:Fits l nx args args0 H Hc)
  (hk:K (SV.ren (rho l nx) r) (i0B (rho l nx) H'++i0C (rho l nx) H) (n'-l.length)):a0u P f args Hc nx K:=
 ⟨l,args0,H,_,hc,hf,by rintro sv H1 n1 ⟨rfl,rfl,rfl⟩;exact hk⟩
theorem e0E {f:FuncId} {l:List Nat} {nx:Nat} {args args0:List SV} {H Hc H':a0g} {r:SV} {n':Nat} {K:SV->a0g->Nat->List Nat->Prop} (hc:FC P l.length f args0 H (a0d r H' n')) (hf:Fits l nx args args0 H Hc)
  (hk:K (SV.ren (rho l nx) r) (i0B (rho l nx) H'++i0C (rho l nx) H) (n'-l.length) l):a0j P f args Hc nx K:=⟨l,args0,H,r,H',n',hc,hf,hk⟩
abbrev n0a:=List (Nat×Nat×List Col)
def d1R:List Col->Nat
 | .ints _ (.ofNat t::_)::_=>t
 |_=>0
def v0k (l:n0a) (q:Nat):Blk:=match a0B l q with|some x=>(bif Nat.beq x.1 0 then .cells [.iface (d1R x.2) .unk] else .cols x.1 (a0W x.2))|none=> .cells []
def GB (l:n0a):HB:= .fam true (fun q=>(a0B l q).isSome=true) (v0k l)
theorem l0V {α:Type}:∀{l:List (Nat×α)} {q:Nat},(a0B l q).isSome=true->q∈l.map (·.1)
 | [],q,h=>by simp [a0B] at h
 |(k,v)::r,q,h=>by
  rw [b0x] at h;by_cases e:k=q
  .simp [e]
  .rw [if_neg e] at h;simp [l0V h]
def w0A (l:List (Nat×Nat×Nat)) (q:Nat):Base:=match a0B l q with|some x=>⟨q,0,x.1,x.2⟩|none=>⟨q,0,0,0⟩
theorem p0x (l:List (Nat×Nat×Nat)) (q:Nat):∃es cap,some (w0A l q)=some (⟨q,0,es,cap⟩:Base):=by
 unfold w0A;split<;>exact ⟨_,_,rfl⟩
theorem j0C (ρ:Nat->Nat):∀l:List Col,c0B ρ (a0W l)=a0W l
 | []=>rfl
 |c::l=>by simp only [a0W,c0B,BCol.ren,j0C ρ l]
theorem l0W (n:Nat):∀l:List Col,e0a n (a0W l)=true
 | []=>rfl
 |c::l=>by simp only [a0W,e0a,BCol.wf,l0W n l];rfl
theorem t0G (ρ:Nat->Nat) (l:n0a) (q:Nat):(v0k l q).ren ρ=v0k l q:=by
 unfold v0k;split
 .cases Nat.beq _ 0
  .simp only [cond_false,Blk.ren,j0C]
  .rfl
 .rfl
theorem v0l (ρ:Nat->Nat) (l:n0a):(GB l).ren ρ=GB l:=by
 simp only [GB,HB.ren,t0G]
theorem r0g {n:Nat} {l:n0a}:(GB l).wf n:=by
 intro q _;unfold v0k;split
 .cases Nat.beq _ 0
  .simp only [cond_false,Blk.wf,l0W]
  .rfl
 .rfl
theorem h0V {o:Option HB} {ρ:Nat->Nat} {l:n0a} (h:o=some (GB l)):q0r o ((GB l).ren ρ):=by
 subst h;rw [v0l];exact ⟨rfl,rfl,rfl⟩
theorem gwk {o:Option HB} {ρ:Nat->Nat} {l:n0a} (h:o=some (GB l)):o=some ((GB l).ren ρ):=by rw [v0l];exact h
def f0h (P:Program) (l:n0a) (f:FuncId) (args:List SV) (r:SV):Prop:=FC P 1 f args [(0,some (GB l))] (a0d r [] 1)
theorem h0W {l:n0a} {nx:Nat} {args:List SV} {Hc:a0g} (ha:args=SV.rens (rho [0] nx) args) (hw:SV.wfs 1 args=true) (hh:a0x Hc 0=some (GB l)):Fits [0] nx args args [(0,some (GB l))] Hc:=
 ⟨rfl,rfl,ha,hw,⟨rfl,r0g,trivial⟩,⟨h0V hh,trivial⟩⟩
theorem a0b {r r0:SV} {vs:VS} (h:r=r0) (hr:SV.ren (rho [0] vs.next) r0=r0:=by rfl) (hn:g0h [0] vs.next=true:=by rfl):b0b 1 (a0d r0 [] 1) r vs:=by
 subst h;refine ⟨[0],[],r,[],1,⟨?_,hr.symm,trivial,a0t⟩,rfl,rfl,rfl⟩;rw [hn];rfl
theorem r0h {n0:Nat} {l:List Nat} {r r0:SV} {H0:a0g} {vs:VS} (us:List Up) (h:upK us vs (fun v=>(Nat.ble 1 n0&&Nat.ble n0 l.length&&d0S n0 l&&g0h l v.next&&j0T (rho l v.next) H0 H0)=true/\r=SV.ren (rho l v.next) r0/\b0e (rho l v.next) H0 v.heap)) (hrw:f0w H0):b0b n0 (a0d r0 H0 l.length) r vs:=by
 refine ⟨l,us,r0,H0,l.length,?_,rfl,rfl,rfl⟩;revert h;have:∀(us:List Up) (v:VS) (K K':VS->Prop),(∀v,K v->K' v)->upK us v K->upK us v K':=by
  intro us;induction us with
  |nil=>intro v K K' h hk;exact h v hk
  |cons u us ih=>
   intro v K K' h hk;cases u with
   |relab R E N dr m=>
    obtain ⟨e,H,n⟩:=v;simp only [upK] at hk⊢;rw [f0I] at hk⊢;exact ⟨hk.1,ih _ _ _ h hk.2⟩
   |_=>
    simp only [upK] at hk⊢;split at hk
    .exact ih _ _ _ h hk
    .exact hk.elim
 refine this us vs _ _ ?_;rintro v ⟨ids,hr,hh⟩;refine ⟨?_,hr,hh,hrw⟩;simp only [c0q] at ids⊢;exact ⟨⟨⟨ids.1.1,by simp⟩,ids.1.2⟩,ids.2⟩
theorem d0i {n0:Nat} {l:List Nat} {r r0:SV} {H0:a0g} {vs:VS} (ids:(Nat.ble 1 n0&&Nat.ble n0 l.length&&d0S n0 l&&g0h l vs.next&&j0T (rho l vs.next) H0 H0)=true) (hr:r=SV.ren (rho l vs.next) r0) (hh:b0e (rho l vs.next) H0 vs.heap) (hrw:f0w H0):b0b n0 (a0d r0 H0 l.length) r vs:=by
 refine ⟨l,[],r0,H0,l.length,⟨?_,hr,hh,hrw⟩,rfl,rfl,rfl⟩;simp only [c0q] at ids⊢;exact ⟨⟨⟨ids.1.1,by simp⟩,ids.1.2⟩,ids.2⟩
theorem a0n {α:Type} {n0:Nat} {body:VS->(Exit->VS->Prop)->Prop} {vs:VS} {K:Exit->VS->Prop} (st:α->VS) (inv:α->Prop) (μ:α->Nat) (x0:α) (l0:List Nat) (u0:List Up) (hw:upK u0 vs (fun v=>Weak n0 l0 v (st x0))) (hi:inv x0)
  (hr:∀x,inv x->body (st x) (fun e v'=>match e with| .normal=>∃y l u,inv y/\μ y<μ x/\upK u v' (fun v=>Weak n0 l v (st y))|e=>K e v')):a0v n0 body vs K:= .inl ⟨α,st,inv,μ,x0,l0,u0,hw,hi,hr⟩
theorem a0c {n0:Nat} {body:VS->(Exit->VS->Prop)->Prop} {vs:VS} {K:Exit->VS->Prop} (N:Nat) (h:vun body K N vs):a0v n0 body vs K:= .inr ⟨N,h⟩
theorem FC.law {n:Nat} {f:FuncId} {args:List SV} {H:a0g} {n':Nat} {H':a0g} (hc:FC P n f args H (a0d (.bool true) H' n')) (hbd:d0s P f) (hro:∀h q ro b,Ent H h q ro b->ro=true) {g:G} {w:World} {vals:List Value} (hg:g.glob) (hn:g.upto n) (hH:Holds g H w) (hv:Rvs g args vals):
  Calls P f vals.toArray w (fun e w'=>e= .returned (.bool true)/\Below w.heap.size w w'):=by
 have hc2:=hc.resolve_right (fun hx=>by
  obtain ⟨v,w',hr,_⟩:=hx g w vals hg hn hH hv;rw [g0p hbd] at hr;cases hr)
 refine (hc2.2 g w vals hg hn hH hv).mono ?_;rintro e w' ⟨v,rfl,sv,H1,n1,g',⟨rfl,_,_⟩,_,_,_,hrv,_,_,hfr,_⟩;refine ⟨by rw [rbv hrv],hfr.os,hfr.tape,hfr.output,hfr.size,fun k hk=>hfr.block k hk ?_⟩;rintro ⟨h,q,b,β,he,_⟩;have:=hro h q false b he;cases this
end
theorem a0a {c k:Prop} (hk:k) (hc:c:=by (first|exact rfl|(refine ⟨rfl,?_⟩;(first|omega|(dsimp only;omega)|decide))|omega|(dsimp only;omega)|decide|(simp only [n0r,o0v, *];omega))):c/\k:=⟨hc,hk⟩
class Bx (b:Bool) (p q:outParam Prop):Prop where
 t:b=true->p
 f:b=false->q
instance bx0 {b:Bool}:Bx b (b=true) (b=false):=⟨id,id⟩
instance bx1 {b:Bool}:Bx (!b) (b=false) (b=true):=⟨by cases b<;>simp,by cases b<;>simp⟩
instance bx2 {p:Prop} [Decidable p]:Bx (decide p) p (¬p):=⟨of_decide_eq_true,of_decide_eq_false⟩
instance bx3 {p:Prop} [Decidable p]:Bx (!decide p) (¬p) p:=⟨fun e=>by simpa using e,fun e=>by simpa using e⟩
instance bx4 {x y:ByteArray}:Bx (seq x y) (x=y) (x≠y):=⟨of_decide_eq_true,of_decide_eq_false⟩
instance bx5 {x y:ByteArray}:Bx (!seq x y) (x≠y) (x=y):=⟨fun e=>by simpa [seq] using e,fun e=>by simpa [seq] using e⟩
theorem bRx {b:Bool} {p q A C:Prop} [i:Bx b p q] (h:p->A) (k:q->C):br b A C:=e0x (fun e=>h (i.t e)) (fun e=>k (i.f e))
class Cg (g:Prop) (P:outParam Program) (f:outParam FuncId) (args:outParam (List SV)) (Hc:outParam a0g) (nx:outParam Nat) (K:outParam (SV->a0g->Nat->List Nat->Prop)):Prop where
 go:∀{l:List Nat} {args0:List SV} {H H':a0g} {r:SV} {n':Nat},FC P l.length f args0 H (a0d r H' n')->Fits l nx args args0 H Hc->K (SV.ren (rho l nx) r) (i0B (rho l nx) H'++i0C (rho l nx) H) (n'-l.length) l->g
instance cg0 {P:Program} {f:FuncId} {args:List SV} {Hc:a0g} {nx:Nat} {K:SV->a0g->Nat->Prop}:Cg (a0u P f args Hc nx K) P f args Hc nx (fun r U b _=>K r U b):=⟨f0P⟩
instance cg1 {P:Program} {f:FuncId} {args:List SV} {Hc:a0g} {nx:Nat} {K:SV->a0g->Nat->List Nat->Prop}:Cg (a0j P f args Hc nx K) P f args Hc nx K:=⟨e0E⟩
section
variable {g:Prop} {P:Program} {f:FuncId} {args args0:List SV} {Hc H H':a0g} {nx n':Nat} {K:SV->a0g->Nat->List Nat->Prop} {r:SV}
theorem cOx [c:Cg g P f args Hc nx K] {l:List Nat} (hc:FC P l.length f args0 H (a0d r H' n')) (hk:K (SV.ren (rho l nx) r) (i0B (rho l nx) H'++i0C (rho l nx) H) (n'-l.length) l)
  (h1:j0a l=true:=by exact rfl) (h2:j0T (rho l nx) H H=true:=by exact rfl) (h3:args=SV.rens (rho l nx) args0:=by exact rfl) (h4:SV.wfs l.length args0=true:=by exact rfl)
  (h5:e0b l.length H:=by (repeat' (first|exact trivial|exact r0g|exact fun _ _=>rfl|constructor));first|done|fail)
  (h6:d0R (rho l nx) H Hc:=by (repeat' (first|exact trivial|exact h0V rfl|constructor));first|done|fail):g:=c.go hc ⟨h1,h2,h3,h4,h5,h6⟩ hk
theorem cPx [c:Cg g P f args Hc nx K] (hc:a0y P f args r) (hk:K r [] 0 [0]) (ha:args=SV.rens (rho [0] nx) args:=by exact rfl) (hw:SV.wfs 1 args=true:=by exact rfl) (hr:SV.ren (rho [0] nx) r=r:=by exact rfl):g:=
 c.go (l:= [0]) hc ⟨rfl,rfl,ha,hw,trivial,trivial⟩ (by rw [hr];exact hk)
theorem cGx [c:Cg g P f args Hc nx K] {l:n0a} (hc:f0h P l f args r) (hk:K r [] 0 [0]) (ha:args=SV.rens (rho [0] nx) args:=by exact rfl) (hw:SV.wfs 1 args=true:=by exact rfl) (hr:SV.ren (rho [0] nx) r=r:=by exact rfl) (hh:a0x Hc 0=some (GB l):=by exact rfl):g:=
 c.go (l:= [0]) hc (h0W ha hw hh) (by rw [hr];exact hk)
end
theorem rOx {n0:Nat} {r r0:SV} {H0:a0g} {vs:VS} (l:List Nat) (hrw:f0w H0) (ids:(Nat.ble 1 n0&&Nat.ble n0 l.length&&d0S n0 l&&g0h l vs.next&&j0T (rho l vs.next) H0 H0)=true:=by exact rfl) (hr:r=SV.ren (rho l vs.next) r0:=by exact rfl)
  (hh:b0e (rho l vs.next) H0 vs.heap:=by (repeat' (first|exact trivial|exact rfl|exact gwk rfl|constructor));first|done|fail):b0b n0 (a0d r0 H0 l.length) r vs:=d0i ids hr hh hrw
theorem wHx {n0:Nat} {l:List Nat} {v v0:VS} (env:d0E (rho l v.next) v0.env v.env:=by (repeat' (first|exact trivial|exact rfl|constructor));first|done|fail) (ids:(Nat.ble 1 n0&&Nat.ble n0 l.length&&d0S n0 l&&Nat.beq l.length v0.next&&g0h l v.next&&j0T (rho l v.next) v0.heap v0.heap)=true:=by exact rfl)
  (heap:b0e (rho l v.next) v0.heap v.heap:=by (repeat' (first|exact trivial|exact rfl|exact gwk rfl|constructor));first|done|fail):Weak n0 l v v0:=⟨ids,env,heap⟩
def rwB:a0g->Bool
 | []=>true
 |(_,none)::_=>false
 |(_,some hb)::r=> !hb.ro&&rwB r
theorem v0o:∀{H:a0g},rwB H=true->f0w H
 | [],_=>a0t
 |(_,none)::_,k=>nomatch k
 |(_,some hb)::H,k=>by
  intro h' q ro b he;simp only [rwB,c0q,i0o] at k;rcases a0l.1 he with ⟨_,hb',e1,_,e3⟩|⟨_,he⟩
  .cases e1;exact e3.symm.trans k.1
  .exact v0o k.2 h' q ro b he
theorem rOz {n0:Nat} {r r0:SV} {H0:a0g} {vs:VS} (l:List Nat) (ids:(Nat.ble 1 n0&&Nat.ble n0 l.length&&d0S n0 l&&g0h l vs.next&&j0T (rho l vs.next) H0 H0)=true:=by exact rfl) (hr:r=SV.ren (rho l vs.next) r0:=by exact rfl)
  (hh:b0e (rho l vs.next) H0 vs.heap:=by (repeat' (first|exact trivial|exact rfl|exact gwk rfl|constructor));first|done|fail) (hrw:f0w H0:=by first|exact w|exact v0o rfl):b0b n0 (a0d r0 H0 l.length) r vs:=d0i ids hr hh hrw
theorem aX {p:Prop} (h:False:=by (try dsimp only at h);omega):p:=h.elim
theorem oM {p:Prop} (h:p:=by omega):p:=h
theorem dC {p:Prop} (h:p:=by decide):p:=h
theorem rX {p:Prop} (h:p:=by repeat' (first|exact trivial|exact rfl|constructor)):p:=h
end Go.Sy
