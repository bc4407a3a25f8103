/- Symbolic execution is right: maps. No program in sight. -/
import Derived.Test.YtlankgapiecloaaGreatDoorYS11
import Derived.MapKept
namespace Go.Sy
set_option linter.unusedVariables false
open Go.RowKit
def firstT:List Bool→Nat
 | []=>0
 |b::p=>bif b then 0 else firstT p+1
theorem firstT_le:∀p,firstT p≤p.length
 | []=>Nat.le_refl _
 |b::p=>by
  simp only [firstT,List.length_cons]
  cases b
  ·have:=firstT_le p;simp;omega
  ·simp
theorem firstT_lt:∀p,firstT p<p.length→p[firstT p]?=some true
 | [],h=>by simp [firstT] at h
 |b::p,h=>by
  cases b
  ·simp only [firstT,cond_false,List.length_cons] at h⊢
   simpa using firstT_lt p (by omega)
  ·simp [firstT]
theorem sidx_eq (s:ByteArray):∀l:List ByteArray,sidx l s=firstT (l.map (fun x=>seq x s))
 | []=>rfl
 |x::l=>by simp only [sidx,List.map_cons,firstT,sidx_eq s l]
theorem iidx_eq (s:Int):∀l:List Int,iidx l s=firstT (l.map (fun x=>decide (x=s)))
 | []=>rfl
 |x::l=>by simp only [iidx,List.map_cons,firstT,iidx_eq s l]
theorem sidx2_eq (s t:ByteArray):∀l m:List ByteArray,sidx2 l m s t=firstT (List.zipWith (fun x y=>seq x s&&seq y t) l m)
 | [],_=>by simp [sidx2,firstT]
 |_::_,[]=>by simp [sidx2,firstT]
 |x::l,y::m=>by simp only [sidx2,List.zipWith_cons_cons,firstT,sidx2_eq s t l m]
theorem findNow_gen {d:TypeDesc} {kv:Value}:∀(es:List MapEntry) (p:List Bool) (off:Nat),es.length=p.length→(∀(j:Nat) e b,es[j]?=some e→p[j]?=some b→Instr.sameNow d kv e.key=some b)→
  Instr.findNow d kv es off=some ((es[firstT p]?).map (fun e=>(off+firstT p,e.val)))
 | [],p,off,h,_=>by
   cases p with
   |nil=>rfl
   |cons _ _=>simp at h
 |e::es,[],off,h,_=>by simp at h
 |e::es,b::p,off,h,hk=>by
  have h0:=hk 0 e b rfl rfl
  simp only [Instr.findNow,h0]
  cases b with
  |true=>simp [firstT]
  |false=>
   have:=findNow_gen es p (off+1) (by simpa using h) (fun j e' b' h1 h2=>hk (j+1) e' b' (by simpa using h1) (by simpa using h2))
   simp only [this,firstT,cond_false,List.getElem?_cons_succ]
   congr 2
   funext x;congr 1;omega
theorem findAsking_gen {P:Program} {w:World} {kt:TypeId} {kv:Value}:∀(es:List MapEntry) (p:List Bool) (off:Nat),es.length=p.length→(∀(j:Nat) e b,es[j]?=some e→p[j]?=some b→(Op.equal kt kv e.key).run P w= .ok b w)→
  (Instr.findAsking kt kv es off).run P w= .ok ((es[firstT p]?).map (fun e=>(off+firstT p,e.val))) w
 | [],p,off,h,_=>by
   cases p with
   |nil=>simp [Instr.findAsking]
   |cons _ _=>simp at h
 |e::es,[],off,h,_=>by simp at h
 |e::es,b::p,off,h,hk=>by
  have h0:=hk 0 e b rfl rfl
  simp only [Instr.findAsking,Sem.run_bind,h0,Result.andThen_ok]
  cases b with
  |true=>simp [firstT]
  |false=>
   have:=findAsking_gen (P:=P) (w:=w) es p (off+1) (by simpa using h) (fun j e' b' h1 h2=>hk (j+1) e' b' (by simpa using h1) (by simpa using h2))
   simp only [Bool.false_eq_true,if_false,this,firstT,cond_false,List.getElem?_cons_succ]
   congr 2
   funext x;congr 1;omega
section ops
variable {P:Program} {T:Tab} {g:G} {vs:VS} {a:Act} {w:World} {r:SV} {U:Heap} {b:Nat} {t:List Nat} {H:Heap} {nx:Nat}
theorem map_of {ty:TypeId} {ti:TI} (h:tiOf P ty=some ti) (hk:Nat.beq ti.kind 8=true):∃k e,P.underlying ty=some (.map k e)∧ti.ez=zeroOf P e∧ti.ega=aggB P e∧ti.len=scalarK P k∧
  ti.flat=(match P.underlying k with|some (.struct fs)=>bif !P.stoodInHeld k&& !P.eqGuardType P.depth k then (flatFrom P 0 fs.toList).getD [] else []|_=> [])∧ti.ik=(match P.underlying k with|some (.int x)=>x|_=> .i64)∧(ti.bld=true→zshape P e=true):=by
 unfold tiOf at h
 split at h
 ·rename_i i d hi hd
  simp only [Option.some.injEq] at h
  cases d with
  |map k e=>subst h;exact ⟨k,e,hd,rfl,rfl,rfl,rfl,rfl,fun hb=>by simp only [bldB,Bool.and_eq_true] at hb;exact hb.2⟩
  |_=>rw [←h] at hk;exact absurd hk (by simp [kindOf])
 ·cases h
theorem scalarK3 {k:TypeId} (h:scalarK P k=3):P.underlying k=some .string:=by
 unfold scalarK at h
 split at h<;>first|assumption|(exact absurd h (by decide))
theorem scalarK2 {k:TypeId} (h:scalarK P k=2):∃x,P.underlying k=some (.int x):=by
 unfold scalarK at h
 split at h<;>first|exact ⟨_,by assumption⟩|(exact absurd h (by decide))
theorem beq_seq (x s:ByteArray):(s==x)=seq x s:=by
 unfold seq
 rw [beq_toListBytes,beq_toList_eq,decide_eq_decide]
 exact eq_comm
structure KeyRun (P:Program) (k:TypeId) (kv:Value) (es:Array MapEntry) (n i:Nat):Prop where
 le:i≤n
 check:∀(w:World) em,(Instr.checkKey em 10000 k kv).run P w= .ok () w
 find:∀w:World,(Instr.findKey k kv es.toList).run P w= .ok ((es.toList[i]?).map (fun e=>(i,e.val))) w
 same:∀e,es[i]?=some e→e.key=kv
 stays:∀w:World,(Instr.keyThatStays kv kv).run P w= .ok kv w
theorem flat33 {k:TypeId} (h:(match P.underlying k with|some (.struct fs)=>bif !P.stoodInHeld k&& !P.eqGuardType P.depth k then (flatFrom P 0 fs.toList).getD [] else []|_=> [])= [3,3]):
  ∃fs:Array Field,P.underlying k=some (.struct fs)∧P.stoodInHeld k=false∧flatFrom P 0 fs.toList=some [3,3]:=by
 split at h
 ·rename_i fs hfs
  refine ⟨fs,hfs,?_⟩
  cases hc:(!P.stoodInHeld k&& !P.eqGuardType P.depth k) with
  |false=>rw [hc] at h;cases h
  |true=>
   rw [hc] at h
   simp only [cond_true] at h
   simp only [Bool.and_eq_true,Bool.not_eq_true'] at hc
   refine ⟨hc.1,?_⟩
   cases hf:flatFrom P 0 fs.toList with
   |none=>rw [hf] at h;cases h
   |some l=>rw [hf] at h;simp at h;rw [h]
 ·cases h
theorem flat_two {fs:List Field} (h:flatFrom P 0 fs=some [3,3]):∃f0 f1,fs= [f0,f1]∧f0.name≠"_"∧scalarK P f0.type=3∧f0.offset=0∧f1.name≠"_"∧scalarK P f1.type=3∧f1.offset=1:=by
 have step:∀(i:Nat) (fs:List Field) (k:Nat) (l:List Nat),flatFrom P i fs=some (k::l)→∃f r,fs=f::r∧f.name≠"_"∧scalarK P f.type=k∧f.offset=i∧flatFrom P (i+1) r=some l:=by
  intro i fs k l h
  cases fs with
  |nil=>simp [flatFrom] at h
  |cons f r=>
   simp only [flatFrom] at h
   cases hc:((f.name !="_")&& !Nat.beq (scalarK P f.type) 0&&(f.offset==i)) with
   |false=>rw [hc] at h;cases h
   |true=>
    rw [hc] at h
    simp only [cond_true] at h
    simp only [Bool.and_eq_true,bne_iff_ne,beq_iff_eq] at hc
    split at h
    ·rename_i l' hl'
     simp only [Option.some.injEq,List.cons.injEq] at h
     exact ⟨f,r,rfl,hc.1.1,h.1,hc.2,by rw [hl',h.2]⟩
    ·cases h
 obtain ⟨f0,r0,rfl,a1,a2,a3,h1⟩:=step 0 fs 3 [3] h
 obtain ⟨f1,r1,rfl,b1,b2,b3,h2⟩:=step 1 r0 3 [] h1
 have:r1= []:=by
  cases r1 with
  |nil=>rfl
  |cons f r=>
   simp only [flatFrom] at h2
   cases hc:((f.name !="_")&& !Nat.beq (scalarK P f.type) 0&&(f.offset==1+1)) with
   |false=>rw [hc] at h2;cases h2
   |true=>
    rw [hc] at h2
    simp only [cond_true] at h2
    split at h2<;>cases h2
 subst this
 exact ⟨f0,f1,rfl,a1,a2,a3,b1,b2,b3⟩
theorem key_run {ty k e:TypeId} {ti:TI} {ka ea:Bool} {n i ck:Nat} {ks:List Col} {vl:List BCol} {bs:List Nat} {es:Array MapEntry} {key:SV} {kv:Value} (hlen:ti.len=scalarK P k)
  (hflat:ti.flat=(match P.underlying k with|some (.struct fs)=>bif !P.stoodInHeld k&& !P.eqGuardType P.depth k then (flatFrom P 0 fs.toList).getD [] else []|_=> []))
  (hik:ti.ik=(match P.underlying k with|some (.int x)=>x|_=> .i64)) (hM:MapOk g ka ea n ks vl bs ck es) (hkey:Rv g key kv) (hi:keyIdx ti ka ks key=some i):KeyRun P k kv es n i:=by
 have hsz:es.toList.length=n:=by simpa using hM.size
 unfold keyIdx at hi
 split at hi
 ·
  rename_i l s
  cases hb:Nat.beq ti.len 3 with
  |false=>rw [hb] at hi;cases hi
  |true=>
   rw [hb] at hi
   simp only [cond_true,Option.some.injEq] at hi
   have hu:=scalarK3 (P:=P) (k:=k) (by rw [←hlen];exact Nat.eq_of_beq_eq_true hb)
   have hkv:=rtv hkey
   subst hkv
   have hl:l.length=n:=hM.kl _ (List.mem_singleton.2 rfl)
   have hrow:∀(j:Nat) (e:MapEntry),es[j]?=some e→e.key= .string (l.getD j ⟨#[]⟩):=fun j e he=>(hM.row j e he).2.1
   rw [sidx_eq] at hi
   have hpl:(l.map (fun x=>seq x s)).length=n:=by simp [hl]
   have hf:=findNow_gen (d:= .string) (kv:= .string s) es.toList (l.map (fun x=>seq x s)) 0 (by rw [hsz,hpl]) (by
    intro j e b h1 h2
    rw [hrow j e (by simpa using h1)]
    simp only [Instr.sameNow,Option.some.injEq,beq_seq]
    rw [List.getElem?_map] at h2
    cases hx:l[j]? with
    |none=>rw [hx] at h2;cases h2
    |some y=>rw [hx] at h2;simp only [Option.map_some,Option.some.injEq] at h2;rw [List.getD,hx];exact h2)
   rw [hi] at hf
   have hle:i≤n:=by rw [←hi,←hpl];exact firstT_le _
   refine ⟨hle,fun w em=>MapKept.run_checkKey hu (by simp [MapKept.IsKey]) em 9999,fun w=>by simpa using MapKept.run_findKey (w:=w) hu hf,?_,fun w=>MapKept.run_keyThatStays (d:= .string) (by simp [MapKept.IsKey])⟩
   intro e he
   have hlt:i<n:=by
    have:=(Array.getElem?_eq_some_iff.1 he).1
    rw [hM.size] at this;exact this
   have ht:=firstT_lt (l.map (fun x=>seq x s)) (by rw [hi,hpl];exact hlt)
   rw [hi,List.getElem?_map] at ht
   rw [hrow i e he]
   cases hx:l[i]? with
   |none=>rw [hx] at ht;cases ht
   |some y=>
    rw [hx] at ht
    simp only [Option.map_some,Option.some.injEq] at ht
    have:y=s:=of_decide_eq_true ht
    rw [List.getD,hx,this];rfl
 ·
  rename_i kk l p x
  cases hb:(Nat.beq ti.len 2&&ikEq p kk&&ikEq p ti.ik) with
  |false=>rw [hb] at hi;cases hi
  |true=>
   rw [hb] at hi
   simp only [cond_true,Option.some.injEq] at hi
   simp only [Bool.and_eq_true] at hb
   obtain ⟨kd,hu⟩:=scalarK2 (P:=P) (k:=k) (by rw [←hlen];exact Nat.eq_of_beq_eq_true hb.1.1)
   have hpk:=ikEq_ok hb.1.2
   have hpd:=ikEq_ok hb.2
   rw [hik,hu] at hpd
   simp only at hpd
   subst hpd
   subst hpk
   have hkv:=riv hkey
   subst hkv
   have hl:l.length=n:=hM.kl _ (List.mem_singleton.2 rfl)
   have hrow:∀(j:Nat) (e:MapEntry),es[j]?=some e→e.key= .int p (l.getD j 0):=fun j e he=>(hM.row j e he).2.1
   rw [iidx_eq] at hi
   have hpl:(l.map (fun y=>decide (y=x))).length=n:=by simp [hl]
   have hf:=findNow_gen (d:= .int p) (kv:= .int p x) es.toList (l.map (fun y=>decide (y=x))) 0 (by rw [hsz,hpl]) (by
    intro j e b h1 h2
    rw [hrow j e (by simpa using h1)]
    simp only [Instr.sameNow,if_true,Option.some.injEq]
    rw [List.getElem?_map] at h2
    cases hx:l[j]? with
    |none=>rw [hx] at h2;cases h2
    |some y=>
     rw [hx] at h2;simp only [Option.map_some,Option.some.injEq] at h2;rw [List.getD,hx,←h2]
     simp only [Option.getD_some]
     rw [Bool.eq_iff_iff];simp only [beq_iff_eq,decide_eq_true_eq];exact eq_comm)
   rw [hi] at hf
   have hle:i≤n:=by rw [←hi,←hpl];exact firstT_le _
   refine ⟨hle,fun w em=>MapKept.run_checkKey hu (by simp [MapKept.IsKey]) em 9999,fun w=>by simpa using MapKept.run_findKey (w:=w) hu hf,?_,fun w=>MapKept.run_keyThatStays (d:= .int p) (by simp [MapKept.IsKey])⟩
   intro e he
   have hlt:i<n:=by
    have:=(Array.getElem?_eq_some_iff.1 he).1
    rw [hM.size] at this;exact this
   have ht:=firstT_lt (l.map (fun y=>decide (y=x))) (by rw [hi,hpl];exact hlt)
   rw [hi,List.getElem?_map] at ht
   rw [hrow i e he]
   cases hx:l[i]? with
   |none=>rw [hx] at ht;cases ht
   |some y=>
    rw [hx] at ht
    simp only [Option.map_some,Option.some.injEq] at ht
    have:y=x:=of_decide_eq_true ht
    rw [List.getD,hx,this];rfl
 ·
  rename_i l m s u
  split at hi
  ·rename_i hfl
   simp only [Option.some.injEq] at hi
   rw [hflat] at hfl
   obtain ⟨fs,hu,hst,hff⟩:=flat33 hfl
   obtain ⟨kvs,rfl,hrk⟩:=rav hkey
   have hkv2:kvs= #[.string s,.string u]:=by
    simp only [Rvs] at hrk
    obtain ⟨v1,r1,e1,k1,v2,r2,e2,k2,e3⟩:=hrk
    have:=rtv k1;subst this
    have:=rtv k2;subst this
    subst e3;subst e2
    exact Array.toList_inj.1 (by simpa using e1)
   subst hkv2
   have hl:l.length=n:=hM.kl (.strs l) (by simp)
   have hm:m.length=n:=hM.kl (.strs m) (by simp)
   have hrow:∀(j:Nat) (e:MapEntry),es[j]?=some e→e.key= .agg #[.string (l.getD j ⟨#[]⟩),.string (m.getD j ⟨#[]⟩)]:=fun j e he=>(hM.row j e he).2.1
   rw [sidx2_eq] at hi
   have hpl:(List.zipWith (fun x y=>seq x s&&seq y u) l m).length=n:=by simp [hl,hm]
   have hfo:P.fieldsOf k=fs:=by simp [Program.fieldsOf,hu]
   have heq:∀(w:World) (x y:ByteArray),(Op.equal k (.agg #[.string s,.string u]) (.agg #[.string x,.string y])).run P w= .ok (seq x s&&seq y u) w:=by
    intro w x y
    have h1:(Op.equalIn (9998+2) k (.agg #[.string s,.string u]) (.agg #[.string x,.string y])).run P w= .ok (seq s x&&(seq u y&&true)) w:=by
     rw [run_equalIn_struct w 9999 k _ _ (by rw [hfo];exact hu) hst,hfo]
     exact eqFields_ok (g:=g) 9998 _ _ w fs.toList 0 [3,3] [.str s,.str u] [.str x,.str y] _ hff (by simp [Rvs,Rv]) (by simp [Rvs,Rv]) (by simp [eqCells])
    have h2:(seq s x&&(seq u y&&true))=(seq x s&&seq y u):=by
     have c:∀p q:ByteArray,seq p q=seq q p:=by intro p q;unfold seq;rw [decide_eq_decide];exact eq_comm
     rw [Bool.and_true,c s x,c u y]
    rw [h2] at h1
    exact h1
   have hzip:∀(j:Nat) (b:Bool),(List.zipWith (fun x y=>seq x s&&seq y u) l m)[j]?=some b→(seq (l.getD j ⟨#[]⟩) s&&seq (m.getD j ⟨#[]⟩) u)=b:=by
    intro j b h2
    rw [List.getElem?_zipWith] at h2
    cases hx:l[j]? with
    |none=>rw [hx] at h2;cases h2
    |some x=>
     cases hy:m[j]? with
     |none=>rw [hx,hy] at h2;cases h2
     |some y=>rw [hx,hy] at h2;simp only [Option.some.injEq] at h2;rw [List.getD,hx,List.getD,hy];exact h2
   have hle:i≤n:=by rw [←hi,←hpl];exact firstT_le _
   have hfind:∀w:World,(Instr.findKey k (.agg #[.string s,.string u]) es.toList).run P w= .ok ((es.toList[i]?).map (fun e=>(i,e.val))) w:=by
    intro w
    have ha:=findAsking_gen (P:=P) (w:=w) (kt:=k) (kv:= .agg #[.string s,.string u]) es.toList (List.zipWith (fun x y=>seq x s&&seq y u) l m) 0 (by rw [hsz,hpl]) (by
     intro j e b h1 h2
     rw [hrow j e (by simpa using h1),heq,hzip j b h2])
    rw [hi] at ha
    simp only [Instr.findKey,Sem.run_bind,run_underlying hu,Result.andThen_ok]
    cases hes:es.toList with
    |nil=>
     rw [hes] at ha
     simp [Instr.findNow]
    |cons e0 es0=>
     have:Instr.findNow (.struct fs) (.agg #[.string s,.string u]) (e0::es0) 0=none:=by simp [Instr.findNow,Instr.sameNow]
     rw [this,←hes]
     simpa using ha
   refine ⟨hle,?_,hfind,?_,?_⟩
   ·intro w em
    obtain ⟨f0,f1,hfs,n0,s0,o0,n1,s1,o1⟩:=flat_two hff
    obtain rfl:fs= #[f0,f1]:=Array.toList_inj.1 (by simpa using hfs)
    have hu0:=scalarK3 (P:=P) s0
    have hu1:=scalarK3 (P:=P) s1
    have a0:(isAgg f0.type).run P w= .ok false w:=by simp [isAgg,run_underlying hu0]
    have a1:(isAgg f1.type).run P w= .ok false w:=by simp [isAgg,run_underlying hu1]
    have c0:∀v,(Instr.checkKey em 9999 f0.type (.string v)).run P w= .ok () w:=fun v=>MapKept.run_checkKey (P:=P) (w:=w) (k:= .string v) hu0 (by simp [MapKept.IsKey]) em 9998
    have c1:∀v,(Instr.checkKey em 9999 f1.type (.string v)).run P w= .ok () w:=fun v=>MapKept.run_checkKey (P:=P) (w:=w) (k:= .string v) hu1 (by simp [MapKept.IsKey]) em 9998
    have go:∀N:Nat,(∀v,(Instr.checkKey em N f0.type (.string v)).run P w= .ok () w)→(∀v,(Instr.checkKey em N f1.type (.string v)).run P w= .ok () w)→(Instr.checkKey em (N+1) k (.agg #[.string s,.string u])).run P w= .ok () w:=by
     intro N c0 c1
     unfold Instr.checkKey
     simp [run_underlying hu,part,a0,a1,o0,o1,n0,n1,c0,c1]
    exact go 9999 c0 c1
   ·intro e he
    have hlt:i<n:=by
     have:=(Array.getElem?_eq_some_iff.1 he).1
     rw [hM.size] at this;exact this
    have ht:=firstT_lt (List.zipWith (fun x y=>seq x s&&seq y u) l m) (by rw [hi,hpl];exact hlt)
    rw [hi] at ht
    have:=hzip i true ht
    simp only [Bool.and_eq_true] at this
    rw [hrow i e he,of_decide_eq_true this.1,of_decide_eq_true this.2]
   ·intro w
    have hb:∀x:ByteArray,(x==x)=true:=by intro x;rw [beq_seq];simp [seq]
    simp [Instr.keyThatStays,Instr.sameBits,hb]
  ·cases hi
 ·cases hi
theorem rmv {h q:Nat} {v:Value} (x:Rv g (.map h q) v):∃β,g h q=some β∧v= .map (some β.blk):=by simpa only [Rv] using x
theorem rnm {v:Value} (x:Rv g .nmap v):v= .map none:=by simpa only [Rv] using x
theorem zero_run {e:TypeId} (hz:zshape P e=true):∃z:Value,(∀w,(zeroValue e).run P w= .ok z w)∧zeroOf P e=z.cells.toList.map cv∧((aggB P e=true∧∃cs,z= .agg cs)∨(aggB P e=false∧z.cells= #[z])):=by
 unfold zshape at hz
 cases hi:P.info? e with
 |none=>rw [hi] at hz;cases hz
 |some i=>
  rw [hi] at hz
  simp only at hz
  cases hzz:i.zero with
  |none=>rw [hzz] at hz;cases hz
  |some z=>
   rw [hzz] at hz
   refine ⟨z,fun w=>by simp [zeroValue,run_typeInfo w hi,hzz],by simp [zeroOf,hi,hzz],?_⟩
   cases z with
   |agg cs=>exact .inl ⟨hz,cs,rfl⟩
   |tuple cs=>cases hz
   |_=>exact .inr ⟨by simpa using hz,rfl⟩
theorem isZero_ok {x:Int} (h:isZero (some x)=true):x=0:=by
 cases x with
 |ofNat n=>cases n with
  |zero=>rfl
  |succ n=>cases h
 |negSucc n=>cases h
theorem size_zero {s:ByteArray} (h:s.size=0):s=⟨#[]⟩:=by
 obtain ⟨d⟩:=s
 have:d.size=0:=h
 have:=Array.eq_empty_of_size_eq_zero this
 subst this;rfl
theorem zOk_at {n:Nat}:∀(vl:List BCol) (ez:List SV),zOk vl ez=true→(∀c∈vl,c.len=n)→bcolsAt vl n=ez
 | [],[],_,_=>rfl
 | [],_::_,h,_=>by simp [zOk] at h
 | .svs _::_,ez,h,_=>by cases ez<;>simp [zOk] at h
 | .own _ _::_,ez,h,_=>by cases ez<;>simp [zOk] at h
 | .arrs _ _ _::_,ez,h,_=>by cases ez<;>simp [zOk] at h
 | .ptrs _ _::_,ez,h,_=>by cases ez<;>simp [zOk] at h
 | .sc c::l,ez,h,hl=>by
   have hc:c.len=n:=hl (.sc c) (by simp)
   have hl':∀c∈l,c.len=n:=fun c hc=>hl c (by simp [hc])
   have gd:∀{α:Type} (l:List α) (d:α),l.length=n→l.getD n d=d:=fun l d e=>by rw [List.getD,List.getElem?_eq_none (by omega)];rfl
   cases c with
   |ints k xs=>
    cases ez with
    |nil=>simp [zOk] at h
    |cons z m=>
     cases z with
     |int p x=>
      simp only [zOk,Bool.and_eq_true] at h
      have:=ikEq_ok h.1.1
      subst this
      have:=isZero_ok h.1.2
      subst this
      simp only [bcolsAt,BCol.at,Col.at,gd xs 0 hc,zOk_at l m h.2 hl']
     |_=>simp [zOk] at h
   |strs xs=>
    cases ez with
    |nil=>simp [zOk] at h
    |cons z m=>
     cases z with
     |str s=>
      simp only [zOk,Bool.and_eq_true] at h
      have:=size_zero (Nat.eq_of_beq_eq_true h.1)
      subst this
      simp only [bcolsAt,BCol.at,Col.at,gd xs _ hc,zOk_at l m h.2 hl']
     |_=>simp [zOk] at h
   |bools xs=>
    cases ez with
    |nil=>simp [zOk] at h
    |cons z m=>
     cases z with
     |bool b=>
      cases b with
      |true=>simp [zOk] at h
      |false=>
       simp only [zOk] at h
       simp only [bcolsAt,BCol.at,Col.at,gd xs _ hc,zOk_at l m h hl']
     |_=>simp [zOk] at h
theorem found_in {ea:Bool} {n i:Nat} {vl:List BCol} {v:Value} (hi:i<n) (h:Rv g (elemS ea vl i) v):Rv g (foundS ea n vl i) v:=by
 unfold foundS
 split
 ·rw [decide_eq_true hi];exact h
 ·rw [decide_eq_true hi];exact h
 ·exact h
theorem ownZ_ok {vl:List BCol} {ez:List SV} (h:ownZ vl ez=true):(∃hh ns,vl= [.own hh ns]∧ez= [.nsl])∨(∃hh n,vl= [.ptrs hh n]∧ez= [.nptr]):=by
 unfold ownZ at h
 split at h
 ·exact .inl ⟨_,_,rfl,rfl⟩
 ·exact .inr ⟨_,_,rfl,rfl⟩
 ·cases h
theorem zOk_found {ea:Bool} {n i:Nat} {vl:List BCol} {ez:List SV} (h:zOk vl ez=true):foundS ea n vl i=elemS ea vl i:=by
 unfold foundS
 split
 ·cases ez<;>simp [zOk] at h
 ·cases ez<;>simp [zOk] at h
 ·rfl
theorem arrZ_ok {ea ega:Bool} {vl:List BCol} {ez:List SV} (h:arrZ ea ega vl ez=true):ea=false∧ega=true∧∃k rows,vl= [.arrs ez.length k rows]∧allIntZ k ez=true:=by
 unfold arrZ at h
 split at h
 ·rename_i n k rows
  rw [Bool.and_eq_true] at h
  have:=Nat.eq_of_beq_eq_true h.1
  subst this
  exact ⟨rfl,rfl,k,rows,rfl,h.2⟩
 ·cases h
theorem cv_int {v:Value} {p:IntKind} {x:Int} (h:cv v= .int p x):v= .int p x:=by
 unfold cv at h
 split at h<;>cases h
 rfl
theorem allIntZ_ok {k:IntKind}:∀(cs:List Value),allIntZ k (cs.map cv)=true→∀(i:Nat) v,cs[i]?=some v→v= .int k 0
 | [],_,i,v,hv=>by simp at hv
 |c::cs,h,i,v,hv=>by
  simp only [List.map_cons] at h
  cases hc:cv c with
  |int p x=>
   rw [hc] at h
   simp only [allIntZ,Bool.and_eq_true] at h
   have e1:=ikEq_ok h.1.1
   have e2:=isZero_ok h.1.2
   subst e1
   subst e2
   cases i with
   |zero=>
    simp only [List.getElem?_cons_zero,Option.some.injEq] at hv
    subst hv
    exact cv_int hc
   |succ i=>exact allIntZ_ok cs h.2 i v (by simpa using hv)
  |_=>rw [hc] at h;simp [allIntZ] at h
theorem esLt {es:Array MapEntry} {j n:Nat} {e:MapEntry} (hs:es.size=n) (h:es[j]?=some e):j<n:=by rw [←hs];exact (Array.getElem?_eq_some_iff.1 h).1
theorem commaS_ok {co:Bool} {s:SV} {v:Value} {b:Bool} (h:Rv g s v):Rv g (commaS co s b) (if co=true then .tuple #[v,.bool b] else v):=by
 cases co with
 |false=>exact h
 |true=>simp only [commaS,cond_true,if_true,Rv,Rvs];exact ⟨_,rfl,_,_,rfl,h,_,_,rfl,rfl,rfl⟩
theorem lookup_ok (hT:TabOk P T) (hg:g.glob) (he:EnvOk g vs a) (hH:Holds g vs.heap w) {o:Oper} {ty:TypeId} {x y:Operand} {co:Bool} {m k:SV} {ti:TI} (ho:o.op= .lookup ty x y co) (hx:gv vs x=some m) (hy:gv vs y=some k) (hti:aget T ty=some ti) (hk8:Nat.beq ti.kind 8=true) (h:(lookupR vs ti m k co).is r U b t):EffOk P a o w g vs.heap nx r U b:=by
 obtain ⟨kt,et,hu,hez,hega,hlen,hflat,hik,hbld⟩:=map_of (hT _ _ hti) hk8
 have hkv:=gv_ok hg he hy
 have hmv:=gv_ok hg he hx
 unfold lookupR at h
 split at h
 ·
  split at h
  ·rename_i z hz
   cases hb:ti.bld with
   |false=>rw [hb] at h;exact h.elim
   |true=>
    rw [hb] at h
    simp only [Bool.not_true,cond_false] at h
    split at h
    ·rename_i i0 hi0
     obtain ⟨rfl,rfl,rfl,_⟩:=h
     obtain ⟨zv,hz1,hz2,hz3⟩:=zero_run (hbld hb)
     have hM:MapOk g (!Nat.beq ti.len 3&& !Nat.beq ti.len 2) ti.ega 0 (bif Nat.beq ti.len 3 then [.strs []] else bif Nat.beq ti.len 2 then [.ints ti.ik []] else [.strs [],.strs []]) [] [] 0 #[]:=
      ⟨rfl,by intro c hc;cases h3:Nat.beq ti.len 3<;>cases h2:Nat.beq ti.len 2<;>simp [h3,h2] at hc<;>(try rcases hc with rfl|rfl)<;>(try subst hc)<;>rfl,by simp,rfl,List.nodup_nil,by simp,by simp⟩
     have K:=key_run (P:=P) (ty:=ty) (e:=et) hlen hflat hik hM hkv hi0
     have hzr:Rv g z zv:=by
      unfold zeroS at hz
      rw [hega,hez] at hz
      rcases hz3 with ⟨ha,cs,rfl⟩|⟨ha,hc⟩
      ·rw [ha] at hz
       simp only [Option.some.injEq] at hz
       subst hz
       rw [hz2]
       simp only [Rv]
       exact ⟨cs,rfl,by simpa [Value.cells] using cvs_ok g cs.toList⟩
      ·rw [ha,hz2,hc] at hz
       simp only [List.map_cons,List.map_nil,Option.some.injEq] at hz
       subst hz
       exact cv_ok g zv
     refine look_ok hH (commaS_ok (co:=co) (b:=false) hzr) (fun o' ho'=> ?_)
     have hf:=K.find w
     simp only [List.getElem?_nil,Option.map_none] at hf
     rw [ho] at ho'
     simp [execOp,ho',Instr.lookup,run_underlying hu,rnm hmv,K.check w,hf,hz1]
    ·exact h.elim
  ·exact h.elim
 ·rename_i hh q
  obtain ⟨ro,bl,hent,h⟩:=onBlk_ok h
  split at h
  ·rename_i ka ea n ks vl bs ck
   split at h
   ·rename_i i hi
    replace h:=bif_is h
    obtain ⟨hc,h⟩:=h
    obtain ⟨rfl,rfl,rfl,_⟩:=h
    simp only [Bool.and_eq_true] at hc
    obtain ⟨hb,hzz⟩:=hc
    obtain ⟨β,hβ,hB⟩:=hH.blk _ _ _ _ hent
    obtain ⟨β',hβ',hpv⟩:=rmv hmv
    rw [hβ] at hβ';cases hβ'
    obtain ⟨_,_,es,hes,hM⟩:=hB.obj
    have K:=key_run (P:=P) (ty:=ty) (e:=et) hlen hflat hik hM hkv hi
    obtain ⟨zv,hz1,hz2,hz3⟩:=zero_run (hbld hb)
    by_cases hlt:i<n
    ·obtain ⟨e0,he0⟩:∃e0,es[i]?=some e0:=⟨es[i]'(by rw [hM.size];exact hlt),Array.getElem?_eq_getElem _⟩
     rw [decide_eq_true hlt]
     refine look_ok hH (commaS_ok (co:=co) (b:=true) (found_in hlt (hM.row i e0 he0).2.2)) (fun o' ho'=> ?_)
     have hf:=K.find w
     have:es.toList[i]?=some e0:=by simpa using he0
     rw [this] at hf
     rw [ho] at ho'
     simp [execOp,ho',Instr.lookup,run_underlying hu,hpv,MapKept.run_getObj_map hes,K.check w,hf]
    ·have hin:i=n:=by have:=K.le;omega
     subst hin
     rw [decide_eq_false hlt]
     have hzr:Rv g (foundS ea i vl i) zv:=by
      rw [Bool.or_eq_true] at hzz
      rcases hzz with hzz|hzz
      case inr=>
       obtain ⟨rfl,hga,k0,rows,rfl,hzs⟩:=arrZ_ok hzz
       have hl0:rows.length=i:=hM.vl (.arrs ti.ez.length k0 rows) (by simp)
       rcases hz3 with ⟨ha,cs,rfl⟩|⟨ha,hc⟩
       ·have hez2:ti.ez=cs.toList.map cv:=by rw [hez,hz2];rfl
        rw [hez2] at hzs⊢
        have hat:=allIntZ_ok _ hzs
        show Rv g (.arr (cs.toList.map cv).length [.ints k0 (rows.getD i (List.replicate (cs.toList.map cv).length 0))]) (.agg cs)
        rw [List.getD,List.getElem?_eq_none (by omega),List.length_map,Array.length_toList]
        simp only [Rv]
        refine ⟨cs,rfl,by simp,?_,?_⟩
        ·intro c hc
         simp only [List.mem_singleton] at hc
         subst hc
         simp [Col.len]
        ·intro j0 j1 c hj0 hj1
         cases j1 with
         |zero=>
          simp only [nth,Option.some.injEq] at hj1
          subst hj1
          simp only [List.length_singleton,Nat.mul_one,Nat.add_zero]
          have hs:cs[j0]?=some (cs[j0]'hj0):=Array.getElem?_eq_getElem hj0
          have:=hat j0 (cs[j0]'hj0) (by rw [Array.getElem?_toList];exact hs)
          rw [hs,this]
          simp [Col.val,List.getD,hj0]
         |succ j1=>simp [nth] at hj1
       ·rw [hega,ha] at hga;cases hga
      rw [Bool.and_eq_true] at hzz
      obtain ⟨hzo,hea⟩:=hzz
      have hea':ea=ti.ega:=by
       cases ea<;>cases hq:ti.ega<;>rw [hq] at hea<;>first|rfl|cases hea
      simp only [Bool.or_eq_true] at hzo
      rcases hzo with hzo|hzo
      case inr=>
       simp only [Bool.and_eq_true,Bool.not_eq_true'] at hzo
       have hef:=hzo.1
       subst hef
       rcases ownZ_ok hzo.2 with ⟨hh,ns,rfl,hez1⟩|⟨hh,ns,rfl,hez1⟩
       all_goals
        rcases hz3 with ⟨ha,cs,rfl⟩|⟨ha,hc⟩
        ·rw [hega,ha] at hea';cases hea'
        ·rw [hez,hz2,hc] at hez1
         simp only [List.map_cons,List.map_nil,List.cons.injEq,and_true] at hez1
         simp only [foundS,decide_eq_false (Nat.lt_irrefl i),cond_false]
         rw [←hez1]
         exact cv_ok g zv
      rw [zOk_found hzo]
      have hat:=zOk_at vl ti.ez hzo hM.vl
      subst hea'
      rcases hz3 with ⟨ha,cs,rfl⟩|⟨ha,hc⟩
      ·rw [hega,ha]
       simp only [elemS,hat,hez,hz2,Rv]
       exact ⟨cs,rfl,by simpa [Value.cells] using cvs_ok g cs.toList⟩
      ·rw [hega,ha]
       rw [hez,hz2,hc] at hat
       simp only [List.map_cons,List.map_nil] at hat
       match vl,hat with
       | [c],hat=>
         simp only [bcolsAt,List.cons.injEq,and_true] at hat
         simp only [elemS,hat]
         exact cv_ok g zv
       | [],hat=>simp [bcolsAt] at hat
       |_::_::_,hat=>simp [bcolsAt] at hat
     refine look_ok hH (commaS_ok (co:=co) (b:=false) hzr) (fun o' ho'=> ?_)
     have hf:=K.find w
     have:es.toList[i]?=none:=List.getElem?_eq_none (by simp [hM.size])
     rw [this] at hf
     rw [ho] at ho'
     simp [execOp,ho',Instr.lookup,run_underlying hu,hpv,MapKept.run_getObj_map hes,K.check w,hf,hz1]
   ·exact h.elim
  ·exact h.elim
 ·exact h.elim
theorem putL_len {α:Type} (i:Nat) (x:α) (l:List α):(putL i x l).length=if i<l.length then l.length else l.length+1:=by
 unfold putL;split<;>simp
theorem putL_getD {α:Type} (i j:Nat) (x d:α) (l:List α) (h:i≤l.length):(putL i x l).getD j d=if j=i then x else l.getD j d:=by
 unfold putL
 split
 ·rename_i hlt
  simp only [List.getD,List.getElem?_set]
  by_cases e:i=j
  ·subst e;simp [hlt]
  ·have:¬j=i:=fun h=>e h.symm
   simp [e,this]
 ·have hi:i=l.length:=by omega
  subst hi
  simp only [List.getD]
  rcases Nat.lt_trichotomy j l.length with h1|h1|h1
  ·rw [List.getElem?_append_left h1,if_neg (by omega)]
  ·subst h1;simp
  ·rw [List.getElem?_append_right (by omega),if_neg (by omega),List.getElem?_eq_none (by simp;omega),List.getElem?_eq_none (by omega)]
theorem putCol_ok {i:Nat} {c d:Col} {v:SV} {n:Nat} (h:putCol i c v=some d) (hc:c.len=n) (hi:i≤n):d.len=(if i<n then n else n+1)∧d.at i=v∧(∀j,j≠i→d.at j=c.at j∧d.val j=c.val j)∧∀x,Rv g v x→d.val i=x:=by
 subst hc
 cases c with
 |ints k l=>
  cases v with
  |int p x=>
   simp only [putCol] at h
   cases hk:ikEq p k with
   |false=>rw [hk] at h;cases h
   |true=>
    rw [hk] at h
    simp only [cond_true,Option.some.injEq] at h
    subst h
    have:=ikEq_ok hk;subst this
    have hp:=fun j d=>putL_getD i j x d l hi
    refine ⟨putL_len _ _ _,by simp only [Col.at,hp,if_true],fun j hj=>by simp only [Col.at,Col.val,hp,if_neg hj];exact ⟨trivial,trivial⟩,fun y hy=>by rw [riv hy];simp only [Col.val,hp,if_true]⟩
  |_=>simp [putCol] at h
 |strs l=>
  cases v with
  |str x=>
   simp only [putCol,Option.some.injEq] at h
   subst h
   have hp:=fun j d=>putL_getD i j x d l hi
   refine ⟨putL_len _ _ _,by simp only [Col.at,hp,if_true],fun j hj=>by simp only [Col.at,Col.val,hp,if_neg hj];exact ⟨trivial,trivial⟩,fun y hy=>by rw [rtv hy];simp only [Col.val,hp,if_true]⟩
  |_=>simp [putCol] at h
 |bools l=>
  cases v with
  |bool x=>
   simp only [putCol,Option.some.injEq] at h
   subst h
   have hp:=fun j d=>putL_getD i j x d l hi
   refine ⟨putL_len _ _ _,by simp only [Col.at,hp,if_true],fun j hj=>by simp only [Col.at,Col.val,hp,if_neg hj];exact ⟨trivial,trivial⟩,fun y hy=>by rw [rbv hy];simp only [Col.val,hp,if_true]⟩
  |_=>simp [putCol] at h
theorem putKeys_ok {i n:Nat} (hi:i≤n):∀(ks:List Col) (kc:List SV) (ks':List Col),putKeys i ks kc=some ks'→(∀c∈ks,c.len=n)→
  ks'.length=ks.length∧(∀c∈ks',c.len=(if i<n then n else n+1))∧(∀j,j≠i→colVals ks' j=colVals ks j)∧∀xs,Rvs g kc xs→colVals ks' i=xs
 | [],[],ks',h,_=>by
   simp only [putKeys,Option.some.injEq] at h;subst h
   exact ⟨rfl,by simp,fun _ _=>rfl,fun xs hx=>by simp only [Rvs] at hx;subst hx;rfl⟩
 | [],_::_,ks',h,_=>by simp [putKeys] at h
 |_::_,[],ks',h,_=>by simp [putKeys] at h
 |c::l,v::m,ks',h,hl=>by
  simp only [putKeys] at h
  split at h
  ·rename_i d r' hd hr'
   simp only [Option.some.injEq] at h
   subst h
   obtain ⟨a1,a2,a3,a4⟩:=putCol_ok (g:=g) hd (hl c (by simp)) hi
   obtain ⟨b0,b1,b2,b3⟩:=putKeys_ok hi l m r' hr' (fun c hc=>hl c (by simp [hc]))
   refine ⟨by simp [b0],?_,fun j hj=>by simp only [colVals,(a3 j hj).2,b2 j hj],?_⟩
   ·intro c hc
    rcases List.mem_cons.1 hc with rfl|hc
    ·exact a1
    ·exact b1 c hc
   ·intro xs hx
    simp only [Rvs] at hx
    obtain ⟨x,ys,rfl,h1,h2⟩:=hx
    simp only [colVals,a4 x h1,b3 ys h2]
  ·cases h
theorem putVals_ok {i n:Nat} (hi:i≤n):∀(vl:List BCol) (vc:List SV) (vl':List BCol),putVals i vl vc=some vl'→(∀c∈vl,c.len=n)→
  vl'.length=vl.length∧(∀c∈vl',c.len=(if i<n then n else n+1))∧(∀j,j≠i→j<n→bcolsAt vl' j=bcolsAt vl j)∧bcolsAt vl' i=vc
 | [],[],vl',h,_=>by
   simp only [putVals,Option.some.injEq] at h;subst h
   exact ⟨rfl,by simp,fun _ _ _=>rfl,rfl⟩
 | [],_::_,vl',h,_=>by simp [putVals] at h
 |_::_,[],vl',h,_=>by simp [putVals] at h
 |c::l,v::m,vl',h,hl=>by
  simp only [putVals] at h
  split at h
  ·rename_i d r' hd hr'
   simp only [Option.some.injEq] at h
   subst h
   obtain ⟨b0,b1,b2,b3⟩:=putVals_ok hi l m r' hr' (fun c hc=>hl c (by simp [hc]))
   have hc:=hl c (by simp)
   have key:d.len=(if i<n then n else n+1)∧d.at i=v∧∀j,j≠i→j<n→d.at j=c.at j:=by
    cases c with
    |sc c=>
     simp only [putVal] at hd
     split at hd
     ·rename_i d' hd'
      simp only [Option.some.injEq] at hd
      subst hd
      obtain ⟨a1,a2,a3,_⟩:=putCol_ok (g:=fun _ _=>none) hd' hc hi
      exact ⟨a1,a2,fun j hj _=>(a3 j hj).1⟩
     ·cases hd
    |svs xs=>
     simp only [putVal,Option.some.injEq] at hd
     subst hd
     have hc':xs.length=n:=hc
     subst hc'
     have hp:=fun j d=>putL_getD i j v d xs hi
     exact ⟨putL_len _ _ _,by simp only [BCol.at,hp,if_true],fun j hj _=>by simp only [BCol.at,hp,if_neg hj]⟩
    |arrs n0 k0 xs=>
     have hc':xs.length=n:=hc
     subst hc'
     unfold putVal at hd
     split at hd
     ·rename_i e1;cases e1
     ·rename_i e1;cases e1
     ·rename_i e1;cases e1
     ·rename_i e1;cases e1
     ·rename_i n1 k1 rows m1 p1 x1 e1
      cases e1
      cases hb:(Nat.beq m1 n0&&ikEq p1 k0) with
      |false=>rw [hb] at hd;cases hd
      |true=>
       rw [hb] at hd
       simp only [cond_true,Option.some.injEq] at hd
       subst hd
       rw [Bool.and_eq_true] at hb
       have g1:=Nat.eq_of_beq_eq_true hb.1
       have g2:=ikEq_ok hb.2
       subst g1
       subst g2
       have hp:=fun j d=>putL_getD i j x1 d xs hi
       exact ⟨putL_len _ _ _,by simp only [BCol.at,hp,if_true],fun j hj _=>by simp only [BCol.at,hp,if_neg hj]⟩
     ·cases hd
    |own hh xs=>
     simp only [putVal,Option.some.injEq] at hd
     subst hd
     have hc':xs.length=n:=hc
     subst hc'
     have hp:=fun j d=>putL_getD i j v d (ownL hh xs) (by rw [ownL_len];exact hi)
     exact ⟨by rw [←ownL_len hh xs];exact putL_len _ _ _,by simp only [BCol.at,hp,if_true],fun j hj hjn=>by simp only [BCol.at,hp,if_neg hj];exact ownL_at hjn⟩
    |ptrs hh n0=>
     simp only [putVal,Option.some.injEq] at hd
     subst hd
     have hc':n0=n:=hc
     subst hc'
     have hp:=fun j d=>putL_getD i j v d (ptrL hh n0) (by rw [ptrL_len];exact hi)
     exact ⟨by have:=putL_len i v (ptrL hh n0);rw [ptrL_len] at this;exact this,by simp only [BCol.at,hp,if_true],fun j hj hjn=>by simp only [BCol.at,hp,if_neg hj];exact ptrL_at hjn⟩
   refine ⟨by simp [b0],?_,fun j hj hjn=>by simp only [bcolsAt,key.2.2 j hj hjn,b2 j hj hjn],by simp only [bcolsAt,key.2.1,b3]⟩
   intro c' hc'
   rcases List.mem_cons.1 hc' with rfl|hc'
   ·exact key.1
   ·exact b1 c' hc'
  ·cases h
theorem elemS_congr {ea:Bool} {vl vl':List BCol} {i j:Nat} (hl:vl'.length=vl.length) (h:bcolsAt vl' j=bcolsAt vl i):elemS ea vl' j=elemS ea vl i:=by
 cases ea with
 |true=>simp only [elemS,h]
 |false=>
  match vl,vl',hl,h with
  | [],[],_,_=>rfl
  | [c],[d],_,h=>simp only [bcolsAt,List.cons.injEq,and_true] at h;simp only [elemS,h]
  |_::_::_,_::_::_,_,_=>rfl
theorem keyV_congr {ka:Bool} {ks ks':List Col} {i j:Nat} (hl:ks'.length=ks.length) (h:colVals ks' j=colVals ks i):keyV ka ks' j=keyV ka ks i:=by
 cases ka with
 |true=>simp only [keyV,h]
 |false=>
  match ks,ks',hl,h with
  | [],[],_,_=>rfl
  | [c],[d],_,h=>simp only [colVals,List.cons.injEq,and_true] at h;simp only [keyV,h]
  |_::_::_,_::_::_,_,_=>rfl
theorem elemS_of {ea:Bool} {v:SV} {vc:List SV} {vl:List BCol} {i:Nat} (h:aggCells ea v=some vc) (hb:bcolsAt vl i=vc):elemS ea vl i=v:=by
 cases ea with
 |true=>
  cases v<;>simp [aggCells] at h
  subst h;simp only [elemS,hb]
 |false=>
  simp only [aggCells] at h
  cases ho:(v.one||isArr v) with
  |false=>rw [ho] at h;cases h
  |true=>
   rw [ho] at h
   simp only [cond_true,Option.some.injEq] at h
   subst h
   match vl,hb with
   | [c],hb=>simp only [bcolsAt,List.cons.injEq,and_true] at hb;simp only [elemS,hb]
theorem keyV_of {ka:Bool} {key:SV} {kv:Value} {kc:List SV} {ks:List Col} {i:Nat} (h:aggCells ka key=some kc) (hr:Rv g key kv) (hb:∀xs,Rvs g kc xs→colVals ks i=xs):keyV ka ks i=kv:=by
 cases ka with
 |true=>
  cases key<;>simp [aggCells] at h
  subst h
  obtain ⟨xs,rfl,hx⟩:=rav hr
  simp only [keyV,hb _ hx]
 |false=>
  simp only [aggCells] at h
  cases ho:(key.one||isArr key) with
  |false=>rw [ho] at h;cases h
  |true=>
   rw [ho] at h
   simp only [cond_true,Option.some.injEq] at h
   subst h
   have:=hb [kv] (by simp only [Rvs];exact ⟨_,_,rfl,hr,rfl⟩)
   match ks,this with
   | [c],this=>simp only [colVals,List.cons.injEq,and_true] at this;simp only [keyV,this]
theorem objAt {β:Base} {o:ObjS} {w':World} (hes:β.es=0) (hcap:0<β.cap) (hoff:β.off=0) (hlt:β.blk<w'.heap.size) (h:o.Ok g w' β):BlkAt g β false (.obj o) w':=
 ⟨fun _=>hlt,hes,trivial,fun i hi=>hi.elim,fun i j sv hi=>hi.elim,fun i j v hi=>hi.elim,fun _ i j _ hj=>by omega,⟨hcap,hoff,h⟩⟩
theorem update_ok (hT:TabOk P T) (hg:g.glob) (he:EnvOk g vs a) (hH:Holds g vs.heap w) {o:Oper} {ty:TypeId} {x y z:Operand} {m k v:SV} {ti:TI} (ho:o.op= .mapUpdate ty x y z) (hx:gv vs x=some m) (hy:gv vs y=some k) (hz:gv vs z=some v) (hti:aget T ty=some ti) (hk8:Nat.beq ti.kind 8=true) (h:(updateR vs ti m k v).is r U b t):EffOk P a o w g vs.heap nx r U b:=by
 obtain ⟨kt,et,hu,hez,hega,hlen,hflat,hik,hbld⟩:=map_of (hT _ _ hti) hk8
 have hkv:=gv_ok hg he hy
 have hmv:=gv_ok hg he hx
 have hvv:=gv_ok hg he hz
 unfold updateR at h
 split at h
 ·rename_i hh q
  obtain ⟨ro,bl,hent,h⟩:=onBlk_ok h
  split at h
  ·rename_i ka ea n ks vl bs ck
   split at h
   ·rename_i i kc vc hi hkc hvc
    split at h
    ·rename_i ks' vl' hks hvl
     obtain ⟨rfl,rfl,rfl,_⟩:=h
     obtain ⟨β,hβ,hB⟩:=hH.blk _ _ _ _ hent
     obtain ⟨β',hβ',hpv⟩:=rmv hmv
     rw [hβ] at hβ';cases hβ'
     obtain ⟨hcap,hoff,es,hes,hM⟩:=hB.obj
     have K:=key_run (P:=P) (ty:=ty) (e:=et) hlen hflat hik hM hkv hi
     obtain ⟨c0,c1,c2,c3⟩:=putKeys_ok (g:=g) K.le ks kc ks' hks hM.kl
     obtain ⟨d0,d1,d2,d3⟩:=putVals_ok K.le vl vc vl' hvl hM.vl
     have hkey:=keyV_of hkc hkv c3
     have helem:=elemS_of hvc d3
     have hblk:β.blk<w.heap.size:=hB.lt hcap
     have hset:=MapKept.heap_set (o':=Obj.map es ck) hes
     have fin:∀(es':Array MapEntry) (bs':List Nat) (ck' n':Nat),MapOk g ka ea n' ks' vl' bs' ck' es'→(Instr.mapUpdate ty (a.eval x) (a.eval y) (a.eval z)).run P w= .ok () { w with heap:=w.heap.setIfInBounds β.blk (.map es' ck')}→
       EffOk P a o w g vs.heap nx (.raw undef) (setBlk vs.heap hh q (.obj (.map ka ea n' ks' vl' bs' ck'))) 0:=by
      intro es' bs' ck' n' hM' hrun
      obtain ⟨k1,k2⟩:=MapKept.heap_set (o':=Obj.map es' ck') hes
      refine ⟨undef,{ w with heap:=w.heap.setIfInBounds β.blk (.map es' ck')},g,.inr ⟨?_,rfl⟩,after_set hH hent hβ hcap (by simp only [Rv]) (objAt hB.es hcap hoff (by simpa using hblk) ⟨es',k1,hM'⟩) rfl rfl rfl (by simp) (fun k _ hk=>k2 k hk)⟩
      simp [execOp,ho,hrun]
     by_cases hlt:i<n
     ·obtain ⟨e0,he0⟩:∃e0,es[i]?=some e0:=⟨es[i]'(by rw [hM.size];exact hlt),Array.getElem?_eq_getElem _⟩
      have hsame:=K.same e0 he0
      rw [if_pos hlt] at c1 d1
      rw [if_pos hlt,if_pos hlt,if_pos hlt]
      refine fin (es.modify i fun e=> { e with key:=a.eval y,val:=a.eval z}) bs ck n ⟨by simpa using hM.size,c1,d1,hM.bl,hM.nd,hM.lt,?_⟩ ?_
      ·intro j e hj
       by_cases e1:j=i
       ·subst e1
        rw [Array.getElem?_modify,if_pos rfl,he0] at hj
        simp only [Option.map_some,Option.some.injEq] at hj
        subst hj
        exact ⟨(hM.row j e0 he0).1,hkey.symm,by rw [helem];exact hvv⟩
       ·rw [Array.getElem?_modify,if_neg (fun h=>e1 h.symm)] at hj
        obtain ⟨r1,r2,r3⟩:=hM.row j e hj
        exact ⟨r1,by rw [keyV_congr c0 (c2 j e1)];exact r2,by rw [elemS_congr d0 (d2 j e1 (esLt hM.size hj))];exact r3⟩
      ·have hf:=K.find w
       have h1:es.toList[i]?=some e0:=by simpa using he0
       rw [h1] at hf
       simp [Instr.mapUpdate,run_underlying hu,hpv,MapKept.run_getObj_map hes,K.check w,hf,he0,hsame,K.stays w,MapKept.run_setObj_map _ hes,Result.andThen]
     ·have hin:i=n:=by have:=K.le;omega
      subst hin
      rw [if_neg hlt] at c1 d1
      rw [if_neg hlt,if_neg hlt,if_neg hlt]
      refine fin (es.push { key:=a.eval y,val:=a.eval z,born:=ck}) (bs++ [ck]) (ck+1) (i+1) ⟨by simp [hM.size],c1,d1,by simp [hM.bl],?_,?_,?_⟩ ?_
      ·rw [List.nodup_append]
       refine ⟨hM.nd,by simp,?_⟩
       intro p hp q hq
       simp only [List.mem_singleton] at hq
       subst hq
       have:=hM.lt p hp
       omega
      ·intro p hp
       simp only [List.mem_append,List.mem_singleton] at hp
       rcases hp with hp|rfl
       ·have:=hM.lt p hp;omega
       ·omega
      ·intro j e hj
       by_cases e1:j=i
       ·subst e1
        rw [Array.getElem?_push,if_pos hM.size.symm] at hj
        simp only [Option.some.injEq] at hj
        subst hj
        refine ⟨?_,hkey.symm,by rw [helem];exact hvv⟩
        rw [List.getD,List.getElem?_append_right (by rw [hM.bl];exact Nat.le_refl _),hM.bl];simp
       ·have hjl:j<i:=by
         have:=(Array.getElem?_eq_some_iff.1 hj).1
         simp [hM.size] at this;omega
        rw [Array.getElem?_push_lt (by rw [hM.size];exact hjl)] at hj
        have hj':es[j]?=some e:=by rw [Array.getElem?_eq_getElem (by rw [hM.size];exact hjl)];exact hj
        obtain ⟨r1,r2,r3⟩:=hM.row j e hj'
        refine ⟨?_,by rw [keyV_congr c0 (c2 j e1)];exact r2,by rw [elemS_congr d0 (d2 j e1 hjl)];exact r3⟩
        rw [r1,List.getD,List.getD,List.getElem?_append_left (by rw [hM.bl];exact hjl)]
      ·have hf:=K.find w
       have h1:es.toList[i]?=none:=List.getElem?_eq_none (by simp [hM.size])
       rw [h1] at hf
       simp [Instr.mapUpdate,run_underlying hu,hpv,MapKept.run_getObj_map hes,K.check w,hf,MapKept.run_setObj_map _ hes,Result.andThen]
    ·exact h.elim
   ·exact h.elim
  ·exact h.elim
 ·exact h.elim
theorem mapEntry_ok (hT:TabOk P T) (hg:g.glob) (he:EnvOk g vs a) (hH:Holds g vs.heap w) {o:Oper} {ty:TypeId} {x y:Operand} {m k:SV} {ti:TI} (ho:o.op= .mapEntry ty x y) (hx:gv vs x=some m) (hy:gv vs y=some k) (hti:aget T ty=some ti) (hk8:Nat.beq ti.kind 8=true) (h:(mapEntryR vs ti m k).is r U b t):EffOk P a o w g vs.heap nx r U b:=by
 obtain ⟨kt,et,hu,hez,hega,hlen,hflat,hik,hbld⟩:=map_of (hT _ _ hti) hk8
 have hkv:=gv_ok hg he hy
 have hmv:=gv_ok hg he hx
 unfold mapEntryR at h
 split at h
 ·rename_i hh q
  obtain ⟨ro,bl,hent,h⟩:=onBlk_ok h
  split at h
  ·rename_i ka ea n ks vl bs ck
   split at h
   ·rename_i i kc hi hkc
    split at h
    ·rename_i vc hvc
     split at h
     ·rename_i ks' vl' hks hvl
      replace h:=bif_is h
      obtain ⟨hc,h⟩:=h
      obtain ⟨rfl,rfl,rfl,_⟩:=h
      simp only [Bool.and_eq_true] at hc
      obtain ⟨⟨hb,hzo⟩,hea⟩:=hc
      obtain ⟨zv,hz1,hz2,hz3⟩:=zero_run (hbld hb)
      have hea':ea=ti.ega:=by
       cases ea<;>cases hq:ti.ega<;>rw [hq] at hea<;>first|rfl|cases hea
      obtain ⟨β,hβ,hB⟩:=hH.blk _ _ _ _ hent
      obtain ⟨β',hβ',hpv⟩:=rmv hmv
      rw [hβ] at hβ';cases hβ'
      obtain ⟨hcap,hoff,es,hes,hM⟩:=hB.obj
      have K:=key_run (P:=P) (ty:=ty) (e:=et) hlen hflat hik hM hkv hi
      obtain ⟨c0,c1,c2,c3⟩:=putKeys_ok (g:=g) K.le ks kc ks' hks hM.kl
      obtain ⟨d0,d1,d2,d3⟩:=putVals_ok K.le vl vc vl' hvl hM.vl
      have hkey:=keyV_of hkc hkv c3
      have helem:=elemS_of hvc d3
      have hblk:β.blk<w.heap.size:=hB.lt hcap
      have fin:∀(es':Array MapEntry) (bs':List Nat) (ck' n':Nat) (v:Value) (st:Nat),MapOk g ka ea n' ks' vl' bs' ck' es'→Rv g (elemS ea vl i) v→(Instr.mapEntry ty (a.eval x) (a.eval y)).run P w= .ok (.tuple #[v,goInt st]) { w with heap:=w.heap.setIfInBounds β.blk (.map es' ck')}→
        EffOk P a o w g vs.heap nx (.tup [elemS ea vl i,.int .i64 (st:Int)]) (setBlk vs.heap hh q (.obj (.map ka ea n' ks' vl' bs' ck'))) 0:=by
       intro es' bs' ck' n' v st hM' hv hrun
       obtain ⟨k1,k2⟩:=MapKept.heap_set (o':=Obj.map es' ck') hes
       refine ⟨.tuple #[v,goInt st],{ w with heap:=w.heap.setIfInBounds β.blk (.map es' ck')},g,.inl ?_,after_set hH hent hβ hcap (by simp only [Rv,Rvs];exact ⟨_,rfl,_,_,rfl,hv,_,_,rfl,rfl,rfl⟩) (objAt hB.es hcap hoff (by simpa using hblk) ⟨es',k1,hM'⟩) rfl rfl rfl (by simp) (fun k _ hk=>k2 k hk)⟩
       simp [execOp,ho,hrun]
      by_cases hlt:i<n
      ·obtain ⟨e0,he0⟩:∃e0,es[i]?=some e0:=⟨es[i]'(by rw [hM.size];exact hlt),Array.getElem?_eq_getElem _⟩
       have hsame:=K.same e0 he0
       obtain ⟨r1,r2,r3⟩:=hM.row i e0 he0
       rw [if_pos hlt] at c1 d1
       rw [if_pos hlt,if_pos hlt,if_pos hlt,if_pos hlt]
       refine fin (es.modify i fun e=> { e with key:=a.eval y}) bs ck n e0.val (bs.getD i 0) ⟨by simpa using hM.size,c1,d1,hM.bl,hM.nd,hM.lt,?_⟩ r3 ?_
       ·intro j e hj
        by_cases e1:j=i
        ·subst e1
         rw [Array.getElem?_modify,if_pos rfl,he0] at hj
         simp only [Option.map_some,Option.some.injEq] at hj
         subst hj
         exact ⟨r1,hkey.symm,by rw [helem];exact r3⟩
        ·rw [Array.getElem?_modify,if_neg (fun h=>e1 h.symm)] at hj
         obtain ⟨s1,s2,s3⟩:=hM.row j e hj
         exact ⟨s1,by rw [keyV_congr c0 (c2 j e1)];exact s2,by rw [elemS_congr d0 (d2 j e1 (esLt hM.size hj))];exact s3⟩
       ·have hf:=K.find w
        have h1:es.toList[i]?=some e0:=by simpa using he0
        rw [h1] at hf
        rw [←r1]
        simp [Instr.mapEntry,run_underlying hu,hpv,MapKept.run_getObj_map hes,K.check w,hf,he0,hsame,K.stays w,MapKept.run_setObj_map _ hes,Result.andThen]
      ·have hin:i=n:=by have:=K.le;omega
       subst hin
       have hzr:Rv g (elemS ea vl i) zv:=by
        have hat:=zOk_at vl ti.ez hzo hM.vl
        subst hea'
        rcases hz3 with ⟨ha,cs,rfl⟩|⟨ha,hc⟩
        ·rw [hega,ha]
         simp only [elemS,hat,hez,hz2,Rv]
         exact ⟨cs,rfl,by simpa [Value.cells] using cvs_ok g cs.toList⟩
        ·rw [hega,ha]
         rw [hez,hz2,hc] at hat
         simp only [List.map_cons,List.map_nil] at hat
         match vl,hat with
         | [c],hat=>
           simp only [bcolsAt,List.cons.injEq,and_true] at hat
           simp only [elemS,hat]
           exact cv_ok g zv
         | [],hat=>simp [bcolsAt] at hat
         |_::_::_,hat=>simp [bcolsAt] at hat
       rw [if_neg hlt] at c1 d1
       rw [if_neg hlt,if_neg hlt,if_neg hlt,if_neg hlt]
       refine fin (es.push { key:=a.eval y,val:=zv,born:=ck}) (bs++ [ck]) (ck+1) (i+1) zv ck ⟨by simp [hM.size],c1,d1,by simp [hM.bl],?_,?_,?_⟩ hzr ?_
       ·rw [List.nodup_append]
        refine ⟨hM.nd,by simp,?_⟩
        intro p hp q hq
        simp only [List.mem_singleton] at hq
        subst hq
        have:=hM.lt p hp
        omega
       ·intro p hp
        simp only [List.mem_append,List.mem_singleton] at hp
        rcases hp with hp|rfl
        ·have:=hM.lt p hp;omega
        ·omega
       ·intro j e hj
        by_cases e1:j=i
        ·subst e1
         rw [Array.getElem?_push,if_pos hM.size.symm] at hj
         simp only [Option.some.injEq] at hj
         subst hj
         refine ⟨?_,hkey.symm,by rw [helem];exact hzr⟩
         rw [List.getD,List.getElem?_append_right (by rw [hM.bl];exact Nat.le_refl _),hM.bl];simp
        ·have hjl:j<i:=by
          have:=(Array.getElem?_eq_some_iff.1 hj).1
          simp [hM.size] at this;omega
         rw [Array.getElem?_push_lt (by rw [hM.size];exact hjl)] at hj
         have hj':es[j]?=some e:=by rw [Array.getElem?_eq_getElem (by rw [hM.size];exact hjl)];exact hj
         obtain ⟨s1,s2,s3⟩:=hM.row j e hj'
         refine ⟨?_,by rw [keyV_congr c0 (c2 j e1)];exact s2,by rw [elemS_congr d0 (d2 j e1 hjl)];exact s3⟩
         rw [s1,List.getD,List.getD,List.getElem?_append_left (by rw [hM.bl];exact hjl)]
       ·have hf:=K.find w
        have h1:es.toList[i]?=none:=List.getElem?_eq_none (by simp [hM.size])
        rw [h1] at hf
        simp [Instr.mapEntry,run_underlying hu,hpv,MapKept.run_getObj_map hes,K.check w,hf,hz1,MapKept.run_setObj_map _ hes,Result.andThen]
     ·exact h.elim
    ·exact h.elim
   ·exact h.elim
  ·exact h.elim
 ·exact h.elim
theorem entryStore_ok (hg:g.glob) (he:EnvOk g vs a) (hH:Holds g vs.heap w) {o:Oper} {ty:TypeId} {x y z:Operand} {m k v:SV} (ho:o.op= .entryStore ty x y z) (hx:gv vs x=some m) (hy:gv vs y=some k) (hz:gv vs z=some v) (h:(entryStoreR vs m k v).is r U b t):EffOk P a o w g vs.heap nx r U b:=by
 have hkv:=gv_ok hg he hy
 have hmv:=gv_ok hg he hx
 have hvv:=gv_ok hg he hz
 unfold entryStoreR at h
 split at h
 ·rename_i hh q st
  obtain ⟨ro,bl,hent,h⟩:=onBlk_ok h
  split at h
  ·rename_i ka ea n ks vl bs ck
   split at h
   ·rename_i vc hvc
    split at h
    ·rename_i vl' hvl
     obtain ⟨⟨hst,hmem⟩,rfl,rfl,rfl,_⟩:=h
     obtain ⟨s,rfl⟩:=Int.eq_ofNat_of_zero_le hst
     rw [Int.toNat_natCast] at hmem hvl
     obtain ⟨β,hβ,hB⟩:=hH.blk _ _ _ _ hent
     obtain ⟨β',hβ',hpv⟩:=rmv hmv
     rw [hβ] at hβ';cases hβ'
     obtain ⟨hcap,hoff,es,hes,hM⟩:=hB.obj
     obtain ⟨i,hi⟩:∃i,i=bs.idxOf s:=⟨_,rfl⟩
     rw [←hi] at hvl
     have hlt:i<n:=by rw [hi,←hM.bl];exact List.idxOf_lt_length_of_mem hmem
     have hget:bs[i]?=some s:=by
      rw [List.getElem?_eq_getElem (by rw [hM.bl];exact hlt)]
      subst hi
      simp
     obtain ⟨d0,d1,d2,d3⟩:=putVals_ok (Nat.le_of_lt hlt) vl vc vl' hvl hM.vl
     have helem:=elemS_of hvc d3
     rw [if_pos hlt] at d1
     obtain ⟨e0,he0⟩:∃e0,es[i]?=some e0:=⟨es[i]'(by rw [hM.size];exact hlt),Array.getElem?_eq_getElem _⟩
     obtain ⟨r1,r2,r3⟩:=hM.row i e0 he0
     have hborn:e0.born=s:=by rw [r1,List.getD,hget];rfl
     have hblk:β.blk<w.heap.size:=hB.lt hcap
     have hfind:es.findIdx? (fun e=>(e.born:Int)==(s:Int))=some i:=by
      rw [Array.findIdx?_eq_some_iff_getElem]
      refine ⟨by rw [hM.size];exact hlt,?_,?_⟩
      ·have:es[i]'(by rw [hM.size];exact hlt)=e0:=by
        have:=Array.getElem?_eq_getElem (xs:=es) (i:=i) (by rw [hM.size];exact hlt)
        rw [he0] at this
        exact (Option.some.inj this).symm
       rw [this,hborn];simp
      ·intro j hj
       have hjn:j<es.size:=by rw [hM.size];omega
       have hr:=(hM.row j es[j] (Array.getElem?_eq_getElem hjn)).1
       rw [hr]
       have hne:bs.getD j 0≠s:=by
        intro hh
        rw [List.getD,List.getElem?_eq_getElem (by rw [hM.bl];omega)] at hh
        simp only [Option.getD_some] at hh
        have h2:bs[i]'(by rw [hM.bl];exact hlt)=s:=by
         rw [List.getElem?_eq_getElem (by rw [hM.bl];exact hlt)] at hget
         exact Option.some.inj hget
        have:=(List.getElem_inj hM.nd).1 (hh.trans h2.symm)
        omega
       simpa using fun h=>hne (by exact_mod_cast h)
     have hM':MapOk g ka ea n ks vl' bs ck (es.modify i fun e=> { e with val:=a.eval z}):=by
      refine ⟨by simpa using hM.size,hM.kl,d1,hM.bl,hM.nd,hM.lt,?_⟩
      intro j e hj
      by_cases e1:j=i
      ·subst e1
       rw [Array.getElem?_modify,if_pos rfl,he0] at hj
       simp only [Option.map_some,Option.some.injEq] at hj
       subst hj
       exact ⟨r1,r2,by rw [helem];exact hvv⟩
      ·rw [Array.getElem?_modify,if_neg (fun h=>e1 h.symm)] at hj
       obtain ⟨s1,s2,s3⟩:=hM.row j e hj
       exact ⟨s1,s2,by rw [elemS_congr d0 (d2 j e1 (esLt hM.size hj))];exact s3⟩
     obtain ⟨k1,k2⟩:=MapKept.heap_set (o':=Obj.map (es.modify i fun e=> { e with val:=a.eval z}) ck) hes
     refine ⟨undef,{ w with heap:=w.heap.setIfInBounds β.blk (.map (es.modify i fun e=> { e with val:=a.eval z}) ck)},g,.inr ⟨?_,rfl⟩,after_set hH hent hβ hcap (by simp only [Rv]) (objAt hB.es hcap hoff (by simpa using hblk) ⟨_,k1,hM'⟩) rfl rfl rfl (by simp) (fun k _ hk=>k2 k hk)⟩
     have hkv':a.eval y= .int .i64 (s:Int):=riv hkv
     simp [execOp,ho,Instr.entryStore,hpv,hkv',asInt,asIntOf,MapKept.run_getObj_map hes,hfind,MapKept.run_setObj_map _ hes,Result.andThen]
    ·exact h.elim
   ·exact h.elim
  ·exact h.elim
 ·exact h.elim
theorem alloc_heap (ob:Obj):(w.alloc ob).heap=w.heap.push ob:=rfl
theorem newObj_after {o:ObjS} {ob:Obj} {r:SV} {v:Value} (hH:Holds g H w) (hn:∀q,g nx q=none) (hob:o.Ok (g.add nx ⟨w.heap.size,0,0,1⟩) (w.alloc ob) ⟨w.heap.size,0,0,1⟩) (hrv:Rv (g.add nx ⟨w.heap.size,0,0,1⟩) r v):
  After g H nx w r [(nx,some (.one false (.obj o)))] 1 (g.add nx ⟨w.heap.size,0,0,1⟩) v (w.alloc ob):=
 after_new hH hn hrv (objAt rfl (by simp) rfl (by rw [alloc_heap];simp) hob) (fun _=>Nat.le_refl _) rfl rfl rfl (by rw [alloc_heap];simp) (fun k hk=>by rw [alloc_heap,Array.getElem?_push_lt hk];exact (Array.getElem?_eq_getElem hk).symm)
theorem gnew {β:Base}:(g.add nx β) nx 0=some β:=by simp [G.add]
theorem alloc_at (ob:Obj):(w.alloc ob).heap[w.heap.size]?=some ob:=by rw [alloc_heap];simp
theorem zcols_len (n:Nat):∀l:List SV,∀c∈zcols n l,c.len=n
 | [],c,h=>by simp [zcols] at h
 |v::l,c,h=>by
  simp only [zcols,List.mem_cons] at h
  rcases h with rfl|h
  ·cases v<;>simp [zcol,BCol.len,Col.len]
  ·exact zcols_len n l c h
theorem mapCols_len (ti:TI):∀c∈(mapCols ti).2,c.len=0:=by
 unfold mapCols
 split
 ·intro c hc
  simp only [List.mem_singleton] at hc
  subst hc;rfl
 ·exact zcols_len 0 _
theorem makeMap_ok (hT:TabOk P T) (hH:Holds g vs.heap w) (hn:b=1→∀q,g nx q=none) {o:Oper} {ty:TypeId} {ti:TI} (ho:o.op= .makeMap ty none) (hti:aget T ty=some ti) (hk8:Nat.beq ti.kind 8=true) (h:(makeMapR nx ti).is r U b t):EffOk P a o w g vs.heap nx r U b:=by
 have key:∀ka ks,(∀c∈ks,Col.len c=0)→(Res.ok (.map nx 0) [(nx,some (.one false (.obj (.map ka (mapCols ti).1 0 ks (mapCols ti).2 [] 0))))] 1 []).is r U b t→EffOk P a o w g vs.heap nx r U b:=by
  intro ka ks hks h
  obtain ⟨rfl,rfl,rfl,_⟩:=h
  refine ⟨.map (some w.heap.size),w.alloc (.map #[] 0),_,.inl ?_,newObj_after hH (hn rfl) ⟨#[],alloc_at _,rfl,hks,mapCols_len ti,rfl,List.nodup_nil,by simp,by simp⟩ (by simp only [Rv];exact ⟨_,gnew,rfl⟩)⟩
  simp [execOp,ho,Instr.makeMap]
 unfold makeMapR at h
 split at h
 ·exact key _ _ (by intro c hc;simp at hc;subst hc;rfl) h
 ·exact key _ _ (by intro c hc;simp at hc;subst hc;rfl) h
 ·exact key _ _ (by intro c hc;simp at hc;subst hc;rfl) h
 ·exact h.elim
theorem bld_ok (hT:TabOk P T) (hH:Holds g vs.heap w) (hn:b=1→∀q,g nx q=none) {o:Oper} {ty:TypeId} (ho:o.op= .alloc ty) {ti:TI} (hti:aget T ty=some ti) (h:(bldR nx ty ti).is r U b t):EffOk P a o w g vs.heap nx r U b:=by
 unfold bldR at h
 split at h
 ·rename_i hzz
  obtain ⟨rfl,rfl,rfl,_⟩:=h
  have hti':=hT _ _ hti
  unfold tiOf at hti'
  split at hti'
  ·rename_i i d hi hd
   simp only [Option.some.injEq] at hti'
   have hz0:ti.zero=zeroOf P ty:=by rw [←hti']
   rw [hzz] at hz0
   cases hz:i.zero with
   |none=>rw [show zeroOf P ty= [] by simp [zeroOf,hi,hz]] at hz0;cases hz0
   |some z=>
    have hzc:Rvs g [.nptr,.nsl] z.cells.toList:=by rw [hz0];simp only [zeroOf,hi,hz];exact cvs_ok g _
    have hcells:z.cells= #[.pointer none,.slice none 0 0]:=by
     simp only [Rvs,Rv] at hzc
     obtain ⟨v,r1,e1,rfl,v2,r2,e2,rfl,e3⟩:=hzc
     apply Array.ext'
     rw [e1,e2,e3]
    have hzr:(zeroValue ty).run P w= .ok z w:=by simp [zeroValue,typeInfo,hi,hz]
    refine ⟨.pointer (some ⟨w.heap.size,0,none⟩),w.alloc (.cells z.cells ty),_,.inl ?_,newObj_after hH (hn rfl) (by rw [hcells];exact alloc_at _) (by simp only [Rv];exact ⟨_,gnew,by simp [Base.addr]⟩)⟩
    simp only [execOp,ho,Instr.alloc,Sem.run_bind,hzr,Result.andThen_ok,newVar,newRow,newObj_run,Sem.run_pure]
  ·cases hti'
 ·exact h.elim
theorem range_ok (hT:TabOk P T) (hg:g.glob) (he:EnvOk g vs a) (hH:Holds g vs.heap w) (hn:b=1→∀q,g nx q=none) {o:Oper} {ty:TypeId} {x:Operand} {m:SV} {ti:TI} (ho:o.op= .range ty x) (hx:gv vs x=some m) (hti:aget T ty=some ti) (h:(rangeR vs nx ti m).is r U b t):EffOk P a o w g vs.heap nx r U b:=by
 have hmv:=gv_ok hg he hx
 unfold rangeR at h
 split at h
 ·rename_i s
  obtain ⟨hk3,rfl,rfl,rfl,_⟩:=bif_is h
  obtain ⟨d,hu,hd⟩:=kind_of (hT _ _ hti) hk3
  have hds:d= .string:=by cases d<;>first|rfl|cases hd
  subst hds
  refine ⟨.pointer (some ⟨w.heap.size,0,none⟩),w.alloc (.stringIter s 0),_,.inl ?_,newObj_after hH (hn rfl) (alloc_at _) (by simp only [Rv];exact ⟨_,gnew,by simp [Base.addr]⟩)⟩
  simp [execOp,ho,Instr.range,run_underlying hu,rtv hmv]
 ·obtain ⟨hk8,rfl,rfl,rfl,_⟩:=bif_is h
  obtain ⟨kt,et,hu,_⟩:=map_of (hT _ _ hti) hk8
  refine ⟨.pointer (some ⟨w.heap.size,0,none⟩),w.alloc (.mapIter none 0 #[] 0),_,.inl ?_,newObj_after hH (hn rfl) ⟨0,#[],0,alloc_at _⟩ (by simp only [Rv];exact ⟨_,gnew,by simp [Base.addr]⟩)⟩
  simp [execOp,ho,Instr.range,run_underlying hu,rnm hmv]
 ·rename_i hh q
  obtain ⟨hk8,h⟩:=bif_is h
  obtain ⟨kt,et,hu,_⟩:=map_of (hT _ _ hti) hk8
  obtain ⟨ro,bl,hent,h⟩:=onBlk_ok h
  split at h
  ·rename_i ka ea n ks vl bs ck
   obtain ⟨rfl,rfl,rfl,_⟩:=h
   obtain ⟨β,hβ,hB⟩:=hH.blk _ _ _ _ hent
   obtain ⟨β',hβ',hpv⟩:=rmv hmv
   rw [hβ] at hβ';cases hβ'
   obtain ⟨hcap,hoff,es,hes,hM⟩:=hB.obj
   refine ⟨.pointer (some ⟨w.heap.size,0,none⟩),w.alloc (.mapIter (some β.blk) ck #[] ck),_,.inl ?_,newObj_after hH (hn rfl) ⟨β,G.le_add _ (hn rfl 0) _ _ _ hβ,by simpa using alloc_at _,by simp⟩ (by simp only [Rv];exact ⟨_,gnew,by simp [Base.addr]⟩)⟩
   simp [execOp,ho,Instr.range,run_underlying hu,hpv,MapKept.run_getObj_map hes]
  ·exact h.elim
 ·exact h.elim
theorem mlen_ok (hT:TabOk P T) (hg:g.glob) (he:EnvOk g vs a) (hH:Holds g vs.heap w) {o:Oper} {ty:TypeId} {x:Operand} {hh q:Nat} {ti:TI} (ho:o.op= .call ⟨.builtin .len,#[x],#[ty]⟩) (hx:gv vs x=some (.map hh q)) (hti:aget T ty=some ti) (hk8:Nat.beq ti.kind 8=true)
  (h:(onBlk vs.heap hh q (fun _ b=>match b with| .obj (.map _ _ n _ _ _ _)=> .ok (.int .i64 (n:Int)) [] 0 [hh]|_=> .no)).is r U b t):EffOk P a o w g vs.heap nx r U b:=by
 obtain ⟨kt,et,hu,_⟩:=map_of (hT _ _ hti) hk8
 obtain ⟨ro,bl,hent,h⟩:=onBlk_ok h
 split at h
 ·rename_i ka ea n ks vl bs ck
  obtain ⟨rfl,rfl,rfl,_⟩:=h
  obtain ⟨β,hβ,hB⟩:=hH.blk _ _ _ _ hent
  obtain ⟨β',hβ',hpv⟩:=rmv (gv_ok hg he hx)
  rw [hβ] at hβ';cases hβ'
  obtain ⟨hcap,hoff,es,hes,hM⟩:=hB.obj
  refine look_ok hH rvi (fun o' ho'=> ?_)
  rw [ho] at ho'
  simp [execOp,ho',resolve,invoke,builtin,Builtin.len_,hpv,run_underlying hu,MapKept.run_getObj_map hes,hM.size,goInt]
 ·exact h.elim
theorem delCol_at (i j:Nat) (c:Col) (hi:i<c.len):(delCol i c).at j=c.at (if j<i then j else j+1)∧(delCol i c).val j=c.val (if j<i then j else j+1)∧(delCol i c).len=c.len-1:=by
 cases c<;>simp only [Col.len] at hi<;>refine ⟨?_,?_,?_⟩<;>simp only [delCol,Col.at,Col.val,Col.len,List.getD,List.getElem?_eraseIdx,List.length_eraseIdx,if_pos hi]<;>(split<;>rfl)
theorem delCol_id (i:Nat) (c:Col) (hi:c.len≤i):delCol i c=c:=by
 cases c<;>simp only [delCol,Col.len] at hi⊢<;>rw [List.eraseIdx_of_length_le hi]
theorem delCols_ok {i n:Nat}:∀(ks:List Col),(∀c∈ks,c.len=n)→(delCols i ks).length=ks.length∧(i<n→(∀c∈delCols i ks,c.len=n-1)∧∀j,colVals (delCols i ks) j=colVals ks (if j<i then j else j+1))∧(n≤i→delCols i ks=ks)
 | [],_=>⟨rfl,fun _=>⟨by simp [delCols],fun _=>rfl⟩,fun _=>rfl⟩
 |c::l,h=>by
  obtain ⟨b0,b1,b2⟩:=delCols_ok (i:=i) l (fun c hc=>h c (by simp [hc]))
  have hc:=h c (by simp)
  refine ⟨by simp [delCols,b0],fun hi=>⟨?_,?_⟩,fun hi=> ?_⟩
  ·intro d hd
   simp only [delCols,List.mem_cons] at hd
   rcases hd with rfl|hd
   ·rw [(delCol_at i 0 c (by omega)).2.2,hc]
   ·exact (b1 hi).1 d hd
  ·intro j
   simp only [delCols,colVals,(delCol_at i j c (by omega)).2.1,(b1 hi).2 j]
  ·simp only [delCols,delCol_id i c (by omega),b2 hi]
theorem delVal_at (i j:Nat) (c:BCol) (hi:i<c.len):(j<c.len-1→(delVal i c).at j=c.at (if j<i then j else j+1))∧(delVal i c).len=c.len-1:=by
 cases c with
 |sc c=>exact ⟨fun _=>(delCol_at i j c hi).1,(delCol_at i j c hi).2.2⟩
 |svs l=>
  simp only [BCol.len] at hi
  refine ⟨fun _=> ?_,by simp only [delVal,BCol.len,List.length_eraseIdx,if_pos hi]⟩
  simp only [delVal,BCol.at,List.getD,List.getElem?_eraseIdx]
  split<;>rfl
 |arrs n k l=>
  simp only [BCol.len] at hi
  refine ⟨fun _=> ?_,by simp only [delVal,BCol.len,List.length_eraseIdx,if_pos hi]⟩
  simp only [delVal,BCol.at,List.getD,List.getElem?_eraseIdx]
  split<;>rfl
 |own hh ns=>
  simp only [BCol.len] at hi
  have e0:delVal i (.own hh ns)= .svs ((ownL hh ns).eraseIdx i):=if_pos hi
  rw [e0]
  refine ⟨fun hj=> ?_,by simp only [BCol.len,List.length_eraseIdx,ownL_len,if_pos hi]⟩
  simp only [BCol.len] at hj
  rw [←own_at (h:=hh) (ns:=ns) (by split<;>omega)]
  simp only [BCol.at,List.getD,List.getElem?_eraseIdx]
  split<;>rfl
 |ptrs hh n0=>
  simp only [BCol.len] at hi
  have e0:delVal i (.ptrs hh n0)= .svs ((ptrL hh n0).eraseIdx i):=if_pos hi
  rw [e0]
  refine ⟨fun hj=> ?_,by simp only [BCol.len,List.length_eraseIdx,ptrL_len,if_pos hi]⟩
  simp only [BCol.len] at hj
  have e1:(BCol.ptrs hh n0).at (if j<i then j else j+1)=(ptrL hh n0).getD (if j<i then j else j+1) .unk:=(ptrL_at (by split<;>omega)).symm
  rw [e1]
  simp only [BCol.at,List.getD,List.getElem?_eraseIdx]
  split<;>rfl
theorem delVals_ok {i n:Nat}:∀(vl:List BCol),(∀c∈vl,c.len=n)→(delVals i vl).length=vl.length∧(i<n→(∀c∈delVals i vl,c.len=n-1)∧∀j,j<n-1→bcolsAt (delVals i vl) j=bcolsAt vl (if j<i then j else j+1))∧(n≤i→delVals i vl=vl)
 | [],_=>⟨rfl,fun _=>⟨by simp [delVals],fun _ _=>rfl⟩,fun _=>rfl⟩
 |c::l,h=>by
  obtain ⟨b0,b1,b2⟩:=delVals_ok (i:=i) l (fun c hc=>h c (by simp [hc]))
  have hc:=h c (by simp)
  refine ⟨by simp [delVals,b0],fun hi=>⟨?_,?_⟩,fun hi=> ?_⟩
  ·intro d hd
   simp only [delVals,List.mem_cons] at hd
   rcases hd with rfl|hd
   ·rw [(delVal_at i 0 c (by omega)).2,hc]
   ·exact (b1 hi).1 d hd
  ·intro j hj
   simp only [delVals,bcolsAt,(delVal_at i j c (by omega)).1 (by omega),(b1 hi).2 j hj]
  ·have:delVal i c=c:=by
    cases c with
    |sc c=>simp only [delVal,delCol_id i c (show c.len≤i by simp only [BCol.len] at hc;omega)]
    |svs l=>simp only [delVal];rw [List.eraseIdx_of_length_le (by simp only [BCol.len] at hc;omega)]
    |own hh ns=>exact if_neg (by simp only [BCol.len] at hc;omega)
    |ptrs hh n0=>exact if_neg (by simp only [BCol.len] at hc;omega)
    |arrs n0 k0 l=>simp only [delVal];rw [List.eraseIdx_of_length_le (by simp only [BCol.len] at hc;omega)]
   simp only [delVals,this,b2 hi]
theorem delete_ok (hT:TabOk P T) (hg:g.glob) (he:EnvOk g vs a) (hH:Holds g vs.heap w) {o:Oper} {ty:TypeId} {ts:List TypeId} {tt:Array TypeId} (htt:tt.toList=ty::ts) {x y:Operand} {m k:SV} {ti:TI} (ho:o.op= .call ⟨.builtin .delete,#[x,y],tt⟩) (hx:gv vs x=some m) (hy:gv vs y=some k) (hti:aget T ty=some ti) (hk8:Nat.beq ti.kind 8=true) (h:(deleteR vs ti m k).is r U b t):EffOk P a o w g vs.heap nx r U b:=by
 obtain ⟨kt,et,hu,hez,hega,hlen,hflat,hik,hbld⟩:=map_of (hT _ _ hti) hk8
 have hkv:=gv_ok hg he hy
 have hmv:=gv_ok hg he hx
 have ht0:tt[0]?=some ty:=by rw [←Array.getElem?_toList,htt];rfl
 unfold deleteR at h
 split at h
 ·rename_i hh q
  obtain ⟨ro,bl,hent,h⟩:=onBlk_ok h
  split at h
  ·rename_i ka ea n ks vl bs ck
   split at h
   ·rename_i i hi
    obtain ⟨rfl,rfl,rfl,_⟩:=h
    obtain ⟨β,hβ,hB⟩:=hH.blk _ _ _ _ hent
    obtain ⟨β',hβ',hpv⟩:=rmv hmv
    rw [hβ] at hβ';cases hβ'
    obtain ⟨hcap,hoff,es,hes,hM⟩:=hB.obj
    have K:=key_run (P:=P) (ty:=ty) (e:=et) hlen hflat hik hM hkv hi
    have hblk:β.blk<w.heap.size:=hB.lt hcap
    obtain ⟨c0,c1,c2⟩:=delCols_ok (i:=i) ks hM.kl
    obtain ⟨d0,d1,d2⟩:=delVals_ok (i:=i) vl hM.vl
    have fin:∀(es':Array MapEntry) (bs':List Nat) (n':Nat),MapOk g ka ea n' (delCols i ks) (delVals i vl) bs' ck es'→(Builtin.delete_ tt o.type #[a.eval x,a.eval y]).run P w= .ok (.tuple #[]) { w with heap:=w.heap.setIfInBounds β.blk (.map es' ck)}→
      EffOk P a o w g vs.heap nx (.tup []) (setBlk vs.heap hh q (.obj (.map ka ea n' (delCols i ks) (delVals i vl) bs' ck))) 0:=by
     intro es' bs' n' hM' hrun
     obtain ⟨k1,k2⟩:=MapKept.heap_set (o':=Obj.map es' ck) hes
     refine ⟨.tuple #[],{ w with heap:=w.heap.setIfInBounds β.blk (.map es' ck)},g,.inl ?_,after_set hH hent hβ hcap (by simp [Rv,Rvs]) (objAt hB.es hcap hoff (by simpa using hblk) ⟨es',k1,hM'⟩) rfl rfl rfl (by simp) (fun k _ hk=>k2 k hk)⟩
     simp [execOp,ho,resolve,invoke,builtin,hrun]
    by_cases hlt:i<n
    ·obtain ⟨e0,he0⟩:∃e0,es[i]?=some e0:=⟨es[i]'(by rw [hM.size];exact hlt),Array.getElem?_eq_getElem _⟩
     rw [if_pos hlt]
     refine fin (es.eraseIdxIfInBounds i) _ _ ⟨?_,(c1 hlt).1,(d1 hlt).1,?_,?_,?_,?_⟩ ?_
     ·simp [Array.eraseIdxIfInBounds,hM.size,hlt]
     ·rw [List.length_eraseIdx,if_pos (by rw [hM.bl];exact hlt),hM.bl]
     ·exact hM.nd.sublist (List.eraseIdx_sublist bs i)
     ·intro p hp
      exact hM.lt p (List.mem_of_mem_eraseIdx hp)
     ·intro j e hj
      have hje:es[if j<i then j else j+1]?=some e:=by
       have h1:(es.eraseIdxIfInBounds i).toList=es.toList.eraseIdx i:=by
        unfold Array.eraseIdxIfInBounds
        rw [dif_pos (by rw [hM.size];exact hlt)];simp
       have h2:(es.eraseIdxIfInBounds i).toList[j]?=some e:=by rw [Array.getElem?_toList];exact hj
       rw [h1,List.getElem?_eraseIdx] at h2
       split at h2
       ·rename_i hji;rw [if_pos hji];simpa using h2
       ·rename_i hji;rw [if_neg hji];simpa using h2
      obtain ⟨r1,r2,r3⟩:=hM.row _ e hje
      refine ⟨?_,by rw [keyV_congr c0 ((c1 hlt).2 j)];exact r2,by rw [elemS_congr d0 ((d1 hlt).2 j (by have:=esLt hM.size hje;split at this<;>omega))];exact r3⟩
      rw [r1,List.getD,List.getD,List.getElem?_eraseIdx]
      split<;>rfl
     ·have hf:=K.find w
      have h1:es.toList[i]?=some e0:=by simpa using he0
      rw [h1] at hf
      simp [Builtin.delete_,ht0,run_underlying hu,hpv,MapKept.run_getObj_map hes,K.check w,hf,MapKept.run_setObj_map _ hes,Result.andThen]
    ·have hin:i=n:=by have:=K.le;omega
     subst hin
     rw [if_neg hlt,List.eraseIdx_of_length_le (by rw [hM.bl];exact Nat.le_refl _)]
     refine fin es bs i (by rw [c2 (Nat.le_refl _),d2 (Nat.le_refl _)];exact hM) ?_
     have hf:=K.find w
     have h1:es.toList[i]?=none:=List.getElem?_eq_none (by simp [hM.size])
     rw [h1] at hf
     simp [Builtin.delete_,ht0,run_underlying hu,hpv,MapKept.run_getObj_map hes,K.check w,hf,MapKept.run_setObj_map _ hes,Result.andThen]
   ·exact h.elim
  ·exact h.elim
 ·exact h.elim
theorem keyS_ok {ka:Bool} {ks:List Col} {i:Nat}:Rv g (keyS ka ks i) (keyV ka ks i):=by
 have hl:∀l:List Col,Rvs g (colsAt l i) (colVals l i):=by
  intro l
  induction l with
  |nil=>simp only [colsAt,colVals,Rvs]
  |cons c l ih=>simp only [colsAt,colVals,Rvs];exact ⟨_,_,rfl,Col.at_ok g c i,ih⟩
 cases ka with
 |true=>simp only [keyS,keyV,Rv];exact ⟨_,rfl,by simpa using hl ks⟩
 |false=>
  match ks with
  | []=>simp only [keyS,Rv]
  | [c]=>exact Col.at_ok g c i
  |_::_::_=>simp only [keyS,Rv]
theorem find_born {es:Array MapEntry} {bs:List Nat} {ka ea:Bool} {n ck i:Nat} {ks:List Col} {vl:List BCol} (hM:MapOk g ka ea n ks vl bs ck es) (hi:i<n):∃e,es[i]?=some e∧e.born=bs.getD i 0∧es.find? (fun x=>x.born==bs.getD i 0)=some e:=by
 obtain ⟨e,he⟩:∃e,es[i]?=some e:=⟨es[i]'(by rw [hM.size];exact hi),Array.getElem?_eq_getElem _⟩
 have hb:=(hM.row i e he).1
 refine ⟨e,he,hb,?_⟩
 have hl:es.toList[i]?=some e:=by simpa using he
 rw [←Array.find?_toList,List.find?_eq_some_iff_getElem]
 refine ⟨by simp [hb],i,by simpa [hM.size] using hi,by simpa using (List.getElem?_eq_some_iff.1 hl).2,?_⟩
 intro j hj
 have hjn:j<es.size:=by rw [hM.size];omega
 have hr:=(hM.row j es[j] (Array.getElem?_eq_getElem hjn)).1
 simp only [Array.getElem_toList,hr]
 have hne:bs.getD j 0≠bs.getD i 0:=by
  rw [List.getD,List.getElem?_eq_getElem (by rw [hM.bl];omega),List.getD,List.getElem?_eq_getElem (by rw [hM.bl];omega)]
  intro h
  have:=(List.getElem_inj hM.nd).1 h
  omega
 simpa using hne
theorem entry_ok (hg:g.glob) (he:EnvOk g vs a) (hH:Holds g vs.heap w) {o:Oper} {x:Operand} {m:SV} (ho:o.op= .entry x) (hx:gv vs x=some m) (h:(entryR vs m).is r U b t):EffOk P a o w g vs.heap nx r U b:=by
 have hmv:=gv_ok hg he hx
 unfold entryR at h
 split at h
 ·rename_i hh
  obtain ⟨ro,bl,hent,h⟩:=onBlk_ok h
  split at h
  ·rename_i hm qm bs ck i sn
   obtain ⟨ro2,bl2,hent2,h⟩:=onBlk_ok h
   split at h
   ·rename_i ka ea n ks vl bs2 ck2
    obtain ⟨⟨rfl,rfl,hin⟩,rfl,rfl,rfl,_⟩:=h
    obtain ⟨β,hβ,hB⟩:=hH.blk _ _ _ _ hent
    obtain ⟨β',hβ',hpv⟩:=rpv hmv
    rw [hβ] at hβ';cases hβ'
    obtain ⟨hcap,hoff,βm,hβm,hit,hsn⟩:=hB.obj
    obtain ⟨β2,hβ2,hB2⟩:=hH.blk _ _ _ _ hent2
    rw [hβm] at hβ2;cases hβ2
    obtain ⟨_,_,es,hes,hM⟩:=hB2.obj
    obtain ⟨e,he1,he2,he3⟩:=find_born hM hin
    obtain ⟨_,r2,r3⟩:=hM.row i e he1
    have hp:a.eval x= .pointer (some ⟨β.blk,0,none⟩):=by rw [hpv];simp [Base.addr,hoff]
    refine look_ok (v:= .tuple #[e.key,e.val]) hH (by simp only [Rv,Rvs];exact ⟨_,rfl,_,_,rfl,by rw [r2];exact keyS_ok,_,_,rfl,r3,rfl⟩) (fun o' ho'=> ?_)
    have hgi:(getObj β.blk).run P w= .ok (.mapIter (some βm.blk) ck2 (((i::sn).reverse.map (fun i=>bs2.getD i 0)).toArray) ck2) w:=by simp [getObj,Sem.run,hit]
    have hbk:(((i::sn).reverse.map (fun i=>bs2.getD i 0)).toArray).back?=some (bs2.getD i 0):=by
     rw [←Array.getLast?_toList];simp
    rw [ho] at ho'
    have hrun:(Instr.entry (.pointer (some ⟨β.blk,0,none⟩))).run P w= .ok (.tuple #[e.key,e.val]) w:=by
     simp only [Instr.entry,Sem.run_bind,hgi,Result.andThen]
     rw [hbk]
     simp only [Sem.run_bind,MapKept.run_getObj_map hes,Result.andThen]
     have he4:=he3
     rw [List.getD_eq_getElem?_getD] at he4
     simp [he4]
    simp [execOp,ho',hp,hrun]
   ·exact h.elim
  ·exact h.elim
 ·exact h.elim
end ops
end Go.Sy
