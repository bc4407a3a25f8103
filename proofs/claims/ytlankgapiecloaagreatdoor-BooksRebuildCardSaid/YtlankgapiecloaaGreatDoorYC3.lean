/- The condition is right: regions in the order of the text. No program in sight. -/
import Derived.Test.YtlankgapiecloaaGreatDoorYC2
import Derived.Test.YtlankgapiecloaaGreatDoorYSN
namespace Go.Sy
open Go.RowKit
structure Ctx where
 g:G
 n0:Nat
 w:World
 W:Nat→Prop
 N:Nat
 ds:List Deferred
structure Rel (C:Ctx) (g:G) (vs:VS) (a:Act) (w:World):Prop where
 env:EnvOk g vs a
 size:a.tmps.size=C.N
 defers:a.defers=C.ds
 glob:g.glob
 upto:g.upto vs.next
 lo:C.n0≤vs.next
 keep:∀h q,h<C.n0→g h q=C.g h q
 heap:Holds g vs.heap w
 fr:Fr C.W C.w w
 own:Owns g vs.heap C.W C.w
def dput (d:Option Nat) (r:SV) (e:Env):Env:=match d with|some d=>(d,r)::e|none=>e
theorem pushU_iff:∀(U H:Heap) (K:Heap→Prop),pushU U H K↔K (U++H)
 | [],H,K=>Iff.rfl
 |x::U,H,K=>by simp only [pushU,List.cons_append];exact pushU_iff U H _
theorem updK_iff {vs:VS} {d:Option Nat} {r:SV} {U:Heap} {b:Nat} {K:VS→Prop}:updK vs d r U b K↔K ⟨dput d r vs.env,U++vs.heap,vs.next+b⟩:=by
 obtain ⟨e,H,n⟩:=vs
 simp only [updK]
 rw [pushU_iff]
 cases d<;>cases b<;>rfl
section
variable {P:Program} {T:Tab} {g:G} {C:Ctx} {vs:VS} {a:Act} {w:World}
theorem getD_put_same {t:Array Value} {d:Nat} {v:Value} (h:d<t.size):(t.setIfInBounds d v).getD d undef=v:=by
 simp [Array.getD,h]
theorem getD_put_ne {t:Array Value} {d x:Nat} {v:Value} (h:d≠x):(t.setIfInBounds d v).getD x undef=t.getD x undef:=by
 simp only [Array.getD_eq_getD_getElem?,Array.getElem?_setIfInBounds_ne h]
theorem after_fr {g':G} {H:Heap} {nx b:Nat} {r:SV} {U:Heap} {v:Value} {w':World} (A:After g H nx w r U b g' v w') (hfr:Fr C.W C.w w) (hown:Owns g H C.W C.w):Fr C.W C.w w'∧Owns g' (U++H) C.W C.w:=by
 refine ⟨⟨A.fr.os.trans hfr.os,A.fr.tape.trans hfr.tape,A.fr.output.trans hfr.output,Nat.le_trans hfr.size A.fr.size,?_⟩,?_⟩
 ·intro k hk hW
  rw [A.fr.block k (Nat.lt_of_lt_of_le hk hfr.size) ?_]
  ·exact hfr.block k hk hW
  ·rintro ⟨h,q,b,β,he,hg,hc,e⟩
   rcases hown h q b β he hg hc with ho|ho
   ·exact hW (e▸ho)
   ·omega
 ·intro h q b β he hg hc
  rcases A.own h q b β he hg hc with ⟨h',q',b',β',he',hg',hc',e⟩|ho
  ·rcases hown h' q' b' β' he' hg' hc' with ho|ho
   ·exact .inl (e▸ho)
   ·exact .inr (e▸ho)
  ·exact .inr (Nat.le_trans hfr.size ho)
theorem env_put {g':G} {d:Option Nat} {r:SV} {v:Value} {e:Env} {H H':Heap} {n n':Nat} (he:EnvOk g ⟨e,H,n⟩ a) (hle:G.le g g') (hv:Rv g' r v) (hd:∀x,d=some x→x<a.tmps.size):EnvOk g' ⟨dput d r e,H',n'⟩ (a.put d v):=by
 intro t s ht
 cases d with
 |none=>exact Rv.mono hle _ _ (he t s ht)
 |some d=>
  simp only [dput] at ht
  rw [aget_cons] at ht
  simp only [Act.put]
  split at ht
  ·rename_i e';subst e';simp only [Option.some.injEq] at ht;subst ht
   rw [getD_put_same (hd d rfl)];exact hv
  ·rename_i hne
   rw [getD_put_ne hne];exact Rv.mono hle _ _ (he t s ht)
theorem put_size {d:Option Nat} {v:Value}:(a.put d v).tmps.size=a.tmps.size∧(a.put d v).defers=a.defers:=by
 cases d<;>simp [Act.put]
theorem rel_after {o:Oper} {r:SV} {U:Heap} {b:Nat} {g':G} {v:Value} {w':World} (R:Rel C g vs a w) (A:After g vs.heap vs.next w r U b g' v w') (hd:∀x,o.dst=some x→x<C.N):Rel C g' ⟨dput o.dst r vs.env,U++vs.heap,vs.next+b⟩ (a.put o.dst v) w':=by
 obtain ⟨f1,f2⟩:=after_fr A R.fr R.own
 refine ⟨env_put (H:=vs.heap) (n:=vs.next) R.env A.le A.rv (by rw [R.size];exact hd),put_size.1.trans R.size,put_size.2.trans R.defers,?_,?_,Nat.le_trans R.lo (Nat.le_add_right _ _),?_,A.heap,f1,f2⟩
 ·intro q
  obtain ⟨es,cap,e⟩:=R.glob q
  exact ⟨es,cap,A.le _ _ _ e⟩
 ·intro h q hh
  simp only at hh
  exact A.born h q (R.upto h q (by omega)) (by omega)
 ·intro h q hh
  rw [←R.keep h q hh]
  cases e:g h q with
  |some β=>exact A.le _ _ _ e
  |none=>exact A.born h q e (by have:=R.lo;omega)
def OpGoal (P:Program) (C:Ctx) (o:Oper) (a:Act) (w:World) (K:VS→Prop) (Q:Exit→Act→World→Prop):Prop:=
 ∀next:Act→World→Prop,(∀vs' g' a' w',K vs'→Rel C g' vs' a' w'→next a' w')→o.wp P a w next Q
theorem resP_is {R:Res} {K:SV→Heap→Nat→List Nat→Prop} (h:resP R K):∃r U b t,R.is r U b t∧K r U b t:=by
 cases R with
 |no=>exact h.elim
 |ok r U b t=>exact ⟨r,U,b,t,⟨rfl,rfl,rfl,rfl⟩,h⟩
 |when c r U b t=>exact ⟨r,U,b,t,⟨h.1,rfl,rfl,rfl,rfl⟩,h.2⟩
theorem ran_wp {o:Oper} {v:Value} {w':World} {next:Act→World→Prop} {Q:Exit→Act→World→Prop} (h:Ran P a o w v w') (hn:next (a.put o.dst v) w'):o.wp P a w next Q:=by
 rcases h with h|⟨h,rfl⟩
 ·simp only [Oper.wp,h,Oper.upon_value];exact hn
 ·simp only [Oper.wp,h,Oper.upon_skip];exact hn
theorem catL_eq (l c:List SV):catL l c=l++c:=by cases c<;>simp [catL]
theorem Rvs.append:∀(l m:List SV) (xs ys:List Value),Rvs g l xs→Rvs g m ys→Rvs g (l++m) (xs++ys)
 | [],m,xs,ys,h1,h2=>by simp only [Rvs] at h1;subst h1;simpa using h2
 |s::l,m,xs,ys,h1,h2=>by
  simp only [Rvs] at h1
  obtain ⟨v,vs',e,k1,k2⟩:=h1
  subst e
  simp only [List.cons_append,Rvs]
  exact ⟨v,_,rfl,k1,Rvs.append l m vs' ys k2 h2⟩
theorem run_call (hg:g.glob) (he:EnvOk g vs a) {o:Oper} {fo:Operand} {args:Array Operand} {ts:Array TypeId} {f:Nat} {cap l:List SV} (hop:o.op= .call ⟨.value fo,args,ts⟩) (hf:gv vs fo=some (.fn f cap)) (hl:gvs vs args.toList=some l):
  ∃vals:List Value,Rvs g (catL l cap) vals∧(execOp a.eval o).run P w=(callFunc f vals.toArray).run P w:=by
 have hfv:=gv_ok hg he hf
 simp only [Rv] at hfv
 obtain ⟨cs,hcs,hcr⟩:=hfv
 have hvals:=gvs_ok hg he args.toList l hl
 refine ⟨args.toList.map a.eval++cs.toList,by rw [catL_eq];exact Rvs.append _ _ _ _ hvals hcr,?_⟩
 have ha:(args.toList.map a.eval++cs.toList).toArray=args.map a.eval++cs:=by apply Array.ext';simp
 rw [ha]
 simp [execOp,hop,resolve,hcs,Deferred.ofValue,invoke]
theorem run_bodied {f:Nat} {vals:Array Value} (hb:bodied P f):(callFunc f vals).run P w= .ok (.enter f vals) w:=by
 obtain ⟨fn,c,hfn,hbody,hname⟩:=hb
 have hname':¬fn.name="runtime.NumGoroutine":=by simpa using hname
 simp [callFunc,hfn,hname',hbody]
theorem run_invoke (hg:g.glob) (he:EnvOk g vs a) {o:Oper} {x:Operand} {name:String} {args:Array Operand} {ts:Array TypeId} {t:TypeId} {v:SV} {f:FuncId} {l:List SV} (hop:o.op= .call ⟨.invoke x name,args,ts⟩) (hx:gv vs x=some (.iface t v)) (hl:gvs vs args.toList=some l) (hm:MethOk P t name f):
  ∃vals:List Value,Rvs g (v::l) vals∧(execOp a.eval o).run P w=(callFunc f vals.toArray).run P w:=by
 have hxv:=gv_ok hg he hx
 simp only [Rv] at hxv
 obtain ⟨u,hu,hur⟩:=hxv
 have hvals:=gvs_ok hg he args.toList l hl
 refine ⟨u::args.toList.map a.eval,by simp only [Rvs];exact ⟨u,_,rfl,hur,hvals⟩,?_⟩
 have ha:(u::args.toList.map a.eval).toArray= #[u]++args.map a.eval:=by apply Array.ext';simp
 have hz:(#[Value.iface t u]++args.map a.eval)[0]?=some (.iface t u):=by
  rw [Array.getElem?_append_left (by simp)];rfl
 have he2:(#[Value.iface t u]++args.map a.eval).extract 1 (#[Value.iface t u]++args.map a.eval).size=args.map a.eval:=by
  apply Array.ext'
  simp
  exact List.take_of_length_le (by simp)
 rw [ha]
 simp only [execOp,hop,resolve,hu,Sem.run_bind,Sem.run_pure,Result.andThen_ok,invoke]
 simp only [hz,he2,callMethod,Sem.run_bind,run_program,Result.andThen_ok,hm u w]
def CallOf (P:Program) (o:Oper) (s:VS) (f:FuncId) (al:List SV):Prop:=
 (∃fo args ts cap l,o.op= .call ⟨.value fo,args,ts⟩∧gv s fo=some (.fn f cap)∧gvs s args.toList=some l∧al=catL l cap)∨
 (∃x name args ts t v l,o.op= .call ⟨.invoke x name,args,ts⟩∧gv s x=some (.iface t v)∧gvs s args.toList=some l∧MethOk P t name f∧al=v::l)
theorem CallOf.run {o:Oper} {f:FuncId} {al:List SV} (h:CallOf P o vs f al) (hg:g.glob) (he:EnvOk g vs a):∃vals:List Value,Rvs g al vals∧(execOp a.eval o).run P w=(callFunc f vals.toArray).run P w:=by
 rcases h with ⟨fo,args,ts,cap,l,hop,hf,hl,rfl⟩|⟨x,name,args,ts,t,v,l,hop,hx,hl,hm,rfl⟩
 ·exact run_call hg he hop hf hl
 ·exact run_invoke hg he hop hx hl hm
theorem CallOf.op {o:Oper} {s:VS} {f:FuncId} {al:List SV} (h:CallOf P o s f al):∃c,o.op= .call c:=by
 rcases h with ⟨fo,args,ts,cap,l,hop,_⟩|⟨x,name,args,ts,t,v,l,hop,_⟩
 ·exact ⟨_,hop⟩
 ·exact ⟨_,hop⟩
theorem call_wp (hg:g.glob) {Hc:Heap} {nx:Nat} (hH:Holds g Hc w) {o:Oper} {f:Nat} {al:List SV} (hr:∃vals:List Value,Rvs g al vals∧(execOp a.eval o).run P w=(callFunc f vals.toArray).run P w)
  {l0:List Nat} {args0:List SV} {H:Heap} {post:SV→Heap→Nat→Prop} (hfc:FC P l0.length f args0 H post) (hfit:Fits l0 nx al args0 H Hc) (hun:∀sv H' n',post sv H' n'→∀h q,nx≤h→h<nx+(n'-l0.length)→g h q=none)
  {next:Act→World→Prop} {Q:Exit→Act→World→Prop} (hn:∀v w' sv H' n' g',post sv H' n'→After g Hc nx w (SV.ren (rho l0 nx) sv) (renH (rho l0 nx) H'++lost (rho l0 nx) H) (n'-l0.length) g' v w'→next (a.put o.dst v) w'):o.wp P a w next Q:=by
 obtain ⟨vals,hv,hrun⟩:=hr
 obtain ⟨g0,k1,k2,k3,k4,k5⟩:=call_core hfit hg hH hv hun
 rcases hfc with ⟨hb,hc⟩|hx
 ·rw [run_bodied hb] at hrun
  simp only [Oper.wp,hrun,Oper.upon_enter]
  refine (hc g0 w vals k1 k2 k3 k4).mono ?_
  rintro e' w' ⟨v,rfl,ho⟩
  obtain ⟨sv,H',n',g',hp,A⟩:=k5 v w' ho
  exact hn v w' sv H' n' g' hp A
 ·obtain ⟨v,w',hr,ho⟩:=hx g0 w vals k1 k2 k3 k4
  rw [hr] at hrun
  obtain ⟨sv,H',n',g',hp,A⟩:=k5 v w' ho
  exact ran_wp (.inl hrun) (hn v w' sv H' n' g' hp A)
theorem vex_goal (hT:TabOk P T) {o:Oper} {K:VS→Prop} {Q:Exit→Act→World→Prop} (R:Rel C g vs a w) (hd:∀d,o.dst=some d→d<C.N) (h:vex P T o vs K):OpGoal P C o a w K Q:=by
 intro next hn
 have look:resP (eff T vs vs.next o.op) (fun r U b _=>updK vs o.dst r U b K)→o.wp P a w next Q:=by
  intro h
  obtain ⟨r,U,b,t,h1,h2⟩:=resP_is h
  obtain ⟨v,w',g',h3,A⟩:=eff_ok hT R.glob R.env R.heap (fun h q hh _=>R.upto h q hh) h1
  exact ran_wp h3 (hn _ g' _ _ (updK_iff.1 h2) (rel_after R A hd))
 obtain ⟨e0,H0,n0⟩:=vs
 unfold vex at h
 dsimp only at h
 split at h
 ·rename_i fo args ts hop
  split at h
  ·rename_i f cap l hf hl
   obtain ⟨l0,args0,H,post,hfc,hfit,hk⟩:=h
   exact call_wp R.glob R.heap (run_call R.glob R.env hop hf hl) hfc hfit (fun _ _ _ _ h q hh _=>R.upto h q hh) (fun v w' sv H' n' g' hp A=>hn _ g' _ _ (updK_iff.1 (hk sv H' n' hp)) (rel_after R A hd))
  ·exact h.elim
 ·rename_i x name args ts hop
  split at h
  ·rename_i t v l hx hl
   obtain ⟨f,hm,l0,args0,H,post,hfc,hfit,hk⟩:=h
   exact call_wp R.glob R.heap (run_invoke R.glob R.env hop hx hl hm) hfc hfit (fun _ _ _ _ h q hh _=>R.upto h q hh) (fun v w' sv H' n' g' hp A=>hn _ g' _ _ (updK_iff.1 (hk sv H' n' hp)) (rel_after R A hd))
  ·exact h.elim
 ·rename_i x hop
  split at h
  ·rename_i it hit
   unfold vnext at h
   split at h
   ·rename_i hh
    split at h
    ·rename_i hm bs ck sn hg1
     split at h
     ·rename_i ro2 ka ea n ks vl bs2 ck2 hg2
      obtain ⟨⟨rfl,rfl⟩,h1,h2⟩:=h
      have en1:Ent H0 hh 0 false (.obj (.iter hm 0 bs2 ck2 sn)):=⟨_,hg1,⟨rfl,rfl⟩,rfl⟩
      have en2:Ent H0 hm 0 ro2 (.obj (.map ka ea n ks vl bs2 ck2)):=⟨_,hg2,⟨rfl,rfl⟩,rfl⟩
      rcases next_ok (P:=P) (nx:=n0) R.glob R.env R.heap hop hit en1 en2 with ⟨i,v,w',hi,hns,hran,A⟩|⟨hall,v,w',hran,A⟩
      ·have hset:setBlk H0 hh 0 (.obj (.iter hm 0 bs2 ck2 (i::sn)))= [(hh,some (.one false (.obj (.iter hm 0 bs2 ck2 (i::sn)))))]:=by
        unfold setBlk;rw [hg1]
       have A':=A
       rw [hset] at A'
       exact ran_wp hran (hn _ g _ _ (updK_iff.1 (h1 i hi hns)) (rel_after R A' hd))
      ·exact ran_wp hran (hn _ g _ _ (updK_iff.1 (h2 hall)) (rel_after R A hd))
     ·exact h.elim
    ·exact h.elim
   ·exact h.elim
  ·exact h.elim
 ·rename_i x hop
  split at h
  ·rename_i it hit
   unfold vsnext at h
   split at h
   ·rename_i hh
    split at h
    ·rename_i s p hg1
     obtain ⟨h1,h2⟩:=h
     have en1:Ent H0 hh 0 false (.obj (.siter s p)):=⟨_,hg1,⟨rfl,rfl⟩,rfl⟩
     rcases snext_ok (P:=P) (nx:=n0) R.glob R.env R.heap hop hit en1 with ⟨hi,v,w',hran,A⟩|⟨hi,v,w',hran,A⟩
     ·have hset:setBlk H0 hh 0 (.obj (.siter s (p+(Utf8.decode s p).2)))= [(hh,some (.one false (.obj (.siter s (p+(Utf8.decode s p).2)))))]:=by
       unfold setBlk;rw [hg1]
      have A':=A
      rw [hset] at A'
      exact ran_wp hran (hn _ g _ _ (updK_iff.1 (h1 hi)) (rel_after R A' hd))
     ·exact ran_wp hran (hn _ g _ _ (updK_iff.1 (h2 hi)) (rel_after R A hd))
    ·exact h.elim
   ·exact h.elim
  ·exact h.elim
 ·rename_i t x y ty hop
  split at h
  ·rename_i h1 q1 i1 hx hy
   split at h
   ·rename_i ti hti
    cases hk:Nat.beq ti.kind 6 with
    |false=>rw [hk] at h;exact h.elim
    |true=>
     rw [hk] at h
     obtain ⟨ht,hf⟩:=h
     have hxv:=gv_ok R.glob R.env hx
     have hyv:=rnsv' (gv_ok R.glob R.env hy)
     simp only [Rv] at hxv
     obtain ⟨c1,cc,ex,_⟩:=hxv
     obtain ⟨_,_,v,hv,hy1⟩:=slEq_ok (P:=P) (T:=T) (g:=g) (w:=w) (a:=a) (t':=ty) (op:= .eql) (ty:=t) (r:= .bool c1.isNone) (U:= []) (b:=0) (t:= []) hT ex hyv (by rw [hti];simp only [hk,cond_true];exact ⟨rfl,rfl,rfl,rfl⟩)
     obtain ⟨v',w',g',hran,A⟩:=look_ok (nx:=n0) (o:=o) R.heap hv (by rw [hop];exact hy1)
     cases hb:c1.isNone with
     |true=>rw [hb] at A;exact ran_wp hran (hn _ g' _ _ (updK_iff.1 ht) (rel_after R A hd))
     |false=>rw [hb] at A;exact ran_wp hran (hn _ g' _ _ (updK_iff.1 hf) (rel_after R A hd))
   ·exact h.elim
  ·exact look (by rw [hop];exact h)
 ·exact look h
theorem yielded_bool {ops:Array Oper} {j d:Nat} {oj:Oper} {b:Bool} (hj:nth ops.toList j=some oj) (hd:oj.dst=some d) (hv:a.tmps.getD d undef= .bool b):yielded ops a.tmps j=some b:=by
 rw [nth_eq] at hj
 have hj':ops[j]?=some oj:=by simpa using hj
 unfold yielded
 simp only [hj',Option.bind_some,hd]
 rw [Array.getD_eq_getD_getElem?] at hv
 cases h:a.tmps[d]? with
 |none=>rw [h] at hv;simp [undef] at hv
 |some x=>rw [h] at hv;simp at hv;simp [hv]
theorem yielded_none {ops:Array Oper} {j d:Nat} {oj:Oper} {x:Array Value} (hj:nth ops.toList j=some oj) (hd:oj.dst=some d) (hv:a.tmps.getD d undef= .tuple x):yielded ops a.tmps j=none:=by
 rw [nth_eq] at hj
 have hj':ops[j]?=some oj:=by simpa using hj
 unfold yielded
 simp only [hj',Option.bind_some,hd]
 rw [Array.getD_eq_getD_getElem?] at hv
 cases h:a.tmps[d]? with
 |none=>rfl
 |some y=>rw [h] at hv;simp at hv;simp [hv]
theorem vop_ok (hT:TabOk P T) {ops:Array Oper} {o:Oper} {rest:List Oper} {K:VS→Prop} {Q:Exit→Act→World→Prop} (R:Rel C g vs a w) (hd:∀d,o.dst=some d→d<C.N) (h:vop P T ops.toList o vs K)
  (hn:∀vs' g' a' w',K vs'→Rel C g' vs' a' w'→wpList P ops Q rest a' w'):wpList P ops Q (o::rest) a w:=by
 have exec:vex P T o vs K→Region.wanted o (yielded ops a.tmps)=true→wpList P ops Q (o::rest) a w:=by
  intro h hw
  unfold wpList
  rw [if_pos hw]
  exact .inl (vex_goal hT R hd h _ hn)
 have skip:updK vs o.dst (.raw undef) [] 0 K→Region.wanted o (yielded ops a.tmps)=false→wpList P ops Q (o::rest) a w:=by
  intro h hw
  unfold wpList
  rw [if_neg (by simp [hw])]
  exact hn _ g _ _ (updK_iff.1 h) (rel_after (r:= .raw undef) (v:=undef) R (after_look R.heap (by simp only [Rv])) hd)
 unfold vop at h
 split at h
 ·rename_i hg
  exact exec h (by simp [Region.wanted,hg])
 ·rename_i j want hg
  split at h
  ·rename_i oj hj
   split at h
   ·rename_i d hdst
    split at h
    ·rename_i hv
     have hy:=yielded_bool hj hdst (rbv (R.env d _ hv))
     cases want with
     |true=>exact exec h (by simp [Region.wanted,hg,hy])
     |false=>exact skip h (by simp [Region.wanted,hg,hy])
    ·rename_i hv
     have hy:=yielded_bool hj hdst (rbv (R.env d _ hv))
     cases want with
     |true=>exact skip h (by simp [Region.wanted,hg,hy])
     |false=>exact exec h (by simp [Region.wanted,hg,hy])
    ·rename_i x hv
     have hy:=yielded_none hj hdst (by have:=R.env d _ hv;simpa only [Rv] using this)
     exact skip h (by simp [Region.wanted,hg,hy])
    ·exact h.elim
   ·exact h.elim
  ·exact h.elim
theorem rel_learn {e:Env} {H:Heap} {n d:Nat} {b:Bool} (h:Rel C g ⟨e,H,n⟩ a w) (hb:aget e d=some (.bool b)):Rel C g ⟨(d,.bool b)::e,H,n⟩ a w:=by
 refine ⟨?_,h.size,h.defers,h.glob,h.upto,h.lo,h.keep,h.heap,h.fr,h.own⟩
 intro t s ht
 simp only at ht
 rw [aget_cons] at ht
 split at ht
 ·rename_i e';subst e';simp only [Option.some.injEq] at ht;subst ht;exact h.env d _ hb
 ·exact h.env t s ht
theorem known_ok {d:Nat} {K:VS→Prop} (R:Rel C g vs a w) (h:known vs d K):∃vs',K vs'∧Rel C g vs' a w:=by
 obtain ⟨e,H,n⟩:=vs
 unfold known at h
 simp only at h
 split at h
 ·rename_i b hb
  cases b with
  |true=>exact ⟨_,(br_elim h).1 rfl,rel_learn R hb⟩
  |false=>exact ⟨_,(br_elim h).2 rfl,rel_learn R hb⟩
 ·exact ⟨_,h,R⟩
 ·exact h.elim
theorem vops_ok (hT:TabOk P T) {ops:Array Oper} {Q:Exit→Act→World→Prop}:∀(l:List Oper) (vs:VS) (g:G) (a:Act) (w:World) (K:VS→Prop),dstsOk C.N l=true→Rel C g vs a w→vops P T ops.toList l vs K→
  (∀vs' g' a' w',K vs'→Rel C g' vs' a' w'→Q .normal a' w')→wpList P ops Q l a w
 | [],vs,g,a,w,K,_,R,h,hq=>by simp only [vops] at h;exact hq _ _ _ _ h R
 |o::l,vs,g,a,w,K,hds,R,h,hq=>by
  simp only [dstsOk,Bool.and_eq_true] at hds
  have hd:∀d,o.dst=some d→d<C.N:=by
   intro d e
   have:=hds.1
   rw [e] at this
   exact Nat.le_of_ble_eq_true this
  simp only [vops] at h
  split at h
  ·exact vop_ok hT R hd h (fun vs' g' a' w' k1 k2=>vops_ok hT l vs' g' a' w' K hds.2 k2 k1 hq)
  ·obtain ⟨v1,h1,R1⟩:=known_ok R h
   exact vop_ok hT R1 hd h1 (fun vs' g' a' w' k1 k2=>vops_ok hT l vs' g' a' w' K hds.2 k2 k1 hq)
end
end Go.Sy
