/- Symbolic execution is right: binary operations. No program in sight. -/
import Derived.Test.YtlankgapiecloaaGreatDoorYS1
namespace Go.Sy
open Go.RowKit
section ops
variable {P:Program} {T:Tab} {g:G} {vs:VS} {a:Act} {w:World} {r:SV} {U:Heap} {b:Nat} {t:List Nat}
theorem bif_is {c:Bool} {R:Res} (h:(bif c then R else .no).is r U b t):c=true∧R.is r U b t:=by cases c<;>simp_all [Res.is]
theorem bif_is' {c:Bool} {R:Res} (h:(bif c then .no else R).is r U b t):c=false∧R.is r U b t:=by cases c<;>simp_all [Res.is]
theorem info_of {t:TypeId} {ti:TI} (h:tiOf P t=some ti):∃i d,P.info? t=some i∧P.underlying t=some d∧i.size=ti.size∧kindOf d=ti.kind:=by
 unfold tiOf at h
 split at h
 ·rename_i i d hi hd
  simp only [Option.some.injEq] at h
  subst h
  exact ⟨i,d,hi,hd,rfl,rfl⟩
 ·cases h
theorem run_sizeOf' {t:TypeId} {ti:TI} (h:tiOf P t=some ti) (w:World):(sizeOf t).run P w= .ok ti.size w:=by
 obtain ⟨i,d,hi,_,hs,_⟩:=info_of h
 simp [sizeOf,typeInfo,hi,hs]
theorem run_isAgg' {t:TypeId} {ti:TI} (h:tiOf P t=some ti) (w:World):(isAgg t).run P w= .ok ti.agg w:=by
 obtain ⟨i,d,_,hd,_,hk⟩:=info_of h
 unfold TI.agg
 rw [←hk]
 cases d<;>simp [isAgg,run_underlying hd,kindOf]<;>decide
theorem kind_of {t:TypeId} {ti:TI} (h:tiOf P t=some ti) {k:Nat} (hk:Nat.beq ti.kind k=true):∃d,P.underlying t=some d∧kindOf d=k:=by
 obtain ⟨i,d,_,hd,_,hkd⟩:=info_of h
 exact ⟨d,hd,by rw [hkd,Nat.eq_of_beq_eq_true hk]⟩
theorem riv {k:IntKind} {n:Int} {v:Value} (h:Rv g (.int k n) v):v= .int k n:=by simpa only [Rv] using h
theorem rbv {b:Bool} {v:Value} (h:Rv g (.bool b) v):v= .bool b:=by simpa only [Rv] using h
theorem rtv {b:ByteArray} {v:Value} (h:Rv g (.str b) v):v= .string b:=by simpa only [Rv] using h
theorem rpv {h q i j:Nat} {v:Value} (r:Rv g (.ptr h q i j) v):∃β,g h q=some β∧v= .pointer (some (β.addr i j)):=by simpa only [Rv] using r
theorem rnv {v:Value} (r:Rv g .nptr v):v= .pointer none:=by simpa only [Rv] using r
theorem rsv {h q i n:Nat} {v:Value} (r:Rv g (.sl h q i n) v):∃a c,v= .slice a n c∧n≤c∧(c=0∨∃β,g h q=some β∧a=some (β.addr i 0)∧i+c≤β.cap):=by simpa only [Rv] using r
theorem rav {l:List SV} {v:Value} (r:Rv g (.agg l) v):∃vs,v= .agg vs∧Rvs g l vs.toList:=by simpa only [Rv] using r
theorem ruv {l:List SV} {v:Value} (r:Rv g (.tup l) v):∃vs,v= .tuple vs∧Rvs g l vs.toList:=by simpa only [Rv] using r
theorem rarv {n:Nat} {l:List Col} {v:Value} (r:Rv g (.arr n l) v):∃vs,v= .agg vs∧ArrOk n l vs:=by simpa only [Rv] using r
theorem binInt_ok {op:BinOp} {k:IntKind} {x y:Int} (ty:TypeId) (hs:op≠.shl∧op≠.shr) (h:(binInt op k x y).is r U b t):
  U= []∧b=0∧∃v,Rv g r v∧∀w,(binOp op ty (.int k x) (.int k y)).run P w= .ok v w:=by
 cases op<;>simp only [binInt,Res.is,Res.one] at h<;>try exact h.elim
 case add=>obtain ⟨rfl,rfl,rfl,_⟩:=h;exact ⟨rfl,rfl,_,rvi,fun w=>by simp [binOp,Op.intArith]⟩
 case sub=>obtain ⟨rfl,rfl,rfl,_⟩:=h;exact ⟨rfl,rfl,_,rvi,fun w=>by simp [binOp,Op.intArith]⟩
 case mul=>obtain ⟨rfl,rfl,rfl,_⟩:=h;exact ⟨rfl,rfl,_,rvi,fun w=>by simp [binOp,Op.intArith]⟩
 case quo=>obtain ⟨h0,rfl,rfl,rfl,_⟩:=h;exact ⟨rfl,rfl,_,rvi,fun w=>by simp [binOp,Op.intDiv,h0]⟩
 case rem=>obtain ⟨h0,rfl,rfl,rfl,_⟩:=h;exact ⟨rfl,rfl,_,rvi,fun w=>by simp [binOp,Op.intDiv,h0]⟩
 case eql=>obtain ⟨rfl,rfl,rfl,_⟩:=h;exact ⟨rfl,rfl,_,rvb,fun w=>by simp [binOp,Op.intCmp];rfl⟩
 case neq=>obtain ⟨rfl,rfl,rfl,_⟩:=h;exact ⟨rfl,rfl,_,rvb,fun w=>by simp [binOp,Op.intCmp,bne];rfl⟩
 case lss=>obtain ⟨rfl,rfl,rfl,_⟩:=h;exact ⟨rfl,rfl,_,rvb,fun w=>by simp [binOp,Op.intCmp]⟩
 case leq=>obtain ⟨rfl,rfl,rfl,_⟩:=h;exact ⟨rfl,rfl,_,rvb,fun w=>by simp [binOp,Op.intCmp]⟩
 case gtr=>obtain ⟨rfl,rfl,rfl,_⟩:=h;exact ⟨rfl,rfl,_,rvb,fun w=>by simp [binOp,Op.intCmp]⟩
 case geq=>obtain ⟨rfl,rfl,rfl,_⟩:=h;exact ⟨rfl,rfl,_,rvb,fun w=>by simp [binOp,Op.intCmp]⟩
 case and=>obtain ⟨rfl,rfl,rfl,_⟩:=h;exact ⟨rfl,rfl,_,rvi,fun w=>by simp [binOp,Op.intBits,iand]⟩
 case or=>obtain ⟨rfl,rfl,rfl,_⟩:=h;exact ⟨rfl,rfl,_,rvi,fun w=>by simp [binOp,Op.intBits,ior]⟩
 case xor=>obtain ⟨rfl,rfl,rfl,_⟩:=h;exact ⟨rfl,rfl,_,rvi,fun w=>by simp [binOp,Op.intBits,ixor]⟩
 case andNot=>obtain ⟨rfl,rfl,rfl,_⟩:=h;exact ⟨rfl,rfl,_,rvi,fun w=>by simp [binOp,Op.intBits,iandNot]⟩
theorem binStr_ok {op:BinOp} {x y:ByteArray} (ty:TypeId) (h:(binStr op x y).is r U b t):
  U= []∧b=0∧∃v,Rv g r v∧∀w,(binOp op ty (.string x) (.string y)).run P w= .ok v w:=by
 cases op<;>simp only [binStr,Res.is,Res.one] at h<;>try exact h.elim
 case add=>
  obtain ⟨h0,rfl,rfl,rfl,_⟩:=h
  exact ⟨rfl,rfl,_,rvt,fun w=>by
   have h2:¬(((x.size+y.size:Nat):Int)>IntKind.i64.max):=by
    have:IntKind.i64.max=9223372036854775807:=by decide
    rw [this];omega
   simp only [binOp,Op.stringOp,if_neg h2];rfl⟩
 case eql=>obtain ⟨rfl,rfl,rfl,_⟩:=h;exact ⟨rfl,rfl,_,rvb,fun w=>by simp [binOp,Op.stringOp,beq_toList_eq,seq]⟩
 case neq=>obtain ⟨rfl,rfl,rfl,_⟩:=h;exact ⟨rfl,rfl,_,rvb,fun w=>by simp [binOp,Op.stringOp,beq_toList_eq,seq]⟩
 case lss=>obtain ⟨rfl,rfl,rfl,_⟩:=h;exact ⟨rfl,rfl,_,rvb,fun w=>by simp [binOp,Op.stringOp,strLt]⟩
 case leq=>obtain ⟨rfl,rfl,rfl,_⟩:=h;exact ⟨rfl,rfl,_,rvb,fun w=>by simp [binOp,Op.stringOp,strLt,beq_toList_eq,seq]⟩
 case gtr=>obtain ⟨rfl,rfl,rfl,_⟩:=h;exact ⟨rfl,rfl,_,rvb,fun w=>by simp [binOp,Op.stringOp,strLt,beq_toList_eq,seq]⟩
 case geq=>obtain ⟨rfl,rfl,rfl,_⟩:=h;exact ⟨rfl,rfl,_,rvb,fun w=>by simp [binOp,Op.stringOp,strLt]⟩
theorem eqGuard_int (op:BinOp) (t:TypeId) (x y:Operand) (k k':IntKind) (m n:Int) (w:World):(eqGuard op t x y (.int k m) (.int k' n)).run P w= .ok () w:=by
 cases op<;>simp [eqGuard]
theorem eqGuard_str (op:BinOp) (t:TypeId) (x y:Operand) (m n:ByteArray) (w:World):(eqGuard op t x y (.string m) (.string n)).run P w= .ok () w:=by
 cases op<;>simp [eqGuard]
theorem eqGuard_bool (op:BinOp) (t:TypeId) (x y:Operand) (m n:Bool) (w:World):(eqGuard op t x y (.bool m) (.bool n)).run P w= .ok () w:=by
 cases op<;>simp [eqGuard]
theorem eqGuard_ptr (op:BinOp) (t:TypeId) (x y:Operand) (m n:Option Addr) (w:World):(eqGuard op t x y (.pointer m) (.pointer n)).run P w= .ok () w:=by
 cases op<;>simp [eqGuard]
theorem eqFields_ok (d:Nat) (xs ys:Array Value) (w:World):∀(fs:List Field) (i:Nat) (ks:List Nat) (l m:List SV) (r:Bool),flatFrom P i fs=some ks→
  Rvs g l (xs.toList.drop i)→Rvs g m (ys.toList.drop i)→eqCells ks l m=some r→(Op.eqFields (d+1) xs ys fs).run P w= .ok r w:=by
 intro fs
 induction fs with
 |nil=>
  intro i ks l m r hf _ _ he
  simp only [flatFrom,Option.some.injEq] at hf
  subst hf
  cases l with
  |nil=>cases m with
   |nil=>simp only [eqCells,Option.some.injEq] at he;subst he;simp [Op.eqFields]
   |cons _ _=>simp [eqCells] at he
  |cons _ _=>simp [eqCells] at he
 |cons f fs ih=>
  intro i ks l m r hf hx hy he
  simp only [flatFrom] at hf
  cases hg:((f.name !="_")&& !Nat.beq (scalarK P f.type) 0&&(f.offset==i)) with
  |false=>rw [hg] at hf;simp at hf
  |true=>
   rw [hg] at hf
   simp only [cond_true] at hf
   simp only [Bool.and_eq_true,bne_iff_ne,ne_eq,beq_iff_eq] at hg
   obtain ⟨⟨hname,_⟩,hoff⟩:=hg
   split at hf
   ·rename_i kr hkr
    simp only [Option.some.injEq] at hf
    subst hf
    generalize hk:scalarK P f.type=k at he
    have step:∀(s t:SV) (ss ts:List SV),l=s::ss→m=t::ts→
      (∀u v,Rv g s u→Rv g t v→∃b c,r=(b&&c)∧eqCells kr ss ts=some c∧(Op.equalIn (d+1) f.type u v).run P w= .ok b w)→(Op.eqFields (d+1) xs ys (f::fs)).run P w= .ok r w:=by
     intro s t ss ts hl hm key
     subst hl;subst hm
     simp only [Rvs] at hx hy
     obtain ⟨u,us,hu,ru,rus⟩:=hx
     obtain ⟨v,vs',hv,rv,rvs⟩:=hy
     have hxu:xs[i]?=some u:=by
      have:xs.toList[i]?=some u:=by
       have h0:=congrArg (fun z:List Value=>z[0]?) hu
       simpa using h0
      simpa using this
     have hyv:ys[i]?=some v:=by
      have:ys.toList[i]?=some v:=by
       have h0:=congrArg (fun z:List Value=>z[0]?) hv
       simpa using h0
      simpa using this
     have hus:us=xs.toList.drop (i+1):=by
      have h0:=congrArg (fun z:List Value=>z.drop 1) hu
      simp at h0
      exact h0.symm
     have hvs:vs'=ys.toList.drop (i+1):=by
      have h0:=congrArg (fun z:List Value=>z.drop 1) hv
      simp at h0
      exact h0.symm
     rw [hus] at rus
     rw [hvs] at rvs
     have part1:∀(zs:Array Value) (z:Value),zs[i]?=some z→(part f.type zs f.offset).run P w= .ok z w:=by
      intro zs z hz
      rw [hoff]
      have hk':=hk
      unfold scalarK at hk'
      split at hk'
      ·rename_i hd;simp [part,isAgg,run_underlying hd,hz]
      ·rename_i hd;simp [part,isAgg,run_underlying hd,hz]
      ·rename_i hd;simp [part,isAgg,run_underlying hd,hz]
      ·subst hk'
       cases s<;>cases t<;>simp [eqCells] at he
     obtain ⟨b,c,hr,hc,hrun⟩:=key u v ru rv
     have hi:=ih (i+1) kr ss ts c hkr rus rvs hc
     simp only [Op.eqFields,hname,ne_eq,not_false_eq_true,if_true,Sem.run_bind,part1 xs u hxu,part1 ys v hyv,Result.andThen_ok,hrun]
     cases b with
     |false=>simp [hr]
     |true=>simp [hr,hi]
    unfold scalarK at hk
    unfold eqCells at he
    split at he
    ·exact absurd ‹k::kr= []› (by simp)
    ·rename_i kr' p x l' q y m' e1
     cases e1
     cases hpq:ikEq p q with
     |false=>rw [hpq] at he;simp at he
     |true=>
      rw [hpq] at he
      simp only [cond_true] at he
      have hpq':=ikEq_ok hpq
      subst hpq'
      split at he
      ·rename_i c hc
       simp only [Option.some.injEq] at he
       refine step _ _ _ _ rfl rfl fun u v ru rv=>⟨_,c,he.symm,hc,?_⟩
       have e1:=riv ru;have e2:=riv rv;subst e1;subst e2
       split at hk<;>first|(rename_i hd;simp [Op.equalIn,run_underlying hd];done)|(rename_i hd;simp [Op.equalIn,run_underlying hd];rfl)|(exfalso;omega)
      ·cases he
    ·rename_i kr' x l' y m' e1
     cases e1
     split at he
     ·rename_i c hc
      simp only [Option.some.injEq] at he
      refine step _ _ _ _ rfl rfl fun u v ru rv=>⟨_,c,he.symm,hc,?_⟩
      have e1:=rtv ru;have e2:=rtv rv;subst e1;subst e2
      split at hk<;>first|(rename_i hd;simp [Op.equalIn,run_underlying hd,beq_toListBytes,beq_toList_eq,seq];done)|(exfalso;omega)
     ·cases he
    ·rename_i kr' x l' y m' e1
     cases e1
     split at he
     ·rename_i c hc
      simp only [Option.some.injEq] at he
      refine step _ _ _ _ rfl rfl fun u v ru rv=>⟨_,c,he.symm,hc,?_⟩
      have e1:=rbv ru;have e2:=rbv rv;subst e1;subst e2
      split at hk<;>first|(rename_i hd;simp [Op.equalIn,run_underlying hd];done)|(exfalso;omega)
     ·cases he
    ·cases he
   ·cases hf
theorem eqCells_append:∀(ks1 kr:List Nat) (l m:List SV) (r:Bool),eqCells (ks1++kr) l m=some r→∃l1 l2 m1 m2 b c,l=l1++l2∧m=m1++m2∧l1.length=ks1.length∧m1.length=ks1.length∧eqCells ks1 l1 m1=some b∧eqCells kr l2 m2=some c∧r=(b&&c)
 | [],kr,l,m,r,h=>⟨[],l,[],m,true,r,rfl,rfl,rfl,rfl,by simp [eqCells],h,by simp⟩
 |k::ks1,kr,l,m,r,h=>by
  rw [List.cons_append] at h
  unfold eqCells at h
  split at h
  ·exact absurd ‹k::(ks1++kr)= []› (by simp)
  ·rename_i ks p x l' q y m' e1
   cases e1
   cases hpq:ikEq p q with
   |false=>rw [hpq] at h;simp at h
   |true=>
    rw [hpq] at h
    simp only [cond_true] at h
    split at h
    ·rename_i b0 hb0
     simp only [Option.some.injEq] at h
     subst h
     obtain ⟨l1,l2,m1,m2,b,c,rfl,rfl,h1,h2,h3,h4,rfl⟩:=eqCells_append ks1 kr _ _ _ hb0
     exact ⟨.int p x::l1,l2,.int q y::m1,m2,decide (x=y)&&b,c,rfl,rfl,by simp [h1],by simp [h2],by simp [eqCells,hpq,h3],h4,by rw [Bool.and_assoc]⟩
    ·cases h
  ·rename_i ks x l' y m' e1
   cases e1
   split at h
   ·rename_i b0 hb0
    simp only [Option.some.injEq] at h
    subst h
    obtain ⟨l1,l2,m1,m2,b,c,rfl,rfl,h1,h2,h3,h4,rfl⟩:=eqCells_append ks1 kr _ _ _ hb0
    exact ⟨.str x::l1,l2,.str y::m1,m2,seq x y&&b,c,rfl,rfl,by simp [h1],by simp [h2],by simp [eqCells,h3],h4,by rw [Bool.and_assoc]⟩
   ·cases h
  ·rename_i ks x l' y m' e1
   cases e1
   split at h
   ·rename_i b0 hb0
    simp only [Option.some.injEq] at h
    subst h
    obtain ⟨l1,l2,m1,m2,b,c,rfl,rfl,h1,h2,h3,h4,rfl⟩:=eqCells_append ks1 kr _ _ _ hb0
    exact ⟨.bool x::l1,l2,.bool y::m1,m2,(x==y)&&b,c,rfl,rfl,by simp [h1],by simp [h2],by simp [eqCells,h3],h4,by rw [Bool.and_assoc]⟩
   ·cases h
  ·cases h
theorem rvs_split:∀(l1 l2:List SV) (vs:List Value),Rvs g (l1++l2) vs→Rvs g l1 (vs.take l1.length)∧Rvs g l2 (vs.drop l1.length)
 | [],l2,vs,h=>⟨by simp [Rvs],h⟩
 |s::l1,l2,vs,h=>by
  rw [List.cons_append] at h
  simp only [Rvs] at h⊢
  obtain ⟨v,vs',rfl,h1,h2⟩:=h
  obtain ⟨q1,q2⟩:=rvs_split l1 l2 vs' h2
  exact ⟨⟨v,vs'.take l1.length,rfl,h1,q1⟩,q2⟩
theorem flatIn_ok {t:TypeId} {ks:List Nat} (h:flatIn P t=some ks):∃fs:Array Field,P.underlying t=some (.struct fs)∧P.stoodInHeld t=false∧flatFrom P 0 fs.toList=some ks∧P.cellsOf t=ks.length:=by
 unfold flatIn at h
 split at h
 ·rename_i fs hu
  cases hs: !P.stoodInHeld t with
  |false=>rw [hs] at h;cases h
  |true=>
   rw [hs] at h
   simp only [cond_true] at h
   split at h
   ·rename_i ks' hf
    cases hc:Nat.beq (P.cellsOf t) ks'.length with
    |false=>rw [hc] at h;cases h
    |true=>
     rw [hc] at h
     simp only [cond_true,Option.some.injEq] at h
     subst h
     exact ⟨fs,hu,by simpa using hs,hf,Nat.eq_of_beq_eq_true hc⟩
   ·cases h
 ·cases h
theorem eqFieldsN_ok {e':Nat} (d:Nat) (hde:e'=d+1) (xs ys:Array Value) (w:World):∀(fs:List Field) (i:Nat) (ks:List Nat) (l m:List SV) (r:Bool),flatN P i fs=some ks→
  Rvs g l (xs.toList.drop i)→Rvs g m (ys.toList.drop i)→eqCells ks l m=some r→(Op.eqFields (e'+1) xs ys fs).run P w= .ok r w:=by
 intro fs
 induction fs with
 |nil=>
  intro i ks l m r hf _ _ he
  simp only [flatN,Option.some.injEq] at hf
  subst hf
  cases l with
  |nil=>cases m with
   |nil=>simp only [eqCells,Option.some.injEq] at he;subst he;simp [Op.eqFields]
   |cons _ _=>simp [eqCells] at he
  |cons _ _=>simp [eqCells] at he
 |cons f fs ih=>
  intro i ks l m r hf hx hy he
  simp only [flatN] at hf
  cases hg:((f.name !="_")&&(f.offset==i)) with
  |false=>rw [hg] at hf;simp at hf
  |true=>
   rw [hg] at hf
   simp only [cond_true] at hf
   simp only [Bool.and_eq_true,bne_iff_ne,ne_eq,beq_iff_eq] at hg
   obtain ⟨hname,hoff⟩:=hg
   cases hsc: !Nat.beq (scalarK P f.type) 0 with
   |false=>
    rw [hsc] at hf
    simp only [cond_false] at hf
    split at hf
    ·rename_i ks1 hin
     split at hf
     ·rename_i kr hkr
      simp only [Option.some.injEq] at hf
      subst hf
      obtain ⟨l1,l2,m1,m2,b,c,rfl,rfl,hl1,hm1,hb,hc,rfl⟩:=eqCells_append ks1 kr l m r he
      obtain ⟨hx1,hx2⟩:=rvs_split l1 l2 _ hx
      obtain ⟨hy1,hy2⟩:=rvs_split m1 m2 _ hy
      rw [List.drop_drop,hl1] at hx2
      rw [List.drop_drop,hm1] at hy2
      rw [hl1] at hx1
      rw [hm1] at hy1
      obtain ⟨fs1,hu,hst,hff,hcs⟩:=flatIn_ok hin
      have part1:∀(zs:Array Value),(part f.type zs f.offset).run P w= .ok (.agg (zs.extract i (i+ks1.length))) w:=by
       intro zs
       rw [hoff]
       have hsz:(sizeOf f.type).run P w= .ok ks1.length w:=by
        have hi2:(P.info? f.type).isSome=true:=by
         unfold Program.underlying at hu
         cases hi3:P.info? f.type with
         |none=>simp [hi3] at hu
         |some x=>rfl
        obtain ⟨x,hx3⟩:=Option.isSome_iff_exists.1 hi2
        have:P.cellsOf f.type=x.size:=by simp [Program.cellsOf,hx3]
        simp [sizeOf,typeInfo,hx3,←hcs,this]
       simp [part,isAgg,run_underlying hu,hsz]
      have hfo:P.fieldsOf f.type=fs1:=by simp [Program.fieldsOf,hu]
      have hrun:(Op.equalIn (e'+1) f.type (.agg (xs.extract i (i+ks1.length))) (.agg (ys.extract i (i+ks1.length)))).run P w= .ok b w:=by
       rw [run_equalIn_struct w e' f.type _ _ (by rw [hfo];exact hu) hst,hfo,hde]
       refine eqFields_ok (g:=g) d _ _ w fs1.toList 0 ks1 l1 m1 b hff ?_ ?_ hb
       ·simpa using hx1
       ·simpa using hy1
      have hi:=ih (i+ks1.length) kr l2 m2 c hkr hx2 hy2 hc
      simp only [Op.eqFields,hname,ne_eq,not_false_eq_true,if_true,Sem.run_bind,part1 xs,part1 ys,Result.andThen_ok,hrun]
      cases b with
      |false=>simp
      |true=>simp [hi]
     ·cases hf
    ·cases hf
   |true=>
   rw [hsc] at hf
   simp only [cond_true] at hf
   split at hf
   ·rename_i kr hkr
    simp only [Option.some.injEq] at hf
    subst hf
    generalize hk:scalarK P f.type=k at he
    have step:∀(s t:SV) (ss ts:List SV),l=s::ss→m=t::ts→
      (∀u v,Rv g s u→Rv g t v→∃b c,r=(b&&c)∧eqCells kr ss ts=some c∧(Op.equalIn (e'+1) f.type u v).run P w= .ok b w)→(Op.eqFields (e'+1) xs ys (f::fs)).run P w= .ok r w:=by
     intro s t ss ts hl hm key
     subst hl;subst hm
     simp only [Rvs] at hx hy
     obtain ⟨u,us,hu,ru,rus⟩:=hx
     obtain ⟨v,vs',hv,rv,rvs⟩:=hy
     have hxu:xs[i]?=some u:=by
      have:xs.toList[i]?=some u:=by
       have h0:=congrArg (fun z:List Value=>z[0]?) hu
       simpa using h0
      simpa using this
     have hyv:ys[i]?=some v:=by
      have:ys.toList[i]?=some v:=by
       have h0:=congrArg (fun z:List Value=>z[0]?) hv
       simpa using h0
      simpa using this
     have hus:us=xs.toList.drop (i+1):=by
      have h0:=congrArg (fun z:List Value=>z.drop 1) hu
      simp at h0
      exact h0.symm
     have hvs:vs'=ys.toList.drop (i+1):=by
      have h0:=congrArg (fun z:List Value=>z.drop 1) hv
      simp at h0
      exact h0.symm
     rw [hus] at rus
     rw [hvs] at rvs
     have part1:∀(zs:Array Value) (z:Value),zs[i]?=some z→(part f.type zs f.offset).run P w= .ok z w:=by
      intro zs z hz
      rw [hoff]
      have hk':=hk
      unfold scalarK at hk'
      split at hk'
      ·rename_i hd;simp [part,isAgg,run_underlying hd,hz]
      ·rename_i hd;simp [part,isAgg,run_underlying hd,hz]
      ·rename_i hd;simp [part,isAgg,run_underlying hd,hz]
      ·subst hk'
       cases s<;>cases t<;>simp [eqCells] at he
     obtain ⟨b,c,hr,hc,hrun⟩:=key u v ru rv
     have hi:=ih (i+1) kr ss ts c hkr rus rvs hc
     simp only [Op.eqFields,hname,ne_eq,not_false_eq_true,if_true,Sem.run_bind,part1 xs u hxu,part1 ys v hyv,Result.andThen_ok,hrun]
     cases b with
     |false=>simp [hr]
     |true=>simp [hr,hi]
    unfold scalarK at hk
    unfold eqCells at he
    split at he
    ·exact absurd ‹k::kr= []› (by simp)
    ·rename_i kr' p x l' q y m' e1
     cases e1
     cases hpq:ikEq p q with
     |false=>rw [hpq] at he;simp at he
     |true=>
      rw [hpq] at he
      simp only [cond_true] at he
      have hpq':=ikEq_ok hpq
      subst hpq'
      split at he
      ·rename_i c hc
       simp only [Option.some.injEq] at he
       refine step _ _ _ _ rfl rfl fun u v ru rv=>⟨_,c,he.symm,hc,?_⟩
       have e1:=riv ru;have e2:=riv rv;subst e1;subst e2
       split at hk<;>first|(rename_i hd;simp [Op.equalIn,run_underlying hd];done)|(rename_i hd;simp [Op.equalIn,run_underlying hd];rfl)|(exfalso;omega)
      ·cases he
    ·rename_i kr' x l' y m' e1
     cases e1
     split at he
     ·rename_i c hc
      simp only [Option.some.injEq] at he
      refine step _ _ _ _ rfl rfl fun u v ru rv=>⟨_,c,he.symm,hc,?_⟩
      have e1:=rtv ru;have e2:=rtv rv;subst e1;subst e2
      split at hk<;>first|(rename_i hd;simp [Op.equalIn,run_underlying hd,beq_toListBytes,beq_toList_eq,seq];done)|(exfalso;omega)
     ·cases he
    ·rename_i kr' x l' y m' e1
     cases e1
     split at he
     ·rename_i c hc
      simp only [Option.some.injEq] at he
      refine step _ _ _ _ rfl rfl fun u v ru rv=>⟨_,c,he.symm,hc,?_⟩
      have e1:=rbv ru;have e2:=rbv rv;subst e1;subst e2
      split at hk<;>first|(rename_i hd;simp [Op.equalIn,run_underlying hd];done)|(exfalso;omega)
     ·cases he
    ·cases he
   ·cases hf
def Yields1 (P:Program) (op:Op) (a:Act) (w:World) (v:Value):Prop:=∀o:Oper,o.op=op→(execOp a.eval o).run P w= .ok (.value v) w
theorem eqRes_ok {op:BinOp} {c:Bool} (h:(eqRes op c).is r U b t):U= []∧b=0∧((op= .eql∧r= .bool c)∨(op= .neq∧r= .bool (!c))):=by
 cases op<;>simp only [eqRes,Res.is,Res.one] at h<;>try exact h.elim
 ·obtain ⟨rfl,rfl,rfl,_⟩:=h;exact ⟨rfl,rfl,.inl ⟨rfl,rfl⟩⟩
 ·obtain ⟨rfl,rfl,rfl,_⟩:=h;exact ⟨rfl,rfl,.inr ⟨rfl,rfl⟩⟩
theorem run_equalIn_ptr (d:Nat) {ty e:TypeId} (c1 c2:Option Addr) (hd:P.underlying ty=some (.pointer e)) (hn:c1=none∨c2=none) (w:World):(Op.equalIn (d+1) ty (.pointer c1) (.pointer c2)).run P w= .ok (c1.isNone&&c2.isNone) w:=by
 rcases hn with rfl|rfl
 ·simp [Op.equalIn,run_underlying hd]
 ·cases c1<;>simp [Op.equalIn,run_underlying hd]
theorem ptrEq_ok (hT:TabOk P T) {op:BinOp} {ty t':TypeId} {x y:Operand} {c1 c2:Option Addr} (ex:a.eval x= .pointer c1) (ey:a.eval y= .pointer c2) (hn:c1=none∨c2=none)
  (h:(match aget T ty with|some ti=>bif Nat.beq ti.kind 7 then eqRes op (c1.isNone&&c2.isNone) else .no|none=> .no).is r U b t):U= []∧b=0∧∃v,Rv g r v∧Yields1 P (.binOp op ty x y t') a w v:=by
 split at h
 ·rename_i ti hti
  obtain ⟨hk,h2⟩:=bif_is h
  obtain ⟨d,hd,hkd⟩:=kind_of (hT _ _ hti) hk
  obtain ⟨e,hd'⟩:∃e,d= .pointer e:=by cases d<;>first|exact ⟨_,rfl⟩|(exact absurd hkd (by simp [kindOf]))
  subst hd'
  have hq:∀w,(Op.equal ty (.pointer c1) (.pointer c2)).run P w= .ok (c1.isNone&&c2.isNone) w:=fun w=>run_equalIn_ptr 9999 c1 c2 hd hn w
  obtain ⟨e1,e2,⟨rfl,rfl⟩|⟨rfl,rfl⟩⟩:=eqRes_ok h2
  ·refine ⟨e1,e2,_,rvb,fun o ho=> ?_⟩
   simp only [execOp,ho,ex,ey,Sem.run_bind,eqGuard_ptr,binOp,hq,Result.andThen_ok,Sem.run_pure]
  ·refine ⟨e1,e2,_,rvb,fun o ho=> ?_⟩
   simp only [execOp,ho,ex,ey,Sem.run_bind,eqGuard_ptr,binOp,hq,Result.andThen_ok,Sem.run_pure]
 ·exact h.elim
theorem eqGuard_map (op:BinOp) (t:TypeId) (x y:Operand) (m n:Option Nat) (w:World):(eqGuard op t x y (.map m) (.map n)).run P w= .ok () w:=by
 cases op<;>simp [eqGuard]
theorem eqGuard_sl (op:BinOp) (t:TypeId) (x y:Operand) (m n:Option Addr) (i j k l:Nat) (w:World):(eqGuard op t x y (.slice m i j) (.slice n k l)).run P w= .ok () w:=by
 cases op<;>simp [eqGuard]
theorem run_equalIn_map (d:Nat) {ty k e:TypeId} (c1:Option Nat) (hd:P.underlying ty=some (.map k e)) (w:World):(Op.equalIn (d+1) ty (.map c1) (.map none)).run P w= .ok c1.isNone w:=by
 cases c1<;>simp [Op.equalIn,run_underlying hd]
theorem run_equalIn_sl (d:Nat) {ty e:TypeId} (c1:Option Addr) (i j:Nat) (hd:P.underlying ty=some (.slice e)) (w:World):(Op.equalIn (d+1) ty (.slice c1 i j) (.slice none 0 0)).run P w= .ok c1.isNone w:=by
 cases c1<;>simp [Op.equalIn,run_underlying hd]
theorem mapEq_ok (hT:TabOk P T) {op:BinOp} {ty t':TypeId} {x y:Operand} {c1:Option Nat} (ex:a.eval x= .map c1) (ey:a.eval y= .map none)
  (h:(match aget T ty with|some ti=>bif Nat.beq ti.kind 8 then eqRes op c1.isNone else .no|none=> .no).is r U b t):U= []∧b=0∧∃v,Rv g r v∧Yields1 P (.binOp op ty x y t') a w v:=by
 split at h
 ·rename_i ti hti
  obtain ⟨hk,h2⟩:=bif_is h
  obtain ⟨d,hd,hkd⟩:=kind_of (hT _ _ hti) hk
  obtain ⟨k,e,hd'⟩:∃k e,d= .map k e:=by cases d<;>first|exact ⟨_,_,rfl⟩|(exact absurd hkd (by simp [kindOf]))
  subst hd'
  have hq:∀w,(Op.equal ty (.map c1) (.map none)).run P w= .ok c1.isNone w:=fun w=>run_equalIn_map 9999 c1 hd w
  obtain ⟨e1,e2,⟨rfl,rfl⟩|⟨rfl,rfl⟩⟩:=eqRes_ok h2
  ·refine ⟨e1,e2,_,rvb,fun o ho=> ?_⟩
   simp only [execOp,ho,ex,ey,Sem.run_bind,eqGuard_map,binOp,hq,Result.andThen_ok,Sem.run_pure]
  ·refine ⟨e1,e2,_,rvb,fun o ho=> ?_⟩
   simp only [execOp,ho,ex,ey,Sem.run_bind,eqGuard_map,binOp,hq,Result.andThen_ok,Sem.run_pure]
 ·exact h.elim
theorem slEq_ok (hT:TabOk P T) {op:BinOp} {ty t':TypeId} {x y:Operand} {c1:Option Addr} {i j:Nat} (ex:a.eval x= .slice c1 i j) (ey:a.eval y= .slice none 0 0)
  (h:(match aget T ty with|some ti=>bif Nat.beq ti.kind 6 then eqRes op c1.isNone else .no|none=> .no).is r U b t):U= []∧b=0∧∃v,Rv g r v∧Yields1 P (.binOp op ty x y t') a w v:=by
 split at h
 ·rename_i ti hti
  obtain ⟨hk,h2⟩:=bif_is h
  obtain ⟨d,hd,hkd⟩:=kind_of (hT _ _ hti) hk
  obtain ⟨e,hd'⟩:∃e,d= .slice e:=by cases d<;>first|exact ⟨_,rfl⟩|(exact absurd hkd (by simp [kindOf]))
  subst hd'
  have hq:∀w,(Op.equal ty (.slice c1 i j) (.slice none 0 0)).run P w= .ok c1.isNone w:=fun w=>run_equalIn_sl 9999 c1 i j hd w
  obtain ⟨e1,e2,⟨rfl,rfl⟩|⟨rfl,rfl⟩⟩:=eqRes_ok h2
  ·refine ⟨e1,e2,_,rvb,fun o ho=> ?_⟩
   simp only [execOp,ho,ex,ey,Sem.run_bind,eqGuard_sl,binOp,hq,Result.andThen_ok,Sem.run_pure]
  ·refine ⟨e1,e2,_,rvb,fun o ho=> ?_⟩
   simp only [execOp,ho,ex,ey,Sem.run_bind,eqGuard_sl,binOp,hq,Result.andThen_ok,Sem.run_pure]
 ·exact h.elim
theorem run_equalIn_if (d:Nat) {ty:TypeId} {ms:Array (String×TypeId)} (tx:TypeId) (vx:Value) (hd:P.underlying ty=some (.interface ms)) (w:World):(Op.equalIn (d+1) ty (.iface tx vx) .nilIface).run P w= .ok false w:=by
 simp [Op.equalIn,run_underlying hd]
theorem run_equalIn_nif (d:Nat) {ty:TypeId} {ms:Array (String×TypeId)} (hd:P.underlying ty=some (.interface ms)) (w:World):(Op.equalIn (d+1) ty .nilIface .nilIface).run P w= .ok true w:=by
 simp [Op.equalIn,run_underlying hd]
theorem eqGuard_if (op:BinOp) (t:TypeId) (x y:Operand) (tx:TypeId) (vx:Value) (w:World):(eqGuard op t x y (.iface tx vx) .nilIface).run P w= .ok () w:=by
 cases op<;>simp [eqGuard]
theorem eqGuard_nif (op:BinOp) (t:TypeId) (x y:Operand) (h:(isC x||isC y)=true) (w:World):(eqGuard op t x y .nilIface .nilIface).run P w= .ok () w:=by
 cases op<;>cases x<;>cases y<;>simp [eqGuard,isC] at h⊢
theorem ifEq_ok (hT:TabOk P T) {op:BinOp} {ty t':TypeId} {x y:Operand} {tx:TypeId} {vx:Value} (ex:a.eval x= .iface tx vx) (ey:a.eval y= .nilIface)
  (h:(match aget T ty with|some ti=>bif Nat.beq ti.kind 9 then eqRes op false else .no|none=> .no).is r U b t):U= []∧b=0∧∃v,Rv g r v∧Yields1 P (.binOp op ty x y t') a w v:=by
 split at h
 ·rename_i ti hti
  obtain ⟨hk,h2⟩:=bif_is h
  obtain ⟨d,hd,hkd⟩:=kind_of (hT _ _ hti) hk
  obtain ⟨ms,hd'⟩:∃ms,d= .interface ms:=by cases d<;>first|exact ⟨_,rfl⟩|(exact absurd hkd (by simp [kindOf]))
  subst hd'
  have hq:∀w,(Op.equal ty (.iface tx vx) .nilIface).run P w= .ok false w:=fun w=>run_equalIn_if 9999 tx vx hd w
  obtain ⟨e1,e2,⟨rfl,rfl⟩|⟨rfl,rfl⟩⟩:=eqRes_ok h2
  ·refine ⟨e1,e2,_,rvb,fun o ho=> ?_⟩
   simp only [execOp,ho,ex,ey,Sem.run_bind,eqGuard_if,binOp,hq,Result.andThen_ok,Sem.run_pure]
  ·refine ⟨e1,e2,_,rvb,fun o ho=> ?_⟩
   simp only [execOp,ho,ex,ey,Sem.run_bind,eqGuard_if,binOp,hq,Result.andThen_ok,Sem.run_pure]
 ·exact h.elim
theorem nifEq_ok (hT:TabOk P T) {op:BinOp} {ty t':TypeId} {x y:Operand} (ex:a.eval x= .nilIface) (ey:a.eval y= .nilIface)
  (h:(match aget T ty with|some ti=>bif Nat.beq ti.kind 9&&(isC x||isC y) then eqRes op true else .no|none=> .no).is r U b t):U= []∧b=0∧∃v,Rv g r v∧Yields1 P (.binOp op ty x y t') a w v:=by
 split at h
 ·rename_i ti hti
  obtain ⟨hk0,h2⟩:=bif_is h
  rw [Bool.and_eq_true] at hk0
  obtain ⟨hk,hc⟩:=hk0
  obtain ⟨d,hd,hkd⟩:=kind_of (hT _ _ hti) hk
  obtain ⟨ms,hd'⟩:∃ms,d= .interface ms:=by cases d<;>first|exact ⟨_,rfl⟩|(exact absurd hkd (by simp [kindOf]))
  subst hd'
  have hq:∀w,(Op.equal ty .nilIface .nilIface).run P w= .ok true w:=fun w=>run_equalIn_nif 9999 hd w
  obtain ⟨e1,e2,⟨rfl,rfl⟩|⟨rfl,rfl⟩⟩:=eqRes_ok h2
  ·refine ⟨e1,e2,_,rvb,fun o ho=> ?_⟩
   simp only [execOp,ho,ex,ey,Sem.run_bind,eqGuard_nif _ ty x y hc,binOp,hq,Result.andThen_ok,Sem.run_pure]
  ·refine ⟨e1,e2,_,rvb,fun o ho=> ?_⟩
   simp only [execOp,ho,ex,ey,Sem.run_bind,eqGuard_nif _ ty x y hc,binOp,hq,Result.andThen_ok,Sem.run_pure]
 ·exact h.elim
theorem riff' {t:Nat} {s:SV} {v:Value} (r:Rv g (.iface t s) v):∃u,v= .iface t u:=by simp only [Rv] at r;obtain ⟨u,e,_⟩:=r;exact ⟨u,e⟩
theorem rnif' {v:Value} (r:Rv g .nif v):v= .nilIface:=by simpa only [Rv] using r
theorem scalarK_int {e:TypeId} (h:Nat.beq (scalarK P e) 2=true):∃k,P.underlying e=some (.int k):=by
 have h2:=Nat.eq_of_beq_eq_true h
 unfold scalarK at h2
 split at h2<;>first|omega|(exact ⟨_,by assumption⟩)
theorem eqItems_ints (d:Nat) {e:TypeId} {k0 k:IntKind} (he:P.underlying e=some (.int k0)) {xs ys:Array Value} {x y:List Int} {n:Nat} (hx:∀j,j<n→xs[j]?=some (.int k (x.getD j 0))) (hy:∀j,j<n→ys[j]?=some (.int k (y.getD j 0))) (w:World):∀is:List Nat,(∀j∈is,j<n)→(Op.eqItems (d+1) e 1 xs ys is).run P w= .ok (is.all (fun j=>decide (x.getD j 0=y.getD j 0))) w
 | [],_=>by simp [Op.eqItems]
 |j::is,h=>by
  have ih:=eqItems_ints d he hx hy w is (fun z hz=>h z (by simp [hz]))
  have hj:=h j (by simp)
  have p1:∀(zs:Array Value) (v:Value),zs[j]?=some v→(part e zs (j*1)).run P w= .ok v w:=by
   intro zs v hv
   simp [part,isAgg,run_underlying he,hv]
  have p2:(Op.equalIn (d+1) e (.int k (x.getD j 0)) (.int k (y.getD j 0))).run P w= .ok (decide (x.getD j 0=y.getD j 0)) w:=by
   generalize x.getD j 0=u
   generalize y.getD j 0=v
   simp [Op.equalIn,run_underlying he]
   by_cases q:u=v<;>simp [q]
  simp only [Op.eqItems,Sem.run_bind,p1 xs _ (hx j hj),p1 ys _ (hy j hj),p2,Result.andThen_ok,List.all_cons]
  cases hd:decide (x.getD j 0=y.getD j 0) with
  |false=>simp
  |true=>simp only [Bool.not_true,Bool.false_eq_true,if_false,Bool.true_and];exact ih
theorem all_range {x y:List Int} {n:Nat} (hx:x.length=n) (hy:y.length=n):(List.range n).all (fun j=>decide (x.getD j 0=y.getD j 0))=decide (x=y):=by
 by_cases e:x=y
 ·subst e;simp
 ·rw [decide_eq_false e,Bool.eq_false_iff]
  intro h
  refine e (List.ext_getElem (by omega) fun j h1 h2=> ?_)
  have:=List.all_eq_true.1 h j (List.mem_range.2 (by omega))
  simpa [List.getD,h1,h2] using this
theorem arrEq_ok (hT:TabOk P T) {op:BinOp} {ty t':TypeId} {x y:Operand} {n m:Nat} {p q:IntKind} {l1 l2:List Int} (hx:Rv g (.arr n [.ints p l1]) (a.eval x)) (hy:Rv g (.arr m [.ints q l2]) (a.eval y))
  (h:(match aget T ty with|some ti=>bif Nat.beq ti.kind 5&&Nat.beq n ti.len&&Nat.beq m ti.len&&ikEq p q&&(match ti.flat with| [2]=>true|_=>false) then eqRes op (decide (l1=l2)) else .no|none=> .no).is r U b t):U= []∧b=0∧∃v,Rv g r v∧Yields1 P (.binOp op ty x y t') a w v:=by
 split at h
 ·rename_i ti hti
  obtain ⟨hk,h2⟩:=bif_is h
  simp only [Bool.and_eq_true] at hk
  obtain ⟨⟨⟨⟨c1,c2⟩,c3⟩,c4⟩,c5⟩:=hk
  have c2:=Nat.eq_of_beq_eq_true c2
  have c3:=Nat.eq_of_beq_eq_true c3
  have c4:=ikEq_ok c4
  subst c4
  subst c2
  have hti':=hT _ _ hti
  unfold tiOf at hti'
  split at hti'
  ·rename_i i d hi hd
   simp only [Option.some.injEq] at hti'
   cases d with
   |array n0 e=>
    have hlen:n0=ti.len:=by rw [←hti']
    subst hlen
    have hfl:(bif !P.eqGuardType P.depth ty&&Nat.beq (scalarK P e) 2&&Nat.beq (P.cellsOf e) 1 then [2] else [])=ti.flat:=by rw [←hti']
    cases hc:(!P.eqGuardType P.depth ty&&Nat.beq (scalarK P e) 2&&Nat.beq (P.cellsOf e) 1) with
    |false=>rw [hc] at hfl;simp only [cond_false] at hfl;rw [←hfl] at c5;simp at c5
    |true=>
     simp only [Bool.and_eq_true,Bool.not_eq_true'] at hc
     obtain ⟨⟨hg1,hg2⟩,hg3⟩:=hc
     obtain ⟨k0,he⟩:=scalarK_int hg2
     have hce:=Nat.eq_of_beq_eq_true hg3
     simp only [Rv] at hx hy
     obtain ⟨xs,ex,ox1,ox2,ox3⟩:=hx
     obtain ⟨ys,ey,oy1,oy2,oy3⟩:=hy
     have vx:∀j,j<ti.len→xs[j]?=some (.int p (l1.getD j 0)):=fun j hj=>by simpa [Col.val] using ox3 j 0 _ hj rfl
     have vy:∀j,j<ti.len→ys[j]?=some (.int p (l2.getD j 0)):=fun j hj=>by have:=oy3 j 0 _ (by omega) rfl;simpa [Col.val] using this
     have lx:l1.length=ti.len:=ox2 (.ints p l1) (by simp)
     have ly:l2.length=ti.len:=(oy2 (.ints p l2) (by simp)).trans c3
     obtain ⟨ie,hie⟩:∃ie,P.info? e=some ie:=by
      unfold Program.underlying at he
      cases hi3:P.info? e with
      |none=>simp [hi3] at he
      |some z=>exact ⟨z,rfl⟩
     have hrun':∀w,(Op.equalIn 10000 ty (.agg xs) (.agg ys)).run P w= .ok (decide (l1=l2)) w:=by
      intro w
      rw [run_equalIn_array w 9999 xs ys hd hie,hce,eqItems_ints 9998 he vx vy w _ (fun j hj=>List.mem_range.1 hj),all_range lx ly]
     obtain ⟨e1,e2,⟨rfl,rfl⟩|⟨rfl,rfl⟩⟩:=eqRes_ok h2
     ·refine ⟨e1,e2,_,rvb,fun o ho=> ?_⟩
      simp only [execOp,ho,ex,ey,Sem.run_bind,run_eqGuard_agg w _ ty x y xs ys hg1,run_eql_struct,hrun',Result.andThen_ok,Sem.run_pure]
     ·refine ⟨e1,e2,_,rvb,fun o ho=> ?_⟩
      simp only [execOp,ho,ex,ey,Sem.run_bind,run_eqGuard_agg w _ ty x y xs ys hg1,run_neq_struct,hrun',Result.andThen_ok,Sem.run_pure]
   |_=>rw [←hti'] at c1;exact absurd c1 (by simp [kindOf])
  ·cases hti'
 ·exact h.elim
theorem rmv' {h q:Nat} {v:Value} (r:Rv g (.map h q) v):∃b,v= .map (some b):=by simp only [Rv] at r;obtain ⟨β,_,e⟩:=r;exact ⟨_,e⟩
theorem rnmv' {v:Value} (r:Rv g .nmap v):v= .map none:=by simpa only [Rv] using r
theorem rnsv' {v:Value} (r:Rv g .nsl v):v= .slice none 0 0:=by simpa only [Rv] using r
theorem rslv' {h q i n:Nat} {v:Value} (r:Rv g (.sl h q i (n+1)) v):∃a j k,v= .slice (some a) j k:=by
 simp only [Rv] at r
 obtain ⟨a,c,e,hn,hc|⟨β,_,ha,_⟩⟩:=r
 ·omega
 ·exact ⟨_,_,_,by rw [e,ha]⟩
theorem binK_ok (hT:TabOk P T) {op:BinOp} {ty t':TypeId} {x y:Operand} {s u:SV} (hx:Rv g s (a.eval x)) (hy:Rv g u (a.eval y)) (h:(binK T op ty (isC x||isC y) s u).is r U b t):
  U= []∧b=0∧∃v,Rv g r v∧Yields1 P (.binOp op ty x y t') a w v:=by
 unfold binK at h
 split at h
 ·rename_i k m _ n
  obtain ⟨h0,rfl,rfl,rfl,_⟩:=h
  refine ⟨rfl,rfl,_,rvi,fun o ho=> ?_⟩
  have:¬n<0:=by omega
  simp [execOp,ho,riv hx,riv hy,eqGuard_int,binOp,Op.shift,this,ishl]
 ·rename_i k m _ n
  obtain ⟨h0,rfl,rfl,rfl,_⟩:=h
  refine ⟨rfl,rfl,_,rvi,fun o ho=> ?_⟩
  have:¬n<0:=by omega
  simp [execOp,ho,riv hx,riv hy,eqGuard_int,binOp,Op.shift,this,ishr]
 ·rename_i op' p m q n h1 h2
  obtain ⟨hpq,h2'⟩:=bif_is h
  have:=ikEq_ok hpq;subst this
  obtain ⟨e1,e2,v,hr,hrun⟩:=binInt_ok (P:=P) (g:=g) ty ⟨fun e=>h1 e,fun e=>h2 e⟩ h2'
  refine ⟨e1,e2,v,hr,fun o ho=> ?_⟩
  simp [execOp,ho,riv hx,riv hy,eqGuard_int,hrun]
 ·obtain ⟨e1,e2,v,hr,hrun⟩:=binStr_ok (P:=P) (g:=g) ty h
  refine ⟨e1,e2,v,hr,fun o ho=> ?_⟩
  simp [execOp,ho,rtv hx,rtv hy,eqGuard_str,hrun]
 ·rename_i op' m n
  split at h
  ·rename_i ti hti
   obtain ⟨hk,h2⟩:=bif_is h
   obtain ⟨d,hd,hkd⟩:=kind_of (hT _ _ hti) hk
   have hd':d= .bool:=by cases d<;>first|rfl|(exact absurd hkd (by simp [kindOf]))
   subst hd'
   have hq:∀w,(Op.equal ty (.bool m) (.bool n)).run P w= .ok (m==n) w:=fun w=>run_equalIn_bool w 9999 ty m n hd
   obtain ⟨e1,e2,⟨rfl,rfl⟩|⟨rfl,rfl⟩⟩:=eqRes_ok h2
   ·refine ⟨e1,e2,_,rvb,fun o ho=> ?_⟩
    simp [execOp,ho,rbv hx,rbv hy,eqGuard_bool,binOp,hq]
   ·refine ⟨e1,e2,_,rvb,fun o ho=> ?_⟩
    simp [execOp,ho,rbv hx,rbv hy,eqGuard_bool,binOp,hq]
  ·exact h.elim
 all_goals first
  |exact h.elim
  |(rename_i l m
    split at h
    ·rename_i ti hti
     obtain ⟨hk0,h2⟩:=bif_is h
     simp only [Bool.and_eq_true] at hk0
     obtain ⟨hk4,hk⟩:=hk0
     split at h2
     ·rename_i r0 hr0
      obtain ⟨xs,ex,rx⟩:=rav hx
      obtain ⟨ys,ey,ry⟩:=rav hy
      have hti':=hT _ _ hti
      unfold tiOf at hti'
      split at hti'
      ·rename_i i d hi hd
       simp only [Option.some.injEq] at hti'
       cases d with
       |struct fs=>
        have hfl:(bif !P.stoodInHeld ty&& !P.eqGuardType P.depth ty then (flatN P 0 fs.toList).getD [] else [])=ti.flat:=by rw [←hti']
        cases hc:(!P.stoodInHeld ty&& !P.eqGuardType P.depth ty) with
        |false=>rw [hc] at hfl;simp only [cond_false] at hfl;rw [←hfl] at hk;simp at hk
        |true=>
         rw [hc] at hfl
         simp only [cond_true] at hfl
         simp only [Bool.and_eq_true,Bool.not_eq_true'] at hc
         have hff:P.fieldsOf ty=fs:=by simp [Program.fieldsOf,hd]
         cases hfk:flatN P 0 fs.toList with
         |none=>rw [hfk] at hfl;simp only [Option.getD_none] at hfl;rw [←hfl] at hk;simp at hk
         |some ks=>
          rw [hfk] at hfl
          simp only [Option.getD_some] at hfl
          rw [←hfl] at hr0
          have hrun:∀w,(Op.equalIn (9998+2) ty (.agg xs) (.agg ys)).run P w= .ok r0 w:=by
           intro w
           rw [run_equalIn_struct w 9999 ty xs ys (by rw [hff];exact hd) hc.1,hff]
           exact eqFieldsN_ok 9997 rfl xs ys w fs.toList 0 ks l m r0 hfk (by simpa using rx) (by simpa using ry) hr0
          have hrun':∀w,(Op.equalIn 10000 ty (.agg xs) (.agg ys)).run P w= .ok r0 w:=hrun
          obtain ⟨e1,e2,⟨rfl,rfl⟩|⟨rfl,rfl⟩⟩:=eqRes_ok h2
          ·refine ⟨e1,e2,_,rvb,fun o ho=> ?_⟩
           simp only [execOp,ho,ex,ey,Sem.run_bind,run_eqGuard_agg w _ ty x y xs ys hc.2,run_eql_struct,hrun',Result.andThen_ok,Sem.run_pure]
          ·refine ⟨e1,e2,_,rvb,fun o ho=> ?_⟩
           simp only [execOp,ho,ex,ey,Sem.run_bind,run_eqGuard_agg w _ ty x y xs ys hc.2,run_neq_struct,hrun',Result.andThen_ok,Sem.run_pure]
       |_=>rw [←hti'] at hk4;exact absurd hk4 (by simp [kindOf])
      ·cases hti'
     ·exact h2.elim
    ·exact h.elim)
  |(obtain ⟨β,_,ex⟩:=rpv hx;exact ptrEq_ok hT ex (rnv hy) (.inr rfl) h)
  |(obtain ⟨β,_,ey⟩:=rpv hy;exact ptrEq_ok hT (rnv hx) ey (.inl rfl) h)
  |exact ptrEq_ok hT (rnv hx) (rnv hy) (.inl rfl) h
  |(obtain ⟨_,ex⟩:=rmv' hx;exact mapEq_ok hT ex (rnmv' hy) h)
  |exact mapEq_ok hT (rnmv' hx) (rnmv' hy) h
  |(obtain ⟨_,_,_,ex⟩:=rslv' hx;exact slEq_ok hT ex (rnsv' hy) h)
  |exact slEq_ok hT (rnsv' hx) (rnsv' hy) h
  |(obtain ⟨_,ex⟩:=riff' hx;exact ifEq_ok hT ex (rnif' hy) h)
  |exact nifEq_ok hT (rnif' hx) (rnif' hy) h
  |exact arrEq_ok hT hx hy h
end ops
end Go.Sy
