/- Symbolic execution is right: append and copy. No program in sight. -/
import Derived.Test.YtlankgapiecloaaGreatDoorYS7
namespace Go.Sy
open Go.RowKit
section ops
variable {P:Program} {T:Tab} {g:G} {vs:VS} {a:Act} {w:World} {r:SV} {U:Heap} {b:Nat} {t:List Nat} {H:Heap} {nx:Nat}
theorem holds_heap {w1:World} (hH:Holds g H w) (h:w1.heap=w.heap):Holds g H w1:=
 ⟨fun h' q ro b he=>let ⟨β,hβ,hB⟩:=hH.blk h' q ro b he;⟨β,hβ,blkAt_mono hB (G.le.refl g) (by rw [h];exact Nat.le_refl _) (fun _=>by rw [h])⟩,hH.sep⟩
theorem growBy_le (newLen:Nat):∀(rounds c:Nat),c≤newLen+(newLen+768)/4→Builtin.growBy newLen rounds c≤newLen+(newLen+768)/4
 |0,c,h=>h
 |rounds+1,c,h=>by
  simp only [Builtin.growBy]
  split
  ·exact h
  ·exact growBy_le newLen rounds _ (by omega)
theorem nextslicecap_le {need old:Nat} (h:old<need):Builtin.nextslicecap need old≤2*need+1000:=by
 unfold Builtin.nextslicecap
 split
 ·omega
 ·split
  ·omega
  ·have:=growBy_le need 4 old (by omega);omega
theorem bytes_fit {need old eb:Nat} (h:old<need) (hb:(need+500)*(eb+1)≤70368744177664):Builtin.nextslicecap need old*eb≤281474976710656∧need≤70368744177664:=by
 have h1:=nextslicecap_le h
 have h2:Builtin.nextslicecap need old*eb≤(2*need+1000)*eb:=Nat.mul_le_mul_right _ h1
 have h3:(2*need+1000)*eb=2*((need+500)*eb):=by rw [show 2*need+1000=2*(need+500) from by omega,Nat.mul_assoc]
 have h4:(need+500)*eb≤(need+500)*(eb+1):=Nat.mul_le_mul_left _ (by omega)
 have h5:(need+500)*1≤(need+500)*(eb+1):=Nat.mul_le_mul_left _ (by omega)
 exact ⟨by omega,by omega⟩
def StOk (P:Program) (w w':World) (k:Nat) (cs:Array Value):Option Addr→Prop
 |some ad=>(storeCells (ad.add k) cs.toList).run P w= .ok () w'
 |none=>w'=w
theorem run_append_fits {t t2 ty e:TypeId} {el:Nat} {d2:TypeDesc} (ht:P.underlying t=some (.slice e)) (ht2:P.underlying t2=some d2) (hk2:(∃e2,d2= .slice e2)∨d2= .string) (hsz:∀w,(sizeOf e).run P w= .ok el w)
  {base:Option Addr} {n c n2:Nat} {x:Value} {cs:Array Value} (hlen:(Builtin.lenOf x).run P w= .ok n2 w) (hcs:(Builtin.firstCells el n2 x).run P w= .ok cs w) (hfit:n+n2≤c) {w':World}
  (hst:StOk P w w' (n*el) cs base):(Builtin.append_ #[t,t2] ty #[.slice base n c,x]).run P w= .ok (.slice base (n+n2) c) w':=by
 rcases hk2 with ⟨e2,rfl⟩|rfl
 all_goals
  cases base with
  |none=>
   simp only [StOk] at hst
   subst hst
   simp [Builtin.append_,run_underlying ht,run_underlying ht2,hsz,hlen,hfit,hcs]
  |some ad=>
   simp only [StOk] at hst
   simp [Builtin.append_,run_underlying ht,run_underlying ht2,hsz,hlen,hfit,hcs,hst]
theorem run_append_grows {t t2 ty e:TypeId} {el:Nat} {d2:TypeDesc} {i:TypeInfo} {z:Value} (ht:P.underlying t=some (.slice e)) (ht2:P.underlying t2=some d2) (hk2:(∃e2,d2= .slice e2)∨d2= .string) (hi:P.info? e=some i) (hel:i.size=el) (hz:i.zero=some z)
  {base:Option Addr} {n c n2:Nat} {x:Value} {old cs:Array Value} (hlen:(Builtin.lenOf x).run P w= .ok n2 w) (hcs:∀w1:World,w1.heap=w.heap→(Builtin.firstCells el n2 x).run P w1= .ok cs w1) (hold:∀w1:World,w1.heap=w.heap→(Builtin.firstCells el n (.slice base n c)).run P w1= .ok old w1) (hfit:c<n+n2)
  (h63:n+n2≤70368744177664) (h48:Builtin.nextslicecap (n+n2) c*i.bytes≤281474976710656):
  ∃cap w',n+n2≤cap∧(Builtin.append_ #[t,t2] ty #[.slice base n c,x]).run P w= .ok (.slice (some ⟨w.heap.size,0,none⟩) (n+n2) cap) w'∧w'.heap=w.heap.push (.cells (old++cs++Builtin.zeroCells z.cells (cap-(n+n2))) e (0,0))∧w'.os=w.os∧w'.tape=w.tape∧w'.output=w.output:=by
 have hti':∀w,(typeInfo e).run P w= .ok i w:=fun w=>by simp [typeInfo,hi]
 have hszr:∀w,(sizeOf e).run P w= .ok el w:=fun w=>by simp [sizeOf,hti',hel]
 have hzr:∀w,(zeroValue e).run P w= .ok z w:=fun w=>by simp [zeroValue,hti',hz]
 have hn:¬(n+n2≤c):=by omega
 have h63':¬(9223372036854775807<((n:Int)+(n2:Int))):=by omega
 have h48':¬(281474976710656<Builtin.nextslicecap (n+n2) c*i.bytes):=by omega
 have hq:(Question.appendCap (n+n2) c e).forced=false:=rfl
 have hroom:∀k w,(askRoom k).run P w= .ok () w:=fun k w=>by unfold askRoom;split<;>rfl
 let w1:World:=w.drew
 let cap:=(Question.appendCap (n+n2) c e).cut (w.tape w.drawn (Question.appendCap (n+n2) c e))
 have hcap:n+n2≤cap:=by simp only [cap,Question.cut];omega
 refine ⟨cap,w1.alloc (.cells (old++cs++Builtin.zeroCells z.cells (cap-(n+n2))) e),hcap,?_,rfl,rfl,rfl,rfl⟩
 have h1:=hcs w1 rfl
 have h2:=hold w1 rfl
 rcases hk2 with ⟨e2,rfl⟩|rfl
 all_goals simp [Builtin.append_,run_underlying ht,run_underlying ht2,hszr,hti',hlen,hn,h63',h48',hroom,hzr,newRow]
 all_goals
  rw [if_neg (by rw [hq];simp)]
  have h1':(Builtin.firstCells el n2 x).run P w.drew= .ok cs w.drew:=h1
  have h2':(Builtin.firstCells el n (.slice base n c)).run P w.drew= .ok old w.drew:=h2
  simp only [h1',h2',Result.andThen_ok]
  rfl
theorem catCol_ok {c d e:BCol} (h:catCol c d=some e):e.len=c.len+d.len∧(∀i,i<c.len→e.at i=c.at i)∧∀i,e.at (c.len+i)=d.at i:=by
 have gl:∀{α:Type} (l m:List α) (x:Nat) (dd:α),x<l.length→(l++m).getD x dd=l.getD x dd:=by
  intro α l m x dd hx;simp only [List.getD,List.getElem?_append_left hx]
 have gr:∀{α:Type} (l m:List α) (x:Nat) (dd:α),(l++m).getD (l.length+x) dd=m.getD x dd:=by
  intro α l m x dd
  simp only [List.getD]
  rw [List.getElem?_append_right (by omega)]
  congr 2;omega
 unfold catCol at h
 split at h
 ·rename_i k l p m
  cases hp:ikEq p k with
  |false=>rw [hp] at h;simp at h
  |true=>
   rw [hp] at h
   have:=ikEq_ok hp;subst this
   simp only [cond_true,Option.some.injEq] at h;subst h
   refine ⟨by simp [BCol.len,Col.len],?_,?_⟩
   ·intro i hi;simp only [BCol.at,Col.at];rw [gl _ _ _ _ hi]
   ·intro i;simp only [BCol.at,Col.at,BCol.len,Col.len];rw [gr]
 ·simp only [Option.some.injEq] at h;subst h
  refine ⟨by simp [BCol.len,Col.len],?_,?_⟩
  ·intro i hi;simp only [BCol.at,Col.at];rw [gl _ _ _ _ hi]
  ·intro i;simp only [BCol.at,Col.at,BCol.len,Col.len];rw [gr]
 ·simp only [Option.some.injEq] at h;subst h
  refine ⟨by simp [BCol.len,Col.len],?_,?_⟩
  ·intro i hi;simp only [BCol.at,Col.at];rw [gl _ _ _ _ hi]
  ·intro i;simp only [BCol.at,Col.at,BCol.len,Col.len];rw [gr]
 ·simp only [Option.some.injEq] at h;subst h
  refine ⟨by simp [BCol.len],?_,?_⟩
  ·intro i hi;simp only [BCol.at];rw [gl _ _ _ _ hi]
  ·intro i;simp only [BCol.at,BCol.len];rw [gr]
 ·rename_i hh ns m
  simp only [Option.some.injEq] at h;subst h
  refine ⟨by simp [BCol.len,ownL_len],?_,?_⟩
  ·intro i hi;simp only [BCol.at];rw [gl _ _ _ _ (by rw [ownL_len];exact hi)];exact ownL_at hi
  ·intro i;simp only [BCol.at,BCol.len];rw [←ownL_len hh ns,gr]
 ·rename_i hh n0 m
  simp only [Option.some.injEq] at h;subst h
  refine ⟨by simp [BCol.len,ptrL_len],?_,?_⟩
  ·intro i hi;simp only [BCol.at];rw [gl _ _ _ _ (by rw [ptrL_len];exact hi)];exact ptrL_at hi
  ·intro i;simp only [BCol.at,BCol.len];have:=gr (ptrL hh n0) m i .unk;rw [ptrL_len] at this;exact this
 ·simp only [Option.some.injEq] at h;subst h
  refine ⟨by simp [BCol.len],fun i hi=>by simp [BCol.len] at hi,fun i=>by simp [BCol.len]⟩
 ·simp only [Option.some.injEq] at h;subst h
  refine ⟨by simp [BCol.len],fun i hi=>by simp [BCol.len] at hi,fun i=>by simp [BCol.len]⟩
 ·simp only [Option.some.injEq] at h;subst h
  refine ⟨by simp [BCol.len],fun i hi=>by simp [BCol.len] at hi,fun i=>by simp [BCol.len]⟩
 ·cases h
theorem catCols_ok:∀(l m r:List BCol),catCols l m=some r→r.length=l.length∧m.length=l.length∧∀j e,nth r j=some e→∃c d,nth l j=some c∧nth m j=some d∧catCol c d=some e
 | [],[],r,h=>by simp only [catCols,Option.some.injEq] at h;subst h;simp [nth]
 | [],_::_,r,h=>by simp [catCols] at h
 |_::_,[],r,h=>by simp [catCols] at h
 |c::l,d::m,r,h=>by
  simp only [catCols] at h
  split at h
  ·rename_i e r' he hr
   simp only [Option.some.injEq] at h;subst h
   obtain ⟨h1,h2,h3⟩:=catCols_ok l m r' hr
   refine ⟨by simp [h1],by simp [h2],?_⟩
   intro j e' hj
   cases j with
   |zero=>simp only [nth,Option.some.injEq] at hj;subst hj;exact ⟨c,d,rfl,rfl,he⟩
   |succ j=>simp only [nth] at hj⊢;exact h3 j e' hj
  ·cases h
end ops
end Go.Sy
