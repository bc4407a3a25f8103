/- The verification condition of code: contracts, calls, regions, loops. No program in sight. -/
import Derived.Test.YtlankgapiecloaaGreatDoorYDef
namespace Go.Sy
open Go.RowKit
mutual
def SV.ren (ρ:Nat→Nat):SV→SV
 | .ptr h q i j=> .ptr (ρ h) q i j
 | .sl h q i n=> .sl (ρ h) q i n
 | .map h q=> .map (ρ h) q
 | .fn f l=> .fn f (SV.rens ρ l)
 | .iface t v=> .iface t (SV.ren ρ v)
 | .agg l=> .agg (SV.rens ρ l)
 | .tup l=> .tup (SV.rens ρ l)
 | .bool b=> .bool b
 | .int k n=> .int k n
 | .str s=> .str s
 | .nptr=> .nptr
 | .nsl=> .nsl
 | .zsl=> .zsl
 | .nmap=> .nmap
 | .nif=> .nif
 | .arr n l=> .arr n l
 | .raw v=> .raw v
 | .unk=> .unk
def SV.rens (ρ:Nat→Nat):List SV→List SV
 | []=> []
 |s::r=>SV.ren ρ s::SV.rens ρ r
end
def BCol.ren (ρ:Nat→Nat):BCol→BCol
 | .sc c=> .sc c
 | .svs l=> .svs (SV.rens ρ l)
 | .own h ns=> .own (ρ h) ns
 | .arrs n k r=> .arrs n k r
 | .ptrs h n=> .ptrs (ρ h) n
def renCols (ρ:Nat→Nat):List BCol→List BCol
 | []=> []
 |c::l=>c.ren ρ::renCols ρ l
def ObjS.ren (ρ:Nat→Nat):ObjS→ObjS
 | .map ka ea n ks vs bs ck=> .map ka ea n ks (renCols ρ vs) bs ck
 | .iter h q a b c=> .iter (ρ h) q a b c
 | .niter=> .niter
 | .siter s p=> .siter s p
 | .bld0 T=> .bld0 T
 | .bld T h q n=> .bld T (ρ h) q n
 | .brow T s=> .brow T s
 | .bag Q=> .bag Q
def Blk.ren (ρ:Nat→Nat):Blk→Blk
 | .cells l=> .cells (SV.rens ρ l)
 | .cols n l=> .cols n (renCols ρ l)
 | .obj o=> .obj (o.ren ρ)
def HB.ren (ρ:Nat→Nat):HB→HB
 | .one r b=> .one r (b.ren ρ)
 | .fam r dom f=> .fam r dom (fun q=>(f q).ren ρ)
mutual
def SV.wf (n:Nat):SV→Bool
 | .ptr h _ _ _=>Nat.blt h n
 | .sl h _ _ _=>Nat.blt h n
 | .map h _=>Nat.blt h n
 | .fn _ l=>SV.wfs n l
 | .iface _ v=>SV.wf n v
 | .agg l=>SV.wfs n l
 | .tup l=>SV.wfs n l
 |_=>true
def SV.wfs (n:Nat):List SV→Bool
 | []=>true
 |s::r=>SV.wf n s&&SV.wfs n r
end
def BCol.wf (n:Nat):BCol→Bool
 | .sc _=>true
 | .svs l=>SV.wfs n l
 | .own h _=>Nat.blt h n
 | .arrs _ _ _=>true
 | .ptrs h _=>Nat.blt h n
def colsWf (n:Nat):List BCol→Bool
 | []=>true
 |c::l=>c.wf n&&colsWf n l
def ObjS.wf (n:Nat):ObjS→Bool
 | .map _ _ _ _ vs _ _=>colsWf n vs
 | .iter h _ _ _ _=>Nat.blt h n
 | .niter=>true
 | .siter _ _=>true
 | .bld0 _=>true
 | .bld _ h _ _=>Nat.blt h n
 | .brow _ _=>true
 | .bag _=>true
def Blk.wf (n:Nat):Blk→Bool
 | .cells l=>SV.wfs n l
 | .cols _ l=>colsWf n l
 | .obj o=>o.wf n
def HB.wf (n:Nat):HB→Prop
 | .one _ b=>b.wf n=true
 | .fam _ dom f=>∀q,dom q→(f q).wf n=true
def heapWf (n:Nat):Heap→Prop
 | []=>True
 |(h,some hb)::r=>Nat.blt h n=true∧hb.wf n∧heapWf n r
 |(_,none)::_=>False
def rho (l:List Nat) (nx:Nat) (h:Nat):Nat:=match nth l h with|some k=>k|none=>nx+(h-l.length)
def HB.fits:HB→HB→Prop
 | .one r b,.one r' b'=>(r|| !r')=true∧b'=b
 | .fam r dom f,.fam r' dom' f'=>(r|| !r')=true∧dom'=dom∧f'=f
 |_,_=>False
def fitsAt (o:Option HB) (hb:HB):Prop:=match o with|some hb'=>hb.fits hb'|none=>False
def hmatch (ρ:Nat→Nat):Heap→Heap→Prop
 | [],_=>True
 |(h,some hb)::r,H=>fitsAt (hget H (ρ h)) (hb.ren ρ)∧hmatch ρ r H
 |(_,none)::_,_=>False
def renH (ρ:Nat→Nat):Heap→Heap
 | []=> []
 |(h,some hb)::r=>(ρ h,some (hb.ren ρ))::renH ρ r
 |(h,none)::r=>(ρ h,none)::renH ρ r
def lost (ρ:Nat→Nat):Heap→Heap
 | []=> []
 |(h,some hb)::r=>bif hb.ro then lost ρ r else (ρ h,none)::lost ρ r
 |(_,none)::r=>lost ρ r
def bodied (P:Program) (f:FuncId):Prop:=∃fn c,P.funcs[f]?=some fn∧fn.body=some c∧(fn.name=="runtime.NumGoroutine")=false
def allRw (H:Heap):Prop:=∀h q ro b,Ent H h q ro b→ro=false
def Out (g:G) (w:World) (n:Nat) (H:Heap) (post:SV→Heap→Nat→Prop) (v:Value) (w':World):Prop:=
 ∃sv H' n' g',post sv H' n'∧n≤n'∧g'.upto n'∧(∀h q,h<n→g' h q=g h q)∧Rv g' sv v∧Holds g' H' w'∧allRw H'∧Fr (Wset g H) w w'∧Owns g' H' (Wset g H) w
def FC (P:Program) (n:Nat) (f:FuncId) (args:List SV) (H:Heap) (post:SV→Heap→Nat→Prop):Prop:=
 (bodied P f∧∀(g:G) (w:World) (vals:List Value),g.glob→g.upto n→Holds g H w→Rvs g args vals→Calls P f vals.toArray w (fun e w'=>∃v,e= .returned v∧Out g w n H post v w'))∨
 (∀(g:G) (w:World) (vals:List Value),g.glob→g.upto n→Holds g H w→Rvs g args vals→∃v w',(callFunc f vals.toArray).run P w= .ok (.value v) w'∧Out g w n H post v w')
def isOut (r:SV) (H':Heap) (n':Nat):SV→Heap→Nat→Prop:=fun sv h n=>sv=r∧h=H'∧n=n'
def Pure (P:Program) (f:FuncId) (args:List SV) (r:SV):Prop:=FC P 1 f args [] (isOut r [] 1)
def allLt (l:List Nat) (n:Nat):Bool:=match l with| []=>true|k::r=>Nat.blt k n&&allLt r n
def headOk:List Nat→Bool
 |0::_=>true
 |_=>false
def injRow (ρ:Nat→Nat) (h:Nat):Heap→Bool
 | []=>true
 |(k,_)::r=>(Nat.beq h k|| !Nat.beq (ρ h) (ρ k))&&injRow ρ h r
def injH (ρ:Nat→Nat) (all:Heap):Heap→Bool
 | []=>true
 |(h,some hb)::r=>(hb.ro||injRow ρ h all)&&injH ρ all r
 |(_,none)::r=>injH ρ all r
structure Fits (l:List Nat) (nx:Nat) (args args0:List SV) (H Hc:Heap):Prop where
 head:headOk l=true
 inj:injH (rho l nx) H H=true
 args:args=SV.rens (rho l nx) args0
 wfA:SV.wfs l.length args0=true
 wfH:heapWf l.length H
 heap:hmatch (rho l nx) H Hc
def vcall (P:Program) (f:FuncId) (args:List SV) (Hc:Heap) (nx:Nat) (K:SV→Heap→Nat→Prop):Prop:=
 ∃(l:List Nat) (args0:List SV) (H:Heap) (post:SV→Heap→Nat→Prop),FC P l.length f args0 H post∧Fits l nx args args0 H Hc∧∀sv H' n',post sv H' n'→K (SV.ren (rho l nx) sv) (renH (rho l nx) H'++lost (rho l nx) H) (n'-l.length)
def vcallD (P:Program) (f:FuncId) (args:List SV) (Hc:Heap) (nx:Nat) (K:SV→Heap→Nat→List Nat→Prop):Prop:=
 ∃(l:List Nat) (args0:List SV) (H:Heap) (r:SV) (H':Heap) (n':Nat),FC P l.length f args0 H (isOut r H' n')∧Fits l nx args args0 H Hc∧K (SV.ren (rho l nx) r) (renH (rho l nx) H'++lost (rho l nx) H) (n'-l.length) l
def pushU:Heap→Heap→(Heap→Prop)→Prop
 | [],H,K=>K H
 |x::r,H,K=>pushU r H (fun H'=>K (x::H'))
def updK (vs:VS) (d:Option Nat) (r:SV) (U:Heap) (b:Nat) (K:VS→Prop):Prop:=
 match vs with
 |⟨e,H,n⟩=>pushU U H (fun H'=>match d,b with
  |some d,0=>K ⟨(d,r)::e,H',n⟩
  |none,0=>K ⟨e,H',n⟩
  |some d,b+1=>K ⟨(d,r)::e,H',n+(b+1)⟩
  |none,b+1=>K ⟨e,H',n+(b+1)⟩)
def catL (l:List SV):List SV→List SV
 | []=>l
 |c=>l++c
def resP (R:Res) (K:SV→Heap→Nat→List Nat→Prop):Prop:=
 match R with
 | .no=>False
 | .ok r U b t=>K r U b t
 | .when c r U b t=>c∧K r U b t
def vnext (vs:VS) (d:Option Nat) (it:SV) (K:VS→Prop):Prop:=
 match it with
 | .ptr h 0 0 0=>(match hget vs.heap h with
   |some (.one false (.obj (.iter hm 0 bs ck sn)))=>(match hget vs.heap hm with
    |some (.one _ (.obj (.map ka ea n ks vl bs2 ck2)))=>(bs2=bs∧ck2=ck)∧(∀i,i<n→¬i∈sn→updK vs d (.tup [.bool true,keyS ka ks i,elemS ea vl i]) [(h,some (.one false (.obj (.iter hm 0 bs ck (i::sn)))))] 0 K)∧((∀i,i<n→i∈sn)→updK vs d (.tup [.bool false]) [] 0 K)
    |_=>False)
   |_=>False)
 |_=>False
def vsnext (vs:VS) (d:Option Nat) (it:SV) (K:VS→Prop):Prop:=
 match it with
 | .ptr h 0 0 0=>(match hget vs.heap h with
   |some (.one false (.obj (.siter s p)))=>(p<s.size→updK vs d (.tup [.bool true,.int .i64 (p:Int),.int .i32 ((Utf8.decode s p).1:Int)]) [(h,some (.one false (.obj (.siter s (p+(Utf8.decode s p).2)))))] 0 K)∧(¬p<s.size→updK vs d (.tup [.bool false]) [] 0 K)
   |_=>False)
 |_=>False
def MethOk (P:Program) (t:TypeId) (name:String) (f:FuncId):Prop:=∀v w,(method (P.types.size+Made.depth) t v name).run P w= .ok (f,v) w
def vex (P:Program) (T:Tab) (o:Oper) (vs:VS) (K:VS→Prop):Prop:=
 match vs with
 |⟨e,H,nx⟩=>match o.op with
  | .call { callee:= .value f,args:=args,argTypes:=_}=>(match gv ⟨e,H,nx⟩ f,gvs ⟨e,H,nx⟩ args.toList with
    |some (.fn n cap),some l=>vcall P n (catL l cap) H nx (fun r U b=>updK ⟨e,H,nx⟩ o.dst r U b K)
    |_,_=>False)
  | .call { callee:= .invoke x name,args:=args,argTypes:=_}=>(match gv ⟨e,H,nx⟩ x,gvs ⟨e,H,nx⟩ args.toList with
    |some (.iface t v),some l=>∃f,MethOk P t name f∧vcall P f (v::l) H nx (fun r U b=>updK ⟨e,H,nx⟩ o.dst r U b K)
    |_,_=>False)
  | .next x false=>(match gv ⟨e,H,nx⟩ x with
    |some it=>vnext ⟨e,H,nx⟩ o.dst it K
    |none=>False)
  | .next x true=>(match gv ⟨e,H,nx⟩ x with
    |some it=>vsnext ⟨e,H,nx⟩ o.dst it K
    |none=>False)
  | .binOp .eql t x y ty=>(match gv ⟨e,H,nx⟩ x,gv ⟨e,H,nx⟩ y with
    |some (.sl _ _ _ 0),some .nsl=>(match aget T t with
     |some ti=>bif Nat.beq ti.kind 6 then (updK ⟨e,H,nx⟩ o.dst (.bool true) [] 0 K∧updK ⟨e,H,nx⟩ o.dst (.bool false) [] 0 K) else False
     |none=>False)
    |_,_=>resP (eff T ⟨e,H,nx⟩ nx (.binOp .eql t x y ty)) (fun r U b _=>updK ⟨e,H,nx⟩ o.dst r U b K))
  |op=>resP (eff T ⟨e,H,nx⟩ nx op) (fun r U b _=>updK ⟨e,H,nx⟩ o.dst r U b K)
def vop (P:Program) (T:Tab) (ops:List Oper) (o:Oper) (vs:VS) (K:VS→Prop):Prop:=
 match o.guard with
 |none=>vex P T o vs K
 |some (j,want)=>match nth ops j with
  |some oj=>(match oj.dst with
   |some d=>(match aget vs.env d with
    |some (.bool true)=>bif want then vex P T o vs K else updK vs o.dst (.raw undef) [] 0 K
    |some (.bool false)=>bif want then updK vs o.dst (.raw undef) [] 0 K else vex P T o vs K
    |some (.raw (.tuple _))=>updK vs o.dst (.raw undef) [] 0 K
    |_=>False)
   |none=>False)
  |none=>False
def known (vs:VS) (d:Nat) (K:VS→Prop):Prop:=
 match vs with
 |⟨e,h,n⟩=>match aget e d with
  |some (.bool b)=>br b (K ⟨(d,.bool true)::e,h,n⟩) (K ⟨(d,.bool false)::e,h,n⟩)
  |some (.raw (.tuple _))=>K ⟨e,h,n⟩
  |_=>False
def guardSlot (ops:List Oper) (o:Oper):Option Nat:=
 match o.guard with
 |none=>none
 |some (j,_)=>match nth ops j with
  |some oj=>oj.dst
  |none=>none
def vops (P:Program) (T:Tab) (ops:List Oper):List Oper→VS→(VS→Prop)→Prop
 | [],vs,K=>K vs
 |o::r,vs,K=>match guardSlot ops o with
  |none=>vop P T ops o vs (fun vs'=>vops P T ops r vs' K)
  |some d=>known vs d (fun v1=>vop P T ops o v1 (fun vs'=>vops P T ops r vs' K))
structure Rec where
 keys:List Nat
 touch:List Nat
def keysOf:Heap→List Nat
 | []=> []
 |(h,_)::r=>h::keysOf r
def hasN:List Nat→Nat→Bool
 | [],_=>false
 |x::r,t=>Nat.beq x t||hasN r t
def apartN:List Nat→List Nat→Bool
 | [],_=>true
 |x::r,l=> !hasN l x&&apartN r l
def edgeTo (o:Oper) (j:Nat):Bool:=o.after.toList.any (fun e=>Region.binds .any e&&Nat.beq e.on j)
def reach (ops:List Oper):Nat→Oper→Nat→Bool
 |0,o,j=>edgeTo o j
 |n+1,o,j=>edgeTo o j||o.after.toList.any (fun e=>Region.binds .any e&&Nat.blt j e.on&&(match nth ops e.on with|some oe=>reach ops n oe j|none=>false))
def tmpEq:Operand→Operand→Bool
 | .tmp a,.tmp b=>Nat.beq a b
 |_,_=>false
def countME:List Oper→Nat
 | []=>0
 |o::r=>(match o.op with| .mapEntry _ _ _=>countME r+1|_=>countME r)
def slotFree (x:Operand) (l:List Oper):Bool:=
 match x with
 | .tmp a=>l.all (fun o=>match o.dst with|some d=> !Nat.beq d a|none=>true)
 |_=>false
def exempt (ops:List Oper) (k:Nat) (o:Oper):Bool:=
 match nth ops k,o.op with
 |some ok,.mapEntry ty x y=>(match ok.op with
  | .lookup ty' x' y' false=>Nat.beq ty' ty&&tmpEq x' x&&tmpEq y' y&&Nat.beq (countME ops) 1&&slotFree x (ops.drop k)&&slotFree y (ops.drop k)
  |_=>false)
 |_,_=>false
def recsOk (ops:List Oper) (o:Oper) (keys touch:List Nat):Nat→List Rec→Bool
 |_,[]=>true
 |i,c::r=>((apartN c.keys touch&&apartN c.keys keys&&apartN keys c.touch)||reach ops 7 o i||exempt ops i o)&&recsOk ops o keys touch (i+1) r
def snoc {α:Type}:List α→α→List α
 | [],x=> [x]
 |y::l,x=>y::snoc l x
def snocK {α:Type}:List α→α→(List α→Prop)→Prop
 | [],x,K=>K [x]
 |y::l,x,K=>snocK l x (fun l'=>K (y::l'))
theorem snocK_eq {α:Type}:∀(l:List α) (x:α) (K:List α→Prop),snocK l x K=K (snoc l x)
 | [],x,K=>rfl
 |y::l,x,K=>by simp only [snocK,snoc,snocK_eq l]
def keysK:Heap→(List Nat→Prop)→Prop
 | [],K=>K []
 |(h,_)::r,K=>keysK r (fun l=>K (h::l))
theorem keysK_eq:∀(U:Heap) (K:List Nat→Prop),keysK U K=K (keysOf U)
 | [],K=>rfl
 |(h,_)::r,K=>by simp only [keysK,keysOf,keysK_eq r]
def stepD (ops:List Oper) (o:Oper) (recs:List Rec) (vs:VS) (r:SV) (U:Heap) (b:Nat) (t:List Nat) (K:List Rec→VS→Prop):Prop:=
 keysK U (fun ks=>bif recsOk ops o ks t 0 recs then snocK recs ⟨ks,t⟩ (fun recs'=>updK vs o.dst r U b (K recs')) else False)
def vexD (P:Program) (T:Tab) (ops:List Oper) (o:Oper) (recs:List Rec) (vs:VS) (K:List Rec→VS→Prop):Prop:=
 match vs with
 |⟨e,H,nx⟩=>match o.op with
  | .call { callee:= .value f,args:=args,argTypes:=_}=>(match gv ⟨e,H,nx⟩ f,gvs ⟨e,H,nx⟩ args.toList with
    |some (.fn n cap),some l=>vcallD P n (catL l cap) H nx (fun r U b t=>stepD ops o recs ⟨e,H,nx⟩ r U b t K)
    |_,_=>False)
  | .call { callee:= .invoke x name,args:=args,argTypes:=_}=>(match gv ⟨e,H,nx⟩ x,gvs ⟨e,H,nx⟩ args.toList with
    |some (.iface t v),some l=>∃f,MethOk P t name f∧vcallD P f (v::l) H nx (fun r U b t=>stepD ops o recs ⟨e,H,nx⟩ r U b t K)
    |_,_=>False)
  |op=>resP (eff T ⟨e,H,nx⟩ nx op) (fun r U b t=>stepD ops o recs ⟨e,H,nx⟩ r U b t K)
def vopD (P:Program) (T:Tab) (ops:List Oper) (o:Oper) (recs:List Rec) (vs:VS) (K:List Rec→VS→Prop):Prop:=
 match o.guard with
 |none=>vexD P T ops o recs vs K
 |some (j,want)=>match nth ops j with
  |some oj=>(match oj.dst with
   |some d=>(match aget vs.env d with
    |some (.bool true)=>bif want then vexD P T ops o recs vs K else stepD ops o recs vs (.raw undef) [] 0 [] K
    |some (.bool false)=>bif want then stepD ops o recs vs (.raw undef) [] 0 [] K else vexD P T ops o recs vs K
    |some (.raw (.tuple _))=>stepD ops o recs vs (.raw undef) [] 0 [] K
    |_=>False)
   |none=>False)
  |none=>False
def vopsD (P:Program) (T:Tab) (ops:List Oper):List Oper→List Rec→VS→(VS→Prop)→Prop
 | [],_,vs,K=>K vs
 |o::r,recs,vs,K=>match guardSlot ops o with
  |none=>vopD P T ops o recs vs (fun recs' vs'=>vopsD P T ops r recs' vs' K)
  |some d=>known vs d (fun v1=>vopD P T ops o recs v1 (fun recs' vs'=>vopsD P T ops r recs' vs' K))
def idList:Nat→List Nat→Bool
 |0,_=>true
 |n+1,l=>(match nth l n with|some k=>Nat.beq k n|none=>false)&&idList n l
def nodupN:List Nat→Bool
 | []=>true
 |x::r=> !hasN r x&&nodupN r
def weakEnv (ρ:Nat→Nat):Env→Env→Prop
 | [],_=>True
 |(t,sv)::r,e=>aget e t=some (SV.ren ρ sv)∧weakEnv ρ r e
def weakHeap (ρ:Nat→Nat):Heap→Heap→Prop
 | [],_=>True
 |(h,some hb)::r,e=>hget e (ρ h)=some (hb.ren ρ)∧weakHeap ρ r e
 |(_,none)::_,_=>False
structure Weak (n0:Nat) (l:List Nat) (vs v0:VS):Prop where
 ids:(Nat.ble 1 n0&&Nat.ble n0 l.length&&idList n0 l&&Nat.beq l.length v0.next&&allLt l vs.next&&injH (rho l vs.next) v0.heap v0.heap)=true
 env:weakEnv (rho l vs.next) v0.env vs.env
 heap:weakHeap (rho l vs.next) v0.heap vs.heap
def SLe (n:Nat) (R:Nat→Nat→Option (Nat×Nat)) (sv sv':SV):Prop:=∀(g g1:G) (v:Value),G.le g g1→(∀h q p,n≤h→R h q=some p→∀β,g p.1 p.2=some β→g1 h q=some β)→Rv g sv v→Rv g1 sv' v
def BLs (n:Nat) (R:Nat→Nat→Option (Nat×Nat)):Blk→Blk→Prop
 | .cells l,.cells l'=>l'.length=l.length∧∀j sv',nth l' j=some sv'→∃sv,nth l j=some sv∧SLe n R sv sv'
 | .cols m cs,.cols m' cs'=>m'≤m∧cs'.length=cs.length∧((∀c∈cs,c.len=m)→∀c∈cs',c.len=m')∧∀i j c',i<m'→nth cs' j=some c'→∃c,nth cs j=some c∧SLe n R (c.at i) (c'.at i)
 | .obj (.map ka ea m ks vl bs ck),.obj (.map ka' ea' m' ks' vl' bs' ck')=>ka'=ka∧ea'=ea∧m'=m∧ks'=ks∧bs'=bs∧ck'=ck∧((∀c∈vl,c.len=m)→∀c∈vl',c.len=m')∧∀i,i<m'→SLe n R (elemS ea' vl i) (elemS ea' vl' i)
 |_,_=>False
def BLe (n:Nat) (R:Nat→Nat→Option (Nat×Nat)) (b b':Blk):Prop:=b'=b∨BLs n R b b'
def From (n:Nat) (R:Nat→Nat→Option (Nat×Nat)) (h q h0 q0:Nat):Prop:=(h<n∧h0=h∧q0=q)∨(n≤h∧R h q=some (h0,q0))
def gone:List Nat→Heap
 | []=> []
 |h::r=>(h,none)::gone r
def len0:List BCol→Bool
 | []=>true
 | .sc (.ints _ [])::r=>len0 r
 | .sc (.strs [])::r=>len0 r
 | .sc (.bools [])::r=>len0 r
 | .svs []::r=>len0 r
 | .own _ []::r=>len0 r
 | .ptrs _ 0::r=>len0 r
 |_=>false
structure Relab (H:Heap) (n:Nat) (R:Nat→Nat→Option (Nat×Nat)) (E:Nat→Nat) (N:Heap) (dr:List Nat) (m:Nat):Prop where
 lim:∀h q p,n≤h→R h q=some p→h<n+m
 ro:∀h q ro b,Ent N h q ro b→ro=false
 src:∀h q b',Ent N h q false b'→(∃h0 q0 b0,From n R h q h0 q0∧Ent H h0 q0 false b0∧BLe n R b0 b')∨((n≤h∧h<n+m)∧R h q=none∧∃cs,b'= .cols 0 cs∧len0 cs=true∧E h=cs.length)
 took:∀h q p,n≤h→R h q=some p→p.1∈dr
 inj:∀h q h' q' h0 q0,h∈keysOf N→h'∈keysOf N→From n R h q h0 q0→From n R h' q' h0 q0→h=h'∧q=q'
inductive Up where
 |slot (t:Nat) (cs:List BCol)
 |cell (h j:Nat) (cs:List BCol)
 |relab (R:Nat→Nat→Option (Nat×Nat)) (E:Nat→Nat) (N:Heap) (dr:List Nat) (m:Nat)
def SV.none:SV→Bool
 | .nsl=>true
 | .zsl=>true
 |_=>false
def up1 (u:Up) (vs:VS):Option VS:=
 match vs,u with
 |⟨e,H,n⟩,.slot t cs=>(match aget e t with
  |some v=>bif v.none&&len0 cs then some ⟨(t,.sl n 0 0 0)::e,(n,some (.one false (.cols 0 cs)))::H,n+1⟩ else none
  |none=>none)
 |⟨e,H,n⟩,.cell h j cs=>(match hget H h with
  |some (.one false (.cells l))=>(match nth l j with
   |some v=>bif v.none&&len0 cs then some ⟨e,(h,some (.one false (.cells (setNth l j (.sl n 0 0 0)))))::(n,some (.one false (.cols 0 cs)))::H,n+1⟩ else none
   |none=>none)
  |_=>none)
 |_,.relab _ _ _ _ _=>none
def upK:List Up→VS→(VS→Prop)→Prop
 | [],vs,K=>K vs
 | .relab R E N dr m::r,⟨e,H,n⟩,K=>Relab H n R E N dr m∧pushU N (gone dr++H) (fun H'=>upK r ⟨e,H',n+m⟩ K)
 |u::r,vs,K=>match up1 u vs with
  |some v=>upK r v K
  |none=>False
def vloop (n0:Nat) (body:VS→(Exit→VS→Prop)→Prop) (vs:VS) (K:Exit→VS→Prop):Prop:=
 ∃(α:Type) (st:α→VS) (inv:α→Prop) (μ:α→Nat) (x0:α) (l0:List Nat) (u0:List Up),upK u0 vs (fun v=>Weak n0 l0 v (st x0))∧inv x0∧∀x,inv x→body (st x) (fun e v'=>match e with
  | .normal=>∃y l u,inv y∧μ y<μ x∧upK u v' (fun v=>Weak n0 l v (st y))
  |e=>K e v')
def learnK (vs:VS) (d:Nat) (b:Bool) (K:VS→Prop):Prop:=
 match vs with
 |⟨e,h,n⟩=>K ⟨(d,.bool b)::e,h,n⟩
def seqC (f:VS→(Exit→VS→Prop)→Prop) (K:Exit→VS→Prop):Exit→VS→Prop:=fun e vs'=>match e with| .normal=>f vs' K|e=>K e vs'
def blockC (id:Nat) (K:Exit→VS→Prop):Exit→VS→Prop:=fun e vs'=>match e with| .exit i=>(bif Nat.beq i id then K .normal vs' else K (.exit i) vs')|e=>K e vs'
def noGotoC (K:Exit→VS→Prop):Exit→VS→Prop:=fun e vs'=>match e with| .goto _=>False|e=>K e vs'
def vcode (P:Program) (T:Tab) (n0:Nat):Code→VS→(Exit→VS→Prop)→Prop
 | .skip,vs,K=>K .normal vs
 | .region _ ops draw,vs,K=>bif draw then vopsD P T ops.toList ops.toList [] vs (K .normal) else vops P T ops.toList ops.toList vs (K .normal)
 | .seq a b,vs,K=>vcode P T n0 a vs (seqC (fun v k=>vcode P T n0 b v k) K)
 | .cond c x y,vs,K=>(match c,gv vs c with
   | .tmp t,some (.bool b)=>br b (learnK vs t true (fun v=>vcode P T n0 x v K)) (learnK vs t false (fun v=>vcode P T n0 y v K))
   | .const (.bool true),_=>vcode P T n0 x vs K
   | .const (.bool false),_=>vcode P T n0 y vs K
   |_,_=>False)
 | .block id c,vs,K=>vcode P T n0 c vs (blockC id K)
 | .loop c,vs,K=>vloop n0 (vcode P T n0 c) vs K
 | .exit id,vs,K=>K (.exit id) vs
 | .ret,vs,K=>K .ret vs
 | .label _,vs,K=>K .normal vs
 | .scope c,vs,K=>vcode P T n0 c vs (noGotoC K)
 |_,_,_=>False
def resK (T:Tab) (vs:VS):List ResultVar→(List SV→Prop)→Prop
 | [],K=>K []
 | .tmp t::r,K=>(match aget vs.env t with|some v=>resK T vs r (fun l=>K (v::l))|none=>False)
 | .cell a t::r,K=>(match aget vs.env a,aget T t with
   |some (.ptr h q i j),some ti=>resP (onBlk vs.heap h q (fun _ b=>loadV b i j ti h)) (fun v _ _ _=>resK T vs r (fun m=>K (v::m)))
   |_,_=>False)
def oneOr:List SV→SV
 | [x]=>x
 |l=> .tup l
structure RetOk (n0:Nat) (l:List Nat) (r:SV) (vs:VS) (r0:SV) (H0:Heap) (n1:Nat):Prop where
 ids:(Nat.ble 1 n0&&Nat.ble n0 l.length&&idList n0 l&&Nat.beq l.length n1&&allLt l vs.next&&injH (rho l vs.next) H0 H0)=true
 res:r=SV.ren (rho l vs.next) r0
 heap:weakHeap (rho l vs.next) H0 vs.heap
 rw:allRw H0
def retP (n0:Nat) (post:SV→Heap→Nat→Prop) (r:SV) (vs:VS):Prop:=
 ∃l u r0 H0 n1,upK u vs (fun v=>RetOk n0 l r v r0 H0 n1)∧post r0 H0 n1
def retK (T:Tab) (n0:Nat) (rs:List ResultVar) (post:SV→Heap→Nat→Prop):Exit→VS→Prop
 | .normal,vs=>resK T vs rs (fun l=>retP n0 post (oneOr l) vs)
 | .ret,vs=>resK T vs rs (fun l=>retP n0 post (oneOr l) vs)
 |_,_=>False
def envOf:Nat→List SV→Env
 |_,[]=> []
 |i,v::r=>(i,v)::envOf (i+1) r
def dstsOk (N:Nat):List Oper→Bool
 | []=>true
 |o::r=>(match o.dst with|some d=>Nat.ble (d+1) N|none=>true)&&dstsOk N r
def opSlots:List Operand→List Nat
 | []=> []
 | .tmp t::r=>t::opSlots r
 |_::r=>opSlots r
def looks (ops:List Oper) (o:Oper):List Nat:=
 match guardSlot ops o with
 |some d=>d::opSlots o.op.operands.toList
 |none=>opSlots o.op.operands.toList
def pairOk (ops:List Oper) (i j:Nat) (oi oj:Oper):Bool:=
 Nat.beq i j||(match oj.dst with
  |some t=>(match oi.dst with|some u=> !Nat.beq u t|none=>true)&&(!hasN (looks ops oi) t||(Nat.blt j i&&reach ops 7 oi j)||(Nat.blt i j&&reach ops 7 oj i))
  |none=>true)
def rowOk (ops:List Oper) (i:Nat) (oi:Oper):Nat→List Oper→Bool
 |_,[]=>true
 |j,oj::r=>pairOk ops i j oi oj&&rowOk ops i oi (j+1) r
def edgesBack (i:Nat) (o:Oper):Bool:=o.after.toList.all (fun e=> !Region.binds .any e||Nat.blt e.on i)
def selfOk (ops:List Oper) (i:Nat) (o:Oper):Bool:=
 (match o.dst with|some t=> !hasN (looks ops o) t|none=>true)&&edgesBack i o&&(match guardSlot ops o,o.guard with|none,some _=>false|_,_=>true)
def rowsOk (ops:List Oper):Nat→List Oper→Bool
 |_,[]=>true
 |i,o::r=>selfOk ops i o&&rowOk ops i o 0 ops&&rowsOk ops (i+1) r
def drawOk (ops:List Oper):Bool:=rowsOk ops 0 ops
def codeOk (N:Nat):Code→Bool
 | .region _ ops draw=>dstsOk N ops.toList&&(!draw||drawOk ops.toList)
 | .seq a b=>codeOk N a&&codeOk N b
 | .cond _ a b=>codeOk N a&&codeOk N b
 | .block _ c=>codeOk N c
 | .loop c=>codeOk N c
 | .scope c=>codeOk N c
 |_=>true
end Go.Sy
