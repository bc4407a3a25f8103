/- Plain facts: lists without repetitions, sums, functions with bodies. No program in sight. -/
import Derived.Test.YtlankgapiecloaaGreatDoorYLib
namespace Go.Sy
open Go.RowKit
theorem fcEq {P:Program} {n:Nat} {f:FuncId} {args:List SV} {H H1 H2:Heap} {r r':SV} {n':Nat} (h:FC P n f args H (isOut r H1 n')) (hr:r=r') (hh:H1=H2):FC P n f args H (isOut r' H2 n'):=by subst hr hh;exact h
theorem bodied_of {P:Program} {f:FuncId} {fn:Func} (h:P.funcs[f]?=some fn) (hb:fn.body.isSome=true) (hn:(fn.name=="runtime.NumGoroutine")=false):bodied P f:=by
 obtain ⟨c,hc⟩:=Option.isSome_iff_exists.1 hb
 exact ⟨fn,c,h,hc,hn⟩
theorem nodup_len:∀(n:Nat) (sn:List Nat),sn.Nodup→(∀i∈sn,i<n)→sn.length≤n
 |0,sn,_,h=>by cases sn with|nil=>simp|cons x r=>exact absurd (h x (by simp)) (by omega)
 |n+1,sn,hd,h=>by
  by_cases hm:n∈sn
  ·have:=nodup_len n (sn.erase n) (hd.erase n) (fun i hi=>by
    have h1:=h i (List.mem_of_mem_erase hi)
    have h2:i≠n:=fun e=>by subst e;exact (hd.not_mem_erase) hi
    omega)
   rw [List.length_erase_of_mem hm] at this
   omega
  ·have:=nodup_len n sn hd (fun i hi=>by
    have h1:=h i hi
    have h2:i≠n:=fun e=>by subst e;exact hm hi
    omega)
   omega
theorem nodup_cons_lt {n i:Nat} {sn:List Nat} (hd:sn.Nodup) (h:∀i∈sn,i<n) (hi:i<n) (hn:¬i∈sn):sn.length<n:=by
 have:=nodup_len n (i::sn) (List.nodup_cons.2 ⟨hn,hd⟩) (fun x hx=>by rcases List.mem_cons.1 hx with rfl|hx;exact hi;exact h x hx)
 simp only [List.length_cons] at this
 omega
theorem perm_range {n:Nat} {sn:List Nat} (hd:sn.Nodup) (hl:∀i∈sn,i<n) (ha:∀i,i<n→i∈sn):sn.Perm (List.range n):=by
 refine (List.perm_ext_iff_of_nodup hd List.nodup_range).2 fun i=> ?_
 rw [List.mem_range]
 exact ⟨hl i,ha i⟩
theorem map_range_getD {α:Type} (l:List α) (d:α):(List.range l.length).map (fun i=>l.getD i d)=l:=by
 refine List.ext_getElem (by simp) ?_
 intro i h1 h2
 simp [List.getD,h2]
def loopsOf:Code→List Code
 | .seq a b=>loopsOf a++loopsOf b
 | .cond _ a b=>loopsOf a++loopsOf b
 | .block _ c=>loopsOf c
 | .loop c=>c::loopsOf c
 |_=> []
def lpc (f:Func) (k:Nat):Code:=match f.body with|some c=>(loopsOf c).getD k .skip|none=> .skip
def lpK {α:Type} (n0:Nat) (st:α→VS) (inv:α→Prop) (μ:α→Nat) (K:Exit→VS→Prop) (x:α):Exit→VS→Prop:=fun e v'=>match e with| .normal=>∃y l u,inv y∧μ y<μ x∧upK u v' (fun v=>Weak n0 l v (st y))|e=>K e v'
theorem vloop_lp {α:Type} {n0:Nat} {body:VS→(Exit→VS→Prop)→Prop} {vs:VS} {K:Exit→VS→Prop} (st:α→VS) (inv:α→Prop) (μ:α→Nat) (x0:α) (l0:List Nat) (u0:List Up) (hw:upK u0 vs (fun v=>Weak n0 l0 v (st x0))) (hi:inv x0)
  (hr:∀x,inv x→body (st x) (lpK n0 st inv μ K x)):vloop n0 body vs K:=⟨α,st,inv,μ,x0,l0,u0,hw,hi,hr⟩
end Go.Sy
