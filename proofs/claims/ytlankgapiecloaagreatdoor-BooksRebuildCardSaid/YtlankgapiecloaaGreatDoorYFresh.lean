/- A contract of the kit's that hands back a fresh slice of texts, as a contract of the layer. No program in sight. -/
import Derived.Test.YtlankgapiecloaaGreatDoorYLib
namespace Go.Sy
open Go.RowKit
set_option linter.unusedVariables false
theorem fc_fresh {P:Program} {f:FuncId} {args:List SV} {vals:List Value} (L:List ByteArray) (ty:TypeId) (hbd:bodied P f) (hv:∀g vs,Rvs g args vs→vs=vals)
  (hc:∀w,Calls P f vals.toArray w (fun e w'=>e= .returned (.slice (some ⟨w.heap.size,0,none⟩) L.length L.length)∧w'=w.alloc (.cells (L.map Value.string).toArray ty))):
  FC P 1 f args [] (isOut (.sl 1 0 0 L.length) [(1,some (.one false (.cols L.length [.sc (.strs L)])))] 2):=by
 refine Or.inl ⟨hbd,fun g w vs hg hu hH hvs=> ?_⟩
 rw [hv g vs hvs]
 refine (hc w).mono ?_
 rintro e w' ⟨rfl,rfl⟩
 have A:=new_after (g:=g) (H:= []) (nx:=1) (w:=w) (r:= .sl 1 0 0 L.length) (cs:=(L.map Value.string).toArray) (ty:=ty) (bl:= .cols L.length [.sc (.strs L)]) (cap:=L.length) (v:= .slice (some ⟨w.heap.size,0,none⟩) L.length L.length) (w':=w.alloc (.cells (L.map Value.string).toArray ty))
  (.inl rfl) hH rfl rfl rfl rfl (fun q=>hu 1 q (Nat.le_refl _))
  (by
   intro c hc
   rw [List.mem_singleton] at hc
   subst hc;rfl)
  (by
   intro v hv
   rw [List.toList_toArray] at hv
   obtain ⟨s,_,rfl⟩:=List.mem_map.1 hv
   rfl)
  (by show L.length*1≤(L.map Value.string).toArray.size;simp)
  (fun i hi=>hi)
  (by
   intro i j sv hi hj
   have hi':i<L.length:=hi
   cases j with
   |zero=>
    simp only [Blk.at,nth,Option.some.injEq] at hj
    subst hj
    refine ⟨.string (L[i]),?_,?_⟩
    ·show (L.map Value.string).toArray[i*1+0]?=_
     rw [Nat.mul_one,Nat.add_zero,List.getElem?_toArray,List.getElem?_map,List.getElem?_eq_getElem hi'];rfl
    ·show Rv g (.str (L.getD i ⟨#[]⟩)) _
     rw [List.getD,List.getElem?_eq_getElem hi']
     simp only [Rv];rfl
   |succ j=>simp [Blk.at,nth] at hj)
  (sl_new (Nat.le_refl _))
 refine ⟨_,rfl,_,_,_,_,⟨rfl,rfl,rfl⟩,by decide,?_,?_,A.rv,by simpa using A.heap,allRw_cons allRw_nil,A.fr,by simpa using A.own⟩
 ·intro h q hh
  exact A.born h q (hu h q (by omega)) (by omega)
 ·intro h q hh
  simp only [G.add]
  rw [if_neg (fun x=>by omega)]
end Go.Sy
