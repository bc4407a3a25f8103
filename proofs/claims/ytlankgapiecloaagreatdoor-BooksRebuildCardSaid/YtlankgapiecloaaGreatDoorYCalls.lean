/- A contract of the kit's as a pure contract of the layer. No program in sight. -/
import Derived.Test.YtlankgapiecloaaGreatDoorYLib
namespace Go.Sy
open Go.RowKit
set_option linter.unusedVariables false
theorem bodied_of' {P:Program} {f:FuncId} {fn:Func} (h:P.funcs[f]?=some fn) (hb:fn.body.isSome=true) (hn:(fn.name=="runtime.NumGoroutine")=false):bodied P f:=by
 obtain ⟨c,hc⟩:=Option.isSome_iff_exists.1 hb
 exact ⟨fn,c,h,hc,hn⟩
theorem pure_of_calls {P:Program} {f:FuncId} {args:List SV} {vals:List Value} {r:SV} {v:Value} (hbd:bodied P f) (hv:∀g vs,Rvs g args vs→vs=vals) (hr:∀g,Rv g r v) (hc:∀w,Calls P f vals.toArray w (fun e w'=>e= .returned v∧Below w.heap.size w w')):Pure P f args r:=by
 refine Or.inl ⟨hbd,fun g w vs hg hu hH hvs=> ?_⟩
 rw [hv g vs hvs]
 refine (hc w).mono ?_
 rintro e w' ⟨rfl,hb⟩
 refine ⟨v,rfl,r,[],1,g,⟨rfl,rfl,rfl⟩,Nat.le_refl _,hu,fun _ _ _=>rfl,hr g,⟨?_,?_⟩,allRw_nil,⟨hb.os,hb.tape,hb.output,hb.size,fun k hk _=>hb.block k hk⟩,?_⟩
 ·intro h q ro b he;obtain ⟨hb,e,_⟩:=he;simp [hget] at e
 ·intro h q h' q' b ro' b' β β' _ he;obtain ⟨hb,e,_⟩:=he;simp [hget] at e
 ·intro h q b β he;obtain ⟨hb,e,_⟩:=he;simp [hget] at e
end Go.Sy
