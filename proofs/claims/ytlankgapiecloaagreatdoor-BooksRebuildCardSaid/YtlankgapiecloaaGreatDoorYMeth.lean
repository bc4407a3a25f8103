/- Calls of methods through interfaces: which function is called. No program in sight. -/
import Derived.Test.YtlankgapiecloaaGreatDoorYLib
namespace Go.Sy
open Go.RowKit
set_option linter.unusedSimpArgs false
def methB (P:Program) (t:TypeId) (name:String):Option FuncId:=
 match P.info? t,P.underlying t with
 |some _,some (.pointer _)=>none
 |some ti,some _=>(match ti.methods.find? (·.name==name) with
  |some m=>(match m.path.toList,m.func with
   | [],some (f,false)=>some f
   |_,_=>none)
  |none=>none)
 |_,_=>none
theorem methOk_of {P:Program} {t:TypeId} {name:String} {f:FuncId} (h:methB P t name=some f):MethOk P t name f:=by
 unfold methB at h
 split at h
 ·cases h
 ·rename_i ti d hnp hi hd
  split at h
  ·rename_i m hm
   split at h
   ·rename_i f' hp hf
    simp only [Option.some.injEq] at h
    subst h
    intro v w
    have e:P.types.size+Made.depth=(P.types.size+(Made.depth-1))+1:=by unfold Made.depth;omega
    rw [e]
    have hti:(typeInfo t).run P w= .ok ti w:=by simp [typeInfo,hi]
    have hun:(underlying t).run P w= .ok d w:=run_underlying hd w
    have hpe:m.path= #[]:=by apply Array.ext';simpa using hp
    unfold method
    simp only [Sem.run_bind,hti,Result.andThen_ok,hm,hp,follow,Sem.run_pure,hf,receiverAt,hun]
    cases d<;>first|(exact absurd rfl (hnp _))|simp [Place.get,hpe]
   ·cases h
  ·cases h
 ·cases h
end Go.Sy
