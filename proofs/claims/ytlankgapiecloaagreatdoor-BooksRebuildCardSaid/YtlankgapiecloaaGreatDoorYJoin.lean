/- Joining: the library's strings.Join as a contract of the layer, from what the kit proves of it. No program in sight. -/
import Derived.Test.YtlankgapiecloaaGreatDoorYSort
import Derived.Shelf.Strings.OnBuilder
namespace Go.Sy
open Go.RowKit
set_option linter.unusedVariables false
section
variable {P:Program}
def joinB (L:List ByteArray) (sep:ByteArray):ByteArray:=⟨(Lib.join (L.map (·.data.toList)) sep.data.toList).toArray⟩
def Joins (P:Program) (f:FuncId):Prop:=∀(bk o c:Nat) (xs:List ByteArray) (sep:ByteArray) (w:World),(∀(j:Nat) x,xs[j]?=some x→w.cell? ⟨bk,o+j,none⟩=some (.string x))→bk<w.heap.size→xs.length≤140737488355328→xs.length≤c→(Lib.join (xs.map (·.data.toList)) sep.data.toList).length≤140737488355328→
 Calls P f #[.slice (some ⟨bk,o,none⟩) xs.length c,.string sep] w fun e w'=>e= .returned (.string ⟨(Lib.join (xs.map (·.data.toList)) sep.data.toList).toArray⟩)∧Below w.heap.size w w'
theorem fc_join {f:FuncId} (hj:Joins P f) (hbd:bodied P f) (n:Nat) (L:List ByteArray) (sep:ByteArray) (h0:0<n) (hN:n≤1000000) (hlen:(joinB L sep).size≤140737488355328):
  FC P 2 f [.sl 1 0 0 n,.str sep] [(1,some (.one true (.cols n [.sc (.strs L)])))] (isOut (.str (joinB L sep)) [] 2):=by
 refine Or.inl ⟨hbd,fun g w vals hg hu hH hvs=> ?_⟩
 obtain ⟨v,vs',rfl,hv0,hv1⟩:=hvs
 obtain ⟨v2,vs2,rfl,hv2,hv3⟩:=hv1
 simp only [Rvs] at hv3
 subst hv3
 simp only [Rv] at hv2
 subst hv2
 obtain ⟨a,c,rfl,hnc,hc⟩:=rsv hv0
 have hE:Ent [(1,some (HB.one true (Blk.cols n [.sc (.strs L)])))] 1 0 true (Blk.cols n [.sc (.strs L)]):=⟨_,rfl,⟨rfl,rfl⟩,rfl⟩
 obtain ⟨β,hgβ,hB⟩:=hH.blk 1 0 true _ hE
 have hL:L.length=n:=hB.len _ (List.mem_singleton.2 rfl)
 have hes:β.es=1:=hB.es
 obtain hc|⟨β',hg',ha,hcap⟩:=hc
 ·omega
 rw [hgβ] at hg'
 cases hg'
 have hcp:0<β.cap:=by omega
 subst ha
 have hlt:=hB.lt hcp
 have hca:=hj β.blk β.off c L sep w (fun j x hx=>by
  obtain ⟨hj',hxe⟩:=List.getElem?_eq_some_iff.1 hx
  obtain ⟨v,e1,e2⟩:=hB.cell j 0 _ (show j<n by omega) rfl
  rw [cellOf hes] at e1
  rw [e1]
  have e3:(BCol.sc (.strs L)).at j= .str x:=by
   show SV.str (L.getD j ⟨#[]⟩)=_
   rw [List.getD,hx];rfl
  rw [e3] at e2
  simp only [Rv] at e2
  rw [e2]) hlt (by omega) (by omega) (by
   have:(joinB L sep).size=(Lib.join (L.map (·.data.toList)) sep.data.toList).length:=by unfold joinB;simp [ByteArray.size]
   omega)
 rw [hL] at hca
 have ea:β.addr 0 0=⟨β.blk,β.off,none⟩:=by rw [cellOf hes];rfl
 rw [ea]
 refine hca.mono ?_
 rintro e w' ⟨rfl,hb⟩
 refine ⟨_,rfl,_,_,_,g,⟨rfl,rfl,rfl⟩,Nat.le_refl _,hu,fun _ _ _=>rfl,by simp only [Rv];rfl,⟨?_,?_⟩,allRw_nil,⟨hb.os,hb.tape,hb.output,hb.size,fun k hk _=>hb.block k hk⟩,?_⟩
 ·intro h q ro b he;obtain ⟨hb,e,_⟩:=he;simp [hget] at e
 ·intro h q h' q' b ro' b' β β' _ he;obtain ⟨hb,e,_⟩:=he;simp [hget] at e
 ·intro h q b β he;obtain ⟨hb,e,_⟩:=he;simp [hget] at e
end
end Go.Sy
