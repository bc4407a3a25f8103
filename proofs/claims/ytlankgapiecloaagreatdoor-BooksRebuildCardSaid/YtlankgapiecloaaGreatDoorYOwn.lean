/- A slice of slices that grows: the new row becomes a member of the table's family. No program in sight. -/
import Derived.Test.YtlankgapiecloaaGreatDoorYFam
namespace Go.Sy
open Go.RowKit
set_option linter.unusedVariables false
theorem own_put {n m h nb h' k:Nat} {ns:List Nat} {R:Nat→Nat→Option (Nat×Nat)} (hl:ns.length=m) (hn:n≤h') (h1:∀q,q<m→R h' q=some (h,q)) (h2:R h' m=some (nb,0)):∀i,i<m+1→SLe n R ((BCol.svs (ownL h ns++ [.sl nb 0 0 k])).at i) ((BCol.own h' (ns++ [k])).at i):=by
 intro i hi
 by_cases e:i<m
 ·have e1:(BCol.svs (ownL h ns++ [.sl nb 0 0 k])).at i= .sl h i 0 (ns.getD i 0):=by
   show (ownL h ns++ [SV.sl nb 0 0 k]).getD i .unk=_
   rw [List.getD,List.getElem?_append_left (by rw [ownL_len];omega)]
   exact ownL_at (by omega)
  have e2:(BCol.own h' (ns++ [k])).at i= .sl h' i 0 (ns.getD i 0):=by
   show SV.sl h' i 0 ((ns++ [k]).getD i 0)=_
   rw [List.getD,List.getElem?_append_left (by omega)];rfl
  rw [e1,e2]
  exact sle_sl hn (h1 i e)
 ·have ei:i=m:=by omega
  subst ei
  have e1:(BCol.svs (ownL h ns++ [.sl nb 0 0 k])).at i= .sl nb 0 0 k:=by
   show (ownL h ns++ [SV.sl nb 0 0 k]).getD i .unk=_
   rw [List.getD,List.getElem?_append_right (by rw [ownL_len];omega),ownL_len,show i-ns.length=0 from by omega];rfl
  have e2:(BCol.own h' (ns++ [k])).at i= .sl h' i 0 k:=by
   show SV.sl h' i 0 ((ns++ [k]).getD i 0)=_
   rw [List.getD,List.getElem?_append_right (by omega),show i-ns.length=0 from by omega];rfl
  rw [e1,e2]
  exact sle_sl hn h2
theorem relab_own_put {H:Heap} {n a b g m k:Nat} {ns:List Nat} {dom:Nat→Prop} {f F:Nat→Blk} {bg:Blk} (hl:ns.length=m) (ha:a<n) (hta:hget H a=some (.one false (.cols (m+1) [.svs (ownL b ns++ [.sl g 0 0 k])]))) (hb:hget H b=some (.fam false dom f)) (hdom:∀q,q<m→dom q)
  (hg:hget H g=some (.one false bg)) (hba:b≠a) (hga:g≠a) (hbg:b≠g) (hF:∀q,q<m→F q=f q) (hFm:F m=bg):
  Relab H n (gdR n m [⟨b,g,F⟩]) (fun _=>0) [(a,some (.one false (.cols (m+1) [.own n (ns++ [k])]))),(n+0,some (.fam false (fun x=>x<m+1) F))] [b,g] 1:=by
 have r0:∀q,q<m→gdR n m [⟨b,g,F⟩] n q=some (b,q):=fun q hq=>gdR_old (i:=0) (D:= [⟨b,g,F⟩]) rfl hq
 have s0:gdR n m [⟨b,g,F⟩] n m=some (g,0):=gdR_new (i:=0) (D:= [⟨b,g,F⟩]) rfl
 refine relab_fams (n:=n) (m:=m) (th:=a) [⟨b,g,F⟩] ha hta (ble_cols ?_) ?_ ?_
 ·refine ⟨⟨fun _=> ?_,own_put hl (Nat.le_refl _) r0 s0⟩,trivial⟩
  show (ns++ [k]).length=m+1
  rw [List.length_append,List.length_singleton];omega
 ·refine ⟨⟨hba,hga,⟨dom,f,hb,fun q hq=>⟨hdom q hq,.inl (hF q hq)⟩⟩,bg,hg,.inl hFm⟩,trivial⟩
 ·show (!(Nat.beq g b||false)&&(!false&&true))=true
  have:Nat.beq g b=false:=by
   cases e:Nat.beq g b with
   |false=>rfl
   |true=>exact absurd (Nat.eq_of_beq_eq_true e).symm hbg
  rw [this];rfl
theorem relab_own_start {H:Heap} {n a:Nat} {F:Nat→Blk} (ha:a<n) (hta:hget H a=some (.one false (.cols 0 [.svs []]))):
  Relab H n (fun _ _=>none) (fun _=>0) [(a,some (.one false (.cols 0 [.own n []]))),(n+0,some (.fam false (fun x=>x<0) F))] [] 1:=by
 refine relab_none (n:=n) (th:=a) [⟨0,0,F⟩] ha hta (ble_cols ⟨⟨fun _=>rfl,fun i hi=>absurd hi (Nat.not_lt_zero _)⟩,trivial⟩)
end Go.Sy
