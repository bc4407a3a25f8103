/- Plain facts on the first place of a number in a list, and on numbers in order. No program in sight. -/
import Derived.Test.YtlankgapiecloaaGreatDoorYGrp
import Derived.Test.YtlankgapiecloaaGreatDoorYSort
namespace Go.Sy
open Go.RowKit
theorem iidx_le (l:List Int) (x:Int):iidx l x≤l.length:=by
 induction l with
 |nil=>simp [iidx]
 |cons a l ih=>
  simp only [iidx]
  cases decide (a=x)<;>simp
  exact ih
theorem iidx_lt {l:List Int} {s:Int}:iidx l s<l.length↔s∈l:=by
 induction l with
 |nil=>simp [iidx]
 |cons x l ih=>
  simp only [iidx]
  by_cases h:x=s
  ·rw [decide_eq_true h];simp [h]
  ·rw [decide_eq_false h]
   have:¬s=x:=fun e=>h e.symm
   simp [this,ih]
theorem iidx_get {l:List Int} {s:Int} (h:iidx l s<l.length):l[iidx l s]?=some s:=by
 induction l with
 |nil=>simp [iidx] at h
 |cons x l ih=>
  simp only [iidx] at h⊢
  by_cases e:x=s
  ·rw [decide_eq_true e];simp [e]
  ·rw [decide_eq_false e] at h⊢
   simp only [cond_false,List.length_cons,List.getElem?_cons_succ] at h⊢
   exact ih (by omega)
theorem iidx_of_get {l:List Int} (hd:l.Nodup) {i:Nat} {s:Int} (h:l[i]?=some s):iidx l s=i:=by
 have hm:s∈l:=List.mem_iff_getElem?.2 ⟨i,h⟩
 have h2:=iidx_get (iidx_lt.2 hm)
 obtain ⟨_,e1⟩:=List.getElem?_eq_some_iff.1 h
 obtain ⟨_,e2⟩:=List.getElem?_eq_some_iff.1 h2
 exact (List.getElem_inj hd).1 (e2.trans e1.symm)
theorem iput_key {l:List Int} {s:Int}:putL (iidx l s) s l=if iidx l s<l.length then l else l++ [s]:=by
 unfold putL
 split
 ·rename_i h
  have:=iidx_get h
  refine List.ext_getElem? fun i=> ?_
  rw [List.getElem?_set]
  by_cases e:iidx l s=i
  ·subst e;rw [if_pos rfl,if_pos h,this]
  ·rw [if_neg e]
 ·rfl
theorem erase_mem {l:List Int} (hd:l.Nodup) {t x:Int}:x∈l.eraseIdx (iidx l t)↔x∈l∧x≠t:=by
 induction l with
 |nil=>simp
 |cons a l ih=>
  obtain ⟨h1,h2⟩:=List.nodup_cons.1 hd
  simp only [iidx]
  by_cases e:a=t
  ·subst e
   rw [decide_eq_true rfl]
   simp only [cond_true,List.eraseIdx_cons_zero,List.mem_cons]
   exact ⟨fun h=>⟨.inr h,fun e=>h1 (e▸h)⟩,fun h=>h.1.resolve_left h.2⟩
  ·rw [decide_eq_false e]
   simp only [cond_false,List.eraseIdx_cons_succ,List.mem_cons,ih h2]
   refine ⟨?_,?_⟩
   ·rintro (rfl|⟨h3,h4⟩)
    ·exact ⟨.inl rfl,e⟩
    ·exact ⟨.inr h3,h4⟩
   ·rintro ⟨rfl|h3,h4⟩
    ·exact .inl rfl
    ·exact .inr ⟨h3,h4⟩
theorem erase_nodup {l:List Int} (hd:l.Nodup) (i:Nat):(l.eraseIdx i).Nodup:=hd.sublist (List.eraseIdx_sublist l i)
theorem sortI_perm (l:List Int):(sortI l).Perm l:=List.mergeSort_perm l _
theorem sortI_pairwise (l:List Int):(sortI l).Pairwise (fun a b=>a≤b):=by
 have h:=List.pairwise_mergeSort (le:=fun x y:Int=>decide (x≤y)) (fun a b c h1 h2=>by simp only [decide_eq_true_eq] at*;omega) (fun a b=>by simp only [Bool.or_eq_true,decide_eq_true_eq];omega) l
 exact h.imp (fun {a b} h=>by simpa using h)
theorem sortI_congr {l m:List Int} (h:l.Perm m):sortI l=sortI m:=
 List.Perm.eq_of_pairwise (le:=fun a b:Int=>a≤b) (fun a b _ _ h1 h2=>by omega) (sortI_pairwise l) (sortI_pairwise m) ((sortI_perm l).trans (h.trans (sortI_perm m).symm))
theorem eraseIdx_getD {α:Type} (l:List α) (i x:Nat) (d:α):(l.eraseIdx i).getD x d=l.getD (if x<i then x else x+1) d:=by
 simp only [List.getD,List.getElem?_eraseIdx]
 split<;>rfl
theorem relab_map_del' {H:Heap} {n bh:Nat} {ka:Bool} {m:Nat} {ks:List Col} {bs:List Nat} {ck:Nat} {h i:Nat} {ns:List Nat} {dom:Nat→Prop} {f:Nat→Blk}
  (hb:hget H bh=some (.one false (.obj (.map ka false m ks [delVal i (.own h ns)] bs ck)))) (hbn:bh<n) (hi:i<ns.length) (hm:m+1=ns.length) (hf:hget H h=some (.fam false dom f)) (hd:∀x,x<ns.length→x≠i→dom x) (h1:bh≠h):
  Relab H n (fun h' q=>if h'=n∧q<m then some (h,if q<i then q else q+1) else none) (fun _=>0) [(bh,some (.one false (.obj (.map ka false m ks [.own n (ns.eraseIdx i)] bs ck)))),(n,some (.fam false (fun x=>x<m) (fun x=>f (if x<i then x else x+1))))] [h] 1:=by
 have e:delVal i (.own h ns)= .svs ((ownL h ns).eraseIdx i):=if_pos hi
 rw [e] at hb
 exact relab_map_del hb hbn hi hm hf hd h1
end Go.Sy
