/- Gathering blocks under a new handle: the ways in which slices of slices come about. No program in sight. -/
import Derived.Test.YtlankgapiecloaaGreatDoorYPlain
namespace Go.Sy
open Go.RowKit
set_option linter.unusedVariables false
set_option linter.unusedSimpArgs false
theorem sle_refl {n:Nat} {R:Nat→Nat→Option (Nat×Nat)} (s:SV):SLe n R s s:=fun g g1 v hle _ h=>Rv.mono hle s v h
theorem sle_sl {n:Nat} {R:Nat→Nat→Option (Nat×Nat)} {h q h' q' i k:Nat} (hn:n≤h') (e:R h' q'=some (h,q)):SLe n R (.sl h q i k) (.sl h' q' i k):=by
 intro g g1 v hle hR hv
 simp only [Rv] at hv⊢
 obtain ⟨a,c,e1,e2,e3⟩:=hv
 refine ⟨a,c,e1,e2,?_⟩
 rcases e3 with e3|⟨β,e3,e4⟩
 ·exact .inl e3
 ·exact .inr ⟨β,hR h' q' _ hn e β e3,e4⟩
theorem sle_nil {n:Nat} {R:Nat→Nat→Option (Nat×Nat)} {h q i:Nat}:SLe n R .nsl (.sl h q i 0):=by
 intro g g1 v hle hR hv
 simp only [Rv] at hv⊢
 exact ⟨none,0,hv,Nat.le_refl _,.inl rfl⟩
theorem ent_nil {h q:Nat} {ro:Bool} {b:Blk}:¬Ent [] h q ro b:=fun ⟨hb,e,_⟩=>by simp [hget] at e
theorem relab_map {H:Heap} {n bh:Nat} {ka:Bool} {m:Nat} {ks:List Col} {L:List SV} {bs:List Nat} {ck:Nat} {ns:List Nat} {f:Nat→Blk} {s:Nat→Option (Nat×Nat)} {dr:List Nat} {es:Nat}
  (hb:hget H bh=some (.one false (.obj (.map ka false m ks [.svs L] bs ck)))) (hbn:bh<n) (hbd:¬bh∈dr) (hm:ns.length=m)
  (hs:∀x,x<m→(∃h q,s x=some (h,q)∧L.getD x .unk= .sl h q 0 (ns.getD x 0)∧Ent H h q false (f x)∧h∈dr)∨(s x=none∧(L.getD x .unk= .nsl∨L.getD x .unk= .unk)∧ns.getD x 0=0∧∃cs,f x= .cols 0 cs∧len0 cs=true∧es=cs.length))
  (hu:∀x,x<m→L.getD x .unk≠.unk)
  (hi:∀x y p,x<m→y<m→s x=some p→s y=some p→x=y):
  Relab H n (fun h q=>if h=n∧q<m then s q else none) (fun _=>es) [(bh,some (.one false (.obj (.map ka false m ks [.own n ns] bs ck)))),(n,some (.fam false (fun x=>x<m) f))] dr 1:=by
 have key:∀{h q:Nat} {ro:Bool} {b:Blk},Ent [(bh,some (.one false (.obj (.map ka false m ks [.own n ns] bs ck)))),(n,some (.fam false (fun x=>x<m) f))] h q ro b→(h=bh∧q=0∧ro=false∧b= .obj (.map ka false m ks [.own n ns] bs ck))∨(h=n∧q<m∧ro=false∧b=f q):=by
  intro h q ro b he
  rcases ent_cons.1 he with ⟨rfl,hb2,e1,e2,e3⟩|⟨e0,he⟩
  ·cases e1;exact .inl ⟨rfl,e2.1,e3.symm,e2.2⟩
  ·rcases ent_cons.1 he with ⟨rfl,hb2,e1,e2,e3⟩|⟨e0',he⟩
   ·cases e1;exact .inr ⟨rfl,e2.1,e3.symm,e2.2⟩
   ·exact (ent_nil he).elim
 refine ⟨?_,?_,?_,?_,?_⟩
 ·intro h q p h1 h2
  (try dsimp only at h2)
  split at h2
  ·rename_i e;omega
  ·cases h2
 ·intro h q ro b he
  rcases key he with ⟨_,_,e,_⟩|⟨_,_,e,_⟩<;>exact e
 ·intro h q b' he
  rcases key he with ⟨rfl,rfl,_,rfl⟩|⟨rfl,hq,_,rfl⟩
  ·refine .inl ⟨h,0,_,.inl ⟨hbn,rfl,rfl⟩,⟨_,hb,⟨rfl,rfl⟩,rfl⟩,.inr ⟨rfl,rfl,rfl,rfl,rfl,rfl,by simp [BCol.len,hm],?_⟩⟩
   intro x hx
   simp only [elemS,BCol.at]
   rcases hs x hx with ⟨h0,q0,e1,e2,_⟩|⟨e1,e2,e3,_⟩
   ·rw [e2]
    exact sle_sl (Nat.le_refl _) ((if_pos ⟨rfl,hx⟩).trans e1)
   ·rcases e2 with e2|e2
    ·rw [e2,e3];exact sle_nil
    ·exact absurd e2 (hu x hx)
  ·rcases hs q hq with ⟨h0,q0,e1,e2,e3,_⟩|⟨e1,_,_,cs,e2,e3,e4⟩
   ·exact .inl ⟨h0,q0,f q,.inr ⟨Nat.le_refl _,(if_pos ⟨rfl,hq⟩).trans e1⟩,e3,.inl rfl⟩
   ·exact .inr ⟨⟨Nat.le_refl _,by omega⟩,(if_pos ⟨rfl,hq⟩).trans e1,cs,e2,e3,e4⟩
 ·intro h q p h1 h2
  (try dsimp only at h2)
  split at h2
  ·rename_i e
   rcases hs q e.2 with ⟨h0,q0,e1,_,_,e3⟩|⟨e1,_⟩
   ·rw [e1] at h2;cases h2;exact e3
   ·rw [e1] at h2;cases h2
  ·cases h2
 ·intro h q h' q' h0 q0 hk hk' h1 h2
  have kk:∀{x:Nat},x∈keysOf [(bh,some (HB.one false (.obj (.map ka false m ks [.own n ns] bs ck)))),(n,some (.fam false (fun x=>x<m) f))]→x=bh∨x=n:=by
   intro x hx;simpa [keysOf] using hx
  rcases h1 with ⟨a1,rfl,rfl⟩|⟨a1,a2⟩
  ·rcases h2 with ⟨b1,rfl,rfl⟩|⟨b1,b2⟩
   ·exact ⟨rfl,rfl⟩
   ·exfalso
    have e:h0=bh:=by rcases kk hk with e|e<;>omega
    subst e
    (try dsimp only at b2)
    split at b2
    ·rename_i e
     rcases hs q' e.2 with ⟨x0,y0,e1,_,_,e3⟩|⟨e1,_⟩
     ·rw [e1] at b2;cases b2;exact hbd e3
     ·rw [e1] at b2;cases b2
    ·cases b2
  ·dsimp only at a2
   split at a2
   ·rename_i e
    rcases h2 with ⟨b1,rfl,rfl⟩|⟨b1,b2⟩
    ·exfalso
     have e':h0=bh:=by rcases kk hk' with e'|e'<;>omega
     subst e'
     rcases hs q e.2 with ⟨x0,y0,e1,_,_,e3⟩|⟨e1,_⟩
     ·rw [e1] at a2;cases a2;exact hbd e3
     ·rw [e1] at a2;cases a2
    ·dsimp only at b2
     split at b2
     ·rename_i e'
      have:=hi q q' _ e.2 e'.2 a2 b2
      exact ⟨e.1.trans e'.1.symm,this⟩
     ·cases b2
   ·cases a2
theorem relab_map_start {H:Heap} {n bh:Nat} {ka:Bool} {ks:List Col} {bs:List Nat} {ck:Nat} (f:Nat→Blk) (hb:hget H bh=some (.one false (.obj (.map ka false 0 ks [.svs []] bs ck)))) (hbn:bh<n):
  Relab H n (fun h q=>if h=n∧q<0 then none else none) (fun _=>0) [(bh,some (.one false (.obj (.map ka false 0 ks [.own n []] bs ck)))),(n,some (.fam false (fun x=>x<0) f))] [] 1:=
 relab_map (s:=fun _=>none) (es:=0) hb hbn (by simp) rfl (fun x hx=>by omega) (fun x hx=>by omega) (fun x y p hx=>by omega)
theorem ownL_ne {h:Nat} {ns:List Nat} {x:Nat} (hx:x<ns.length):(ownL h ns).getD x .unk≠.unk:=by rw [ownL_at hx];intro e;cases e
theorem putL_at {α:Type} {l:List α} {i x:Nat} {v d:α} (hi:i≤l.length):(putL i v l).getD x d=if x=i then v else l.getD x d:=by
 unfold putL
 by_cases h:i<l.length
 ·rw [if_pos h]
  simp only [List.getD,List.getElem?_set]
  by_cases e:i=x
  ·subst e;simp [h]
  ·rw [if_neg e,if_neg (fun e'=>e e'.symm)]
 ·rw [if_neg h]
  have:i=l.length:=by omega
  subst this
  by_cases e:x=l.length
  ·subst e;simp [List.getD]
  ·rw [if_neg e]
   by_cases hx:x<l.length
   ·simp only [List.getD,List.getElem?_append_left hx]
   ·simp only [List.getD,List.getElem?_eq_none (show (l++ [v]).length≤x by simp;omega),List.getElem?_eq_none (show l.length≤x by omega)]
theorem putL_length {α:Type} (i:Nat) (v:α) (l:List α):(putL i v l).length=if i<l.length then l.length else l.length+1:=by
 unfold putL
 split<;>simp
theorem ent_one {H:Heap} {h:Nat} {b:Blk} (e:hget H h=some (.one false b)):Ent H h 0 false b:=⟨_,e,⟨rfl,rfl⟩,rfl⟩
theorem ent_fam {H:Heap} {h q:Nat} {dom:Nat→Prop} {f:Nat→Blk} (e:hget H h=some (.fam false dom f)) (hd:dom q):Ent H h q false (f q):=⟨_,e,⟨hd,rfl⟩,rfl⟩
theorem relab_map_put {H:Heap} {n bh:Nat} {ka:Bool} {m:Nat} {ks:List Col} {bs:List Nat} {ck:Nat} {h a k i:Nat} {ns:List Nat} {b:Blk} {dom:Nat→Prop} {f:Nat→Blk}
  (hb:hget H bh=some (.one false (.obj (.map ka false m ks [.svs (putL i (.sl a 0 0 k) (ownL h ns))] bs ck)))) (hbn:bh<n) (hi:i≤ns.length) (hm:m=if i<ns.length then ns.length else ns.length+1) (ha:hget H a=some (.one false b)) (hf:hget H h=some (.fam false dom f)) (hd:∀x,x<ns.length→x≠i→dom x) (h1:bh≠h) (h2:bh≠a) (h3:a≠h):
  Relab H n (fun h' q=>if h'=n∧q<m then (if q=i then some (a,0) else some (h,q)) else none) (fun _=>0) [(bh,some (.one false (.obj (.map ka false m ks [.own n (putL i k ns)] bs ck)))),(n,some (.fam false (fun x=>x<m) (fun x=>if x=i then b else f x)))] [h,a] 1:=by
 have hl:i≤(ownL h ns).length:=by rw [ownL_len];exact hi
 have lt:∀x,x<m→x≠i→x<ns.length:=by
  intro x hx hne
  rw [hm] at hx
  split at hx<;>omega
 refine relab_map (s:=fun x=>if x=i then some (a,0) else some (h,x)) (es:=0) hb hbn (by simp [h1,h2]) (by rw [putL_length];exact hm.symm) ?_ ?_ ?_
 ·intro x hx
  left
  by_cases e:x=i
  ·refine ⟨a,0,if_pos e,?_,?_,by simp⟩
   ·rw [putL_at hl,if_pos e,putL_at hi,if_pos e]
   ·rw [if_pos e];exact ent_one ha
  ·have hx':=lt x hx e
   refine ⟨h,x,if_neg e,?_,?_,by simp⟩
   ·rw [putL_at hl,if_neg e,putL_at hi,if_neg e,ownL_at hx']
   ·rw [if_neg e];exact ent_fam hf (hd x hx' e)
 ·intro x hx
  rw [putL_at hl]
  by_cases e:x=i
  ·rw [if_pos e];intro e';cases e'
  ·rw [if_neg e];exact ownL_ne (lt x hx e)
 ·intro x y p hx hy hp hq
  by_cases e:x=i
  ·by_cases e':y=i
   ·omega
   ·rw [if_pos e] at hp;rw [if_neg e'] at hq;rw [←hp] at hq;simp at hq;exact absurd hq.1.symm h3
  ·by_cases e':y=i
   ·rw [if_neg e] at hp;rw [if_pos e'] at hq;rw [←hp] at hq;simp at hq;exact absurd hq.1 h3
   ·rw [if_neg e] at hp;rw [if_neg e'] at hq;rw [←hp] at hq;simp at hq;exact hq.symm
theorem relab_map_del {H:Heap} {n bh:Nat} {ka:Bool} {m:Nat} {ks:List Col} {bs:List Nat} {ck:Nat} {h i:Nat} {ns:List Nat} {dom:Nat→Prop} {f:Nat→Blk}
  (hb:hget H bh=some (.one false (.obj (.map ka false m ks [.svs ((ownL h ns).eraseIdx i)] bs ck)))) (hbn:bh<n) (hi:i<ns.length) (hm:m+1=ns.length) (hf:hget H h=some (.fam false dom f)) (hd:∀x,x<ns.length→x≠i→dom x) (h1:bh≠h):
  Relab H n (fun h' q=>if h'=n∧q<m then some (h,if q<i then q else q+1) else none) (fun _=>0) [(bh,some (.one false (.obj (.map ka false m ks [.own n (ns.eraseIdx i)] bs ck)))),(n,some (.fam false (fun x=>x<m) (fun x=>f (if x<i then x else x+1))))] [h] 1:=by
 have er:∀{α:Type} (l:List α) (x:Nat) (d:α),(l.eraseIdx i).getD x d=l.getD (if x<i then x else x+1) d:=by
  intro α l x d
  simp only [List.getD,List.getElem?_eraseIdx]
  split<;>rfl
 refine relab_map (s:=fun x=>some (h,if x<i then x else x+1)) (es:=0) hb hbn (by simp [h1]) (by rw [List.length_eraseIdx,if_pos hi];omega) ?_ ?_ ?_
 ·intro x hx
  left
  refine ⟨h,_,rfl,?_,ent_fam hf (hd _ (by split<;>omega) (by split<;>omega)),by simp⟩
  rw [er,er,ownL_at (by split<;>omega)]
 ·intro x hx
  rw [er]
  exact ownL_ne (by split<;>omega)
 ·intro x y p hx hy hp hq
  rw [←hp] at hq
  simp at hq
  split at hq<;>split at hq<;>omega
end Go.Sy
