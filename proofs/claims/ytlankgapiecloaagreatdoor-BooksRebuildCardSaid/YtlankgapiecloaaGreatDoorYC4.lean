/- The condition is right: an operation depends on the slots that it looks at and on the handles that it touches. No program in sight. -/
import Derived.Test.YtlankgapiecloaaGreatDoorYC3
import Derived.Orders
namespace Go.Sy
open Go.RowKit
theorem gvs_congr {vs vs':VS}:∀(xs:List Operand),(∀x∈xs,gv vs' x=gv vs x)→gvs vs' xs=gvs vs xs
 | [],_=>rfl
 |x::xs,h=>by
  simp only [gvs]
  rw [h x (by simp),gvs_congr xs (fun y hy=>h y (by simp [hy]))]
theorem buildL_congr {vs vs':VS} (pl:Nat→Option (Nat×Nat)):∀(ps:List (Nat×Operand)) (l:List SV),(∀p∈ps,gv vs' p.2=gv vs p.2)→buildL vs' pl ps l=buildL vs pl ps l
 | [],_,_=>rfl
 |(i,x)::ps,l,h=>by
  simp only [buildL]
  have e:gv vs' x=gv vs x:=h (i,x) (by simp)
  rw [e]
  split
  ·split
   ·rw [buildL_congr pl ps _ (fun p hp=>h p (by simp [hp]))]
   ·rfl
  ·rfl
section
variable {s S:VS} {T:Tab} {nx:Nat} {r:SV} {U:Heap} {b:Nat} {t:List Nat}
theorem onBlk_congr {H H':Heap} {h q:Nat} {F F':Bool→Blk→Res} (hh:hget H' h=hget H h) (hF:∀ro bl,(F ro bl).is r U b t→(F' ro bl).is r U b t) (hr:(onBlk H h q F).is r U b t):(onBlk H' h q F').is r U b t:=by
 unfold onBlk at hr⊢
 rw [hh]
 split at hr
 ·split at hr
  ·exact hF _ _ hr
  ·exact hr.elim
 ·rw [Res.is_guard] at hr⊢
  exact ⟨hr.1,hF _ _ hr.2⟩
 ·exact hr.elim
def Touches (h:Nat) (R:Res):Prop:=∀r U b t,R.is r U b t→h∈t
theorem loadV_t {bl:Blk} {i j:Nat} {ti:TI} {h:Nat}:Touches h (loadV bl i j ti h):=by
 intro r U b t hr
 have e1:∀R:Res,(∀r U b t,R.is r U b t→h∈t)→∀r U b t,(bl.elt i R).is r U b t→h∈t:=fun R hR r U b t hr=>hR r U b t (elt_ok hr).2
 unfold loadV at hr
 split at hr
 ·replace hr:=(bif_is hr).2
  split at hr
  ·obtain ⟨_,_,_,rfl⟩:=hr;simp
  ·exact hr.elim
 ·cases hag:ti.agg with
  |true=>
   rw [hag] at hr
   simp only [cond_true] at hr
   replace hr:=(elt_ok hr).2
   split at hr
   ·obtain ⟨_,_,_,rfl⟩:=hr;simp
   ·exact hr.elim
  |false=>
   rw [hag] at hr
   simp only [cond_false] at hr
   replace hr:=(elt_ok hr).2
   split at hr
   ·obtain ⟨_,_,_,rfl⟩:=hr;simp
   ·exact hr.elim
theorem storeV_t {H:Heap} {bl:Blk} {h q i j:Nat} {v:SV} {ti:TI}:Touches h (storeV H h q i j v ti bl):=by
 intro r U b t hr
 unfold storeV at hr
 split at hr
 ·obtain ⟨_,_,_,rfl⟩:=(bif_is hr).2;simp
 ·split at hr
  ·replace hr:=(bif_is hr).2
   split at hr
   ·obtain ⟨_,_,_,_,rfl⟩:=hr;simp
   ·exact hr.elim
  ·exact hr.elim
 ·split at hr
  ·replace hr:=(bif_is hr).2
   rw [forceL_eq] at hr
   obtain ⟨_,_,_,rfl⟩:=hr;simp
  ·exact hr.elim
 ·exact hr.elim
theorem onBlk_t {H:Heap} {h q:Nat} {F:Bool→Blk→Res} (hF:∀ro bl,Touches h (F ro bl)):Touches h (onBlk H h q F):=by
 intro r U b t hr
 obtain ⟨ro,bl,_,hr⟩:=onBlk_ok hr
 exact hF ro bl r U b t hr
theorem setBlk_congr {H H':Heap} {h q:Nat} {bl:Blk} (hh:hget H' h=hget H h):setBlk H' h q bl=setBlk H h q bl:=by unfold setBlk;rw [hh]
theorem dropBlk_congr {H H':Heap} {h q:Nat} (hh:hget H' h=hget H h):dropBlk H' h q=dropBlk H h q:=by unfold dropBlk;rw [hh]
theorem srcOf_ex {ti:TI} {x:SV} {F:Nat→List BCol→List Nat→Res} (hr:(srcOf s ti x F).is r U b t):∃n l tt,(F n l tt).is r U b t:=by
 unfold srcOf at hr
 split at hr
 ·obtain ⟨ro,bl,_,hr'⟩:=onBlk_ok hr
  split at hr'
  ·replace hr':=(bif_is hr').2
   rw [Res.is_guard] at hr'
   exact ⟨_,_,_,hr'.2⟩
  ·exact hr'.elim
 ·exact ⟨_,_,_,hr⟩
 ·exact ⟨_,_,_,hr⟩
 ·exact ⟨_,_,_,(bif_is hr).2⟩
 ·exact hr.elim
theorem srcOf_congr {ti:TI} {x:SV} {F F':Nat→List BCol→List Nat→Res} (hh:∀h∈t,hget S.heap h=hget s.heap h) (hsub:∀n l tt,(F n l tt).is r U b t→∀h∈tt,h∈t) (hF:∀n l tt,(F n l tt).is r U b t→(F' n l tt).is r U b t) (hr:(srcOf s ti x F).is r U b t):(srcOf S ti x F').is r U b t:=by
 unfold srcOf at hr⊢
 split at hr
 ·rename_i h q i n
  have ht:h∈t:=by
   obtain ⟨ro,bl,_,hr'⟩:=onBlk_ok hr
   split at hr'
   ·replace hr':=(bif_is hr').2
    rw [Res.is_guard] at hr'
    exact hsub _ _ _ hr'.2 h (by simp)
   ·exact hr'.elim
  refine onBlk_congr (hh h ht) (fun ro bl hr'=> ?_) hr
  split at hr'
  ·obtain ⟨h1,h2⟩:=bif_is hr'
   rw [Res.is_guard] at h2
   simp only [h1,cond_true]
   rw [Res.is_guard]
   exact ⟨h2.1,hF _ _ _ h2.2⟩
  ·exact hr'.elim
 ·exact hF _ _ _ hr
 ·exact hF _ _ _ hr
 ·obtain ⟨h1,h2⟩:=bif_is hr
  simp only [h1,cond_true]
  exact hF _ _ _ h2
 ·exact hr.elim
theorem optInt_congr {d:Int} {x:Option Operand} (h:∀y,x=some y→gv S y=gv s y):optInt S d x=optInt s d x:=by
 cases x with
 |none=>rfl
 |some y=>simp only [optInt];rw [h y rfl]
theorem lookupR_congr {ti:TI} {m k:SV} {co:Bool} (hh:∀h∈t,hget S.heap h=hget s.heap h) (hr:(lookupR s ti m k co).is r U b t):(lookupR S ti m k co).is r U b t:=by
 unfold lookupR at hr⊢
 split at hr
 ·exact hr
 ·rename_i h q
  have ht:h∈t:=by
   refine onBlk_t ?_ _ _ _ _ hr
   intro ro bl r U b t hr
   split at hr
   ·split at hr
    ·obtain ⟨_,_,_,rfl⟩:=(bif_is hr).2;simp
    ·exact hr.elim
   ·exact hr.elim
  exact onBlk_congr (hh h ht) (fun _ _ h=>h) hr
 ·exact hr.elim
theorem updateR_congr {ti:TI} {m k v:SV} (hh:∀h∈t,hget S.heap h=hget s.heap h) (hr:(updateR s ti m k v).is r U b t):(updateR S ti m k v).is r U b t:=by
 unfold updateR at hr⊢
 split at hr
 ·rename_i h q
  have ht:h∈t:=by
   refine onBlk_t ?_ _ _ _ _ hr
   intro ro bl r U b t hr
   split at hr
   ·split at hr
    ·split at hr
     ·obtain ⟨_,_,_,rfl⟩:=hr;simp
     ·exact hr.elim
    ·exact hr.elim
   ·exact hr.elim
  refine onBlk_congr (hh h ht) (fun _ _ h=> ?_) hr
  simp only [setBlk_congr (hh _ ht)]
  exact h
 ·exact hr.elim
theorem mapEntryR_congr {ti:TI} {m k:SV} (hh:∀h∈t,hget S.heap h=hget s.heap h) (hr:(mapEntryR s ti m k).is r U b t):(mapEntryR S ti m k).is r U b t:=by
 unfold mapEntryR at hr⊢
 split at hr
 ·rename_i h q
  have ht:h∈t:=by
   refine onBlk_t ?_ _ _ _ _ hr
   intro ro bl r U b t hr
   split at hr
   ·split at hr
    ·split at hr
     ·split at hr
      ·obtain ⟨_,_,_,rfl⟩:=(bif_is hr).2;simp
      ·exact hr.elim
     ·exact hr.elim
    ·exact hr.elim
   ·exact hr.elim
  refine onBlk_congr (hh h ht) (fun _ _ h=> ?_) hr
  simp only [setBlk_congr (hh _ ht)]
  exact h
 ·exact hr.elim
theorem entryStoreR_congr {m k v:SV} (hh:∀h∈t,hget S.heap h=hget s.heap h) (hr:(entryStoreR s m k v).is r U b t):(entryStoreR S m k v).is r U b t:=by
 unfold entryStoreR at hr⊢
 split at hr
 ·rename_i h q st
  have ht:h∈t:=by
   refine onBlk_t ?_ _ _ _ _ hr
   intro ro bl r U b t hr
   split at hr
   ·split at hr
    ·split at hr
     ·obtain ⟨_,_,_,_,rfl⟩:=hr;simp
     ·exact hr.elim
    ·exact hr.elim
   ·exact hr.elim
  refine onBlk_congr (hh h ht) (fun _ _ h=> ?_) hr
  simp only [setBlk_congr (hh _ ht)]
  exact h
 ·exact hr.elim
theorem deleteR_congr {ti:TI} {m k:SV} (hh:∀h∈t,hget S.heap h=hget s.heap h) (hr:(deleteR s ti m k).is r U b t):(deleteR S ti m k).is r U b t:=by
 unfold deleteR at hr⊢
 split at hr
 ·rename_i h q
  have ht:h∈t:=by
   refine onBlk_t ?_ _ _ _ _ hr
   intro ro bl r U b t hr
   split at hr
   ·split at hr
    ·obtain ⟨_,_,_,rfl⟩:=hr;simp
    ·exact hr.elim
   ·exact hr.elim
  refine onBlk_congr (hh h ht) (fun _ _ h=> ?_) hr
  simp only [setBlk_congr (hh _ ht)]
  exact h
 ·exact hr.elim
theorem clearR_congr {ti:TI} {m:SV} (hh:∀h∈t,hget S.heap h=hget s.heap h) (hr:(clearR s ti m).is r U b t):(clearR S ti m).is r U b t:=by
 unfold clearR at hr⊢
 split at hr
 ·rename_i h q i n
  have ht:h∈t:=by
   refine onBlk_t ?_ _ _ _ _ hr
   intro ro bl r U b t hr
   split at hr
   ·obtain ⟨_,hr⟩:=bif_is hr
    obtain ⟨_,_,_,_,rfl⟩:=hr;simp
   ·exact hr.elim
  refine onBlk_congr (hh h ht) (fun _ _ h=> ?_) hr
  simp only [setBlk_congr (hh _ ht)]
  exact h
 ·exact hr.elim
theorem rangeR_congr {ti:TI} {m:SV} (hh:∀h∈t,hget S.heap h=hget s.heap h) (hr:(rangeR s nx ti m).is r U b t):(rangeR S nx ti m).is r U b t:=by
 unfold rangeR at hr⊢
 split at hr
 ·exact hr
 ·exact hr
 ·rename_i h q
  obtain ⟨h1,hr⟩:=bif_is hr
  simp only [h1,cond_true]
  have ht:h∈t:=by
   refine onBlk_t ?_ _ _ _ _ hr
   intro ro bl r U b t hr
   split at hr
   ·obtain ⟨_,_,_,rfl⟩:=hr;simp
   ·exact hr.elim
  exact onBlk_congr (hh h ht) (fun _ _ h=>h) hr
 ·exact hr.elim
theorem entryR_congr {m:SV} (hh:∀h∈t,hget S.heap h=hget s.heap h) (hr:(entryR s m).is r U b t):(entryR S m).is r U b t:=by
 unfold entryR at hr⊢
 split at hr
 ·rename_i h
  have hin:∀hm qm bs ck i,Touches h (onBlk s.heap hm qm (fun _ b2=>match b2 with
   | .obj (.map ka ea n ks vl bs2 ck2)=> .when (bs2=bs∧ck2=ck∧i<n) (.tup [keyS ka ks i,elemS ea vl i]) [] 0 [h,hm]
   |_=> .no))∧Touches hm (onBlk s.heap hm qm (fun _ b2=>match b2 with
   | .obj (.map ka ea n ks vl bs2 ck2)=> .when (bs2=bs∧ck2=ck∧i<n) (.tup [keyS ka ks i,elemS ea vl i]) [] 0 [h,hm]
   |_=> .no)):=by
   intro hm qm bs ck i
   constructor
   ·intro r U b t hr
    obtain ⟨_,_,_,hr⟩:=onBlk_ok hr
    split at hr
    ·obtain ⟨_,_,_,_,rfl⟩:=hr;simp
    ·exact hr.elim
   ·intro r U b t hr
    obtain ⟨_,_,_,hr⟩:=onBlk_ok hr
    split at hr
    ·obtain ⟨_,_,_,_,rfl⟩:=hr;simp
    ·exact hr.elim
  have ht:h∈t:=by
   refine onBlk_t ?_ _ _ _ _ hr
   intro ro bl r U b t hr
   split at hr
   ·exact (hin _ _ _ _ _).1 _ _ _ _ hr
   ·exact hr.elim
  refine onBlk_congr (hh h ht) (fun _ _ hr=> ?_) hr
  split at hr
  ·exact onBlk_congr (hh _ ((hin _ _ _ _ _).2 _ _ _ _ hr)) (fun _ _ h=>h) hr
  ·exact hr.elim
 ·exact hr.elim
theorem eff_congr {op:Op} (hs:∀x∈op.operands.toList,gv S x=gv s x) (hh:∀h∈t,hget S.heap h=hget s.heap h) (hr:(eff T s nx op).is r U b t):(eff T S nx op).is r U b t:=by
 cases op with
 |move x=>simp only [eff] at hr⊢;rw [hs x (by simp [Op.operands])];exact hr
 |assign x=>simp only [eff] at hr⊢;rw [hs x (by simp [Op.operands])];exact hr
 |nilCheck x=>simp only [eff] at hr⊢;rw [hs x (by simp [Op.operands])];exact hr
 |pick c x y=>simp only [eff] at hr⊢;rw [hs c (by simp [Op.operands]),hs x (by simp [Op.operands]),hs y (by simp [Op.operands])];exact hr
 |binOp op ty x y t'=>simp only [eff] at hr⊢;rw [hs x (by simp [Op.operands]),hs y (by simp [Op.operands])];exact hr
 |unOp op ty x=>simp only [eff] at hr⊢;rw [hs x (by simp [Op.operands])];exact hr
 |fieldAddr ty x f=>simp only [eff] at hr⊢;rw [hs x (by simp [Op.operands])];exact hr
 |field ty x f=>simp only [eff] at hr⊢;rw [hs x (by simp [Op.operands])];exact hr
 |load ty x=>
  simp only [eff] at hr⊢
  rw [hs x (by simp [Op.operands])]
  split at hr
  ·rename_i h q i j ti _ _
   exact onBlk_congr (hh h (onBlk_t (fun _ _=>loadV_t) _ _ _ _ hr)) (fun _ _ h=>h) hr
  ·exact hr.elim
 |store ty x y=>
  simp only [eff] at hr⊢
  rw [hs x (by simp [Op.operands]),hs y (by simp [Op.operands])]
  split at hr
  ·rename_i h q i j v ti _ _ _
   have ht:h∈t:=onBlk_t (fun ro bl r U b t hr=>storeV_t r U b t (bif_is' hr).2) _ _ _ _ hr
   refine onBlk_congr (hh h ht) (fun ro bl hr'=> ?_) hr
   have:storeV S.heap h q i j v ti bl=storeV s.heap h q i j v ti bl:=by
    unfold storeV
    simp only [setBlk_congr (hh h ht)]
   rw [this];exact hr'
  ·exact hr.elim
 |extract x ix=>simp only [eff] at hr⊢;rw [hs x (by simp [Op.operands])];exact hr
 |index ty x ix=>simp only [eff] at hr⊢;rw [hs x (by simp [Op.operands]),hs ix (by simp [Op.operands])];exact hr
 |indexAddr ty x ix=>
  simp only [eff] at hr⊢
  rw [hs x (by simp [Op.operands]),hs ix (by simp [Op.operands])]
  split at hr
  ·rename_i h q i n k m ti _ _ _
   obtain ⟨h1,h2⟩:=bif_is' hr
   simp only [h1,cond_false]
   have ht:h∈t:=by
    refine onBlk_t ?_ _ _ _ _ h2
    intro ro bl r U b t hr
    obtain ⟨_,_,_,_,rfl⟩:=(bif_is hr).2
    simp
   exact onBlk_congr (hh h ht) (fun _ _ h=>h) h2
  ·rename_i h q k m ti _ _ _
   obtain ⟨h1,h2⟩:=bif_is' hr
   simp only [h1,cond_false]
   have ht:h∈t:=by
    refine onBlk_t ?_ _ _ _ _ h2
    intro ro bl r U b t hr
    split at hr
    ·obtain ⟨_,_,_,_,rfl⟩:=(bif_is hr).2;simp
    ·exact hr.elim
   exact onBlk_congr (hh h ht) (fun _ _ h=>h) h2
  ·exact hr.elim
 |build ty parts=>
  simp only [eff] at hr⊢
  split at hr
  ·rw [buildL_congr _ parts.toList _ (fun p hp=>hs p.2 (by simp only [Op.operands,List.mem_map];exact ⟨p,hp,rfl⟩))];exact hr
  ·exact hr.elim
 |buildSlice ty len parts=>
  simp only [eff] at hr⊢
  split at hr
  ·rw [buildL_congr _ parts.toList _ (fun p hp=>hs p.2 (by simp only [Op.operands,List.mem_map];exact ⟨p,hp,rfl⟩))];exact hr
  ·exact hr.elim
 |makeSlice ty x y=>simp only [eff] at hr⊢;rw [hs x (by simp [Op.operands]),hs y (by simp [Op.operands])];exact hr
 |slice ty x lo hi mx=>
  simp only [eff] at hr⊢
  rw [hs x (by simp [Op.operands])]
  split at hr
  ·rename_i v ti _ _
   have h1:∀d,optInt S d lo=optInt s d lo:=fun d=>optInt_congr (fun y e=>hs y (by simp [Op.operands,e]))
   have h2:∀d,optInt S d hi=optInt s d hi:=fun d=>optInt_congr (fun y e=>hs y (by simp [Op.operands,e]))
   have h3:∀d,optInt S d mx=optInt s d mx:=fun d=>optInt_congr (fun y e=>hs y (by simp [Op.operands,e]))
   unfold sliceR at hr⊢
   simp only [h1,h2,h3]
   split at hr
   ·exact hr
   ·rename_i hd q i n _
    split at hr
    ·rename_i l h m _ _ _ _ _ _
     cases hz:(isZero (some h)&&isZero (some m)) with
     |true=>rw [hz] at hr;simp only [cond_true] at hr⊢;exact hr
     |false=>
      rw [hz] at hr
      simp only [cond_false] at hr⊢
      have ht:hd∈t:=by
       refine onBlk_t ?_ _ _ _ _ hr
       intro ro bl r U b t hr
       obtain ⟨_,_,_,_,rfl⟩:=(bif_is hr).2
       simp
      exact onBlk_congr (hh hd ht) (fun _ _ h=>h) hr
    ·have ht:hd∈t:=by
      refine onBlk_t ?_ _ _ _ _ hr
      intro ro bl r U b t hr
      obtain ⟨_,_,_,_,rfl⟩:=(bif_is hr).2
      simp
     exact onBlk_congr (hh hd ht) (fun _ _ h=>h) hr
    ·exact hr.elim
   ·exact hr
   ·rename_i hd q _
    split at hr
    ·have ht:hd∈t:=by
      refine onBlk_t ?_ _ _ _ _ hr
      intro ro bl r U b t hr
      split at hr
      ·obtain ⟨_,_,_,_,rfl⟩:=(bif_is hr).2;simp
      ·exact hr.elim
     exact onBlk_congr (hh hd ht) (fun _ _ h=>h) hr
    ·exact hr.elim
   ·exact hr.elim
  ·exact hr.elim
 |alloc ty=>simp only [eff] at hr⊢;exact hr
 |box ty x=>simp only [eff] at hr⊢;rw [hs x (by simp [Op.operands])];exact hr
 |makeFunc fn first captured=>
  cases fn with
  |func f=>
   simp only [eff] at hr⊢
   rw [gvs_congr captured.toList (fun x hx=>hs x (by simp only [Op.operands,Array.toList_append,List.mem_append];exact .inr hx))];exact hr
  |_=>simp only [eff] at hr;exact hr.elim
 |makeInterface ty x=>simp only [eff] at hr⊢;rw [hs x (by simp [Op.operands])];exact hr
 |makeMap ty c=>
  cases c with
  |none=>simp only [eff] at hr⊢;exact hr
  |some c=>simp only [eff] at hr;exact hr.elim
 |lookup ty x y co=>
  simp only [eff] at hr⊢
  rw [hs x (by simp [Op.operands]),hs y (by simp [Op.operands])]
  split at hr
  ·obtain ⟨h1,h2⟩:=bif_is hr
   simp only [h1,cond_true]
   exact lookupR_congr hh h2
  ·exact hr.elim
 |mapUpdate ty x y z=>
  simp only [eff] at hr⊢
  rw [hs x (by simp [Op.operands]),hs y (by simp [Op.operands]),hs z (by simp [Op.operands])]
  split at hr
  ·obtain ⟨h1,h2⟩:=bif_is hr
   simp only [h1,cond_true]
   exact updateR_congr hh h2
  ·exact hr.elim
 |mapEntry ty x y=>
  simp only [eff] at hr⊢
  rw [hs x (by simp [Op.operands]),hs y (by simp [Op.operands])]
  split at hr
  ·obtain ⟨h1,h2⟩:=bif_is hr
   simp only [h1,cond_true]
   exact mapEntryR_congr hh h2
  ·exact hr.elim
 |entryStore ty x y z=>
  simp only [eff] at hr⊢
  rw [hs x (by simp [Op.operands]),hs y (by simp [Op.operands]),hs z (by simp [Op.operands])]
  split at hr
  ·exact entryStoreR_congr hh hr
  ·exact hr.elim
 |range ty x=>
  simp only [eff] at hr⊢
  rw [hs x (by simp [Op.operands])]
  split at hr
  ·exact rangeR_congr hh hr
  ·exact hr.elim
 |entry x=>
  simp only [eff] at hr⊢
  rw [hs x (by simp [Op.operands])]
  split at hr
  ·exact entryR_congr hh hr
  ·exact hr.elim
 |convert src dst x=>
  simp only [eff] at hr⊢
  rw [hs x (by simp [Op.operands])]
  split at hr
  ·unfold convR at hr⊢
   split at hr
   ·exact hr
   ·exact hr
   ·rename_i h q i n _
    obtain ⟨h1,h2⟩:=bif_is hr
    simp only [h1,cond_true]
    have ht:h∈t:=by
     refine onBlk_t ?_ _ _ _ _ h2
     intro ro bl r U b t hr
     split at hr
     ·obtain ⟨_,_,_,_,rfl⟩:=hr;simp
     ·exact hr.elim
    exact onBlk_congr (hh h ht) (fun _ _ h=>h) h2
   ·exact hr.elim
  ·exact hr.elim
 |call c=>
  obtain ⟨callee,args,ts⟩:=c
  cases callee with
  |value f=>simp only [eff] at hr;exact hr.elim
  |invoke r m=>simp only [eff] at hr;exact hr.elim
  |builtin bi=>
   have ha:∀x∈args.toList,gv S x=gv s x:=fun x hx=>hs x (by simp only [Op.operands,Call.operands];simpa using hx)
   simp only [eff] at hr⊢
   split at hr
   ·rename_i x hargs
    have:=ha x (by rw [hargs];simp)
    simp only [this]
    split at hr
    ·split at hr
     ·exact hr
     ·exact hr
     ·exact hr
     ·exact hr
     ·exact hr
     ·rename_i h q ti _ _
      obtain ⟨h1,h2⟩:=bif_is hr
      simp only [h1,cond_true]
      have ht:h∈t:=by
       refine onBlk_t ?_ _ _ _ _ h2
       intro ro bl r U b t hr
       split at hr
       ·obtain ⟨_,_,_,rfl⟩:=hr;simp
       ·exact hr.elim
      exact onBlk_congr (hh h ht) (fun _ _ h=>h) h2
     ·exact hr.elim
    ·exact hr.elim
   ·rename_i x y hargs
    have e1:=ha x (by rw [hargs];simp)
    have e2:=ha y (by rw [hargs];simp)
    simp only [e1,e2]
    split at hr
    ·split at hr
     ·obtain ⟨h1,h2⟩:=bif_is hr
      simp only [h1,cond_true]
      exact deleteR_congr hh h2
     ·exact hr.elim
    ·exact hr.elim
   ·rename_i x hargs
    have e1:=ha x (by rw [hargs];simp)
    simp only [e1]
    split at hr
    ·split at hr
     ·obtain ⟨h1,h2⟩:=bif_is hr
      simp only [h1,cond_true]
      exact clearR_congr hh h2
     ·exact hr.elim
    ·exact hr.elim
   ·rename_i x y hargs
    have e1:=ha x (by rw [hargs];simp)
    have e2:=ha y (by rw [hargs];simp)
    simp only [e1,e2];exact hr
   ·rename_i x y hargs
    have e1:=ha x (by rw [hargs];simp)
    have e2:=ha y (by rw [hargs];simp)
    simp only [e1,e2];exact hr
   ·rename_i x y hargs
    have e1:=ha x (by rw [hargs];simp)
    have e2:=ha y (by rw [hargs];simp)
    simp only [e1,e2]
    split at hr
    ·split at hr
     ·rename_i v1 v2 ti ti2 _ _ _ _
      obtain ⟨h1,h2⟩:=bif_is hr
      simp only [h1,cond_true]
      unfold appendR at h2⊢
      split at h2
      ·rename_i h q i n _
       have ht:h∈t:=by
        obtain ⟨ro,bl,_,h3⟩:=onBlk_ok h2
        split at h3
        ·obtain ⟨n',l',tt,h4⟩:=srcOf_ex (bif_is h3).2
         split at h4
         ·obtain ⟨_,_,_,_,rfl⟩:=h4;simp
         ·obtain ⟨_,_,_,_,rfl⟩:=h4;simp
        ·exact h3.elim
       refine onBlk_congr (hh h ht) (fun ro bl h3=> ?_) h2
       split at h3
       ·obtain ⟨h4,h5⟩:=bif_is h3
        simp only [h4,cond_true]
        refine srcOf_congr hh ?_ ?_ h5
        ·intro n l tt h6
         split at h6
         ·obtain ⟨_,_,_,_,rfl⟩:=h6;intro h hm;simp [hm]
         ·obtain ⟨_,_,_,_,rfl⟩:=h6;intro h hm;simp [hm]
        ·intro n l tt h6
         rw [dropBlk_congr (hh h ht),setBlk_congr (hh h ht)];exact h6
       ·exact h3.elim
      ·refine srcOf_congr hh ?_ (fun _ _ _ h=>h) h2
       intro n l tt h6;obtain ⟨_,_,_,_,rfl⟩:=h6;exact fun h hm=>hm
      ·refine srcOf_congr hh ?_ (fun _ _ _ h=>h) h2
       intro n l tt h6;obtain ⟨_,_,_,_,rfl⟩:=h6;exact fun h hm=>hm
      ·exact h2.elim
     ·exact hr.elim
    ·exact hr.elim
   ·rename_i x y hargs
    have e1:=ha x (by rw [hargs];simp)
    have e2:=ha y (by rw [hargs];simp)
    simp only [e1,e2]
    split at hr
    ·split at hr
     ·rename_i v1 v2 ti _ _ _
      obtain ⟨h1,h2⟩:=bif_is hr
      simp only [h1,cond_true]
      unfold copyR at h2⊢
      split at h2
      ·rename_i h q i n _
       have ht:h∈t:=by
        obtain ⟨ro,bl,_,h3⟩:=onBlk_ok h2
        split at h3
        ·obtain ⟨n',l',tt,h4⟩:=srcOf_ex (bif_is h3).2
         split at h4
         ·obtain ⟨_,_,_,_,rfl⟩:=h4;simp
         ·exact h4.elim
        ·exact h3.elim
       refine onBlk_congr (hh h ht) (fun ro bl h3=> ?_) h2
       split at h3
       ·obtain ⟨h4,h5⟩:=bif_is h3
        simp only [h4,cond_true]
        refine srcOf_congr hh ?_ ?_ h5
        ·intro n l tt h6
         split at h6
         ·obtain ⟨_,_,_,_,rfl⟩:=h6;intro h hm;simp [hm]
         ·exact h6.elim
        ·intro n l tt h6
         simp only [setBlk_congr (hh h ht)];exact h6
       ·exact h3.elim
      ·exact h2.elim
     ·exact hr.elim
    ·exact hr.elim
   ·exact hr.elim
 |_=>simp only [eff] at hr;exact hr.elim
end
end Go.Sy
