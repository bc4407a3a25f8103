/- Blocks are gathered under new handles: slices of slices, objects in tables. The memory stays as it is; only the names turn. No program in sight. -/
import Derived.Test.YtlankgapiecloaaGreatDoorYC6
namespace Go.Sy
open Go.RowKit
section
variable {P:Program} {T:Tab} {g:G} {C:Ctx} {vs:VS} {a:Act} {w:World}
theorem hget_gone:∀(dr:List Nat) (H:Heap) (h:Nat),hget (gone dr++H) h=if h∈dr then none else hget H h
 | [],H,h=>by simp [gone]
 |x::r,H,h=>by
  simp only [gone,List.cons_append,hget_cons,hget_gone r H h,List.mem_cons]
  by_cases e:x=h
  ·subst e;simp
  ·rw [if_neg e]
   have:¬h=x:=fun e'=>e e'.symm
   simp [this]
theorem hget_keys:∀(U:Heap) (h:Nat),¬h∈keysOf U→hget U h=none
 | [],h,_=>rfl
 |(k,v)::r,h,hn=>by
  simp only [keysOf,List.mem_cons,not_or] at hn
  rw [hget_cons,if_neg (fun e=>hn.1 e.symm)]
  exact hget_keys r h hn.2
theorem len0_ok:∀(cs:List BCol),len0 cs=true→∀c∈cs,c.len=0
 | [],_,c,h=>by cases h
 |x::r,h0,c,h=>by
  have key:x.len=0∧len0 r=true:=by
   cases x with
   |sc y=>cases y with
    |ints k l=>cases l<;>simp_all [len0,BCol.len,Col.len]
    |strs l=>cases l<;>simp_all [len0,BCol.len,Col.len]
    |bools l=>cases l<;>simp_all [len0,BCol.len,Col.len]
   |svs l=>cases l<;>simp_all [len0,BCol.len]
   |own hh ns=>cases ns<;>simp_all [len0,BCol.len]
   |ptrs hh n=>cases n<;>simp_all [len0,BCol.len]
   |arrs n k rs=>cases rs<;>simp_all [len0]
  rcases List.mem_cons.1 h with rfl|h
  ·exact key.1
  ·exact len0_ok r key.2 c h
theorem sle_rows {n:Nat} {R:Nat→Nat→Option (Nat×Nat)} {g g1:G} (hle:G.le g g1) (hR:∀h q p,n≤h→R h q=some p→∀β,g p.1 p.2=some β→g1 h q=some β) {sv sv':SV} {v:Value} (h:SLe n R sv sv') (hv:Rv g sv v):Rv g1 sv' v:=h g g1 v hle hR hv
theorem blk_le {n:Nat} {R:Nat→Nat→Option (Nat×Nat)} {g g1:G} {β:Base} {ro:Bool} {b b':Blk} {w:World} (hle:G.le g g1) (hR:∀h q p,n≤h→R h q=some p→∀β,g p.1 p.2=some β→g1 h q=some β) (hB:BlkAt g β ro b w) (h:BLe n R b b'):BlkAt g1 β ro b' w:=by
 rcases h with rfl|h
 ·exact blkAt_mono hB hle (Nat.le_refl _) (fun _=>rfl)
 cases b with
 |cells l=>
  cases b' with
  |cells l'=>
   obtain ⟨h1,h2⟩:=h
   refine ⟨hB.lt,by rw [hB.es];exact h1.symm,trivial,hB.cap,?_,fun i j v hi=>hB.one i j v hi,hB.rw,trivial⟩
   intro i j sv' hi hj
   obtain ⟨sv,k1,k2⟩:=h2 j sv' hj
   obtain ⟨v,v1,v2⟩:=hB.cell i j sv hi k1
   exact ⟨v,v1,sle_rows hle hR k2 v2⟩
  |cols _ _=>exact h.elim
  |obj _=>exact h.elim
 |cols m cs=>
  cases b' with
  |cells _=>exact h.elim
  |cols m' cs'=>
   obtain ⟨hm,h1,h2,h3⟩:=h
   refine ⟨hB.lt,by rw [hB.es];exact h1.symm,h2 hB.len,fun i hi=>hB.cap i (Nat.lt_of_lt_of_le hi hm),?_,fun i j v hi=>hB.one i j v (Nat.lt_of_lt_of_le hi hm),hB.rw,trivial⟩
   intro i j sv' hi hj
   simp only [Blk.at] at hj
   split at hj
   ·rename_i c' hc'
    simp only [Option.some.injEq] at hj
    subst hj
    obtain ⟨c,k1,k2⟩:=h3 i j c' hi hc'
    obtain ⟨v,v1,v2⟩:=hB.cell i j (c.at i) (Nat.lt_of_lt_of_le hi hm) (by simp [Blk.at,k1])
    exact ⟨v,v1,sle_rows hle hR k2 v2⟩
   ·cases hj
  |obj _=>exact h.elim
 |obj o=>
  cases b' with
  |cells _=>cases o<;>exact h.elim
  |cols _ _=>cases o<;>exact h.elim
  |obj o'=>
   cases o with
   |map ka ea m ks vl bs ck=>
    cases o' with
    |map ka' ea' m' ks' vl' bs' ck'=>
     obtain ⟨rfl,rfl,rfl,rfl,rfl,rfl,h1,h2⟩:=h
     obtain ⟨o1,o2,es,o3,M⟩:=hB.obj
     refine ⟨hB.lt,hB.es,trivial,fun i hi=>False.elim hi,fun i j sv hi=>False.elim hi,fun i j v hi=>False.elim hi,hB.rw,o1,o2,es,o3,M.size,M.kl,h1 M.vl,M.bl,M.nd,M.lt,?_⟩
     intro i e he
     obtain ⟨r1,r2,r3⟩:=M.row i e he
     refine ⟨r1,r2,sle_rows hle hR (h2 i ?_) r3⟩
     rw [←M.size];exact (Array.getElem?_eq_some_iff.1 he).1
    |_=>exact h.elim
   |_=>cases o'<;>exact h.elim
theorem rel_relab {e:Env} {H:Heap} {n:Nat} {R:Nat→Nat→Option (Nat×Nat)} {E:Nat→Nat} {N:Heap} {dr:List Nat} {m:Nat} (RL:Rel C g ⟨e,H,n⟩ a w) (L:Relab H n R E N dr m):∃g1,G.le g g1∧Rel C g1 ⟨e,N++(gone dr++H),n+m⟩ a w:=by
 have hup:∀h q,n≤h→g h q=none:=fun h q hh=>RL.upto h q hh
 obtain ⟨g1,hg1⟩:∃g1:G,g1=fun h q=>if h<n then g h q else if h<n+m then (match R h q with|some p=>g p.1 p.2|none=>some ⟨0,0,E h,0⟩) else none:=⟨_,rfl⟩
 have old:∀h q,h<n→g1 h q=g h q:=fun h q hh=>by rw [hg1];simp only;rw [if_pos hh]
 have hle:G.le g g1:=by
  intro h q β hb
  have hh:h<n:=by
   refine Nat.lt_of_not_le fun hx=> ?_
   rw [hup h q hx] at hb;cases hb
  rw [old h q hh];exact hb
 have hpn:∀h q p,n≤h→R h q=some p→h<n+m:=fun h q p h1 h2=>L.lim h q p h1 h2
 have hR:∀h q p,n≤h→R h q=some p→∀β,g p.1 p.2=some β→g1 h q=some β:=by
  intro h q p h1 h2 β hb
  rw [hg1];simp only
  rw [if_neg (by omega),if_pos (hpn h q p h1 h2),h2];exact hb
 have ent:∀h q ro b',Ent (N++(gone dr++H)) h q ro b'→(h∈keysOf N∧Ent N h q ro b')∨(¬h∈keysOf N∧¬h∈dr∧Ent H h q ro b'):=by
  rintro h q ro b' ⟨hb,e1,e2⟩
  rw [hget_append] at e1
  by_cases hk:h∈keysOf N
  ·rw [if_pos hk] at e1;exact .inl ⟨hk,hb,e1,e2⟩
  ·rw [if_neg hk,hget_gone] at e1
   by_cases hd:h∈dr
   ·rw [if_pos hd] at e1;cases e1
   ·rw [if_neg hd] at e1;exact .inr ⟨hk,hd,hb,e1,e2⟩
 have lt:∀h q ro b,Ent H h q ro b→h<n:=by
  intro h q ro b he
  obtain ⟨β,hb,_⟩:=RL.heap.blk h q ro b he
  refine Nat.lt_of_not_le fun hx=> ?_
  rw [hup h q hx] at hb;cases hb
 have src:∀h q ro b',Ent (N++(gone dr++H)) h q ro b'→∃β,g1 h q=some β∧BlkAt g1 β ro b' w∧(0<β.cap→∃h0 q0 b0,Ent H h0 q0 ro b0∧g h0 q0=some β∧From n R h q h0 q0∧(h∈keysOf N∨(h0=h∧q0=q∧¬h∈dr∧¬h∈keysOf N))):=by
  intro h q ro b' he
  rcases ent h q ro b' he with ⟨hk,heN⟩|⟨hk,hd,heH⟩
  ·have hro:=L.ro h q ro b' heN
   subst hro
   rcases L.src h q b' heN with ⟨h0,q0,b0,f1,f2,f3⟩|⟨f1,f2,cs,rfl,f3,f4⟩
   ·obtain ⟨β,hb,hB⟩:=RL.heap.blk h0 q0 false b0 f2
    refine ⟨β,?_,blk_le hle hR hB f3,fun _=>⟨h0,q0,b0,f2,hb,f1,.inl hk⟩⟩
    rcases f1 with ⟨x1,rfl,rfl⟩|⟨x1,x2⟩
    ·rw [old _ _ x1];exact hb
    ·exact hR h q _ x1 x2 β hb
   ·refine ⟨⟨0,0,E h,0⟩,?_,?_,fun hc=>by simp at hc⟩
    ·rw [hg1];simp only
     rw [if_neg (by omega),if_pos f1.2,f2]
    ·exact ⟨fun h=>by simp at h,f4,len0_ok cs f3,fun i hi=>by simp only [Blk.has] at hi;omega,fun i j sv hi=>by simp only [Blk.has] at hi;omega,fun i j v hi=>by simp only [Blk.has] at hi;omega,fun _ i j hi=>by simp at hi,trivial⟩
  ·obtain ⟨β,hb,hB⟩:=RL.heap.blk h q ro b' heH
   have hl:=lt h q ro b' heH
   exact ⟨β,by rw [old h q hl];exact hb,blkAt_mono hB hle (Nat.le_refl _) (fun _=>rfl),fun _=>⟨h,q,b',heH,hb,.inl ⟨hl,rfl,rfl⟩,.inr ⟨rfl,rfl,hd,hk⟩⟩⟩
 refine ⟨g1,hle,?_,RL.size,RL.defers,?_,?_,Nat.le_trans RL.lo (Nat.le_add_right _ _),?_,⟨?_,?_⟩,RL.fr,?_⟩
 ·exact fun t s ht=>Rv.mono hle _ _ (RL.env t s ht)
 ·intro q
  obtain ⟨es,cap,e1⟩:=RL.glob q
  exact ⟨es,cap,hle _ _ _ e1⟩
 ·intro h q hh
  simp only at hh
  rw [hg1];simp only
  rw [if_neg (by omega),if_neg (by omega)]
 ·intro h q hh
  have:=RL.lo
  simp only at this
  rw [old h q (by omega)];exact RL.keep h q hh
 ·intro h q ro b' he
  obtain ⟨β,h1,h2,_⟩:=src h q ro b' he
  exact ⟨β,h1,h2⟩
 ·intro h q h' q' b ro' b' β β' hne he he' hg hg' hc hc'
  obtain ⟨β1,k1,_,k2⟩:=src h q false b he
  obtain ⟨β2,k3,_,k4⟩:=src h' q' ro' b' he'
  rw [hg] at k1;cases k1
  rw [hg'] at k3;cases k3
  obtain ⟨h0,q0,b0,x1,x2,x3,x4⟩:=k2 hc
  obtain ⟨h0',q0',b0',y1,y2,y3,y4⟩:=k4 hc'
  refine RL.heap.sep h0 q0 h0' q0' b0 ro' b0' β β' ?_ x1 y1 x2 y2 hc hc'
  rintro ⟨rfl,rfl⟩
  rcases x4 with x4|⟨rfl,rfl,x5,x6⟩
  ·rcases y4 with y4|⟨rfl,rfl,y5,y6⟩
   ·exact hne (L.inj h q h' q' h0 q0 x4 y4 x3 y3)
   ·rcases x3 with ⟨z1,rfl,rfl⟩|⟨z1,z2⟩
    ·exact y6 x4
    ·exact y5 (L.took h q _ z1 z2)
  ·rcases y4 with y4|⟨rfl,rfl,y5,y6⟩
   ·rcases y3 with ⟨z1,rfl,rfl⟩|⟨z1,z2⟩
    ·exact x6 y4
    ·exact x5 (L.took h' q' _ z1 z2)
   ·exact hne ⟨rfl,rfl⟩
 ·intro h q b β he hg hc
  obtain ⟨β1,k1,_,k2⟩:=src h q false b he
  rw [hg] at k1;cases k1
  obtain ⟨h0,q0,b0,x1,x2,_⟩:=k2 hc
  exact RL.own h0 q0 b0 β x1 x2 hc
end
end Go.Sy
