/- What package-level variables are laid as, as the generator of conditions wants it: tables of scalars, of structs of scalars. No program in sight. -/
import Derived.Test.YtlankgapiecloaaGreatDoorYLaw
import Derived.ChangeBears2
import Derived.MakeChecks
import Derived.OpenShut
import Derived.LaidLaws
namespace Go.Sy
open Go.RowKit Go.ChangeShapes Go.WideShapes Go.Deep
theorem len_cons {α:Type} {l:List α} {n:Nat} (h:l.length=n+1):∃a r,l=a::r∧r.length=n:=by
 cases l with
 |nil=>cases h
 |cons a r=>exact ⟨a,r,rfl,by simpa using h⟩
theorem len_nil {α:Type} {l:List α} (h:l.length=0):l= []:=List.length_eq_zero_iff.1 h
theorem rv_agg_mk {g:G} {l:List SV} {vs:Array Value} (h:Rvs g l vs.toList):Rv g (.agg l) (.agg vs):=by simp only [Rv];exact ⟨_,rfl,h⟩
theorem rvs_cons_mk {g:G} {x:SV} {l:List SV} {v:Value} {vs:List Value} (h:Rv g x v) (k:Rvs g l vs):Rvs g (x::l) (v::vs):=by simp only [Rvs];exact ⟨_,_,rfl,h,k⟩
theorem rvs_nil_mk {g:G}:Rvs g [] []:=by simp only [Rvs]
mutual
def datV {H:Type}:DataW H→Option (List Value)
 | .lit l=>some [l.value]
 | .agg ds=>datVs ds
 |_=>none
def datVs {H:Type}:List (DataW H)→Option (List Value)
 | []=>some []
 |d::ds=>match datV d,datVs ds with
  |some a,some b=>some (a++b)
  |_,_=>none
end
section
variable {H:Type} {enc:TypeId×Value→H} {P:Program} {w:World} {base:Nat} {spare:Nat→Bool} {held:Bool}
theorem str_of_list (s:ByteArray):(⟨s.data.toList.toArray⟩:ByteArray)=s:=by cases s;simp
theorem trod_dat_both:∀m:Nat,(∀(t:TypeId) (ks:List CK) (fuel:Nat) (cs:List Value) (x:DataW H×List MemPlace),flatK P m t=some ks→DataW.trod enc P w base spare held fuel t cs=some x→datV x.1=some cs)∧
  (∀(o:Nat) (fs:List Field) (ks:List CK) (cs:List Value) (n:Nat) (xs:List (DataW H×List MemPlace)),flatFs P m o fs=some ks→cs.length=o+ks.length→xs.length=fs.length→(∀(i:Nat) f,fs[i]?=some f→DataW.trod enc P w base spare held n f.type ((cs.drop f.offset).take (P.cellsOf f.type))=xs[i]?)→datVs (xs.map (·.1))=some (cs.drop o)):=by
 intro m
 induction m with
 |zero=>exact ⟨fun t ks fuel cs x h=>by simp [flatK] at h,fun o fs ks cs n xs h=>by simp [flatFs] at h⟩
 |succ m ih=>
  refine ⟨?_,?_⟩
  ·intro t ks fuel cs x h ht
   simp only [flatK] at h
   split at h
   ·rename_i hu
    obtain ⟨b,rfl,rfl⟩:=DataW.trod_bool hu ht
    rfl
   ·rename_i k hu
    obtain ⟨n,rfl,rfl,hw⟩:=DataW.trod_int hu ht
    rfl
   ·rename_i hu
    obtain ⟨s,rfl,rfl,hw⟩:=DataW.trod_string hu ht
    simp only [datV,Lit.value,str_of_list]
   ·rename_i fs hu
    split at h
    ·rename_i ks' hks
     cases hb:Nat.beq (P.cellsOf t) ks'.length with
     |false=>rw [hb] at h;simp at h
     |true=>
      rw [hb] at h
      simp only [cond_true,Option.some.injEq] at h
      subst h
      obtain ⟨xs,n,_,rfl,hlen,hxl,hf⟩:=DataW.trod_struct hu ht
      have:=ih.2 0 fs.toList ks' cs n xs hks (by rw [hlen,Nat.eq_of_beq_eq_true hb];simp) (by simpa using hxl) (by
       intro i f hf'
       exact hf i f (by simpa using hf'))
      simpa [datV] using this
    ·cases h
   ·cases h
  ·intro o fs ks cs n xs h hlen hxl hall
   cases fs with
   |nil=>
    simp only [flatFs,Option.some.injEq] at h
    subst h
    cases xs with
    |nil=>
     simp only [List.map_nil,datVs,Option.some.injEq]
     exact (List.drop_eq_nil_of_le (by simp at hlen;omega)).symm
    |cons x xs=>simp at hxl
   |cons f r=>
    cases xs with
    |nil=>simp at hxl
    |cons x xs=>
     simp only [flatFs] at h
     cases ho:Nat.beq f.offset o with
     |false=>rw [ho] at h;simp at h
     |true=>
      rw [ho] at h
      simp only [cond_true] at h
      split at h
      ·rename_i a ha
       cases hb:Nat.beq (P.cellsOf f.type) a.length with
       |false=>rw [hb] at h;simp at h
       |true=>
        rw [hb] at h
        simp only [cond_true] at h
        split at h
        ·rename_i b hbb
         simp only [Option.some.injEq] at h
         subst h
         have eo:=Nat.eq_of_beq_eq_true ho
         have ea:=Nat.eq_of_beq_eq_true hb
         have h0:=hall 0 f rfl
         simp only [List.getElem?_cons_zero] at h0
         have h1:=ih.1 f.type a n _ x ha h0
         have h2:=ih.2 (o+a.length) r b cs n xs hbb (by simp at hlen;omega) (by simpa using hxl) (fun i f' hf'=>by
          have:=hall (i+1) f' (by simpa using hf')
          simpa using this)
         simp only [List.map_cons,datVs,h1,h2,Option.some.injEq,eo,ea]
         rw [←List.drop_drop,List.take_append_drop]
        ·cases h
      ·cases h
theorem trod_dat {m:Nat} {t:TypeId} {ks:List CK} {fuel:Nat} {cs:List Value} {x:DataW H×List MemPlace} (h:flatK P m t=some ks) (ht:DataW.trod enc P w base spare held fuel t cs=some x):datV x.1=some cs:=(trod_dat_both m).1 t ks fuel cs x h ht
theorem blk_of_cells {β:Base} {n:Nat} {ks:List CK} {val:Nat→Nat→Value} (hes:β.es=ks.length) (hcap:n≤β.cap) (hlt:0<β.cap→β.blk<w.heap.size) (cell:∀i,i<n→∀j c,nth ks j=some c→w.cell? (β.addr i j)=some (val i j)∧CellOk c (val i j)) (g:G):
  BlkAt g β true (.cols n (upCols (kcolsOf n val 0 ks))) w:=by
 have hcols:ColsOk ks (kcolsOf n val 0 ks) n:=by
  refine kcolsOf_ok n val ks 0 (fun i hi' k c hc=> ?_)
  rw [Nat.zero_add];exact (cell i hi' k c hc).2
 obtain ⟨l1,l2⟩:=colsOk_len _ _ _ hcols
 obtain ⟨u1,u2⟩:=upCols_ok (kcolsOf n val 0 ks)
 refine ⟨hlt,by simp [Blk.es,u1,l1,hes],?_,fun i hi=>by simp only [Blk.has] at hi;omega,?_,?_,(fun h=>by cases h),trivial⟩
 ·intro c hc
  obtain ⟨j,hj⟩:=mem_nth hc
  rw [u2 j] at hj
  cases hn:nth (kcolsOf n val 0 ks) j with
  |none=>rw [hn] at hj;cases hj
  |some y=>rw [hn] at hj;cases hj;exact l2 y (nth_mem hn)
 ·intro i j sv hi' hj
  simp only [Blk.has] at hi'
  simp only [Blk.at,u2 j,kcolsOf_nth] at hj
  cases hc:nth ks j with
  |none=>rw [hc] at hj;simp at hj
  |some c=>
   rw [hc] at hj
   simp only [Option.map_some,Option.some.injEq,Nat.zero_add] at hj
   subst hj
   obtain ⟨hu,hok⟩:=cell i hi' j c hc
   exact ⟨_,hu,kcolOf_at (v:=fun i=>val i j) hi' hok⟩
 ·intro i j v' hi' hj hv'
  simp only [Blk.has] at hi'
  obtain ⟨c,hc⟩:∃c,nth ks j=some c:=⟨ks[j]'(by omega),by rw [nth_eq];exact List.getElem?_eq_getElem (by omega)⟩
  obtain ⟨hu,hok⟩:=cell i hi' j c hc
  rw [hv'] at hu
  cases hu
  exact cellOk_one hok
def datAt {H:Type} (ds:List (DataW H)) (i j:Nat):Value:=(((ds[i]?).bind datV).getD []).getD j undef
theorem laid_table {nm:String} {v:Nat} {t e:TypeId} {m fuel n:Nat} {cs:Array Value} {ks:List CK} {ds:List (DataW H)} {p:List MemPlace} {cols:List Col} (hg:P.globalNamed nm=some v) (hv:w.var? P nm=some cs)
  (ht:P.underlying t=some (.array n e)) (hk:flatK P m e=some ks) (hlen:P.cellsOf e=ks.length) (hs:P.cellsOf t=n*ks.length) (h0:0<n*ks.length)
  (h:DataW.trod enc P w base spare held fuel t cs.toList=some (.agg ds,p)) (hc:kcolsOf n (datAt ds) 0 ks=cols) (g:G):BlkAt g ⟨v,0,ks.length,n⟩ true (.cols n (upCols cols)) w:=by
 obtain ⟨xs,m1,_,hx,hl,hxl,hel⟩:=DataW.trod_array ht h
 simp only [Prod.mk.injEq,DataW.agg.injEq] at hx
 have hcl:cs.size=n*ks.length:=by simpa [hs] using hl
 have hcell:=World.var?_cell (w:=w) hg hv
 have hblk:v<w.heap.size:=by
  have:=hcell 0
  rw [Array.getElem?_eq_getElem (by omega)] at this
  unfold World.cell? at this
  split at this
  ·rename_i hh;exact (Array.getElem?_eq_some_iff.1 hh).1
  ·cases this
 have key:∀i,i<n→∃y,xs[i]?=some y∧datV y.1=some ((cs.toList.drop (i*ks.length)).take ks.length)∧AllOk ks ((cs.toList.drop (i*ks.length)).take ks.length):=by
  intro i hi
  have h1:=hel i hi
  have h2:xs[i]?=some (xs[i]'(by omega)):=List.getElem?_eq_getElem (by omega)
  rw [h2,hlen] at h1
  exact ⟨_,h2,trod_dat hk h1,trod_flat hk h1⟩
 subst hc
 refine blk_of_cells rfl (Nat.le_refl _) (fun _=>hblk) ?_ g
 intro i hi j c hj
 obtain ⟨y,e1,e2,e3⟩:=key i hi
 obtain ⟨u,hu,hok⟩:=AllOk.nth ks _ j c e3 hj
 have hjl:=nth_lt hj
 have hd:datAt ds i j=u:=by
  unfold datAt
  rw [hx.1,List.getElem?_map,e1]
  simp only [Option.map_some,Option.bind_some,e2,Option.getD_some,List.getD,hu]
 rw [hd]
 refine ⟨?_,hok⟩
 have:Base.addr ⟨v,0,ks.length,n⟩ i j=⟨v,i*ks.length+j,none⟩:=by simp [Base.addr]
 rw [this,hcell]
 rw [List.getElem?_take,if_pos hjl,List.getElem?_drop] at hu
 simpa using hu
theorem laid_sent {nm name:String} {v t tid fuel:Nat} {ms:Array (String×TypeId)} {cs:Array Value} {d:DataW H} {p:List MemPlace} (hg:P.globalNamed nm=some v) (hv:w.var? P nm=some cs)
  (ht:P.underlying t=some (.interface ms)) (hrow:∀u,P.typeName? 3 u=some name→u=tid)
  (h:DataW.trod enc P w base spare false fuel t cs.toList=some (.iface name d,p)) (g:G):BlkAt g ⟨v,0,1,1⟩ true (.cells [.iface tid .unk]) w:=by
 obtain ⟨_,u,x,hcs,hn,_⟩:=iface_of_trod ht h
 obtain rfl:=hrow u hn
 have hcell:=World.var?_cell (w:=w) hg hv
 have h0:w.cell? ⟨v,0,none⟩=some (.iface u x):=by
  rw [hcell,←Array.getElem?_toList,hcs];rfl
 have hblk:v<w.heap.size:=by
  unfold World.cell? at h0
  split at h0
  ·rename_i hh;exact (Array.getElem?_eq_some_iff.1 hh).1
  ·cases h0
 refine ⟨fun _=>hblk,rfl,trivial,?_,?_,?_,(fun h=>by cases h),trivial⟩
 ·intro i hi
  simp only [Blk.has] at hi
  subst hi;exact Nat.one_pos
 ·intro i j sv hi hj
  simp only [Blk.has] at hi
  subst hi
  cases j with
  |zero=>
   simp only [Blk.at,nth,Option.some.injEq] at hj
   subst hj
   exact ⟨_,h0,by simp only [Rv];exact ⟨x,rfl,trivial⟩⟩
  |succ j=>simp [Blk.at,nth] at hj
 ·intro i j v' hi hj hv'
  simp only [Blk.has] at hi
  subst hi
  have:j=0:=by simpa using hj
  subst this
  have e:w.cell? ⟨v,0,none⟩=some v':=hv'
  rw [h0] at e
  cases e
  rfl
theorem holds_gl {g:G} {Hp:Heap} {l:GTab} (hl:∀q,(aget l q).isSome=true→∃β,g 0 q=some β∧BlkAt g β true (gblk l q) w) (hall:∀p∈Hp,p.1≠0∧∃b β,p.2=some (.one true b)∧g p.1 0=some β∧BlkAt g β true b w):
  Holds g ((0,some (GB l))::Hp) w∧∀h q ro b,Ent ((0,some (GB l))::Hp) h q ro b→ro=true:=by
 obtain ⟨h1,h2⟩:=holds_ro (g:=g) (w:=w) Hp (fun p hp=>(hall p hp).2)
 have ro:∀h q ro b,Ent ((0,some (GB l))::Hp) h q ro b→ro=true:=by
  intro h q ro b he
  rcases ent_cons.1 he with ⟨rfl,hb,e1,e2,e3⟩|⟨_,he⟩
  ·cases e1;exact e3.symm
  ·exact h2 h q ro b he
 refine ⟨⟨?_,?_⟩,ro⟩
 ·intro h q r b he
  rcases ent_cons.1 he with ⟨rfl,hb,e1,e2,e3⟩|⟨_,he⟩
  ·cases e1
   obtain ⟨d,rfl⟩:=e2
   simp only [GB,HB.ro] at e3
   subst e3
   exact hl q d
  ·exact h1.blk h q r b he
 ·intro h q h' q' b ro' b' β β' _ he
  have:=ro h q false b he
  cases this
end
end Go.Sy
