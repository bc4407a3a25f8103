/- The form's own reach: the texts in a slice of flat structs that is handed in are no longer than it. No program in sight. -/
import Derived.Test.YtlankgapiecloaaGreatDoorYLaw
import Derived.SizedLaws
namespace Go.Sy
set_option linter.unusedVariables false
open Go.RowKit Go.ChangeShapes Go.WideShapes Go.Deep
section
variable {H:Type} {enc:TypeId×Value→H} {P:Program} {w:World} {base:Nat} {spare:Nat→Bool} {held:Bool}
theorem one_str {v:Value} {k:Nat} {s:ByteArray} (h:([v]:List Value)[k]?=some (.string s)):v= .string s:=by
 cases k with
 |zero=>exact Option.some.inj h
 |succ k=>cases h
theorem trod_size_both (R:Nat):∀m:Nat,(∀(t:TypeId) (ks:List CK) (fuel:Nat) (cs:List Value) (x:DataW H×List MemPlace),flatK P m t=some ks→DataW.trod enc P w base spare held fuel t cs=some x→(∀n∈x.1.weights P t,n≤R)→∀(k:Nat) (s:ByteArray),cs[k]?=some (.string s)→s.size≤R)∧
  (∀(o:Nat) (fs:List Field) (ks:List CK) (cs:List Value) (n:Nat),flatFs P m o fs=some ks→cs.length=o+ks.length→(∀f∈fs,∃y:DataW H×List MemPlace,DataW.trod enc P w base spare held n f.type ((cs.drop f.offset).take (P.cellsOf f.type))=some y∧∀n∈y.1.weights P f.type,n≤R)→∀(k:Nat) (s:ByteArray),o≤k→cs[k]?=some (.string s)→s.size≤R):=by
 intro m
 induction m with
 |zero=>exact ⟨fun t ks fuel cs x h=>by simp [flatK] at h,fun o fs ks cs n h=>by simp [flatFs] at h⟩
 |succ m ih=>
  refine ⟨?_,?_⟩
  ·intro t ks fuel cs x h ht hw k s hk
   simp only [flatK] at h
   split at h
   ·rename_i hu
    obtain ⟨b,rfl,_⟩:=DataW.trod_bool hu ht
    cases one_str hk
   ·rename_i k2 hu
    obtain ⟨n,rfl,_,_⟩:=DataW.trod_int hu ht
    cases one_str hk
   ·rename_i hu
    obtain ⟨s2,rfl,rfl,_⟩:=DataW.trod_string hu ht
    cases one_str hk
    have:=hw s.data.toList.length (by simp [DataW.weights])
    rw [Array.length_toList] at this
    exact this
   ·rename_i fs hu
    split at h
    ·rename_i ks' hks
     cases hb:Nat.beq (P.cellsOf t) ks'.length with
     |false=>rw [hb] at h;simp at h
     |true=>
      obtain ⟨xs,n,_,rfl,hlen,hxl,hf⟩:=DataW.trod_struct hu ht
      refine ih.2 0 fs.toList ks' cs n hks (by rw [hlen,Nat.eq_of_beq_eq_true hb];simp) ?_ k s (Nat.zero_le _) hk
      intro f hf'
      obtain ⟨i,hi,rfl⟩:=List.getElem_of_mem hf'
      have hi':i<fs.size:=by simpa using hi
      have h1:=hf i fs[i] (by simp [hi'])
      have h2:xs[i]?=some (xs[i]'(by omega)):=List.getElem?_eq_getElem (by omega)
      have e:fs.toList[i]=fs[i]:=by simp
      refine ⟨xs[i]'(by omega),by rw [e,h1,h2],?_⟩
      intro z hz
      refine hw z ?_
      simp only [DataW.weights,hu]
      exact DataW.weights_mem_each (j:=i) (t:=fs.toList[i].type) (d:=(xs[i]'(by omega)).1) (by simp [hi']) (by simp [h2]) z hz
    ·cases h
   ·cases h
  ·intro o fs ks cs n h hlen hall k s hok hk
   cases fs with
   |nil=>
    simp only [flatFs,Option.some.injEq] at h
    subst h
    have:=(List.getElem?_eq_some_iff.1 hk).1
    simp at hlen;omega
   |cons f r=>
    simp only [flatFs] at h
    cases ho:Nat.beq f.offset o with
    |false=>rw [ho] at h;simp at h
    |true=>
     rw [ho] at h
     simp only [cond_true] at h
     split at h
     ·rename_i a ha
      cases hb:Nat.beq (P.cellsOf f.type) a.length with
      |false=>rw [hb] at h;simp at h
      |true=>
       rw [hb] at h
       simp only [cond_true] at h
       split at h
       ·rename_i b hbb
        simp only [Option.some.injEq] at h
        subst h
        have eo:=Nat.eq_of_beq_eq_true ho
        have ea:=Nat.eq_of_beq_eq_true hb
        obtain ⟨y,hy,hyw⟩:=hall f (by simp)
        by_cases hc:k<o+a.length
        ·refine ih.1 f.type a n _ y ha hy hyw (k-o) s ?_
         rw [eo,ea,List.getElem?_take_of_lt (by omega),List.getElem?_drop,show o+(k-o)=k from by omega]
         exact hk
        ·exact ih.2 (o+a.length) r b cs n hbb (by simp at hlen;omega) (fun f' hf'=>hall f' (by simp [hf'])) k s (by omega) hk
       ·cases h
     ·cases h
theorem slice_sized {t e:TypeId} {m fuel R:Nat} {v:Value} {ks:List CK} {x:DataW H×List MemPlace} (ht:P.underlying t=some (.slice e)) (hk:flatK P m e=some ks) (hlen:P.cellsOf e=ks.length) (h0:0<ks.length)
  (h:DataW.trod enc P w base (fun _=>true) held fuel t [v]=some x) (hw:∀n∈x.1.weights P t,n≤R)
  {n:Nat} {β:Base} {cols:List Col} (hok:ColsOk ks cols n) (hR:∀(g:G) (h:Nat),g h 0=some β→Rv g (.sl h 0 0 n) v) (hB:∀g:G,BlkAt g β true (.cols n (upCols cols)) w)
  (k:Nat) (l:List ByteArray) (hl:nth cols k=some (.strs l)) (hll:l.length=n):∀s∈l,s.size≤R:=by
 intro s hs
 obtain ⟨i,hi,rfl⟩:=List.mem_iff_getElem.1 hs
 have hin:i<n:=by omega
 let g:G:=fun a b=>if a=0∧b=0 then some β else none
 have hg:g 0 0=some β:=if_pos ⟨rfl,rfl⟩
 have hv:=hR g 0 hg
 have hb:=hB g
 simp only [Rv] at hv
 obtain ⟨oa,cp,rfl,hle,hv⟩:=hv
 rcases hv with hv|⟨β',hg',hadr,_⟩
 ·omega
 ·rw [hg] at hg';cases hg'
  rcases open_slice ht h with ⟨e1,_⟩|⟨a,len,cap,mm,nn,D,Pl,e1,_,hl1,hm,hmm,hx,hcell⟩
  ·simp only [List.cons.injEq,and_true,Value.slice.injEq] at e1
   omega
  ·simp only [List.cons.injEq,and_true,Value.slice.injEq] at e1
   obtain ⟨e1,rfl,rfl⟩:=e1
   rw [e1] at hadr
   cases hadr
   simp only [if_true] at hmm
   subst hmm
   obtain ⟨cs',hc,ht'⟩:=hcell i (by omega)
   obtain ⟨c1,c2⟩:=colsOk_len _ _ _ hok
   have hkk:k<ks.length:=by rw [←c1];exact nth_lt hl
   have hes:β.es=ks.length:=by
    have:=hb.es
    simp only [Blk.es,(upCols_ok _).1] at this
    omega
   have hat:nth (upCols cols) k=some (.sc (.strs l)):=by rw [(upCols_ok _).2 k,hl];rfl
   obtain ⟨u,hu1,hu2⟩:=hb.cell i k (.str (l.getD i ⟨#[]⟩)) hin (by simp only [Blk.at,hat];rfl)
   simp only [Rv] at hu2
   rw [hlen] at hc
   obtain ⟨_,hcl,hcat⟩:=World.cells?_some hc
   have hck:=hcat k hkk
   rw [Go.Deep.add_add] at hck
   have hadd:(β.addr 0 0).add (i*ks.length+k)=β.addr i k:=by
    unfold Addr.add Base.addr
    rw [hes]
    split
    ·show (⟨β.blk,β.off+0*ks.length+0,none⟩:Addr)=⟨β.blk,β.off+i*ks.length+k,none⟩
     congr 1;omega
    ·show (⟨β.blk,β.off+0*ks.length+0+(i*ks.length+k),none⟩:Addr)=⟨β.blk,β.off+i*ks.length+k,none⟩
     congr 1;omega
   rw [hadd,hu1,hu2] at hck
   have hgd:l.getD i ⟨#[]⟩=l[i]:=by rw [List.getD,List.getElem?_eq_getElem hi];rfl
   rw [←hgd]
   refine (trod_size_both R m).1 e ks nn cs' _ hk ht' ?_ k _ hck.symm
   intro z hz
   refine hw z ?_
   rw [hx]
   simp only [DataW.weights,ht,List.mem_cons,List.mem_append]
   refine .inr (.inl ?_)
   have key:∀(L:List (DataW H)),D i∈L→z∈DataW.weightsAll P e L:=by
    intro L
    induction L with
    |nil=>intro h;cases h
    |cons d L ihL=>
     intro h
     simp only [DataW.weightsAll,List.mem_append]
     rcases List.mem_cons.1 h with h|h
     ·rw [←h];exact .inl hz
     ·exact .inr (ihL h)
   exact key _ (List.mem_map.2 ⟨i,by simp;omega,rfl⟩)
end
end Go.Sy
