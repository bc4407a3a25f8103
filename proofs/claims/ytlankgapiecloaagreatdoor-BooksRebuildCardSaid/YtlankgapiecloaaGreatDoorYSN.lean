/- Symbolic execution is right: the next entry of a map. No program in sight. -/
import Derived.Test.YtlankgapiecloaaGreatDoorYS12
namespace Go.Sy
open Go.RowKit
set_option linter.unusedVariables false
set_option linter.unusedSimpArgs false
section ops
variable {P:Program} {T:Tab} {g:G} {vs:VS} {a:Act} {w:World} {r:SV} {U:Heap} {b:Nat} {t:List Nat} {H:Heap} {nx:Nat}
theorem choose_next {n:Nat} (hn:0<n):∃k w1,k<n∧(choose (.mapNext n)).run P w= .ok k w1∧w1.heap=w.heap∧w1.os=w.os∧w1.tape=w.tape∧w1.output=w.output:=by
 by_cases hf:(Question.mapNext n).forced=true
 ·have h1:n=1:=by simp [Question.forced] at hf;omega
  subst h1
  exact ⟨0,w,by omega,by simp [choose,Sem.run,hf],rfl,rfl,rfl,rfl⟩
 ·simp only [Bool.not_eq_true] at hf
  exact ⟨_,w.drew,Nat.mod_lt _ hn,choose_run _ hf,rfl,rfl,rfl,rfl⟩
theorem next_ok (hg:g.glob) (he:EnvOk g vs a) (hH:Holds g vs.heap w) {o:Oper} {x:Operand} {hh hm qm:Nat} {bs sn:List Nat} {ck n:Nat} {ro2 ka ea:Bool} {ks:List Col} {vl:List BCol} (ho:o.op= .next x false) (hx:gv vs x=some (.ptr hh 0 0 0)) (hent:Ent vs.heap hh 0 false (.obj (.iter hm qm bs ck sn))) (hent2:Ent vs.heap hm qm ro2 (.obj (.map ka ea n ks vl bs ck))):
  (∃i v w',i<n∧¬i∈sn∧Ran P a o w v w'∧After g vs.heap nx w (.tup [.bool true,keyS ka ks i,elemS ea vl i]) (setBlk vs.heap hh 0 (.obj (.iter hm qm bs ck (i::sn)))) 0 g v w')∨
  ((∀i,i<n→i∈sn)∧∃v w',Ran P a o w v w'∧After g vs.heap nx w (.tup [.bool false]) [] 0 g v w'):=by
 have hmv:=gv_ok hg he hx
 obtain ⟨β,hβ,hB⟩:=hH.blk _ _ _ _ hent
 obtain ⟨β',hβ',hpv⟩:=rpv hmv
 rw [hβ] at hβ';cases hβ'
 obtain ⟨hcap,hoff,βm,hβm,hit,hsn⟩:=hB.obj
 obtain ⟨β2,hβ2,hB2⟩:=hH.blk _ _ _ _ hent2
 rw [hβm] at hβ2;cases hβ2
 obtain ⟨_,_,es,hes,hM⟩:=hB2.obj
 have hp:a.eval x= .pointer (some ⟨β.blk,0,none⟩):=by rw [hpv];simp [Base.addr,hoff]
 have hgi:(getObj β.blk).run P w= .ok (.mapIter (some βm.blk) ck ((sn.reverse.map (fun i=>bs.getD i 0)).toArray) ck) w:=by simp [getObj,Sem.run,hit]
 obtain ⟨seen,hseen⟩:∃seen,seen=(sn.reverse.map (fun i=>bs.getD i 0)).toArray:=⟨_,rfl⟩
 rw [←hseen] at hgi
 have hlt:∀e∈es,e.born<ck:=by
  intro e hem
  obtain ⟨j,hj,rfl⟩:=Array.getElem_of_mem hem
  have hr:=(hM.row j es[j] (Array.getElem?_eq_getElem hj)).1
  rw [hr]
  have hjb:j<bs.length:=by rw [hM.bl,←hM.size];exact hj
  rw [List.getD,List.getElem?_eq_getElem hjb]
  exact hM.lt _ (List.getElem_mem hjb)
 have hcon:∀j,j<n→(seen.contains (bs.getD j 0)=true↔j∈sn):=by
  intro j hj
  rw [hseen]
  simp only [Array.contains_iff_mem,List.mem_toArray,List.mem_map,List.mem_reverse]
  constructor
  ·rintro ⟨i,hi,e⟩
   have h1:i<bs.length:=hsn i hi
   have h2:j<bs.length:=by rw [hM.bl];exact hj
   rw [List.getD,List.getElem?_eq_getElem h1,List.getD,List.getElem?_eq_getElem h2] at e
   have:=(List.getElem_inj hM.nd).1 e
   exact this▸hi
  ·intro h;exact ⟨j,h,rfl⟩
 obtain ⟨left,hleft⟩:∃left,left=es.filter (fun e=> !seen.contains e.born):=⟨_,rfl⟩
 have hmem:∀e∈left,∃i,i<n∧¬i∈sn∧es[i]?=some e:=by
  intro e hem
  rw [hleft,Array.mem_filter] at hem
  obtain ⟨hem,hc⟩:=hem
  obtain ⟨j,hj,rfl⟩:=Array.getElem_of_mem hem
  have hr:=(hM.row j es[j] (Array.getElem?_eq_getElem hj)).1
  have hjn:j<n:=by rw [←hM.size];exact hj
  refine ⟨j,hjn,?_,Array.getElem?_eq_getElem hj⟩
  intro hin
  rw [hr,(hcon j hjn).2 hin] at hc
  cases hc
 have hnone:left.isEmpty=true→∀i,i<n→i∈sn:=by
  intro hl i hi
  by_cases h:i∈sn
  ·exact h
  ·exfalso
   have hj:i<es.size:=by rw [hM.size];exact hi
   have hr:=(hM.row i es[i] (Array.getElem?_eq_getElem hj)).1
   have:es[i]∈left:=by
    rw [hleft,Array.mem_filter]
    refine ⟨Array.getElem_mem hj,?_⟩
    rw [hr]
    cases hc:seen.contains (bs.getD i 0) with
    |true=>exact absurd ((hcon i hi).1 hc) h
    |false=>rfl
   rw [Array.isEmpty_iff] at hl
   rw [hl] at this
   simp at this
 have hold:left.filter (fun e=>decide (e.born<ck))=left:=by
  rw [Array.filter_eq_self]
  intro e hem
  rw [hleft,Array.mem_filter] at hem
  simpa using hlt e hem.1
 have hnew:left.filter (fun e=>decide (e.born≥ck))= #[]:=by
  rw [Array.filter_eq_empty_iff]
  intro e hem
  rw [hleft,Array.mem_filter] at hem
  have:=hlt e hem.1
  simp;omega
 have hstop:(!seen.isEmpty&& !es.isEmpty&&es.all (fun e=>decide (e.born≥ck)))=false:=by
  cases hs:seen.isEmpty with
  |true=>rfl
  |false=>
   cases h2:es.isEmpty with
   |true=>rfl
   |false=>
    simp only [Bool.not_false,Bool.true_and]
    have hne:0<es.size:=by
     rcases Nat.eq_zero_or_pos es.size with h|h
     ·rw [Array.isEmpty_iff_size_eq_zero.2 h] at h2;cases h2
     ·exact h
    cases h3:es.all (fun e=>decide (e.born≥ck)) with
    |false=>rfl
    |true=>
     have h4:=Array.all_eq_true.1 h3 0 hne
     have h5:=hlt es[0] (Array.getElem_mem hne)
     simp at h4;omega
 have hall:∀w1:World,w1.heap=w.heap→w1.os=w.os→w1.tape=w.tape→w1.output=w.output→After g vs.heap nx w (.tup [.bool false]) [] 0 g (.tuple #[.bool false]) w1:=by
  intro w1 h1 h2 h3 h4
  refine ⟨G.le.refl g,fun _ _ h _=>h,by simp only [Rv,Rvs];exact ⟨_,rfl,_,_,rfl,rfl,rfl⟩,⟨fun h q ro b hq=> ?_,hH.sep⟩,⟨h2,h3,h4,by rw [h1];exact Nat.le_refl _,fun k _ _=>by rw [h1]⟩,fun h q b β he hg hc=> .inl ⟨h,q,b,β,he,hg,hc,rfl⟩⟩
  obtain ⟨β,k1,k2⟩:=hH.blk h q ro b hq
  exact ⟨β,k1,blkAt_mono k2 (G.le.refl g) (by rw [h1];exact Nat.le_refl _) (fun _=>by rw [h1])⟩
 cases hl:left.isEmpty with
 |true=>
  obtain ⟨k,w1,hk,hch,hw1,hw2,hw3,hw4⟩:=choose_next (P:=P) (w:=w) (n:=1) (by omega)
  have hk0:k=0:=by omega
  subst hk0
  refine .inr ⟨hnone hl,.tuple #[.bool false],w1,.inl ?_,hall w1 hw1 hw2 hw3 hw4⟩
  have hrun:(Instr.next (a.eval x) false o.type).run P w= .ok (.tuple #[.bool false]) w1:=by
   rw [hp]
   simp only [Instr.next,Sem.run_bind,hgi,Result.andThen_ok,MapKept.run_getObj_map hes,hstop,Bool.false_eq_true,if_false,←hleft,hold,hnew,hl,if_true,Array.append_empty]
   have hl0:left= #[]:=Array.isEmpty_iff.1 hl
   rw [hl0]
   simp only [Array.map_empty,Array.append_empty,List.size_toArray,List.length_cons,List.length_nil,Nat.zero_add]
   rw [hch]
   simp
  simp [execOp,ho,hrun]
 |false=>
  have hpos:0<left.size:=by
   rcases Nat.eq_zero_or_pos left.size with h|h
   ·rw [Array.isEmpty_iff_size_eq_zero.2 h] at hl;cases hl
   ·exact h
  obtain ⟨k,w1,hk,hch,hw1,hw2,hw3,hw4⟩:=choose_next (P:=P) (w:=w) (n:=left.size) hpos
  obtain ⟨i,hin,hns,hei⟩:=hmem left[k] (Array.getElem_mem hk)
  obtain ⟨r1,r2,r3⟩:=hM.row i _ hei
  have hes1:w1.heap[β.blk]?=some (.mapIter (some βm.blk) ck seen ck):=by rw [hw1,hseen];exact hit
  have hblk:β.blk<w.heap.size:=hB.lt hcap
  refine .inl ⟨i,.tuple #[.bool true,left[k].key,left[k].val],{ w1 with heap:=w1.heap.setIfInBounds β.blk (.mapIter (some βm.blk) ck (seen.push left[k].born) ck)},hin,hns,.inl ?_,?_⟩
  ·have hrun:(Instr.next (a.eval x) false o.type).run P w= .ok (.tuple #[.bool true,left[k].key,left[k].val]) { w1 with heap:=w1.heap.setIfInBounds β.blk (.mapIter (some βm.blk) ck (seen.push left[k].born) ck)}:=by
    rw [hp]
    simp only [Instr.next,Sem.run_bind,hgi,Result.andThen_ok,MapKept.run_getObj_map hes,hstop,Bool.false_eq_true,if_false,←hleft,hold,hnew,hl,Array.append_empty,Array.empty_append,Array.size_map,hch]
    have hk2:(Array.map some left)[k]?=some (some left[k]):=by simp [hk]
    rw [hk2]
    have hset:∀ob:Obj,(setObj β.blk ob).run P w1= .ok () { w1 with heap:=w1.heap.setIfInBounds β.blk ob}:=by
     intro ob
     simp [setObj,Sem.run,hes1]
    simp [hset,Result.andThen]
   simp [execOp,ho,hrun]
  ·obtain ⟨k1,k2⟩:=MapKept.heap_set (o':=Obj.mapIter (some βm.blk) ck (seen.push left[k].born) ck) hes1
   refine after_set hH hent hβ hcap (by simp only [Rv,Rvs];exact ⟨_,rfl,_,_,rfl,rfl,_,_,rfl,by rw [r2];exact keyS_ok,_,_,rfl,r3,rfl⟩) (objAt hB.es hcap hoff (by simp [hw1,hblk]) ⟨βm,hβm,?_,?_⟩) hw2 hw3 hw4 (by simp [hw1]) (fun k _ hk=>(k2 k hk).trans (by rw [hw1]))
   ·rw [k1,hseen,r1];simp
   ·intro j hj
    simp only [List.mem_cons] at hj
    rcases hj with rfl|hj
    ·rw [hM.bl];exact hin
    ·exact hsn j hj
theorem snext_ok (hg:g.glob) (he:EnvOk g vs a) (hH:Holds g vs.heap w) {o:Oper} {x:Operand} {hh p:Nat} {s:ByteArray} (ho:o.op= .next x true) (hx:gv vs x=some (.ptr hh 0 0 0)) (hent:Ent vs.heap hh 0 false (.obj (.siter s p))):
  (p<s.size∧∃v w',Ran P a o w v w'∧After g vs.heap nx w (.tup [.bool true,.int .i64 (p:Int),.int .i32 ((Utf8.decode s p).1:Int)]) (setBlk vs.heap hh 0 (.obj (.siter s (p+(Utf8.decode s p).2)))) 0 g v w')∨
  (¬p<s.size∧∃v w',Ran P a o w v w'∧After g vs.heap nx w (.tup [.bool false]) [] 0 g v w'):=by
 have hmv:=gv_ok hg he hx
 obtain ⟨β,hβ,hB⟩:=hH.blk _ _ _ _ hent
 obtain ⟨β',hβ',hpv⟩:=rpv hmv
 rw [hβ] at hβ';cases hβ'
 obtain ⟨hcap,hoff,hit⟩:=hB.obj
 have hit:w.heap[β.blk]?=some (.stringIter s p):=hit
 have hp:a.eval x= .pointer (some ⟨β.blk,0,none⟩):=by rw [hpv];simp [Base.addr,hoff]
 have hgi:(getObj β.blk).run P w= .ok (.stringIter s p) w:=by simp [getObj,Sem.run,hit]
 have hblk:β.blk<w.heap.size:=hB.lt hcap
 by_cases hlt:p<s.size
 ·refine .inl ⟨hlt,.tuple #[.bool true,goInt (p:Int),.int .i32 ((Utf8.decode s p).1:Int)],{ w with heap:=w.heap.setIfInBounds β.blk (.stringIter s (p+(Utf8.decode s p).2))},.inl ?_,?_⟩
  ·have hset:∀ob:Obj,(setObj β.blk ob).run P w= .ok () { w with heap:=w.heap.setIfInBounds β.blk ob}:=by
    intro ob
    simp [setObj,Sem.run,hit]
   have hrun:(Instr.next (a.eval x) true o.type).run P w= .ok (.tuple #[.bool true,goInt (p:Int),.int .i32 ((Utf8.decode s p).1:Int)]) { w with heap:=w.heap.setIfInBounds β.blk (.stringIter s (p+(Utf8.decode s p).2))}:=by
    rw [hp]
    simp [Instr.next,Sem.run_bind,hgi,Result.andThen_ok,hlt,hset,Result.andThen]
   simp [execOp,ho,hrun]
  ·obtain ⟨k1,k2⟩:=MapKept.heap_set (o':=Obj.stringIter s (p+(Utf8.decode s p).2)) hit
   exact after_set hH hent hβ hcap (by simp only [Rv,Rvs];exact ⟨_,rfl,_,_,rfl,rfl,_,_,rfl,rfl,_,_,rfl,rfl,rfl⟩) (objAt hB.es hcap hoff (by simp [hblk]) k1) rfl rfl rfl (by simp) (fun k _ hk=>k2 k hk)
 ·refine .inr ⟨hlt,.tuple #[.bool false],w,.inl ?_,?_⟩
  ·have hrun:(Instr.next (a.eval x) true o.type).run P w= .ok (.tuple #[.bool false]) w:=by
    rw [hp]
    simp [Instr.next,Sem.run_bind,hgi,Result.andThen_ok,hlt]
   simp [execOp,ho,hrun]
  ·exact ⟨G.le.refl g,fun _ _ h _=>h,by simp only [Rv,Rvs];exact ⟨_,rfl,_,_,rfl,rfl,rfl⟩,hH,⟨rfl,rfl,rfl,Nat.le_refl _,fun k _ _=>rfl⟩,fun h q b β he hg hc=> .inl ⟨h,q,b,β,he,hg,hc,rfl⟩⟩
end ops
end Go.Sy
