/- slices.Sorted(maps.Keys(m)) as a contract of the layer, from what the kit proves of it. No program in sight. The walk of the iterator is the kit's own (Derived/Shelf/SlIter/Collect), turned: the box may lie at any place of its block. -/
import Derived.Test.YtlankgapiecloaaGreatDoorYSort
import Derived.Shelf.SlIter.Nil
import Derived.Shelf.SortM.Plain
import Derived.Shelf.SortM.SortNone
namespace Go.Sy
open Go.RowKit Go.Maps Go.Sort Go.Shelf Go.Proofs
set_option linter.unusedVariables false
section
variable {P:Program} {ρ:Ren}
set_option maxRecDepth 100000 in
set_option maxHeartbeats 1000000 in
theorem keysO_in (L:SlLaysZ.n10 P ρ) {H:Type} (F:Fence) (n:Nat) (h10:F.fn (ρ.f 10)) (hro:F.round=none) (hn:1≤n) (l Bm o b nn:Nat) (D0:DataW H) {R:Value→Option (DataW H×List MemPlace)} (J:List (List UInt8)→World→Prop)
  (hY:∀pre x W,J pre W→pre.length<Maps.size D0→YieldAt F (n-1) P l #[encStr x] W fun e W'=>e= .returned (.bool true)∧J (pre++ [x]) W'∧KeepsWalks W W')
  (W:World) (hJ:AbidesFrom W.heap.size J) (hm:W.cell? ⟨Bm,o,none⟩=some (.map (some b))) (hown:W.ownsMap P (ρ.t 26) R b nn D0) (h0:J [] W):
  CallsIn F n P (ρ.f 10) #[.func (.yield l) #[] #[],.pointer (some ⟨Bm,o,none⟩)] W fun e W'=>(∃v,e= .returned v)∧∃ss:List (List UInt8),ss.Perm (strKeys D0)∧J ss W':=by
 have mixed:=L.mixed;have t0:=L.t0;have a0:=L.a0;have z0:=L.z0;have v0:=L.v0;have t4:=L.t4;have a4:=L.a4;have z4:=L.z4;have v4:=L.v4;have t23:=L.t23;have a23:=L.a23;have z23:=L.z23;have v23:=L.v23;have t26:=L.t26;have a26:=L.a26;have z26:=L.z26;have v26:=L.v26;have t33:=L.t33;have a33:=L.a33;have z33:=L.z33;have v33:=L.v33
 have u0:=run_underlying L.t0;have u4:=run_underlying L.t4;have u23:=run_underlying L.t23;have u26:=run_underlying L.t26;have u33:=run_underlying L.t33
 obtain ⟨_,_,FG⟩:=L.f10
 refine callsIn_of_wp FG rfl h10 ?_ hro
 simp only [SlBodyZ.n10_ntmps ρ,List.size_toArray,List.length_cons,List.length_nil,Nat.reduceAdd,Nat.reduceSub,Array.replicate_succ,Array.replicate_zero,List.push_toArray,List.append_toArray,List.nil_append,List.cons_append]
 gi_wp2_with (first
  |(gi_at_range;refine wpListIn_range_own _ rfl _ (ρ.t 23) rfl (ρ.t 26) (ρ.t 3) (string_keyed L.t26) L.t23 _ b nn _ rfl hown ?_;intro w0 hrg0 hg0 hs0)
  |gi_in)
 go_frame
 gi_loopw [3] (fun _ wr=>∃(left:Lit→Bool) (cnt:Nat) (ss:List (List UInt8)),wr.ranges P (ρ.t 26) R b W.heap.size nn D0 left cnt∧ss.length+cnt≤Maps.size D0∧Collected D0 left ss∧J ss wr)
  (fun _ wr=>wr.rangeLeft b W.heap.size)
 case atStart=>
  exact ⟨_,_,[],hrg0,by simp,Collected.start D0,hJ [] W w0 none h0 hg0 (fun r e=>by cases e)⟩
 case round=>
  obtain ⟨left,cnt,ss,hrg,hcs,hC,hJs⟩:=hrel
  gi_wp2_with (first
   |(gi_at_next;refine wpListIn_next_ranges _ rfl _ rfl (ρ.t 26) (string_keyed L.t26) R encStr id (fun key kl hk=>by obtain ⟨x,hx,_⟩:=Maps.keyOf_str L.t26 hk;exact ⟨x,hx⟩) (fun v _ _=>⟨v,rfl⟩) b W.heap.size nn _ _ _ rfl hrg ?_ ?_)
   |gi_in)
  ·intro hc0 hl0
   gi_wp2
   go_end0
   exact ⟨⟨_,rfl⟩,ss,hC.perm hown (string_keyed L.t26) L.t26 hl0,hJs⟩
  ·intro x c kl yd yp w2 cnt2 hkey hlk hv hat hrg2 hlt hg2 hs2 hen
   obtain ⟨x',ex,rfl,_⟩:=Maps.keyOf_str L.t26 hkey
   obtain rfl:x=x':=encStr_inj ex
   have hJ2:J ss w2:=hJ ss wr w2 (some W.heap.size) hJs hg2 (fun r e=>by cases e;exact ⟨Nat.le_refl _,hrg.iter_walk⟩)
   obtain ⟨fn,tmps,assign,body,hy,hR⟩:=hY ss x w2 hJ2 (by omega)
   clear hs2
   gi_wp2
   refine hR.mono ?_
   rintro e W3 ⟨rfl,hJ3,hk3⟩
   gi_wp2
   have hrg3:=hrg2.of_walks hk3
   go_roundw
   case rel=>exact ⟨_,cnt2,ss++ [x],hrg3,by simp;omega,hC.step hlk hat,hJ3⟩
   case measure=>rw [hrg3.left_eq,hrg.left_eq];exact hlt
theorem keysO_gives (L:SlLaysZ.n10 P ρ) {H:Type} (F:Fence) (n:Nat) (h10:F.fn (ρ.f 10)) (hro:F.round=none) (hn:1≤n) (Bm o b nn:Nat) (D0:DataW H) {R:Value→Option (DataW H×List MemPlace)} (w:World) (hBm:Bm<w.heap.size)
  (hm:w.cell? ⟨Bm,o,none⟩=some (.map (some b))) (hown:w.ownsMap P (ρ.t 26) R b nn D0):
  SeqGives F n P (ρ.f 10) #[.pointer (some ⟨Bm,o,none⟩)] encStr (fun ss=>ss.Perm (strKeys D0)) (Maps.size D0) w:=fun l J W hW hJ hY h0=>by
 have hown':W.ownsMap P (ρ.t 26) R b nn D0:=by
  have hbl:=hown.lt
  obtain ⟨es,clock,hb,Ft,hs,hD⟩:=hown
  exact ⟨es,clock,(hW.block b hbl).trans hb,Ft,hs,hD⟩
 exact keysO_in { L with} F n h10 hro hn l Bm o b nn D0 J hY W hJ ((hW.cell (p:=⟨Bm,o,none⟩) hBm).trans hm) hown' h0
theorem fc_sorted {ρ':Ren} {f it:FuncId} {kt:TypeId} (hf:ρ'.f 6=f) (hi:ρ.f 10=it) (hkt:ρ.t 26=kt) (Lk:SlLaysZ.n10 P ρ) (Ls:SlLaysZ.n6 P ρ') (hsrt:∀m,AnyZ.SortsIn P ρ' Fence.wide m) (hbd:bodied P f) (e9:∀args w,(callFunc (ρ'.f 9) args).run P w= .ok (.enter (ρ'.f 9) args) w) (eit:∀args w,(callFunc it args).run P w= .ok (.enter it args) w) (hk:P.underlying kt=some .string)
  {ea:Bool} {n:Nat} {ks:List ByteArray} {vs:List BCol} {bs:List Nat} {ck:Nat} (hn:n≤100000) (hz:∀s∈ks,s.size≤maxLen) (hnd:ks.Nodup):
  FC P 3 f [.fn it [.ptr 2 0 0 0]] [(1,some (.one true (.obj (.map false ea n [.strs ks] vs bs ck)))),(2,some (.one true (.cells [.map 1 0])))] (isOut (.sl 3 0 0 n) [(3,some (.one false (.cols n [.sc (.strs (sortS ks))])))] 4):=by
 subst hf hi hkt
 refine Or.inl ⟨hbd,fun g w vals hg hu hH hvs=> ?_⟩
 obtain ⟨v,vs',rfl,hv0,hv1⟩:=hvs
 simp only [Rvs] at hv1
 subst hv1
 simp only [Rv] at hv0
 obtain ⟨cap,rfl,hcap⟩:=hv0
 obtain ⟨pv,vs2,hp1,hp2,hp3⟩:=hcap
 simp only [Rvs] at hp3
 subst hp3
 obtain ⟨β2,hg2,rfl⟩:=rpv hp2
 have hcap':cap= #[.pointer (some (β2.addr 0 0))]:=by rw [←Array.toList_inj,hp1]
 subst hcap'
 have hE1:Ent [(1,some (HB.one true (Blk.obj (.map false ea n [.strs ks] vs bs ck)))),(2,some (HB.one true (Blk.cells [.map 1 0])))] 1 0 true (Blk.obj (.map false ea n [.strs ks] vs bs ck)):=⟨_,rfl,⟨rfl,rfl⟩,rfl⟩
 have hE2:Ent [(1,some (HB.one true (Blk.obj (.map false ea n [.strs ks] vs bs ck)))),(2,some (HB.one true (Blk.cells [.map 1 0])))] 2 0 true (Blk.cells [.map 1 0]):=⟨_,rfl,⟨rfl,rfl⟩,rfl⟩
 obtain ⟨β1,hg1,hB1⟩:=hH.blk 1 0 true _ hE1
 obtain ⟨β2',hg2',hB2⟩:=hH.blk 2 0 true _ hE2
 rw [hg2] at hg2'
 cases hg2'
 obtain ⟨_,_,es,hb1,hm1⟩:=hB1.obj
 obtain ⟨x,hx,hrx⟩:=hB2.cell 0 0 _ rfl rfl
 simp only [Rv] at hrx
 obtain ⟨β1',hg1',rfl⟩:=hrx
 rw [hg1] at hg1'
 cases hg1'
 have hc2:0<β2.cap:=hB2.cap 0 rfl
 have hlt2:=hB2.lt hc2
 have hml:n≤maxLen:=Nat.le_trans hn (by decide)
 obtain ⟨D,hown,hperm,hsz⟩:=ownsMap_of hk hb1 hm1 hml hz hnd
 have hseq:=keysO_gives Lk Fence.wide 2 trivial rfl (by omega) β2.blk (β2.off+0*β2.es+0) β1.blk n D w hlt2 hx hown
 rw [hsz] at hseq
 have hca:=AnyZ.sorted_in Ls Fence.wide 5 trivial trivial trivial trivial rfl (by omega) (hsrt _) e9 _ _ trivial eit _ n hml (by omega) w hseq
 refine (callsIn_wide.1 hca).mono ?_
 rintro e w' ⟨v,ss,rfl,hS,hrow,hnil,hbel⟩
 have hpm:ss.Perm (ks.map ofB):=hS.trans hperm
 have hkl:ks.length=n:=hm1.kl _ (List.mem_singleton.2 rfl)
 have hsl:ss.length=n:=by rw [hpm.length_eq,List.length_map,hkl]
 have hso:(ss.mergeSort (fun x y=>decide (x≤y)))=((ks.map ofB).mergeSort (fun x y=>decide (x≤y))):=mergeSort_of_perm hpm
 rw [hso,hsl] at hrow
 have hs':((ks.map ofB).mergeSort (fun x y=>decide (x≤y))).map encStr=(sortS ks).map Value.string:=by
  unfold sortS
  rw [List.map_map]
  rfl
 rw [hs'] at hrow
 obtain ⟨hl0,hr⟩:=hrow
 have frm:Fr (Wset g [(1,some (HB.one true (Blk.obj (.map false ea n [.strs ks] vs bs ck)))),(2,some (HB.one true (Blk.cells [.map 1 0])))]) w w':=⟨hbel.os,hbel.tape,hbel.output,hbel.size,fun k hk _=>hbel.block k hk⟩
 have only:∀{b:Blk} {h q:Nat} {ro:Bool} {b':Blk},Ent [(3,some (HB.one false b))] h q ro b'→h=3∧q=0∧ro=false∧b'=b:=by
  rintro b h q ro b' ⟨hb,e,hi,hr⟩
  rw [hget_cons] at e
  split at e
  ·cases e
   rename_i e1
   exact ⟨e1.symm,hi.1,hr.symm,hi.2⟩
  ·cases e
 obtain ⟨β,hβ,hrv,hB,horg⟩:∃β:Base,β.off=0∧Rv (g.add 3 β) (.sl 3 0 0 n) v∧BlkAt (g.add 3 β) β false (Blk.cols n [.sc (.strs (sortS ks))]) w'∧(0<β.cap→w.heap.size≤β.blk):=by
  rcases hr with ⟨rfl,hz0⟩|⟨gb,cp,cur,rfl,hbase,hgb,r1,r2,r3,r4⟩
  ·subst hz0
   refine ⟨⟨0,0,1,0⟩,rfl,?_,?_,fun h=>absurd h (by decide)⟩
   ·simp only [Rv];exact ⟨none,0,rfl,Nat.le_refl _,.inl rfl⟩
   ·refine ⟨fun h=>absurd h (by decide),rfl,?_,fun i hi=>absurd hi (Nat.not_lt_zero _),fun i j sv hi=>absurd hi (Nat.not_lt_zero _),fun i j v hi=>absurd hi (Nat.not_lt_zero _),fun _ i j hi=>absurd hi (Nat.not_lt_zero _),trivial⟩
    intro c hc
    rw [List.mem_singleton] at hc
    subst hc
    show (sortS ks).length=0
    rw [sortS_length,hkl]
  ·have hcs:cur.size=cp:=by rw [r3];simp
   have hcell:∀i,i<n→cur[i]?=some (Value.string ((sortS ks).getD i ⟨#[]⟩)):=by
    intro i hi
    have h1:(cur.toList.take (n*1))[i]?=((sortS ks).map Value.string)[i]?:=by rw [r4]
    rw [List.getElem?_take,if_pos (by omega)] at h1
    rw [←Array.getElem?_toList,h1,List.getElem?_map]
    have:i<(sortS ks).length:=by rw [sortS_length,hkl];exact hi
    simp [List.getD,this]
   have hglt:gb<w'.heap.size:=(Array.getElem?_eq_some_iff.1 hgb).1
   refine ⟨⟨gb,0,1,cp⟩,rfl,?_,?_,fun _=>hbase⟩
   ·simp only [Rv]
    refine ⟨_,_,rfl,r1,.inr ⟨⟨gb,0,1,cp⟩,by simp [G.add],rfl,by simp⟩⟩
   ·refine ⟨fun _=>hglt,rfl,?_,fun i hi=>Nat.lt_of_lt_of_le hi r1,?_,?_,?_,trivial⟩
    ·intro c hc
     rw [List.mem_singleton] at hc
     subst hc
     show (sortS ks).length=n
     rw [sortS_length,hkl]
    ·intro i j sv hi hj
     have hi':i<n:=hi
     cases j with
     |succ j=>simp [Blk.at,nth] at hj
     |zero=>
      simp only [Blk.at,nth,Option.some.injEq] at hj
      subst hj
      refine ⟨(Col.strs (sortS ks)).val i,?_,Col.at_ok _ (Col.strs (sortS ks)) i⟩
      rw [cellOf (β:=⟨gb,0,1,cp⟩) rfl]
      simp only [World.cell?,hgb,Nat.zero_add,hcell i hi']
      rfl
    ·intro i j v hi hj hx
     have hi':i<n:=hi
     obtain rfl:j=0:=by have:j<1:=hj;omega
     rw [cellOf (β:=⟨gb,0,1,cp⟩) rfl] at hx
     simp only [World.cell?,hgb,Nat.zero_add,hcell i hi'] at hx
     cases hx
     rfl
    ·intro _ i j hi hj
     obtain rfl:j=0:=by have:j<1:=hj;omega
     have hi':i<cp:=hi
     rw [cellOf (β:=⟨gb,0,1,cp⟩) rfl]
     refine ⟨by simp [World.frozen?,hgb],?_⟩
     have:i<cur.size:=by omega
     exact ⟨cur[i],by simp [World.cell?,hgb,this]⟩
 refine ⟨v,rfl,_,_,_,g.add 3 β,⟨rfl,rfl,rfl⟩,by omega,?_,?_,hrv,⟨?_,?_⟩,allRw_cons allRw_nil,frm,?_⟩
 ·intro h q hh
  simp only [G.add]
  rw [if_neg (by omega)]
  exact hu h q (by omega)
 ·intro h q hh
  simp only [G.add]
  rw [if_neg (by omega)]
 ·intro h q ro b he
  obtain ⟨rfl,rfl,rfl,rfl⟩:=only he
  exact ⟨β,by simp [G.add],hB⟩
 ·intro h q h' q' b ro' b' β1 β2 hne he he' _ _ _ _
  obtain ⟨rfl,rfl,_,_⟩:=only he
  obtain ⟨rfl,rfl,_,_⟩:=only he'
  exact absurd ⟨rfl,rfl⟩ hne
 ·intro h q b β' he hg' hc'
  obtain ⟨rfl,rfl,_,_⟩:=only he
  simp only [G.add,and_self,if_true,Option.some.injEq] at hg'
  subst hg'
  exact .inr (horg hc')
end
end Go.Sy
