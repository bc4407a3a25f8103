/- Several texts in one: XBkC, XBkD, XBkT, XBkK, XLgG, XBkN, XBkM, XBkO, XBkU, XBlP, XBkI, XBkE, XBkF, XCyG, XBkG, XBkJ, XBkL, XBkH, XBkW, XBkV, XBlR, XBkZ, XBkS, XBkX, XBlL. -/
import Derived.Test.YtlankgapiecloaaGreatDoorBr2
import Derived.Test.YtlankgapiecloaaGreatDoorYJoin
import Derived.Test.YtlankgapiecloaaGreatDoorShelf
import Derived.Shelf.Strings.Split
import Derived.Lib.ParseIntBTie
import Derived.Test.YtlankgapiecloaaGreatDoorYFresh
import Derived.Test.YtlankgapiecloaaGreatDoorYCalls
import Derived.Test.YtlankgapiecloaaGreatDoorYMeth
import Derived.Test.YtlankgapiecloaaGreatDoorYArg
namespace Go.Proofs.YtlankgapiecloaaGreatDoor
open Go.RowKit Go.Sy
attribute [local irreducible] vcall vloop vcallD retP sortI
set_option maxRecDepth 100000
set_option linter.unusedVariables false
set_option linter.unusedSimpArgs false
attribute [local irreducible] seq ByteArray.extract lgE
theorem bkPl_put {n ix:Nat} {ids:List ByteArray} {id:ByteArray} (hix:ix=n) (hl:ids.length=n):
  (some (HB.one false (.obj (.map false false (if ix<n then n else n+1) [.strs (putL ix id ids)] [.sc (.ints .i64 (putL ix (n:Int) ((List.range n).map Int.ofNat)))] (if ix<n then List.range n else List.range n++ [n]) (if ix<n then n else n+1)))):Option HB)=bkPl (n+1) (ids++ [id]):=by
 subst hix
 rw [if_neg (by omega),if_neg (by omega),lg_putNew hl,lg_putNew (by rw [List.length_map,List.length_range])]
 unfold bkPl
 rw [List.range_succ,List.map_append]
 rfl
theorem bk_setid (L:List Au) (i:Nat) (a:Au) (h:a.id=(auAt L i).id):(L.set i a).map Au.id=L.map Au.id:=by
 rw [List.map_set]
 refine List.ext_getElem (List.length_set ..) fun j h1 h2=> ?_
 rw [List.getElem_set]
 split
 ·rename_i e
  subst e
  rw [h]
  show (L.map Au.id).getD i ⟨#[]⟩=_
  rw [List.getD,List.getElem?_eq_getElem h2];rfl
 ·rfl
theorem raiseZ_id {a:Au} {n u:Int} (h:(raiseZ a n u).2=0):(raiseZ a n u).1.id=a.id:=by
 unfold raiseZ at h⊢
 repeat' split
 all_goals first|rfl|(simp_all;done)
theorem reverseZ_id {a:Au} {n:Int} (h:(reverseZ a n).2.2=0):(reverseZ a n).1.id=a.id:=by
 unfold reverseZ at h⊢
 repeat' split
 all_goals first|rfl|(simp_all;done)
theorem expireZ_id {a:Au} {n:Int} (h:(expireZ a n).2.2=0):(expireZ a n).1.id=a.id:=by
 unfold expireZ at h⊢
 repeat' split
 all_goals first|rfl|(simp_all;done)
theorem clearZ_id {a:Au} {n:Int} {b:Bool} (h:(clearZ a n b).2.2.2=0):(clearZ a n b).1.id=a.id:=by
 unfold clearZ at h⊢
 repeat' split
 all_goals first|rfl|(simp_all;done)
set_option maxHeartbeats 2000000 in
theorem bk_approve (s:Bks) (o:Bop) (h:BkOk s) (hc:CkOk o):FC Tryz.prog 20 150 [.agg [],.ptr 1 0 0 0,o.s] (bkHp s) (isOut (.int .i64 (bapE s o)) (bkOt (if bapE s o=0 then bapS s o else s)) 26):=by
 have c1:=bk_end s o.t h.days hc.t
 have c2:=auth_new o.au s.cur o.am o.t (endI s o.t)
 have hal:s.aid.length=s.na:=by unfold Bks.aid;rw [List.length_map,h.na]
 have h256:=h.n256
 unfold bapE bapS
 by_cases hk:s.pl o.au<s.na
 ·rw [if_pos hk,if_neg (by decide)]
  have hb:decide (sidx s.aid o.au<s.na)=true:=decide_eq_true hk
  refine fc_of mixed T_ok Tryz.func150 rfl (by kernel_rfl) (by kernel_rfl) (by kernel_rfl) ?_
  repeat' ((conv=>whnf);first|(rw [hb])|((first|apply br_dec|apply br_ndec)<;>intro h<;>try (exfalso;(try dsimp only at h);omega))|((first|apply br_seq|apply br_nseq|apply br_not|apply br_intro)<;>intro h)|refine cond_a ?_)
  all_goals (conv=>whnf)
  all_goals first
   |exact ret_out (l:= [0,1,2,3,4,5,6,7,8,9,10,11,12,13,14,15,16,17,18,19,2,6,10,17,18,19]) rfl rfl ⟨rfl,rfl,rfl,rfl,rfl,rfl,rfl,rfl,rfl,rfl,rfl,rfl,rfl,rfl,rfl,rfl,rfl,rfl,rfl,trivial⟩ bkRw_rw
   |(exfalso;omega)
   |trace_state
 rw [if_neg hk]
 have hb:decide (sidx s.aid o.au<s.na)=false:=decide_eq_false hk
 by_cases hn:256≤s.na
 ·rw [if_pos hn,if_neg (by decide)]
  refine fc_of mixed T_ok Tryz.func150 rfl (by kernel_rfl) (by kernel_rfl) (by kernel_rfl) ?_
  repeat' ((conv=>whnf);first|(rw [hb])|((first|apply br_dec|apply br_ndec)<;>intro h<;>try (exfalso;(try dsimp only at h);omega))|((first|apply br_seq|apply br_nseq|apply br_not|apply br_intro)<;>intro h)|refine cond_a ?_)
  all_goals (conv=>whnf)
  all_goals first
   |exact ret_out (l:= [0,1,2,3,4,5,6,7,8,9,10,11,12,13,14,15,16,17,18,19,2,6,10,17,18,19]) rfl rfl ⟨rfl,rfl,rfl,rfl,rfl,rfl,rfl,rfl,rfl,rfl,rfl,rfl,rfl,rfl,rfl,rfl,rfl,rfl,rfl,trivial⟩ bkRw_rw
   |(exfalso;omega)
   |trace_state
 rw [if_neg hn]
 have hnid:=newZ_id o.au s.cur o.am o.t (endI s o.t)
 generalize newZ o.au s.cur o.am o.t (endI s o.t)=N at*
 obtain ⟨a,e⟩:=N
 dsimp only at c2 hnid⊢
 by_cases he:e=0
 ·rw [if_pos he]
  subst he
  have hid:a.id=o.au:=hnid rfl
  have hix:sidx s.aid o.au=s.na:=by
   have h1:=Go.Sy.sidx_le s.aid o.au
   have h2:¬sidx s.aid o.au<s.na:=hk
   omega
  have hpl:=bkPl_put (n:=s.na) (ids:=s.aid) (id:=o.au) hix hal
  have hap:=auB_app (s.na+1) s.au a
  have e3:bkPl (s.na+1) (s.aid++ [o.au])=bkPl (s.na+1) ((s.au++ [a]).map Au.id):=by rw [List.map_append,←hid];rfl
  refine fc_of mixed T_ok Tryz.func150 rfl (by kernel_rfl) (by kernel_rfl) (by kernel_rfl) ?_
  repeat' ((conv=>whnf);first|(rw [hb])|refine vcall_o (l:= [0,1,2,3,4,5,6,7,8,9,10,11,12,13,14,15,16,17,18,19]) (c1) ?_|refine vcallD_o (l:= [0,1,2,3,4,5,6,7,8,9,10,11,12,13,14,15,16,17,18,19]) (c1) ?_|(refine vcall_pure (c2) rfl rfl rfl ?_)|(refine vcallD_pure (c2) rfl rfl rfl ?_)|((first|apply br_dec|apply br_ndec)<;>intro h<;>try (exfalso;(try dsimp only at h);omega))|((first|apply br_seq|apply br_nseq|apply br_not|apply br_intro)<;>intro h)|refine cond_a ?_)
  all_goals (conv=>whnf)
  all_goals first
   |(exfalso;omega)
   |(exfalso;exact h rfl)
   |exact ret_out (l:= [0,1,2,3,4,5,6,7,8,9,10,11,12,13,14,15,16,17,18,19,24,6,10,17,18,19]) rfl rfl ⟨rfl,congrArg (fun z=>some (HB.one false z)) hap,hpl.trans e3,rfl,rfl,rfl,rfl,rfl,rfl,rfl,rfl,rfl,rfl,rfl,rfl,rfl,rfl,rfl,rfl,trivial⟩ bkRw_rw
   |trace_state
 ·rw [if_neg he]
  refine fc_of mixed T_ok Tryz.func150 rfl (by kernel_rfl) (by kernel_rfl) (by kernel_rfl) ?_
  repeat' ((conv=>whnf);first|(rw [hb])|refine vcall_o (l:= [0,1,2,3,4,5,6,7,8,9,10,11,12,13,14,15,16,17,18,19]) (c1) ?_|refine vcallD_o (l:= [0,1,2,3,4,5,6,7,8,9,10,11,12,13,14,15,16,17,18,19]) (c1) ?_|(refine vcall_pure (c2) rfl rfl rfl ?_)|(refine vcallD_pure (c2) rfl rfl rfl ?_)|((first|apply br_dec|apply br_ndec)<;>intro h<;>try (exfalso;(try dsimp only at h);omega))|((first|apply br_seq|apply br_nseq|apply br_not|apply br_intro)<;>intro h)|refine cond_a ?_)
  all_goals (conv=>whnf)
  all_goals first
   |exact ret_out (l:= [0,1,2,3,4,5,6,7,8,9,10,11,12,13,14,15,16,17,18,19,2,6,10,17,18,19]) rfl rfl ⟨rfl,rfl,rfl,rfl,rfl,rfl,rfl,rfl,rfl,rfl,rfl,rfl,rfl,rfl,rfl,rfl,rfl,rfl,rfl,trivial⟩ bkRw_rw
   |(exfalso;omega)
   |(exfalso;exact he h)
   |trace_state
set_option maxHeartbeats 2000000 in
theorem bk_change2 (s:Bks) (o:Bop) (h:BkOk s) (hc:CkOk o) (hk:o.k=2):FC Tryz.prog 20 153 [.agg [],.ptr 1 0 0 0,o.s] (bkHp s) (isOut (.int .i64 (bcgE s o)) (bkOt (if bcgE s o=0 then bcgS s o else s)) 26):=by
 have c1:=bk_end s o.t h.days hc.t
 have c2:=auth_raise (auAt s.au (s.pl o.au)) o.am (max (auAt s.au (s.pl o.au)).unt (endI s o.t))
 have hA:bcgA s o=raiseZ (auAt s.au (s.pl o.au)) o.am (max (auAt s.au (s.pl o.au)).unt (endI s o.t)):=by unfold bcgA;rw [if_pos hk]
 have hd2:decide (o.k=2)=true:=decide_eq_true hk
 unfold bcgE bcgS
 by_cases hp:s.pl o.au<s.na
 ·have hb:decide (sidx s.aid o.au<s.na)=true:=decide_eq_true hp
  have hpl:=lg_pl hp
  have hcn:0≤((List.range s.na).map Int.ofNat).getD (s.pl o.au) 0∧((List.range s.na).map Int.ofNat).getD (s.pl o.au) 0<(s.na:Int):=by rw [hpl];omega
  rw [if_pos hp,hA]
  have hidk:=raiseZ_id (a:=auAt s.au (s.pl o.au)) (n:=o.am) (u:=max (auAt s.au (s.pl o.au)).unt (endI s o.t))
  unfold auAt at c2
  try dsimp only at c2
  generalize hN:raiseZ (auAt s.au (s.pl o.au)) o.am (max (auAt s.au (s.pl o.au)).unt (endI s o.t))=N at*
  unfold auAt at hN
  rw [hN] at c2
  obtain ⟨a,e⟩:=N
  dsimp only at c2 hidk⊢
  by_cases he:e=0
  ·rw [if_pos he]
   subst he
   have hap:=auB_set s.na s.au (s.pl o.au) a
   have r3:bkPl s.na s.aid=bkPl s.na ((s.au.set (s.pl o.au) a).map Au.id):=by rw [bk_setid _ _ _ (hidk rfl)]
   refine fc_of mixed T_ok Tryz.func153 rfl (by kernel_rfl) (by kernel_rfl) (by kernel_rfl) ?_
   repeat' ((conv=>whnf);first|(rw [hb])|(rw [hd2];dsimp only [setMany,setNth])|(simp only [hpl,lg_tn])|refine vcall_o (l:= [0,1,2,3,4,5,6,7,8,9,10,11,12,13,14,15,16,17,18,19]) (c1) ?_|refine vcallD_o (l:= [0,1,2,3,4,5,6,7,8,9,10,11,12,13,14,15,16,17,18,19]) (c1) ?_|(refine vcall_pure (c2) rfl rfl rfl ?_)|(refine vcallD_pure (c2) rfl rfl rfl ?_)|((first|apply br_dec|apply br_ndec)<;>intro h<;>try (exfalso;(try dsimp only at h);omega))|((first|apply br_seq|apply br_nseq|apply br_not|apply br_intro)<;>intro h)|refine cond_a ?_)
   all_goals (conv=>whnf)
   all_goals first
    |(exfalso;omega)
    |(exfalso;exact h rfl)
    |exact ret_out (l:= [0,1,2,3,4,5,6,7,8,9,10,11,12,13,14,15,16,17,18,19,2,6,10,17,18,19]) rfl rfl ⟨rfl,congrArg (fun z=>some (HB.one false z)) hap,r3,rfl,rfl,rfl,rfl,rfl,rfl,rfl,rfl,rfl,rfl,rfl,rfl,rfl,rfl,rfl,rfl,trivial⟩ bkRw_rw
    |trace_state
  ·rw [if_neg he]
   refine fc_of mixed T_ok Tryz.func153 rfl (by kernel_rfl) (by kernel_rfl) (by kernel_rfl) ?_
   repeat' ((conv=>whnf);first|(rw [hb])|(rw [hd2];dsimp only [setMany,setNth])|(simp only [hpl,lg_tn])|refine vcall_o (l:= [0,1,2,3,4,5,6,7,8,9,10,11,12,13,14,15,16,17,18,19]) (c1) ?_|refine vcallD_o (l:= [0,1,2,3,4,5,6,7,8,9,10,11,12,13,14,15,16,17,18,19]) (c1) ?_|(refine vcall_pure (c2) rfl rfl rfl ?_)|(refine vcallD_pure (c2) rfl rfl rfl ?_)|((first|apply br_dec|apply br_ndec)<;>intro h<;>try (exfalso;(try dsimp only at h);omega))|((first|apply br_seq|apply br_nseq|apply br_not|apply br_intro)<;>intro h)|refine cond_a ?_)
   all_goals (conv=>whnf)
   all_goals first
    |exact ret_out (l:= [0,1,2,3,4,5,6,7,8,9,10,11,12,13,14,15,16,17,18,19,2,6,10,17,18,19]) rfl rfl ⟨rfl,rfl,rfl,rfl,rfl,rfl,rfl,rfl,rfl,rfl,rfl,rfl,rfl,rfl,rfl,rfl,rfl,rfl,rfl,trivial⟩ bkRw_rw
    |(exfalso;omega)
    |(exfalso;exact he h)
    |trace_state
 ·have hb:decide (sidx s.aid o.au<s.na)=false:=decide_eq_false hp
  rw [if_neg hp,if_neg (by decide)]
  refine fc_of mixed T_ok Tryz.func153 rfl (by kernel_rfl) (by kernel_rfl) (by kernel_rfl) ?_
  repeat' ((conv=>whnf);first|(rw [hb])|((first|apply br_dec|apply br_ndec)<;>intro h<;>try (exfalso;(try dsimp only at h);omega))|((first|apply br_seq|apply br_nseq|apply br_not|apply br_intro)<;>intro h)|refine cond_a ?_)
  all_goals (conv=>whnf)
  all_goals first
   |exact ret_out (l:= [0,1,2,3,4,5,6,7,8,9,10,11,12,13,14,15,16,17,18,19,2,6,10,17,18,19]) rfl rfl ⟨rfl,rfl,rfl,rfl,rfl,rfl,rfl,rfl,rfl,rfl,rfl,rfl,rfl,rfl,rfl,rfl,rfl,rfl,rfl,trivial⟩ bkRw_rw
   |(exfalso;omega)
   |trace_state
set_option maxHeartbeats 2000000 in
theorem bk_change3 (s:Bks) (o:Bop) (h:BkOk s) (hc:CkOk o) (hk:o.k=3):FC Tryz.prog 20 153 [.agg [],.ptr 1 0 0 0,o.s] (bkHp s) (isOut (.int .i64 (bcgE s o)) (bkOt (if bcgE s o=0 then bcgS s o else s)) 26):=by
 have c1:=bk_end s o.t h.days hc.t
 have c2:=auth_reverse (auAt s.au (s.pl o.au)) o.am
 have hA:bcgA s o=((reverseZ (auAt s.au (s.pl o.au)) o.am).1,(reverseZ (auAt s.au (s.pl o.au)) o.am).2.2):=by unfold bcgA;rw [if_neg (by omega),if_pos hk]
 have hd2:decide (o.k=2)=false:=decide_eq_false (by omega)
 have hd3:decide (o.k=3)=true:=decide_eq_true hk
 unfold bcgE bcgS
 by_cases hp:s.pl o.au<s.na
 ·have hb:decide (sidx s.aid o.au<s.na)=true:=decide_eq_true hp
  have hpl:=lg_pl hp
  have hcn:0≤((List.range s.na).map Int.ofNat).getD (s.pl o.au) 0∧((List.range s.na).map Int.ofNat).getD (s.pl o.au) 0<(s.na:Int):=by rw [hpl];omega
  rw [if_pos hp,hA]
  have hidk:=reverseZ_id (a:=auAt s.au (s.pl o.au)) (n:=o.am)
  unfold auAt at c2
  try dsimp only at c2
  generalize hN:reverseZ (auAt s.au (s.pl o.au)) o.am=N at*
  unfold auAt at hN
  rw [hN] at c2
  obtain ⟨a,r,e⟩:=N
  dsimp only at c2 hidk⊢
  by_cases he:e=0
  ·rw [if_pos he]
   subst he
   have hap:=auB_set s.na s.au (s.pl o.au) a
   have r3:bkPl s.na s.aid=bkPl s.na ((s.au.set (s.pl o.au) a).map Au.id):=by rw [bk_setid _ _ _ (hidk rfl)]
   refine fc_of mixed T_ok Tryz.func153 rfl (by kernel_rfl) (by kernel_rfl) (by kernel_rfl) ?_
   repeat' ((conv=>whnf);first|(rw [hb])|(rw [hd2];dsimp only [setMany,setNth])|(rw [hd3];try dsimp only [setMany,setNth])|(simp only [hpl,lg_tn])|refine vcall_o (l:= [0,1,2,3,4,5,6,7,8,9,10,11,12,13,14,15,16,17,18,19]) (c1) ?_|refine vcallD_o (l:= [0,1,2,3,4,5,6,7,8,9,10,11,12,13,14,15,16,17,18,19]) (c1) ?_|(refine vcall_pure (c2) rfl rfl rfl ?_)|(refine vcallD_pure (c2) rfl rfl rfl ?_)|((first|apply br_dec|apply br_ndec)<;>intro h<;>try (exfalso;(try dsimp only at h);omega))|((first|apply br_seq|apply br_nseq|apply br_not|apply br_intro)<;>intro h)|refine cond_a ?_)
   all_goals (conv=>whnf)
   all_goals first
    |(exfalso;omega)
    |(exfalso;exact h rfl)
    |exact ret_out (l:= [0,1,2,3,4,5,6,7,8,9,10,11,12,13,14,15,16,17,18,19,2,6,10,17,18,19]) rfl rfl ⟨rfl,congrArg (fun z=>some (HB.one false z)) hap,r3,rfl,rfl,rfl,rfl,rfl,rfl,rfl,rfl,rfl,rfl,rfl,rfl,rfl,rfl,rfl,rfl,trivial⟩ bkRw_rw
    |trace_state
  ·rw [if_neg he]
   refine fc_of mixed T_ok Tryz.func153 rfl (by kernel_rfl) (by kernel_rfl) (by kernel_rfl) ?_
   repeat' ((conv=>whnf);first|(rw [hb])|(rw [hd2];dsimp only [setMany,setNth])|(rw [hd3];try dsimp only [setMany,setNth])|(simp only [hpl,lg_tn])|refine vcall_o (l:= [0,1,2,3,4,5,6,7,8,9,10,11,12,13,14,15,16,17,18,19]) (c1) ?_|refine vcallD_o (l:= [0,1,2,3,4,5,6,7,8,9,10,11,12,13,14,15,16,17,18,19]) (c1) ?_|(refine vcall_pure (c2) rfl rfl rfl ?_)|(refine vcallD_pure (c2) rfl rfl rfl ?_)|((first|apply br_dec|apply br_ndec)<;>intro h<;>try (exfalso;(try dsimp only at h);omega))|((first|apply br_seq|apply br_nseq|apply br_not|apply br_intro)<;>intro h)|refine cond_a ?_)
   all_goals (conv=>whnf)
   all_goals first
    |exact ret_out (l:= [0,1,2,3,4,5,6,7,8,9,10,11,12,13,14,15,16,17,18,19,2,6,10,17,18,19]) rfl rfl ⟨rfl,rfl,rfl,rfl,rfl,rfl,rfl,rfl,rfl,rfl,rfl,rfl,rfl,rfl,rfl,rfl,rfl,rfl,rfl,trivial⟩ bkRw_rw
    |(exfalso;omega)
    |(exfalso;exact he h)
    |trace_state
 ·have hb:decide (sidx s.aid o.au<s.na)=false:=decide_eq_false hp
  rw [if_neg hp,if_neg (by decide)]
  refine fc_of mixed T_ok Tryz.func153 rfl (by kernel_rfl) (by kernel_rfl) (by kernel_rfl) ?_
  repeat' ((conv=>whnf);first|(rw [hb])|((first|apply br_dec|apply br_ndec)<;>intro h<;>try (exfalso;(try dsimp only at h);omega))|((first|apply br_seq|apply br_nseq|apply br_not|apply br_intro)<;>intro h)|refine cond_a ?_)
  all_goals (conv=>whnf)
  all_goals first
   |exact ret_out (l:= [0,1,2,3,4,5,6,7,8,9,10,11,12,13,14,15,16,17,18,19,2,6,10,17,18,19]) rfl rfl ⟨rfl,rfl,rfl,rfl,rfl,rfl,rfl,rfl,rfl,rfl,rfl,rfl,rfl,rfl,rfl,rfl,rfl,rfl,rfl,trivial⟩ bkRw_rw
   |(exfalso;omega)
   |trace_state
set_option maxHeartbeats 2000000 in
theorem bk_change7 (s:Bks) (o:Bop) (h:BkOk s) (hc:CkOk o) (hk:o.k=7):FC Tryz.prog 20 153 [.agg [],.ptr 1 0 0 0,o.s] (bkHp s) (isOut (.int .i64 (bcgE s o)) (bkOt (if bcgE s o=0 then bcgS s o else s)) 26):=by
 have c1:=bk_end s o.t h.days hc.t
 have c2:=auth_expire (auAt s.au (s.pl o.au)) o.t
 have hA:bcgA s o=((expireZ (auAt s.au (s.pl o.au)) o.t).1,(expireZ (auAt s.au (s.pl o.au)) o.t).2.2):=by unfold bcgA;rw [if_neg (by omega),if_neg (by omega)]
 have hd2:decide (o.k=2)=false:=decide_eq_false (by omega)
 have hd3:decide (o.k=3)=false:=decide_eq_false (by omega)
 unfold bcgE bcgS
 by_cases hp:s.pl o.au<s.na
 ·have hb:decide (sidx s.aid o.au<s.na)=true:=decide_eq_true hp
  have hpl:=lg_pl hp
  have hcn:0≤((List.range s.na).map Int.ofNat).getD (s.pl o.au) 0∧((List.range s.na).map Int.ofNat).getD (s.pl o.au) 0<(s.na:Int):=by rw [hpl];omega
  rw [if_pos hp,hA]
  have hidk:=expireZ_id (a:=auAt s.au (s.pl o.au)) (n:=o.t)
  unfold auAt at c2
  try dsimp only at c2
  generalize hN:expireZ (auAt s.au (s.pl o.au)) o.t=N at*
  unfold auAt at hN
  rw [hN] at c2
  obtain ⟨a,r,e⟩:=N
  dsimp only at c2 hidk⊢
  by_cases he:e=0
  ·rw [if_pos he]
   subst he
   have hap:=auB_set s.na s.au (s.pl o.au) a
   have r3:bkPl s.na s.aid=bkPl s.na ((s.au.set (s.pl o.au) a).map Au.id):=by rw [bk_setid _ _ _ (hidk rfl)]
   refine fc_of mixed T_ok Tryz.func153 rfl (by kernel_rfl) (by kernel_rfl) (by kernel_rfl) ?_
   repeat' ((conv=>whnf);first|(rw [hb])|(rw [hd2];dsimp only [setMany,setNth])|(rw [hd3];try dsimp only [setMany,setNth])|(simp only [hpl,lg_tn])|refine vcall_o (l:= [0,1,2,3,4,5,6,7,8,9,10,11,12,13,14,15,16,17,18,19]) (c1) ?_|refine vcallD_o (l:= [0,1,2,3,4,5,6,7,8,9,10,11,12,13,14,15,16,17,18,19]) (c1) ?_|(refine vcall_pure (c2) rfl rfl rfl ?_)|(refine vcallD_pure (c2) rfl rfl rfl ?_)|((first|apply br_dec|apply br_ndec)<;>intro h<;>try (exfalso;(try dsimp only at h);omega))|((first|apply br_seq|apply br_nseq|apply br_not|apply br_intro)<;>intro h)|refine cond_a ?_)
   all_goals (conv=>whnf)
   all_goals first
    |(exfalso;omega)
    |(exfalso;exact h rfl)
    |exact ret_out (l:= [0,1,2,3,4,5,6,7,8,9,10,11,12,13,14,15,16,17,18,19,2,6,10,17,18,19]) rfl rfl ⟨rfl,congrArg (fun z=>some (HB.one false z)) hap,r3,rfl,rfl,rfl,rfl,rfl,rfl,rfl,rfl,rfl,rfl,rfl,rfl,rfl,rfl,rfl,rfl,trivial⟩ bkRw_rw
    |trace_state
  ·rw [if_neg he]
   refine fc_of mixed T_ok Tryz.func153 rfl (by kernel_rfl) (by kernel_rfl) (by kernel_rfl) ?_
   repeat' ((conv=>whnf);first|(rw [hb])|(rw [hd2];dsimp only [setMany,setNth])|(rw [hd3];try dsimp only [setMany,setNth])|(simp only [hpl,lg_tn])|refine vcall_o (l:= [0,1,2,3,4,5,6,7,8,9,10,11,12,13,14,15,16,17,18,19]) (c1) ?_|refine vcallD_o (l:= [0,1,2,3,4,5,6,7,8,9,10,11,12,13,14,15,16,17,18,19]) (c1) ?_|(refine vcall_pure (c2) rfl rfl rfl ?_)|(refine vcallD_pure (c2) rfl rfl rfl ?_)|((first|apply br_dec|apply br_ndec)<;>intro h<;>try (exfalso;(try dsimp only at h);omega))|((first|apply br_seq|apply br_nseq|apply br_not|apply br_intro)<;>intro h)|refine cond_a ?_)
   all_goals (conv=>whnf)
   all_goals first
    |exact ret_out (l:= [0,1,2,3,4,5,6,7,8,9,10,11,12,13,14,15,16,17,18,19,2,6,10,17,18,19]) rfl rfl ⟨rfl,rfl,rfl,rfl,rfl,rfl,rfl,rfl,rfl,rfl,rfl,rfl,rfl,rfl,rfl,rfl,rfl,rfl,rfl,trivial⟩ bkRw_rw
    |(exfalso;omega)
    |(exfalso;exact he h)
    |trace_state
 ·have hb:decide (sidx s.aid o.au<s.na)=false:=decide_eq_false hp
  rw [if_neg hp,if_neg (by decide)]
  refine fc_of mixed T_ok Tryz.func153 rfl (by kernel_rfl) (by kernel_rfl) (by kernel_rfl) ?_
  repeat' ((conv=>whnf);first|(rw [hb])|((first|apply br_dec|apply br_ndec)<;>intro h<;>try (exfalso;(try dsimp only at h);omega))|((first|apply br_seq|apply br_nseq|apply br_not|apply br_intro)<;>intro h)|refine cond_a ?_)
  all_goals (conv=>whnf)
  all_goals first
   |exact ret_out (l:= [0,1,2,3,4,5,6,7,8,9,10,11,12,13,14,15,16,17,18,19,2,6,10,17,18,19]) rfl rfl ⟨rfl,rfl,rfl,rfl,rfl,rfl,rfl,rfl,rfl,rfl,rfl,rfl,rfl,rfl,rfl,rfl,rfl,rfl,rfl,trivial⟩ bkRw_rw
   |(exfalso;omega)
   |trace_state
end Go.Proofs.YtlankgapiecloaaGreatDoor
namespace Go.Proofs.YtlankgapiecloaaGreatDoor
open Go.RowKit Go.Sy
attribute [local irreducible] vcall vloop vcallD retP sortI
set_option maxRecDepth 100000
set_option linter.unusedVariables false
set_option linter.unusedSimpArgs false
attribute [local irreducible] seq ByteArray.extract lgE
theorem nmB_16 {s:ByteArray} (h:nmB s=true):s.size≤16:=by
 unfold nmB at h
 simp only [Bool.and_eq_true,decide_eq_true_eq] at h
 exact h.1.1.2
theorem bk_owe_no (s:Bks) (o:Bop) (f g:ByteArray) (n:Int) (h:BkOk s) (hx:owX s o.t f g n≠0):FC Tryz.prog 20 180 [.ptr 1 0 0 0,o.s,.str f,.str g,.int .i64 n] (bkHp s) (isOut (.int .i64 (owX s o.t f g n)) (bkOt s) 26):=by
 have c1:=bk_money s n
 have c2:=cy_Move h.bks h.hn h.nc h.np h.err s.cut o.t f g s.cur n
 unfold mvO at c2
 rw [if_neg (show¬mvX s.hs s.ds s.cd s.B s.pr (mvD s.hs s.cd (ofI s.hs s.cut o.t)) f g s.cur n=0 from hx)] at c2
 unfold owX bkD at hx⊢
 generalize mvX s.hs s.ds s.cd s.B s.pr (mvD s.hs s.cd (ofI s.hs s.cut o.t)) f g s.cur n=E at*
 refine fc_of mixed T_ok Tryz.func180 rfl (by kernel_rfl) (by kernel_rfl) (by kernel_rfl) ?_
 repeat' ((conv=>whnf);first|refine vcall_o (l:= [0,1,2,3,4,5,6,7,8,9,10,11,12,13,14,15,16,17,18,19]) (c1) ?_|refine vcallD_o (l:= [0,1,2,3,4,5,6,7,8,9,10,11,12,13,14,15,16,17,18,19]) (c1) ?_|refine vcall_o (l:= [0,11,12,13,14,15,16,17,18,19]) (c2) ?_|refine vcallD_o (l:= [0,11,12,13,14,15,16,17,18,19]) (c2) ?_|((first|apply br_dec|apply br_ndec)<;>intro h<;>try (exfalso;(try dsimp only at h);omega))|((first|apply br_seq|apply br_nseq|apply br_not|apply br_intro)<;>intro h)|refine cond_a ?_)
 all_goals (conv=>whnf)
 all_goals first
  |exact ret_out (l:= [0,1,2,3,4,5,6,7,8,9,10,11,12,13,14,15,16,17,18,19,2,6,10,17,18,19]) rfl rfl ⟨rfl,rfl,rfl,rfl,rfl,rfl,rfl,rfl,rfl,rfl,rfl,rfl,rfl,rfl,rfl,rfl,rfl,rfl,rfl,trivial⟩ bkRw_rw
  |(exfalso;omega)
  |(exfalso;exact hx h)
  |trace_state
theorem bk_owe_ok (s:Bks) (o:Bop) (h:BkOk s) (hc:CkOk o) (hk:o.k=4∨o.k=5∨o.k=6) (hi:¬inL o.id s.lg.ids) (hf:¬512≤s.lg.ne) (hx:owX s o.t (mtF o) (mtG o) (mtN o)=0):
  FC Tryz.prog 20 180 [.ptr 1 0 0 0,o.s,.str (mtF o),.str (mtG o),.int .i64 (mtN o)] (bkHp s) (isOut (.int .i64 0) (bkOt (owS s o)) 26):=by
 obtain ⟨hp,hne⟩:=po_ok h hc hk hi hf hx
 obtain ⟨b1,b2,b3⟩:=bkAt_I h.bks h.np h.err (bkD s o.t)
 obtain ⟨m1,m2,m3,m4,m5,m6⟩:=bk_mv_ok hx b3 b1.psl
 have hb:=mt_bd hc hk
 obtain ⟨w1,w2,w3⟩:=nw_ok h.err
 have z1:=nmB_16 (w3 _ m3)
 have z2:=nmB_16 (w3 _ m4)
 have c1:=bk_money s (mtN o)
 have c1':=bk_money s (-mtN o)
 have c2:=cy_Move h.bks h.hn h.nc h.np h.err s.cut o.t (mtF o) (mtG o) s.cur (mtN o)
 unfold mvO at c2
 rw [if_pos (show mvX s.hs s.ds s.cd s.B s.pr (mvD s.hs s.cd (ofI s.hs s.cut o.t)) (mtF o) (mtG o) s.cur (mtN o)=0 from hx)] at c2
 have c3:=cal_Day o.t
 have c4:=bk_accountOf (mtF o) (by omega)
 have c4':=bk_accountOf (mtG o) (by omega)
 have c5:=lg_Post_ok s.lg o.id (dayI o.t) (enB s o).ps 2 h.lg rfl hp
 change FC _ _ _ _ _ (isOut _ ((6,lgBg false (lgP s.lg (enB s o)))::psO (lgP s.lg (enB s o))) _) at c5
 have hneg:IntKind.i64.wrap (0-mtN o)= -mtN o:=by rw [w64_in (by omega) (by omega)];omega
 have hne1:IntKind.i64.wrap ((s.lg.ne:Int)+1)=((lgP s.lg (enB s o)).ne:Int):=i64_succ (by omega)
 have ha:lgAcc s.lg=lgAcc (lgP s.lg (enB s o)):=rfl
 have hst:lgSt s.lg=lgSt (lgP s.lg (enB s o)):=rfl
 unfold owS
 unfold enB at c5
 dsimp only at c5
 change FC _ _ _ _ _ (isOut _ ((6,lgBg false (lgP s.lg (enB s o)))::psO (lgP s.lg (enB s o))) _) at c5
 generalize lgP s.lg (enB s o)=S' at*
 unfold bkD
 generalize mvD s.hs s.cd (ofI s.hs s.cut o.t)=D at*
 generalize mtF o=F at*
 generalize mtG o=G at*
 generalize mtN o=N at*
 generalize dayI o.t=dd at*
 generalize secI o.t=ds at*
 have r1:(some (HB.one false (.cells [.str s.cur,.int .i64 s.days,.sl 2 0 0 s.na,.map 3 0,.ptr 4 0 0 0,.int .i64 (IntKind.i64.wrap ((s.lg.ne:Int)+1)),.ptr 11 0 0 0,.int .i64 s.last])):Option HB)=some (.one false (.cells [.str s.cur,.int .i64 s.days,.sl 2 0 0 s.na,.map 3 0,.ptr 4 0 0 0,.int .i64 S'.ne,.ptr 11 0 0 0,.int .i64 s.last])):=by rw [hne1]
 have r5:=congrArg (fun z=>some (HB.one false z)) ha
 have r8:=congrArg (fun z=>some (HB.one false z)) hst
 refine fc_of mixed T_ok Tryz.func180 rfl (by kernel_rfl) (by kernel_rfl) (by kernel_rfl) ?_
 repeat' ((conv=>whnf);first|refine vcall_o (l:= [0,1,2,3,4,5,6,7,8,9,10,11,12,13,14,15,16,17,18,19]) (c1) ?_|refine vcallD_o (l:= [0,1,2,3,4,5,6,7,8,9,10,11,12,13,14,15,16,17,18,19]) (c1) ?_|refine vcall_o (l:= [0,1,2,3,4,5,6,7,8,9,10,11,12,13,14,15,16,17,18,19]) (c1') ?_|refine vcallD_o (l:= [0,1,2,3,4,5,6,7,8,9,10,11,12,13,14,15,16,17,18,19]) (c1') ?_|refine vcall_o (l:= [0,11,12,13,14,15,16,17,18,19]) (c2) ?_|refine vcallD_o (l:= [0,11,12,13,14,15,16,17,18,19]) (c2) ?_|(refine vcall_pure (c3) rfl rfl rfl ?_)|(refine vcallD_pure (c3) rfl rfl rfl ?_)|(refine vcall_pure (c4) rfl rfl rfl ?_)|(refine vcallD_pure (c4) rfl rfl rfl ?_)|(refine vcall_pure (c4') rfl rfl rfl ?_)|(refine vcallD_pure (c4') rfl rfl rfl ?_)|(rw [hneg])|refine vcall_o (l:= [0,4,5,6,7,8,9,10,24]) (c5) ?_|refine vcallD_o (l:= [0,4,5,6,7,8,9,10,24]) (c5) ?_|((first|apply br_dec|apply br_ndec)<;>intro h<;>try (exfalso;(try dsimp only at h);omega))|((first|apply br_seq|apply br_nseq|apply br_not|apply br_intro)<;>intro h)|refine cond_a ?_)
 all_goals (conv=>whnf)
 all_goals first
  |(exfalso;omega)
  |(exfalso;exact h rfl)
  |exact ret_out (l:= [0,1,2,3,4,5,6,7,8,9,10,11,12,13,14,15,16,17,18,19,2,25,26,21,22,23]) rfl rfl ⟨r1,rfl,rfl,rfl,rfl,r5,rfl,rfl,r8,rfl,rfl,rfl,rfl,rfl,rfl,rfl,rfl,rfl,rfl,trivial⟩ bkRw_rw
  |trace_state
end Go.Proofs.YtlankgapiecloaaGreatDoor
namespace Go.Proofs.YtlankgapiecloaaGreatDoor
open Go.RowKit Go.Sy
attribute [local irreducible] vcall vloop vcallD retP sortI
set_option maxRecDepth 100000
set_option linter.unusedVariables false
set_option linter.unusedSimpArgs false
theorem fi_size {s:ByteArray} {u:Bool} {p:ByteArray→Bool} (h:fiB s u p=true) (hp:p s=true→s.size≤16):s.size≤16:=by
 unfold fiB at h
 cases u with
 |true=>exact hp h
 |false=>have e:s=⟨#[]⟩:=of_decide_eq_true h;rw [e];decide
theorem auI_16 {s:ByteArray} (h:auI s=true):s.size≤16:=by
 unfold auI at h
 rw [Bool.and_eq_true] at h
 have:=of_decide_eq_true h.1
 omega
def bopL (o:Bop):List ByteArray:= [decI o.k,decI o.t,o.id,o.au,o.is,o.ac,decI o.am,decI o.fe,if o.fi=true then ⟨#[49]⟩ else ⟨#[48]⟩]
def bopT (o:Bop):ByteArray:=joinB (bopL o) ⟨#[124]⟩
structure BopSz (o:Bop):Prop where
 k: -9223372036854775808≤o.k∧o.k≤9223372036854775807
 t: -9223372036854775808≤o.t∧o.t≤9223372036854775807
 am: -9223372036854775808≤o.am∧o.am≤9223372036854775807
 fe: -9223372036854775808≤o.fe∧o.fe≤9223372036854775807
 id:o.id.size≤16
 au:o.au.size≤16
 is:o.is.size≤16
 ac:o.ac.size≤16
theorem bop_sz {o:Bop} (h:CkOk o):BopSz o:=by
 have hn:=h.n
 unfold bkN at hn
 simp only [Bool.and_eq_true] at hn
 have ha:=h.a
 have hk:=h.k
 have ht:=h.t
 have hf:=h.f
 have hb: -999999999999≤o.am∧o.am≤999999999999:=by
  unfold pmB at ha
  repeat' split at ha
  all_goals (have ha:=of_decide_eq_true ha;omega)
 have hfe:o.fe≤999999999999:=by
  have:=hf.2
  split at this<;>omega
 exact ⟨by omega,by omega,by omega,by omega,fi_size hn.1 auI_16,fi_size hn.2.1 auI_16,fi_size hn.2.2.1 nmB_16,fi_size hn.2.2.2 nmB_16⟩
theorem bop_join {o:Bop} (h:BopSz o):(joinB (bopL o) ⟨#[124]⟩).size≤1000:=by
 have h1:=decI_size o.k h.k.1 h.k.2
 have h2:=decI_size o.t h.t.1 h.t.2
 have h3:=decI_size o.am h.am.1 h.am.2
 have h4:=decI_size o.fe h.fe.1 h.fe.2
 have h5:o.id.data.size≤16:=h.id
 have h6:o.au.data.size≤16:=h.au
 have h7:o.is.data.size≤16:=h.is
 have h8:o.ac.data.size≤16:=h.ac
 have h9:(if o.fi=true then (⟨#[49]⟩:ByteArray) else ⟨#[48]⟩).size≤1:=by split<;>decide
 unfold joinB bopL
 show (Lib.join _ _).toArray.size≤1000
 rw [List.size_toArray,List.map_cons,Lib.join_cons,List.length_append,Lib.joinTail_length]
 generalize (if o.fi=true then (⟨#[49]⟩:ByteArray) else ⟨#[48]⟩)=z at*
 simp only [Lib.lens,List.map_cons,List.map_nil,List.sum_cons,List.sum_nil,List.length_cons,List.length_nil,Array.length_toList]
 simp only [ByteArray.size] at h1 h2 h3 h4 h9
 omega
theorem str_Join (n:Nat) (L:List ByteArray) (sep:ByteArray) (h0:0<n) (hN:n≤1000000) (hlen:(joinB L sep).size≤140737488355328):
  FC Tryz.prog 2 23 [.sl 1 0 0 n,.str sep] [(1,some (.one true (.cols n [.sc (.strs L)])))] (isOut (.str (joinB L sep)) [] 2):=
 fc_join (fun bk o c xs sep w h1 h2 h3 h4 h5=>Tryz.strings_Join bk o c xs sep w h1 h2 h3 h4 h5) (bodied_of Tryz.func23 (by kernel_rfl) (by kernel_rfl)) n L sep h0 hN hlen
theorem bk_Encode_ok (o:Bop) (hc:ckE o=0):Glob Tryz.prog glT 8 [o.s] (.tup [.str (bopT o),.int .i64 0]):=by
 have c1:=bk_check o
 rw [hc] at c1
 have hs:=bop_sz (ck_ok hc)
 have hj:=bop_join hs
 have g1:=conv_Itoa o.k hs.k.1 hs.k.2
 have g2:=conv_Itoa o.t hs.t.1 hs.t.2
 have g3:=conv_FormatInt o.am hs.am.1 hs.am.2
 have g4:=conv_FormatInt o.fe hs.fe.1 hs.fe.2
 have c2:=str_Join 9 (bopL o) ⟨#[124]⟩ (by decide) (by decide) (by omega)
 unfold bopT
 unfold bopL at c2⊢
 obtain ⟨k,t,id,au,is,ac,am,fe,fi⟩:=o
 cases fi with
 |true=>
  rw [if_pos rfl] at c2
  rw [if_pos rfl]
  refine fc_of mixed T_ok Tryz.func8 rfl (by kernel_rfl) (by kernel_rfl) (by kernel_rfl) ?_
  repeat' ((conv=>whnf);first|(refine vcall_pure (c1) rfl rfl rfl ?_)|(refine vcallD_pure (c1) rfl rfl rfl ?_)|(refine vcall_glob (g1) rfl rfl rfl rfl ?_)|(refine vcallD_glob (g1) rfl rfl rfl rfl ?_)|(refine vcall_glob (g2) rfl rfl rfl rfl ?_)|(refine vcallD_glob (g2) rfl rfl rfl rfl ?_)|(refine vcall_glob (g3) rfl rfl rfl rfl ?_)|(refine vcallD_glob (g3) rfl rfl rfl rfl ?_)|(refine vcall_glob (g4) rfl rfl rfl rfl ?_)|(refine vcallD_glob (g4) rfl rfl rfl rfl ?_)|refine vcall_o (l:= [0,2]) (c2) ?_|refine vcallD_o (l:= [0,2]) (c2) ?_|((first|apply br_dec|apply br_ndec)<;>intro h<;>try (exfalso;(try dsimp only at h);omega))|((first|apply br_seq|apply br_nseq|apply br_not|apply br_intro)<;>intro h)|refine cond_a ?_)
  all_goals (conv=>whnf)
  all_goals first
   |(exfalso;omega)
   |(exfalso;exact h rfl)
   |exact ret_pure rfl
   |trace_state
 |false=>
  rw [if_neg (fun e=>Bool.noConfusion e)] at c2
  rw [if_neg (fun e=>Bool.noConfusion e)]
  refine fc_of mixed T_ok Tryz.func8 rfl (by kernel_rfl) (by kernel_rfl) (by kernel_rfl) ?_
  repeat' ((conv=>whnf);first|(refine vcall_pure (c1) rfl rfl rfl ?_)|(refine vcallD_pure (c1) rfl rfl rfl ?_)|(refine vcall_glob (g1) rfl rfl rfl rfl ?_)|(refine vcallD_glob (g1) rfl rfl rfl rfl ?_)|(refine vcall_glob (g2) rfl rfl rfl rfl ?_)|(refine vcallD_glob (g2) rfl rfl rfl rfl ?_)|(refine vcall_glob (g3) rfl rfl rfl rfl ?_)|(refine vcallD_glob (g3) rfl rfl rfl rfl ?_)|(refine vcall_glob (g4) rfl rfl rfl rfl ?_)|(refine vcallD_glob (g4) rfl rfl rfl rfl ?_)|refine vcall_o (l:= [0,2]) (c2) ?_|refine vcallD_o (l:= [0,2]) (c2) ?_|((first|apply br_dec|apply br_ndec)<;>intro h<;>try (exfalso;(try dsimp only at h);omega))|((first|apply br_seq|apply br_nseq|apply br_not|apply br_intro)<;>intro h)|refine cond_a ?_)
  all_goals (conv=>whnf)
  all_goals first
   |(exfalso;omega)
   |(exfalso;exact h rfl)
   |exact ret_pure rfl
   |trace_state
end Go.Proofs.YtlankgapiecloaaGreatDoor
namespace Go.Proofs.YtlankgapiecloaaGreatDoor
open Go.RowKit Go.Sy
set_option linter.unusedVariables false
set_option linter.unusedSimpArgs false
theorem ix_hit (c:UInt8) (r:List UInt8):∀{x:List UInt8},c∉x→Lib.indexByte (x++c::r) c=(x.length:Int)
 | [],_=>by
   show Lib.indexByte (c::r) c=0
   unfold Lib.indexByte
   rw [if_pos (by simp)]
 |b::x,h=>by
  have h1:b≠c:=fun e=>h (by rw [e];exact List.mem_cons_self ..)
  have h2:=ix_hit c r (x:=x) (fun e=>h (List.mem_cons_of_mem _ e))
  rw [List.cons_append]
  unfold Lib.indexByte
  rw [if_neg (by simpa using h1),h2,if_neg (by
   intro e
   have:=beq_iff_eq.1 e
   omega)]
  simp
theorem split_tail (c:UInt8):∀(L:List (List UInt8)) (x:List UInt8),c∉x→(∀y∈L,c∉y)→Lib.splitK [c] 0 L.length (x++Lib.joinTail [c] L)=x::L
 | [],x,hx,_=>by simp [Lib.joinTail,Lib.splitK]
 |y::L,x,hx,hL=>by
  have e:x++Lib.joinTail [c] (y::L)=x++c::(y++Lib.joinTail [c] L):=by simp [Lib.joinTail]
  rw [e,List.length_cons]
  unfold Lib.splitK
  rw [Lib.index_one,ix_hit c _ hx,if_neg (by
   intro e
   have:=beq_iff_eq.1 e
   omega)]
  have ih:=split_tail c L y (hL y (List.mem_cons_self ..)) (fun z hz=>hL z (List.mem_cons_of_mem _ hz))
  rw [Int.toNat_natCast,Nat.add_zero,List.take_left' rfl]
  have e2:(x++c::(y++Lib.joinTail [c] L)).drop (x.length+ [c].length)=y++Lib.joinTail [c] L:=by
   rw [←List.drop_drop,List.drop_left' rfl];rfl
  rw [e2,ih]
theorem count_tail (c:UInt8):∀(L:List (List UInt8)),(∀y∈L,c∉y)→(Lib.joinTail [c] L).count c=L.length
 | [],_=>by simp [Lib.joinTail]
 |y::L,hL=>by
  have e:Lib.joinTail [c] (y::L)=c::(y++Lib.joinTail [c] L):=by simp [Lib.joinTail]
  rw [e,List.count_cons_self,List.count_append,List.count_eq_zero.2 (hL y (List.mem_cons_self ..)),count_tail c L (fun z hz=>hL z (List.mem_cons_of_mem _ hz)),List.length_cons]
  omega
theorem split_join (c:UInt8) (x:ByteArray) (L:List ByteArray) (hx:c∉x.data.toList) (hL:∀y∈L,c∉y.data.toList):
  Lib.countB (joinB (x::L) ⟨#[c]⟩) ⟨#[c]⟩=L.length∧Lib.splitB ⟨#[c]⟩ 0 L.length (joinB (x::L) ⟨#[c]⟩)=x::L:=by
 have hL2:∀y∈L.map (·.data.toList),c∉y:=fun y hy=>by
  obtain ⟨z,hz,rfl⟩:=List.mem_map.1 hy
  exact hL z hz
 have e:(joinB (x::L) ⟨#[c]⟩).data.toList=x.data.toList++Lib.joinTail [c] (L.map (·.data.toList)):=by
  unfold joinB
  show (Lib.join _ _).toArray.toList=_
  rw [List.toList_toArray,List.map_cons,Lib.join_cons]
 constructor
 ·show Lib.count _ [c]=_
  rw [e,Lib.count_one,List.count_append,List.count_eq_zero.2 hx,count_tail c _ hL2,List.length_map,Nat.zero_add]
 ·have h:=Lib.splitB_data ⟨#[c]⟩ 0 L.length (joinB (x::L) ⟨#[c]⟩)
  rw [e] at h
  have h2:=split_tail c (L.map (·.data.toList)) x.data.toList hx hL2
  rw [List.length_map] at h2
  rw [show (⟨#[c]⟩:ByteArray).data.toList= [c] from rfl,h2,←List.map_cons (f:=fun b:ByteArray=>b.data.toList)] at h
  refine List.map_inj_right (f:=fun b:ByteArray=>b.data.toList) (fun a b hab=> ?_)|>.1 h
  cases a;cases b
  exact congrArg ByteArray.mk (Array.toList_inj.1 hab)
end Go.Proofs.YtlankgapiecloaaGreatDoor
namespace Go.Proofs.YtlankgapiecloaaGreatDoor
open Go.RowKit Go.Sy
attribute [local irreducible] vcall vloop vcallD retP
set_option maxRecDepth 100000
set_option linter.unusedVariables false
set_option linter.unusedSimpArgs false
theorem relab_ent_start {H:Heap} {n a:Nat} {F:Nat→Blk} (ha:a<n) (hta:hget H a=some (.one false (.cols 0 [.sc (.strs []),.sc (.ints .i64 []),.svs []]))):
  Relab H n (fun _ _=>none) (fun _=>0) [(a,some (.one false (.cols 0 [.sc (.strs []),.sc (.ints .i64 []),.own n []]))),(n+0,some (.fam false (fun x=>x<0) F))] [] 1:=by
 refine relab_none (n:=n) (th:=a) [⟨0,0,F⟩] ha hta (ble_cols ⟨⟨fun _=>rfl,fun i hi=>sle_refl _⟩,⟨fun _=>rfl,fun i hi=>sle_refl _⟩,⟨fun _=>rfl,fun i hi=>absurd hi (Nat.not_lt_zero _)⟩,trivial⟩)
def nmE (A:List ByteArray):List ByteArray→Int
 | []=>0
 |a::L=>if labB a=false then 5 else if inL a A then 7 else nmE (A++ [a]) L
def lnwE (L:List ByteArray):Int:=if 512<L.length then 3 else nmE [] L
def lg0 (L:List ByteArray):Lg:=⟨L.length,L,0,[],0,[],fun _ _=>0,0⟩
theorem nmE_ok:∀(L A:List ByteArray),nmE A L=0→A.Nodup→(A++L).Nodup∧∀a∈L,labB a=true
 | [],A,_,hA=>⟨by simpa using hA,by simp⟩
 |a::L,A,h,hA=>by
  simp only [nmE] at h
  split at h
  ·cases h
  ·rename_i h1
   split at h
   ·cases h
   ·rename_i h2
    have h2':a∉A:=fun hm=>h2 (in_iff.2 hm)
    have hA2:(A++ [a]).Nodup:=List.nodup_append.2 ⟨hA,by simp,fun x hx y hy e=>by simp at hy;subst hy;subst e;exact h2' hx⟩
    obtain ⟨i1,i2⟩:=nmE_ok L (A++ [a]) h hA2
    rw [List.append_assoc] at i1
    refine ⟨i1,fun x hx=> ?_⟩
    rcases List.mem_cons.1 hx with rfl|hx
    ·simpa using h1
    ·exact i2 x hx
theorem lg0_ok {L:List ByteArray} (h:lnwE L=0):LgOk (lg0 L):=by
 unfold lnwE at h
 split at h
 ·cases h
 rename_i h1
 obtain ⟨i1,i2⟩:=nmE_ok L [] h List.nodup_nil
 exact ⟨rfl,by show L.length≤512;omega,(by rw [List.nil_append] at i1;exact i1),i2,rfl,by show (0:Nat)≤512;omega,List.nodup_nil,(fun e he=>absurd he (List.not_mem_nil)),rfl,Nat.le_refl _,(fun x hx=>absurd hx (List.not_mem_nil)),fun a c=>rfl,fun a c=>by show (-4503599627370496:Int)≤0∧(0:Int)≤4503599627370496;omega,by show (0:Int)≤0∧(0:Int)<18446744073709551616;omega⟩
theorem nm_step {L:List ByteArray} {k:Nat} (hk:k<L.length):nmE (L.take k) (L.drop k)=if labB (L.getD k ⟨#[]⟩)=false then 5 else if inL (L.getD k ⟨#[]⟩) (L.take k) then 7 else nmE (L.take (k+1)) (L.drop (k+1)):=by
 rw [List.drop_eq_getElem_cons hk]
 simp only [nmE]
 rw [List.getD,List.getElem?_eq_getElem hk,List.take_add_one,List.getElem?_eq_getElem hk]
 rfl
theorem acc_put {L:List ByteArray} {k:Nat} (hk:k<L.length) (hix:sidx (L.take k) (L.getD k ⟨#[]⟩)=k):
  (some (HB.one false (.obj (.map false false (if sidx (L.take k) (L.getD k ⟨#[]⟩)<k then k else k+1) [.strs (putL (sidx (L.take k) (L.getD k ⟨#[]⟩)) (L.getD k ⟨#[]⟩) (L.take k))] [.sc (.bools (putL (sidx (L.take k) (L.getD k ⟨#[]⟩)) true (List.replicate k true)))] (if sidx (L.take k) (L.getD k ⟨#[]⟩)<k then List.range k else List.range k++ [k]) (if sidx (L.take k) (L.getD k ⟨#[]⟩)<k then k else k+1)))):Option HB)
   =some (.one false (.obj (.map false false (k+1) [.strs (L.take (k+1))] [.sc (.bools (List.replicate (k+1) true))] (List.range (k+1)) (k+1)))):=by
 rw [hix]
 simp only [Nat.lt_irrefl,if_false]
 rw [lg_putNew (l:=L.take k) (by rw [List.length_take];omega),lg_putNew (l:=List.replicate k true) (by simp),List.range_succ,List.replicate_succ',List.take_add_one,List.getD,List.getElem?_eq_getElem hk]
 rfl
attribute [local irreducible] seq ByteArray.extract nmE
abbrev nwH (n k:Nat) (L:List ByteArray):Heap:= [(1,some (.one true (.cols n [.sc (.strs L)]))),(2,some (.one false (.obj (.map false false k [.strs (L.take k)] [.sc (.bools (List.replicate k true))] (List.range k) k)))),(3,some (.one false (.obj (.map false false 0 [.strs []] [.sc (.ints .i64 [])] [] 0)))),(4,some (.one false (.obj (.map false false 0 [.strs []] [.sc (.bools [])] [] 0)))),(5,some (.one false (.obj (.map true false 0 [.strs [],.strs []] [.sc (.ints .i64 [])] [] 0)))),(6,some (.one false (.cells [.map 2 0,.nsl,.map 3 0,.map 4 0,.map 5 0,.int .u64 0])))]
theorem lg_New_ok (L:List ByteArray) (n:Nat) (hn:L.length=n) (h:lnwE L=0):FC Tryz.prog 2 18 [.sl 1 0 0 n] [(1,some (.one true (.cols n [.sc (.strs L)])))]
  (isOut (.tup [.ptr 2 0 0 0,.int .i64 0]) [(7,lgBg false (lg0 L)),(2,some (.one false (.cells (lgF 3 4 5 6 7 (lg0 L))))),(3,some (.one false (lgAcc (lg0 L)))),(4,some (.one false (lgEnt 8 (lg0 L)))),(5,some (.one false (lgPl (lg0 L)))),(6,some (.one false (lgSt (lg0 L)))),(8,lgFam false (lg0 L))] 9):=by
 have h512:n≤512:=by
  unfold lnwE at h
  split at h
  ·cases h
  ·omega
 have e:lnwE L=nmE [] L:=by unfold lnwE;rw [if_neg (by omega)]
 rw [e] at h
 refine fc_bag_out (x:=⟨[],[],[],0⟩) ⟨[],rfl,rfl,rfl,List.Pairwise.nil,fun a c=>rfl,Nat.zero_le _⟩ ?_
 unfold lg0
 rw [hn]
 refine fc_of mixed T_ok Tryz.func18 rfl (by kernel_rfl) (by kernel_rfl) (by kernel_rfl) ?_
 repeat' ((conv=>whnf);first|((first|apply br_dec|apply br_ndec)<;>intro h<;>try (exfalso;(try dsimp only at h);omega))|((first|apply br_seq|apply br_nseq|apply br_not|apply br_intro)<;>intro h)|refine cond_a ?_)
 all_goals (conv=>whnf)
 all_goals first
  |(exfalso;omega)
  |skip
 refine vloop_of (fun k:Nat=>⟨[(4,.ptr 6 0 0 0),(16,.sl 1 0 0 n),(17,.int .i64 n),(18,.int .i64 k)],nwH n k L,7⟩) (fun k=>k≤n∧nmE [] L=nmE (L.take k) (L.drop k)) (fun k=>n-k) 0 [0,1,2,3,4,5,6] [] ⟨rfl,⟨rfl,rfl,rfl,rfl,trivial⟩,⟨rfl,rfl,rfl,rfl,rfl,rfl,trivial⟩⟩ ⟨Nat.zero_le _,by simp⟩ ?_
 rintro k ⟨hk,hE⟩
 unfold nwH
 by_cases hk2:k<n
 ·rw [nm_step (by omega)] at hE
  have c1:=lg_isLabel (L.getD k ⟨#[]⟩)
  have hrep:=lg_rep k (sidx (L.take k) (L.getD k ⟨#[]⟩))
  have hle:=Go.Sy.sidx_le (L.take k) (L.getD k ⟨#[]⟩)
  have hlk:(L.take k).length=k:=by rw [List.length_take];omega
  by_cases g1:labB (L.getD k ⟨#[]⟩)=false
  ·rw [if_pos g1] at hE;omega
  rw [if_neg g1] at hE
  have g1':labB (L.getD k ⟨#[]⟩)=true:=by simpa using g1
  rw [g1'] at c1
  by_cases g2:inL (L.getD k ⟨#[]⟩) (L.take k)
  ·rw [if_pos g2] at hE;omega
  rw [if_neg g2] at hE
  unfold inL at g2
  rw [decide_eq_false (by omega)] at hrep
  have hrow:=acc_put (L:=L) (k:=k) (by omega) (by omega)
  repeat' ((conv=>whnf);first|(refine vcall_pure (c1) rfl rfl rfl ?_)|(refine vcallD_pure (c1) rfl rfl rfl ?_)|(simp only [lg_tn,hrep])|((first|apply br_dec|apply br_ndec)<;>intro h<;>try (exfalso;(try dsimp only at h);omega))|((first|apply br_seq|apply br_nseq|apply br_not|apply br_intro)<;>intro h)|refine cond_a ?_)
  all_goals (conv=>whnf)
  all_goals first
   |exact ⟨k+1,[0,1,2,3,4,5,6],[],⟨hk2,hE⟩,(show n-(k+1)<n-k by omega),⟨rfl,⟨rfl,rfl,rfl,congrArg (fun z=>some (SV.int .i64 z)) (i64_succ (by omega)),trivial⟩,⟨rfl,hrow,rfl,rfl,rfl,rfl,trivial⟩⟩⟩
   |(exfalso;omega)
 have ek:k=n:=by omega
 subst ek
 rw [show L.take k=L by rw [←hn,List.take_length]]
 repeat' ((conv=>whnf);first|((first|apply br_dec|apply br_ndec)<;>intro h<;>try (exfalso;(try dsimp only at h);omega))|((first|apply br_seq|apply br_nseq|apply br_not|apply br_intro)<;>intro h)|refine cond_a ?_)
 all_goals (conv=>whnf)
 all_goals first
  |(exfalso;omega)
  |exact ret_up (l:= [0,1,6,2,7,3,4,5,8]) [.cell 6 1 [.sc (.strs []),.sc (.ints .i64 []),.svs []],.relab (fun _ _=>none) (fun _=>0) [(7,some (.one false (.cols 0 [.sc (.strs []),.sc (.ints .i64 []),.own 8 []]))),(8+0,some (.fam false (fun x=>x<0) (enF [])))] [] 1] ⟨relab_ent_start (n:=8) (a:=7) (by decide) rfl,rfl,rfl,rfl,rfl,rfl,rfl,rfl,rfl,rfl,trivial⟩ (allRw_cons (allRw_cons (allRw_cons (allRw_cons (allRw_cons (allRw_cons (allRw_fam allRw_nil)))))))
end Go.Proofs.YtlankgapiecloaaGreatDoor
namespace Go.Proofs.YtlankgapiecloaaGreatDoor
open Go.RowKit Go.Sy
set_option linter.unusedVariables false
set_option linter.unusedSimpArgs false
attribute [local irreducible] sortI
theorem wdTo_all {s:ByteArray}:∀{n:Nat},wdTo s n=true→∀k,k<n→wdP (byteAt s (k:Int))
 |0,_,k,hk=>absurd hk (Nat.not_lt_zero _)
 |n+1,h,k,hk=>by
  simp only [wdTo,Bool.and_eq_true,decide_eq_true_eq] at h
  rcases Nat.lt_succ_iff_lt_or_eq.1 hk with h1|h1
  ·exact wdTo_all h.1 k h1
  ·subst h1;exact h.2
theorem pty_lab {p:ByteArray} (h:nmB p=true):labB (ptyS p)=true:=by
 unfold nmB at h
 simp only [Bool.and_eq_true,decide_eq_true_eq] at h
 obtain ⟨⟨⟨h1,h2⟩,h3⟩,h4⟩:=h
 have hz:(ptyS p).size=6+p.size:=by unfold ptyS;rw [ByteArray.size_append];rfl
 unfold labB
 rw [Bool.and_eq_true,hz]
 refine ⟨decide_eq_true (by omega),?_⟩
 rw [List.all_eq_true]
 intro i hi
 rw [List.mem_range] at hi
 unfold labC
 refine decide_eq_true ?_
 by_cases hi6:i<6
 ·unfold ptyS
  rw [byteAt_app1 (a:=sPty) (b:=p) (by show i<6;exact hi6)]
  rcases (show i=0∨i=1∨i=2∨i=3∨i=4∨i=5 by omega) with rfl|rfl|rfl|rfl|rfl|rfl<;>decide
 ·have e:=byteAt_app2 (a:=sPty) (b:=p) (i:=i-6)
  rw [show sPty.size+(i-6)=i by show 6+(i-6)=i;omega] at e
  have h5:=wdTo_all h4 (i-6) (by omega)
  unfold wdP ltP at h5
  unfold ptyS
  rw [e]
  omega
theorem nmE_zero:∀(L A:List ByteArray),(A++L).Nodup→(∀a∈L,labB a=true)→nmE A L=0
 | [],A,_,_=>rfl
 |a::L,A,h,hl=>by
  simp only [nmE]
  rw [if_neg (by rw [hl a (List.mem_cons_self ..)];decide)]
  have h1:a∉A:=fun hm=>by
   rw [List.nodup_append] at h
   exact h.2.2 a hm a (List.mem_cons_self ..) rfl
  rw [if_neg (fun hi=>h1 (in_iff.1 hi))]
  exact nmE_zero L (A++ [a]) (by rw [List.append_assoc];exact h) (fun x hx=>hl x (List.mem_cons_of_mem _ hx))
theorem pty_err {L:List ByteArray} (h:nwErr L=0):lnwE (L.map ptyS)=0:=by
 obtain ⟨h1,h2,h3⟩:=nw_ok h
 unfold lnwE
 rw [List.length_map,if_neg (by omega)]
 refine nmE_zero _ _ ?_ ?_
 ·rw [List.nil_append]
  exact (List.Pairwise.map ptyS (R:=fun a b=>a≠b) (S:=fun a b=>a≠b) (fun a b hab e=>hab (ptyS_inj e)) h2)
 ·intro a ha
  obtain ⟨p,hp,rfl⟩:=List.mem_map.1 ha
  exact pty_lab (h3 p hp)
def bkE (cur:ByteArray) (days:Int) (H:List Int) (m:Nat) (cut:Int) (L:List ByteArray):Int:=
 if days<1∨1000<days then 4 else if curB cur=false then 11 else if holE H m≠0 then holE H m else cnE cut L
def bk1 (cur:ByteArray) (days:Int) (H:List Int) (cut:Int) (L:List ByteArray):Bks:=
 ⟨cur,days,0,[],cut,(ddS H).length,ddS H,L.length,L,0,[],[],0,[],lg0 (L.map ptyS),0⟩
theorem bk1_ok {cur:ByteArray} {days:Int} {H:List Int} {m:Nat} {cut:Int} {L:List ByteArray} (h:bkE cur days H m cut L=0):BkOk (bk1 cur days H cut L):=by
 unfold bkE at h
 by_cases h1:days<1∨1000<days
 ·rw [if_pos h1] at h;cases h
 rw [if_neg h1] at h
 by_cases h2:curB cur=false
 ·rw [if_pos h2] at h;cases h
 rw [if_neg h2] at h
 by_cases h3:holE H m≠0
 ·rw [if_pos h3] at h;exact absurd h h3
 rw [if_neg h3] at h
 unfold cnE at h
 by_cases h4:cut<0∨86400<cut
 ·rw [if_pos h4] at h;cases h
 rw [if_neg h4] at h
 have hE:=pty_err h
 exact ⟨lg0_ok hE,rfl,fun a c=>by show-(999999999999*((0:Nat):Int))≤0∧(0:Int)≤999999999999*((0:Nat):Int);omega,rfl,rfl,h,
  ⟨rfl,rfl,List.nodup_nil,fun i hi=>absurd hi (Nat.not_lt_zero _)⟩,rfl,rfl,Nat.zero_le _,by show 1≤days∧days≤1000;omega,by show curB cur=true;simpa using h2,by show (0:Int)≤0∧(0:Int)≤1099511627776;omega,Nat.le_refl _,fun i hi=>absurd hi (Nat.not_lt_zero _)⟩
end Go.Proofs.YtlankgapiecloaaGreatDoor
namespace Go.Proofs.YtlankgapiecloaaGreatDoor
open Go.RowKit Go.Sy
set_option linter.unusedVariables false
set_option linter.unusedSimpArgs false
abbrev u8L (l:List Int):List UInt8:=l.map (fun x=>UInt8.ofNat x.toNat)
theorem bytesOf_list (l:List Int):(bytesOf l).data.toList=u8L l:=by simp [bytesOf]
theorem dig_u8 (k:Nat) (h:k<10):(UInt8.ofNat (((48+k:Nat):Int)).toNat).toNat=48+k:=by
 rw [show (((48+k:Nat):Int)).toNat=48+k from rfl,UInt8.toNat_ofNat']
 omega
theorem pu_digs:∀(n u:Nat),u<10^n→∀(acc:Nat) (rest:List UInt8),acc*10^n+u<1000000000000000000→Lib.parseUint10 acc (u8L (digs n u)++rest)=Lib.parseUint10 (acc*10^n+u) rest
 |0,u,h,acc,rest,_=>by
  have:u=0:=by simpa using h
  subst this
  simp [digs]
 |n+1,u,h,acc,rest,hb=>by
  rw [Nat.pow_succ] at h hb
  have e:acc*(10^n*10)=acc*10^n*10:=by rw [Nat.mul_assoc]
  rw [e] at hb
  generalize hA:acc*10^n=A at*
  have ih:=pu_digs n (u/10) (by omega) acc (UInt8.ofNat (((48+u%10:Nat):Int)).toNat::rest) (by rw [hA];omega)
  rw [hA] at ih
  simp only [u8L,digs,List.map_append,List.map_cons,List.map_nil,List.append_assoc,List.singleton_append] at ih⊢
  rw [ih]
  have hd:=dig_u8 (u%10) (by omega)
  simp only [Lib.parseUint10]
  rw [hd,if_pos (by omega),if_neg (by omega),if_neg (by omega),Nat.pow_succ,e]
  congr 1
  omega
theorem digs_dig:∀(n u:Nat) (x:UInt8),x∈u8L (digs n u)→48≤x.toNat∧x.toNat≤57
 |0,_,x,h=>by simp [digs] at h
 |n+1,u,x,h=>by
  simp only [u8L,digs,List.map_append,List.map_cons,List.map_nil,List.mem_append,List.mem_singleton] at h
  rcases h with h|rfl
  ·exact digs_dig n _ x h
  ·rw [dig_u8 (u%10) (by omega)];omega
theorem pi_dec (n:Nat) (h:n<1000000000000000000):Lib.parseIntB 64 (dec n).data.toList= .ok (n:Int):=by
 rw [Lib.parseIntB_64]
 unfold dec
 rw [bytesOf_list]
 have hp:=pu_digs (ndig n) n (ndig_lt n) 0 [] (by omega)
 rw [List.append_nil,Nat.zero_mul,Nat.zero_add] at hp
 have hd:=digs_dig (ndig n) n
 have hl:(u8L (digs (ndig n) n)).length=ndig n:=by rw [List.length_map,digs_length]
 have h0:=ndig_pos n
 generalize u8L (digs (ndig n) n)=l at*
 cases l with
 |nil=>simp at hl;omega
 |cons c r=>
  have hc:=hd c (by simp)
  simp only [Lib.atoiAll,Lib.parseMag]
  have hn:¬(c.toNat=43∨c.toNat=45):=by omega
  rw [if_neg hn,if_neg (List.cons_ne_nil _ _),hp]
  simp only [Lib.parseUint10]
  rw [if_neg (by omega),if_neg (by omega),if_neg (by omega)]
theorem pi_neg (n:Nat) (h:n<1000000000000000000):Lib.parseIntB 64 (bytesOf (45::digs (ndig n) n)).data.toList= .ok (-(n:Int)):=by
 rw [Lib.parseIntB_64,bytesOf_list]
 have hp:=pu_digs (ndig n) n (ndig_lt n) 0 [] (by omega)
 rw [List.append_nil,Nat.zero_mul,Nat.zero_add] at hp
 have hl:(u8L (digs (ndig n) n)).length=ndig n:=by rw [List.length_map,digs_length]
 have h0:=ndig_pos n
 have e:u8L (45::digs (ndig n) n)=45::u8L (digs (ndig n) n):=rfl
 rw [e]
 generalize u8L (digs (ndig n) n)=l at*
 have hne:l≠[]:=fun q=>by rw [q] at hl;simp at hl;omega
 simp only [Lib.atoiAll,Lib.parseMag]
 rw [if_pos (show (45:UInt8).toNat=43∨(45:UInt8).toNat=45 from .inr rfl),if_neg hne,hp]
 simp only [Lib.parseUint10]
 rw [if_neg (fun q=>q.1 rfl),if_neg (fun q=>by have:=q.2;omega),if_pos (show (45:UInt8).toNat=45 from rfl)]
theorem pi_decI {n:Int} (h1: -1000000000000000000<n) (h2:n<1000000000000000000):Lib.parseIntB 64 (decI n).data.toList= .ok n:=by
 unfold decI
 split
 ·have:=pi_neg n.natAbs (by omega)
  rw [this]
  congr 1
  omega
 ·rw [pi_dec n.toNat (by omega)]
  congr 1
  omega
theorem by_not {s:ByteArray} {c:UInt8} (h:∀k,k<s.size→byteAt s (k:Int)≠(c.toNat:Int)):c∉s.data.toList:=by
 intro hm
 obtain ⟨k,hk,e⟩:=List.mem_iff_getElem.1 hm
 have hk2:k<s.size:=by show k<s.data.size;rw [←Array.length_toList];exact hk
 refine h k hk2 ?_
 unfold byteAt
 rw [Int.toNat_natCast,List.getD,List.getElem?_eq_getElem hk,e]
 rfl
theorem au_no {s:ByteArray} (h:auI s=true):(124:UInt8)∉s.data.toList:=by
 unfold auI at h
 rw [Bool.and_eq_true,List.all_eq_true] at h
 refine by_not fun k hk=> ?_
 have h1:=h.2 k (List.mem_range.2 hk)
 unfold auC at h1
 have h1:=of_decide_eq_true h1
 show byteAt s (k:Int)≠124
 omega
theorem nm_no {s:ByteArray} (h:nmB s=true):(124:UInt8)∉s.data.toList:=by
 unfold nmB at h
 simp only [Bool.and_eq_true] at h
 refine by_not fun k hk=> ?_
 have h1:=wdTo_all h.2 k hk
 unfold wdP ltP at h1
 show byteAt s (k:Int)≠124
 omega
theorem fi_no {s:ByteArray} {u:Bool} {p:ByteArray→Bool} (h:fiB s u p=true) (hp:p s=true→(124:UInt8)∉s.data.toList):(124:UInt8)∉s.data.toList:=by
 unfold fiB at h
 cases u with
 |true=>exact hp h
 |false=>have e:s=⟨#[]⟩:=of_decide_eq_true h;rw [e];decide
theorem de_no (n:Int):(124:UInt8)∉(decI n).data.toList:=by
 unfold decI dec
 split
 ·rw [bytesOf_list]
  intro hm
  rcases List.mem_cons.1 (show (124:UInt8)∈(45:UInt8)::u8L (digs (ndig n.natAbs) n.natAbs) from hm) with h|h
  ·revert h;decide
  ·have:=digs_dig _ _ _ h
   revert this;decide
 ·rw [bytesOf_list]
  intro hm
  have:=digs_dig _ _ _ hm
  revert this;decide
theorem bop_split {o:Bop} (h:CkOk o):Lib.countB (bopT o) ⟨#[124]⟩=8∧Lib.splitB ⟨#[124]⟩ 0 8 (bopT o)=bopL o:=by
 have hn:=h.n
 unfold bkN at hn
 simp only [Bool.and_eq_true] at hn
 unfold bopT bopL
 refine split_join 124 (decI o.k) [decI o.t,o.id,o.au,o.is,o.ac,decI o.am,decI o.fe,if o.fi=true then ⟨#[49]⟩ else ⟨#[48]⟩] (de_no _) ?_
 intro y hy
 simp only [List.mem_cons,List.not_mem_nil,or_false] at hy
 rcases hy with rfl|rfl|rfl|rfl|rfl|rfl|rfl|rfl
 ·exact de_no _
 ·exact fi_no hn.1 au_no
 ·exact fi_no hn.2.1 au_no
 ·exact fi_no hn.2.2.1 nm_no
 ·exact fi_no hn.2.2.2 nm_no
 ·exact de_no _
 ·exact de_no _
 ·split<;>decide
end Go.Proofs.YtlankgapiecloaaGreatDoor
namespace Go.Proofs.YtlankgapiecloaaGreatDoor
open Go.RowKit Go.Sy
attribute [local irreducible] vcall vloop vcallD retP sortI
set_option maxRecDepth 100000
set_option linter.unusedVariables false
set_option linter.unusedSimpArgs false
theorem str_genSplit (s:ByteArray) (c:UInt8) (k:Nat) (hs:s.size≤100000) (hk:Lib.countB s ⟨#[c]⟩=k):
  FC Tryz.prog 1 53 [.str s,.str ⟨#[c]⟩,.int .i64 0,.int .i64 (-1)] [] (isOut (.sl 1 0 0 (k+1)) [(1,some (.one false (.cols (k+1) [.sc (.strs (Lib.splitB ⟨#[c]⟩ 0 k s))])))] 2):=by
 have hle:=Lib.countB_le ⟨#[c]⟩ (Nat.le_refl 1) s.size s (Nat.le_refl _)
 have hlen:(Lib.splitB ⟨#[c]⟩ 0 k s).length=k+1:=Lib.splitB_all ⟨#[c]⟩ (Nat.le_refl 1) 0 _ s hk
 have key:=fc_fresh (P:=Tryz.prog) (f:=53) (args:= [.str s,.str ⟨#[c]⟩,.int .i64 0,.int .i64 (-1)]) (vals:= [.string s,.string ⟨#[c]⟩,.int .i64 0,.int .i64 (-1)]) (Lib.splitB ⟨#[c]⟩ 0 k s) (Tryz.lays146_ren.t 9)
  (bodied_of' Tryz.func53 (by kernel_rfl) (by kernel_rfl)) (fun g vs h=>by
   simp only [Rvs,Rv] at h
   obtain ⟨_,_,rfl,rfl,_,_,rfl,rfl,_,_,rfl,rfl,_,_,rfl,rfl,rfl⟩:=h
   rfl) (fun w=>by
   have h:=Any.strings_genSplit_core { Tryz.lays146 with} (by kernel_rfl) s ⟨#[c]⟩ 0 (-1) (k+1) w (by omega) (Nat.le_refl 1) (Nat.zero_le _)
    (fun x cs hx=>by
     refine (Any.strings_Index_one { Tryz.lays146 with} x c _).mono ?_
     rintro e w' ⟨rfl,rfl⟩
     refine ⟨?_,rfl⟩
     show _=Ending.returned (Value.int .i64 (Lib.index x.data.toList [c]))
     rw [Lib.index_one])
    (by
     refine (Any.strings_Count_one { Tryz.lays146 with} s c w).mono ?_
     rintro e w' ⟨rfl,rfl⟩
     refine ⟨?_,rfl⟩
     show _=Ending.returned (Value.int .i64 ((Lib.count s.data.toList [c]:Nat):Int))
     rw [Lib.count_one];rfl)
    (by decide) (by decide) (by rw [if_pos (by decide),hk];omega)
   refine h.mono ?_
   rintro e w' ⟨rfl,rfl⟩
   rw [Nat.add_sub_cancel,hlen]
   refine ⟨rfl,?_⟩
   have e2:Lib.cellsOf (Lib.splitB ⟨#[c]⟩ 0 k s) (k+1)=((Lib.splitB ⟨#[c]⟩ 0 k s).map Value.string).toArray:=by rw [←hlen];exact Lib.cellsOf_full _
   rw [e2])
 rw [hlen] at key
 exact key
theorem str_Split (s:ByteArray) (c:UInt8) (k:Nat) (hs:s.size≤100000) (hk:Lib.countB s ⟨#[c]⟩=k):
  FC Tryz.prog 1 37 [.str s,.str ⟨#[c]⟩] [] (isOut (.sl 1 0 0 (k+1)) [(1,some (.one false (.cols (k+1) [.sc (.strs (Lib.splitB ⟨#[c]⟩ 0 k s))])))] 2):=by
 have c1:=str_genSplit s c k hs hk
 generalize Lib.splitB ⟨#[c]⟩ 0 k s=L at*
 refine fc_of mixed T_ok Tryz.func37 rfl (by kernel_rfl) (by kernel_rfl) (by kernel_rfl) ?_
 repeat' ((conv=>whnf);first|refine vcall_o (l:= [0]) (c1) ?_|refine vcallD_o (l:= [0]) (c1) ?_|((first|apply br_dec|apply br_ndec)<;>intro h<;>try (exfalso;(try dsimp only at h);omega))|((first|apply br_seq|apply br_nseq|apply br_not|apply br_intro)<;>intro h)|refine cond_a ?_)
 all_goals (conv=>whnf)
 all_goals first
  |exact ret_out (l:= [0,1]) rfl rfl ⟨rfl,trivial⟩ (allRw_cons allRw_nil)
  |trace_state
theorem bk_number (n:Int) (h1: -1000000000000000000<n) (h2:n<1000000000000000000):Glob Tryz.prog glT 38 [.str (decI n)] (.tup [.int .i64 n,.bool true]):=by
 have hz:=decI_size n (by omega) (by omega)
 have c1:Pure Tryz.prog 54 [.str (decI n),.int .i64 10,.int .i64 64] (.tup [.int .i64 n,.nif]):=by
  refine pure_of_calls (vals:= [.string (decI n),.int .i64 10,.int .i64 64]) (v:= .tuple #[.int .i64 n,.nilIface]) (bodied_of' Tryz.func54 (by kernel_rfl) (by kernel_rfl)) ?_ ?_ ?_
  ·intro g vs h
   simp only [Rvs,Rv] at h
   obtain ⟨_,_,rfl,rfl,_,_,rfl,rfl,_,_,rfl,rfl,rfl⟩:=h
   rfl
  ·intro g;simp [Rv,Rvs]
  ·intro w
   refine (Tryz.strconv_ParseInt_10_at64_ok (decI n) (by omega) n (pi_decI h1 h2) w).mono ?_
   rintro e w' ⟨rfl,hw⟩
   refine ⟨rfl,?_⟩
   rcases hw with rfl|⟨t,rfl⟩
   ·exact Below.refl _ _
   ·exact Lib.bytesWorld_below _ _ _
 have c2:=conv_FormatInt n (by omega) (by omega)
 have hq:seq (decI n) (decI n)=true:=decide_eq_true rfl
 refine fc_of mixed T_ok Tryz.func38 rfl (by kernel_rfl) (by kernel_rfl) (by kernel_rfl) ?_
 repeat' ((conv=>whnf);first|(refine vcall_pure (c1) rfl rfl rfl ?_)|(refine vcallD_pure (c1) rfl rfl rfl ?_)|(refine vcall_glob (c2) rfl rfl rfl rfl ?_)|(refine vcallD_glob (c2) rfl rfl rfl rfl ?_)|(rw [hq])|((first|apply br_dec|apply br_ndec)<;>intro h<;>try (exfalso;(try dsimp only at h);omega))|((first|apply br_seq|apply br_nseq|apply br_not|apply br_intro)<;>intro h)|refine cond_a ?_)
 all_goals (conv=>whnf)
 all_goals first
  |(exfalso;exact h hq)
  |(exfalso;exact Bool.noConfusion (hq.symm.trans h))
  |exact ret_pure rfl
  |trace_state
end Go.Proofs.YtlankgapiecloaaGreatDoor
namespace Go.Proofs.YtlankgapiecloaaGreatDoor
open Go.RowKit Go.Sy
attribute [local irreducible] vcall vloop vcallD retP sortI seq ByteArray.extract
set_option maxRecDepth 100000
set_option linter.unusedVariables false
set_option linter.unusedSimpArgs false
theorem bop_bd {o:Bop} (h:CkOk o):(-1000000000000000000<o.k∧o.k<1000000000000000000)∧(-1000000000000000000<o.t∧o.t<1000000000000000000)∧(-1000000000000000000<o.am∧o.am<1000000000000000000)∧(-1000000000000000000<o.fe∧o.fe<1000000000000000000):=by
 have ha:=h.a
 have hk:=h.k
 have ht:=h.t
 have hf:=h.f
 have hb: -999999999999≤o.am∧o.am≤999999999999:=by
  unfold pmB at ha
  repeat' split at ha
  all_goals (have ha:=of_decide_eq_true ha;omega)
 have hfe:o.fe≤999999999999:=by
  have:=hf.2
  split at this<;>omega
 omega
theorem sq_10:seq ⟨#[49]⟩ ⟨#[48]⟩=false:=by unfold seq;decide
theorem sq_11:seq ⟨#[49]⟩ ⟨#[49]⟩=true:=by unfold seq;decide
theorem sq_00:seq ⟨#[48]⟩ ⟨#[48]⟩=true:=by unfold seq;decide
theorem sq_01:seq ⟨#[48]⟩ ⟨#[49]⟩=false:=by unfold seq;decide
theorem dec_gen (X:List ByteArray) (tx:ByteArray) (k t am fe:Int) (fi:Bool) (hw1:IntKind.i64.wrap k=k) (hw2:IntKind.i64.wrap t=t)
  (c1:FC Tryz.prog 1 37 [.str tx,.str ⟨#[124]⟩] [] (isOut (.sl 1 0 0 (8+1)) [(1,some (.one false (.cols (8+1) [.sc (.strs X)])))] 2))
  (g1:Glob Tryz.prog glT 38 [.str (X.getD 0 ⟨#[]⟩)] (.tup [.int .i64 k,.bool true])) (g2:Glob Tryz.prog glT 38 [.str (X.getD 1 ⟨#[]⟩)] (.tup [.int .i64 t,.bool true]))
  (g3:Glob Tryz.prog glT 38 [.str (X.getD 6 ⟨#[]⟩)] (.tup [.int .i64 am,.bool true])) (g4:Glob Tryz.prog glT 38 [.str (X.getD 7 ⟨#[]⟩)] (.tup [.int .i64 fe,.bool true]))
  (p0:seq (X.getD 8 ⟨#[]⟩) ⟨#[48]⟩= !fi) (p1:seq (X.getD 8 ⟨#[]⟩) ⟨#[49]⟩=fi)
  (c2:Pure Tryz.prog 21 [.agg [.int .i64 k,.int .i64 t,.str (X.getD 2 ⟨#[]⟩),.str (X.getD 3 ⟨#[]⟩),.str (X.getD 4 ⟨#[]⟩),.str (X.getD 5 ⟨#[]⟩),.int .i64 am,.int .i64 fe,.bool fi]] (.int .i64 0)):
  Glob Tryz.prog glT 19 [.str tx] (.tup [.agg [.int .i64 k,.int .i64 t,.str (X.getD 2 ⟨#[]⟩),.str (X.getD 3 ⟨#[]⟩),.str (X.getD 4 ⟨#[]⟩),.str (X.getD 5 ⟨#[]⟩),.int .i64 am,.int .i64 fe,.bool fi],.int .i64 0]):=by
 have q0:seq (X.getD (Int.toNat 8+0) ⟨#[]⟩) ⟨#[48]⟩= !fi:=p0
 have q1:seq (X.getD (Int.toNat 8+0) ⟨#[]⟩) ⟨#[49]⟩=fi:=p1
 cases fi with
 |true=>
  refine fc_of mixed T_ok Tryz.func19 rfl (by kernel_rfl) (by kernel_rfl) (by kernel_rfl) ?_
  repeat' ((conv=>whnf);first|(rw [q0])|(rw [q1])|(rw [hw1])|(rw [hw2])|refine vcall_o (l:= [0]) (c1) ?_|refine vcallD_o (l:= [0]) (c1) ?_|(refine vcall_glob (g1) rfl rfl rfl rfl ?_)|(refine vcallD_glob (g1) rfl rfl rfl rfl ?_)|(refine vcall_glob (g2) rfl rfl rfl rfl ?_)|(refine vcallD_glob (g2) rfl rfl rfl rfl ?_)|(refine vcall_glob (g3) rfl rfl rfl rfl ?_)|(refine vcallD_glob (g3) rfl rfl rfl rfl ?_)|(refine vcall_glob (g4) rfl rfl rfl rfl ?_)|(refine vcallD_glob (g4) rfl rfl rfl rfl ?_)|(refine vcall_pure (c2) rfl rfl rfl ?_)|(refine vcallD_pure (c2) rfl rfl rfl ?_)|((first|apply br_dec|apply br_ndec)<;>intro h<;>try (exfalso;(try dsimp only at h);omega))|((first|apply br_seq|apply br_nseq|apply br_not|apply br_intro)<;>intro h)|refine cond_a ?_)
  all_goals (conv=>whnf)
  all_goals first
   |(exfalso;omega)
   |(exfalso;exact h rfl)
   |exact ret_pure rfl
   |trace_state
 |false=>
  refine fc_of mixed T_ok Tryz.func19 rfl (by kernel_rfl) (by kernel_rfl) (by kernel_rfl) ?_
  repeat' ((conv=>whnf);first|(rw [q0])|(rw [q1])|(rw [hw1])|(rw [hw2])|refine vcall_o (l:= [0]) (c1) ?_|refine vcallD_o (l:= [0]) (c1) ?_|(refine vcall_glob (g1) rfl rfl rfl rfl ?_)|(refine vcallD_glob (g1) rfl rfl rfl rfl ?_)|(refine vcall_glob (g2) rfl rfl rfl rfl ?_)|(refine vcallD_glob (g2) rfl rfl rfl rfl ?_)|(refine vcall_glob (g3) rfl rfl rfl rfl ?_)|(refine vcallD_glob (g3) rfl rfl rfl rfl ?_)|(refine vcall_glob (g4) rfl rfl rfl rfl ?_)|(refine vcallD_glob (g4) rfl rfl rfl rfl ?_)|(refine vcall_pure (c2) rfl rfl rfl ?_)|(refine vcallD_pure (c2) rfl rfl rfl ?_)|((first|apply br_dec|apply br_ndec)<;>intro h<;>try (exfalso;(try dsimp only at h);omega))|((first|apply br_seq|apply br_nseq|apply br_not|apply br_intro)<;>intro h)|refine cond_a ?_)
  all_goals (conv=>whnf)
  all_goals first
   |(exfalso;omega)
   |(exfalso;exact h rfl)
   |exact ret_pure rfl
   |trace_state
theorem bk_Decode_ok (o:Bop) (hc:ckE o=0):Glob Tryz.prog glT 19 [.str (bopT o)] (.tup [o.s,.int .i64 0]):=by
 have hO:=ck_ok hc
 obtain ⟨b1,b2,b3,b4⟩:=bop_bd hO
 have hz:=bop_join (bop_sz hO)
 obtain ⟨s1,s2⟩:=bop_split hO
 have c1:=str_Split (bopT o) 124 8 (Nat.le_trans hz (by decide)) s1
 rw [s2] at c1
 have c2:=bk_check o
 rw [hc] at c2
 refine dec_gen (bopL o) (bopT o) o.k o.t o.am o.fe o.fi (w64_in (by omega) (by omega)) (w64_in (by omega) (by omega)) c1 (bk_number o.k b1.1 b1.2) (bk_number o.t b2.1 b2.2) (bk_number o.am b3.1 b3.2) (bk_number o.fe b4.1 b4.2) ?_ ?_ c2
 ·show seq (if o.fi=true then (⟨#[49]⟩:ByteArray) else ⟨#[48]⟩) ⟨#[48]⟩= !o.fi
  cases o.fi
  ·exact sq_00
  ·exact sq_10
 ·show seq (if o.fi=true then (⟨#[49]⟩:ByteArray) else ⟨#[48]⟩) ⟨#[49]⟩=o.fi
  cases o.fi
  ·exact sq_01
  ·exact sq_11
end Go.Proofs.YtlankgapiecloaaGreatDoor
namespace Go.Proofs.YtlankgapiecloaaGreatDoor
open Go.RowKit Go.Sy
set_option linter.unusedVariables false
set_option linter.unusedSimpArgs false
def bop0:Bop:=⟨0,0,⟨#[]⟩,⟨#[]⟩,⟨#[]⟩,⟨#[]⟩,0,0,false⟩
def ranS (s0:Bks) (A:List Bop):Bks:=A.foldl doS s0
structure Ran (s0:Bks) (A:List Bop):Prop where
 ok:∀k,k<A.length→doE (ranS s0 (A.take k)) (A.getD k bop0)=0
theorem ran_nil (s0:Bks):Ran s0 []:=⟨fun k h=>absurd h (Nat.not_lt_zero _)⟩
theorem ranS_snoc (s0:Bks) (A:List Bop) (o:Bop):ranS s0 (A++ [o])=doS (ranS s0 A) o:=by
 unfold ranS;rw [List.foldl_append];rfl
theorem ran_snoc {s0:Bks} {A:List Bop} {o:Bop} (h:Ran s0 A) (ho:doE (ranS s0 A) o=0):Ran s0 (A++ [o]):=by
 refine ⟨fun k hk=> ?_⟩
 rw [List.length_append,List.length_singleton] at hk
 by_cases e:k=A.length
 ·subst e
  rw [List.take_append_of_le_length (Nat.le_refl _),List.take_length,List.getD,List.getElem?_append_right (Nat.le_refl _),Nat.sub_self]
  exact ho
 ·rw [List.take_append_of_le_length (by omega),List.getD,List.getElem?_append_left (by omega)]
  exact h.ok k (by omega)
theorem ranS_ok {s0:Bks} (h:BkOk s0):∀A,BkOk (ranS s0 A):=by
 intro A
 unfold ranS
 induction A generalizing s0 with
 |nil=>exact h
 |cons o A ih=>exact ih (do_ok h o)
theorem ranS_next (s0:Bks) (A:List Bop) {k:Nat} (hk:k<A.length):doS (ranS s0 (A.take k)) (A.getD k bop0)=ranS s0 (A.take (k+1)):=by
 rw [←ranS_snoc,show A.take k++ [A.getD k bop0]=A.take (k+1) by rw [List.take_succ_eq_append_getElem hk,List.getD,List.getElem?_eq_getElem hk];rfl]
theorem do_no {s:Bks} {o:Bop} (h:doE s o≠0):doS s o=s:=if_neg h
theorem do_ck {s:Bks} {o:Bop} (h:doE s o=0):ckE o=0:=by
 unfold doE at h
 split at h
 ·rename_i h1;exact absurd h h1
 ·rename_i h1;exact Classical.not_not.1 h1
theorem txt_at (A:List Bop) {k:Nat} (hk:k<A.length):(A.map bopT).getD k ⟨#[]⟩=bopT (A.getD k bop0):=by
 rw [List.getD,List.getElem?_map,List.getElem?_eq_getElem hk,List.getD,List.getElem?_eq_getElem hk];rfl
end Go.Proofs.YtlankgapiecloaaGreatDoor
namespace Go.Proofs.YtlankgapiecloaaGreatDoor
open Go.RowKit Go.Sy
attribute [local irreducible] vcall vloop vcallD retP sortI
set_option maxRecDepth 100000
set_option linter.unusedVariables false
set_option linter.unusedSimpArgs false
def auN (a:Au):List Int:= [a.app,a.rev,a.cle,a.exp,a.att,a.unt,a.pa]
def auF (a:Au):List ByteArray:= [a.id,a.cur,decI a.app,decI a.rev,decI a.cle,decI a.exp,decI a.att,decI a.unt,decI a.pa]
def auT (a:Au):ByteArray:=if checkZ a=0 then joinB (auF a) ⟨#[47]⟩ else ⟨#[]⟩
theorem auN_bd {a:Au} (h:Facts a) {k:Nat} (hk:k<7): -9223372036854775808≤(auN a).getD k 0∧(auN a).getD k 0≤9223372036854775807:=by
 have h1:=h.app
 have h2:=h.rev
 have h3:=h.cle
 have h4:=h.exp
 have h5:=h.time
 have h6:=h.pa
 rcases (show k=0∨k=1∨k=2∨k=3∨k=4∨k=5∨k=6 by omega) with rfl|rfl|rfl|rfl|rfl|rfl|rfl
 ·show _≤a.app∧a.app≤_;omega
 ·show _≤a.rev∧a.rev≤_;omega
 ·show _≤a.cle∧a.cle≤_;omega
 ·show _≤a.exp∧a.exp≤_;omega
 ·show _≤a.att∧a.att≤_;omega
 ·show _≤a.unt∧a.unt≤_;omega
 ·show _≤a.pa∧a.pa≤_;omega
theorem auF_succ (a:Au) {k:Nat} (hk:k<7):(auF a).take (2+k)++ [decI ((auN a).getD k 0)]=(auF a).take (2+k+1):=by
 rcases (show k=0∨k=1∨k=2∨k=3∨k=4∨k=5∨k=6 by omega) with rfl|rfl|rfl|rfl|rfl|rfl|rfl<;>rfl
theorem auT_size {a:Au} (h:Facts a):(joinB (auF a) ⟨#[47]⟩).size≤1000:=by
 have g:∀k,k<7→(decI ((auN a).getD k 0)).size≤21:=fun k hk=>decI_size _ (auN_bd h hk).1 (auN_bd h hk).2
 have h0:(decI a.app).size≤21:=g 0 (by decide)
 have h1:(decI a.rev).size≤21:=g 1 (by decide)
 have h2:(decI a.cle).size≤21:=g 2 (by decide)
 have h3:(decI a.exp).size≤21:=g 3 (by decide)
 have h4:(decI a.att).size≤21:=g 4 (by decide)
 have h5:(decI a.unt).size≤21:=g 5 (by decide)
 have h6:(decI a.pa).size≤21:=g 6 (by decide)
 have h7:a.id.data.size≤16:=auI_16 h.id
 have h8:a.cur.data.size≤3:=curB_len h.cur
 unfold joinB auF
 show (Lib.join _ _).toArray.size≤1000
 rw [List.size_toArray,List.map_cons,Lib.join_cons,List.length_append,Lib.joinTail_length]
 simp only [Lib.lens,List.map_cons,List.map_nil,List.sum_cons,List.sum_nil,List.length_cons,List.length_nil,Array.length_toList]
 simp only [ByteArray.size] at h0 h1 h2 h3 h4 h5 h6
 omega
theorem auth_Encode_no (a:Au) (h:checkZ a≠0):Glob Tryz.prog glT 27 [a.s] (.str ⟨#[]⟩):=by
 have c1:=auth_check a
 generalize checkZ a=E at*
 refine fc_of mixed T_ok Tryz.func27 rfl (by kernel_rfl) (by kernel_rfl) (by kernel_rfl) ?_
 repeat' ((conv=>whnf);first|(refine vcall_pure (c1) rfl rfl rfl ?_)|(refine vcallD_pure (c1) rfl rfl rfl ?_)|((first|apply br_dec|apply br_ndec)<;>intro h<;>try (exfalso;(try dsimp only at h);omega))|((first|apply br_seq|apply br_nseq|apply br_not|apply br_intro)<;>intro h)|refine cond_a ?_)
 all_goals (conv=>whnf)
 all_goals first
  |(exfalso;omega)
  |(exfalso;exact h (by assumption))
  |exact ret_pure rfl
  |trace_state
theorem auth_Encode_ok (a:Au) (h:checkZ a=0):Glob Tryz.prog glT 27 [a.s] (.str (joinB (auF a) ⟨#[47]⟩)):=by
 have c1:=auth_check a
 rw [h] at c1
 have hF:=facts_of h
 have hz:=auT_size hF
 have c2:=str_Join 9 (auF a) ⟨#[47]⟩ (by decide) (by decide) (by omega)
 refine fc_of mixed T_ok Tryz.func27 rfl (by kernel_rfl) (by kernel_rfl) (by kernel_rfl) ?_
 repeat' ((conv=>whnf);first|(refine vcall_pure (c1) rfl rfl rfl ?_)|(refine vcallD_pure (c1) rfl rfl rfl ?_)|((first|apply br_dec|apply br_ndec)<;>intro h<;>try (exfalso;(try dsimp only at h);omega))|((first|apply br_seq|apply br_nseq|apply br_not|apply br_intro)<;>intro h)|refine cond_a ?_)
 all_goals (conv=>whnf)
 all_goals first
  |(exfalso;omega)
  |(exfalso;exact h rfl)
  |skip
 refine vloop_of (fun k:Nat=>⟨[(3,.sl 2 0 0 (2+k)),(28,.sl 3 0 0 7),(29,.int .i64 ((7:Nat):Int)),(30,.int .i64 k)],[(0,some (GB glT)),(2,some (.one false (.cols (2+k) [.sc (.strs ((auF a).take (2+k)))]))),(3,some (.one false (.cols 7 [.sc (.ints .i64 (auN a))])))],4⟩) (fun k=>k≤7) (fun k=>7-k) 0 [0,1,2,3] [] ⟨rfl,⟨rfl,rfl,rfl,rfl,trivial⟩,⟨gwk rfl,rfl,rfl,trivial⟩⟩ (Nat.zero_le _) ?_
 intro k hk
 by_cases hk2:k<7
 ·have hb:=auN_bd hF hk2
  have c3:=conv_FormatInt ((auN a).getD k 0) hb.1 hb.2
  have hT:=congrArg (fun z=>some (HB.one false (Blk.cols (2+k+1) [.sc (.strs z)]))) (auF_succ a hk2)
  generalize auN a=N at*
  generalize auF a=F at*
  repeat' ((conv=>whnf);first|(refine vcall_glob (c3) rfl rfl rfl rfl ?_)|(refine vcallD_glob (c3) rfl rfl rfl rfl ?_)|((first|apply br_dec|apply br_ndec)<;>intro h<;>try (exfalso;(try dsimp only at h);omega))|((first|apply br_seq|apply br_nseq|apply br_not|apply br_intro)<;>intro h)|refine cond_a ?_)
  all_goals (conv=>whnf)
  all_goals first
   |(exfalso;omega)
   |exact ⟨k+1,[0,1,5,3],[],hk2,(show 7-(k+1)<7-k by omega),⟨rfl,⟨rfl,rfl,rfl,congrArg (fun z=>some (SV.int .i64 z)) (i64_succ (by omega)),trivial⟩,⟨gwk rfl,hT,rfl,trivial⟩⟩⟩
   |trace_state
 obtain rfl:k=7:=by omega
 rw [show (auF a).take (2+7)=auF a from rfl]
 generalize auF a=F at*
 repeat' ((conv=>whnf);first|refine vcall_o (l:= [0,2]) (c2) ?_|refine vcallD_o (l:= [0,2]) (c2) ?_|((first|apply br_dec|apply br_ndec)<;>intro h<;>try (exfalso;(try dsimp only at h);omega))|((first|apply br_seq|apply br_nseq|apply br_not|apply br_intro)<;>intro h)|refine cond_a ?_)
 all_goals (conv=>whnf)
 all_goals first
  |(exfalso;omega)
  |exact ret_pure rfl
  |trace_state
theorem auth_Encode (a:Au):Glob Tryz.prog glT 27 [a.s] (.str (auT a)):=by
 unfold auT
 by_cases h:checkZ a=0
 ·rw [if_pos h];exact auth_Encode_ok a h
 ·rw [if_neg h];exact auth_Encode_no a h
theorem auT_sz (a:Au):(auT a).size≤1000:=by
 unfold auT
 split
 ·rename_i h;exact auT_size (facts_of h)
 ·decide
end Go.Proofs.YtlankgapiecloaaGreatDoor
namespace Go.Proofs.YtlankgapiecloaaGreatDoor
open Go.RowKit Go.Sy
attribute [local irreducible] vcall vloop vcallD retP sortI
set_option maxRecDepth 100000
set_option linter.unusedVariables false
set_option linter.unusedSimpArgs false
attribute [local irreducible] seq ByteArray.extract lgE
theorem bk_owe (s:Bks) (o:Bop) (h:BkOk s) (hc:CkOk o) (hk:o.k=4∨o.k=5∨o.k=6) (hi:¬inL o.id s.lg.ids) (hf:¬512≤s.lg.ne):
  FC Tryz.prog 20 180 [.ptr 1 0 0 0,o.s,.str (mtF o),.str (mtG o),.int .i64 (mtN o)] (bkHp s) (isOut (.int .i64 (owX s o.t (mtF o) (mtG o) (mtN o))) (bkOt (if owX s o.t (mtF o) (mtG o) (mtN o)=0 then owS s o else s)) 26):=by
 by_cases hx:owX s o.t (mtF o) (mtG o) (mtN o)=0
 ·rw [if_pos hx,hx]
  exact bk_owe_ok s o h hc hk hi hf hx
 ·rw [if_neg hx]
  exact bk_owe_no s o (mtF o) (mtG o) (mtN o) h hx
theorem i64_ne {n:Nat} (h:¬512≤n):(n:Int)<512:=by omega
theorem bk_mov5 (s:Bks) (o:Bop) (h:BkOk s) (hc:CkOk o) (hk:o.k=5) (hi:¬inL o.id s.lg.ids) (hf:¬512≤s.lg.ne):FC Tryz.prog 20 178 [.agg [],.ptr 1 0 0 0,o.s] (bkHp s) (isOut (.int .i64 (mmE s o)) (bkOt (if mmE s o=0 then mmS s o else s)) 26):=by
 have hb:=mt_bd hc (by omega)
 have eF:mtF o=o.ac:=by unfold mtF;rw [if_pos hk]
 have eG:mtG o=o.is:=by unfold mtG;rw [if_pos hk]
 have eN:mtN o=o.am-o.fe:=by unfold mtN;rw [if_neg (by omega)]
 have hE:mmE s o=owX s o.t (mtF o) (mtG o) (mtN o):=by unfold mmE;rw [if_neg hi,if_neg hf,if_neg (by omega)]
 have hS:mmS s o=owS s o:=by unfold mmS;rw [if_neg (by omega)]
 have c2:=bk_owe s o h hc (by omega) hi hf
 have c1:=lg_Entry s.lg o.id h.lg
 rw [if_neg hi] at c1
 rw [hE,hS]
 rw [eF,eG,eN] at c2⊢
 rw [eN] at hb
 have hw:IntKind.i64.wrap (o.am-o.fe)=o.am-o.fe:=by rw [w64_in (by omega) (by omega)]
 have hfi:=i64_ne hf
 generalize owX s o.t o.ac o.is (o.am-o.fe)=E at*
 generalize (if E=0 then owS s o else s)=S' at*
 refine fc_of mixed T_ok Tryz.func178 rfl (by kernel_rfl) (by kernel_rfl) (by kernel_rfl) ?_
 repeat' ((conv=>whnf);first|(rw [hw])|refine vcall_o (l:= [0,4,5,6,7,8,9,10]) (c1) ?_|refine vcallD_o (l:= [0,4,5,6,7,8,9,10]) (c1) ?_|refine vcall_o (l:= [0,1,2,3,4,5,6,7,8,9,10,11,12,13,14,15,16,17,18,19]) (c2) ?_|refine vcallD_o (l:= [0,1,2,3,4,5,6,7,8,9,10,11,12,13,14,15,16,17,18,19]) (c2) ?_|((first|apply br_dec|apply br_ndec)<;>intro h<;>try (exfalso;(try dsimp only at h);omega))|((first|apply br_seq|apply br_nseq|apply br_not|apply br_intro)<;>intro h)|refine cond_a ?_)
 all_goals (conv=>whnf)
 all_goals first
  |(exfalso;omega)
  |exact ret_out (l:= [0,1,2,3,4,5,6,7,8,9,10,11,12,13,14,15,16,17,18,19,23,24,25,26,27,28]) rfl rfl ⟨rfl,rfl,rfl,rfl,rfl,rfl,rfl,rfl,rfl,rfl,rfl,rfl,rfl,rfl,rfl,rfl,rfl,rfl,rfl,trivial⟩ bkRw_rw
  |trace_state
theorem bk_mov6n (s:Bks) (o:Bop) (h:BkOk s) (hc:CkOk o) (hk:o.k=6) (ha:o.am<0) (hi:¬inL o.id s.lg.ids) (hf:¬512≤s.lg.ne):FC Tryz.prog 20 178 [.agg [],.ptr 1 0 0 0,o.s] (bkHp s) (isOut (.int .i64 (mmE s o)) (bkOt (if mmE s o=0 then mmS s o else s)) 26):=by
 have hb:=mt_bd hc (by omega)
 have eF:mtF o=o.is:=by unfold mtF;rw [if_neg (by omega),if_neg (fun e=>e.2 ha)]
 have eG:mtG o=o.ac:=by unfold mtG;rw [if_neg (by omega),if_neg (fun e=>e.2 ha)]
 have eN:mtN o= -o.am:=by unfold mtN;rw [if_pos hk,if_pos ha]
 have hE:mmE s o=owX s o.t (mtF o) (mtG o) (mtN o):=by unfold mmE;rw [if_neg hi,if_neg hf,if_neg (by omega)]
 have hS:mmS s o=owS s o:=by unfold mmS;rw [if_neg (by omega)]
 have c2:=bk_owe s o h hc (by omega) hi hf
 have c1:=lg_Entry s.lg o.id h.lg
 rw [if_neg hi] at c1
 rw [hE,hS]
 rw [eF,eG,eN] at c2⊢
 rw [eN] at hb
 have hw:IntKind.i64.wrap (0-o.am)= -o.am:=by rw [w64_in (by omega) (by omega)];omega
 have hfi:=i64_ne hf
 generalize owX s o.t o.is o.ac (-o.am)=E at*
 generalize (if E=0 then owS s o else s)=S' at*
 refine fc_of mixed T_ok Tryz.func178 rfl (by kernel_rfl) (by kernel_rfl) (by kernel_rfl) ?_
 repeat' ((conv=>whnf);first|(rw [hw])|refine vcall_o (l:= [0,4,5,6,7,8,9,10]) (c1) ?_|refine vcallD_o (l:= [0,4,5,6,7,8,9,10]) (c1) ?_|refine vcall_o (l:= [0,1,2,3,4,5,6,7,8,9,10,11,12,13,14,15,16,17,18,19]) (c2) ?_|refine vcallD_o (l:= [0,1,2,3,4,5,6,7,8,9,10,11,12,13,14,15,16,17,18,19]) (c2) ?_|((first|apply br_dec|apply br_ndec)<;>intro h<;>try (exfalso;(try dsimp only at h);omega))|((first|apply br_seq|apply br_nseq|apply br_not|apply br_intro)<;>intro h)|refine cond_a ?_)
 all_goals (conv=>whnf)
 all_goals first
  |(exfalso;omega)
  |exact ret_out (l:= [0,1,2,3,4,5,6,7,8,9,10,11,12,13,14,15,16,17,18,19,23,24,25,26,27,28]) rfl rfl ⟨rfl,rfl,rfl,rfl,rfl,rfl,rfl,rfl,rfl,rfl,rfl,rfl,rfl,rfl,rfl,rfl,rfl,rfl,rfl,trivial⟩ bkRw_rw
  |trace_state
theorem bk_mov6p (s:Bks) (o:Bop) (h:BkOk s) (hc:CkOk o) (hk:o.k=6) (ha:¬o.am<0) (hi:¬inL o.id s.lg.ids) (hf:¬512≤s.lg.ne):FC Tryz.prog 20 178 [.agg [],.ptr 1 0 0 0,o.s] (bkHp s) (isOut (.int .i64 (mmE s o)) (bkOt (if mmE s o=0 then mmS s o else s)) 26):=by
 have hb:=mt_bd hc (by omega)
 have eF:mtF o=o.ac:=by unfold mtF;rw [if_neg (by omega),if_pos ⟨hk,ha⟩]
 have eG:mtG o=o.is:=by unfold mtG;rw [if_neg (by omega),if_pos ⟨hk,ha⟩]
 have eN:mtN o=o.am:=by unfold mtN;rw [if_pos hk,if_neg ha]
 have hE:mmE s o=owX s o.t (mtF o) (mtG o) (mtN o):=by unfold mmE;rw [if_neg hi,if_neg hf,if_neg (by omega)]
 have hS:mmS s o=owS s o:=by unfold mmS;rw [if_neg (by omega)]
 have c2:=bk_owe s o h hc (by omega) hi hf
 have c1:=lg_Entry s.lg o.id h.lg
 rw [if_neg hi] at c1
 rw [hE,hS]
 rw [eF,eG,eN] at c2⊢
 rw [eN] at hb
 have hw:IntKind.i64.wrap o.am=o.am:=by rw [w64_in (by omega) (by omega)]
 have hfi:=i64_ne hf
 generalize owX s o.t o.ac o.is (o.am)=E at*
 generalize (if E=0 then owS s o else s)=S' at*
 refine fc_of mixed T_ok Tryz.func178 rfl (by kernel_rfl) (by kernel_rfl) (by kernel_rfl) ?_
 repeat' ((conv=>whnf);first|refine vcall_o (l:= [0,4,5,6,7,8,9,10]) (c1) ?_|refine vcallD_o (l:= [0,4,5,6,7,8,9,10]) (c1) ?_|refine vcall_o (l:= [0,1,2,3,4,5,6,7,8,9,10,11,12,13,14,15,16,17,18,19]) (c2) ?_|refine vcallD_o (l:= [0,1,2,3,4,5,6,7,8,9,10,11,12,13,14,15,16,17,18,19]) (c2) ?_|((first|apply br_dec|apply br_ndec)<;>intro h<;>try (exfalso;(try dsimp only at h);omega))|((first|apply br_seq|apply br_nseq|apply br_not|apply br_intro)<;>intro h)|refine cond_a ?_)
 all_goals (conv=>whnf)
 all_goals first
  |(exfalso;omega)
  |exact ret_out (l:= [0,1,2,3,4,5,6,7,8,9,10,11,12,13,14,15,16,17,18,19,23,24,25,26,27,28]) rfl rfl ⟨rfl,rfl,rfl,rfl,rfl,rfl,rfl,rfl,rfl,rfl,rfl,rfl,rfl,rfl,rfl,rfl,rfl,rfl,rfl,trivial⟩ bkRw_rw
  |trace_state
theorem bk_mov_in (s:Bks) (o:Bop) (h:BkOk s) (hk:o.k=4∨o.k=5∨o.k=6) (hi:inL o.id s.lg.ids):FC Tryz.prog 20 178 [.agg [],.ptr 1 0 0 0,o.s] (bkHp s) (isOut (.int .i64 15) (bkOt s) 26):=by
 have c1:=lg_Entry s.lg o.id h.lg
 rw [if_pos hi] at c1
 refine fc_of mixed T_ok Tryz.func178 rfl (by kernel_rfl) (by kernel_rfl) (by kernel_rfl) ?_
 repeat' ((conv=>whnf);first|refine vcall_o (l:= [0,4,5,6,7,8,9,10]) (c1) ?_|refine vcallD_o (l:= [0,4,5,6,7,8,9,10]) (c1) ?_|((first|apply br_dec|apply br_ndec)<;>intro h<;>try (exfalso;(try dsimp only at h);omega))|((first|apply br_seq|apply br_nseq|apply br_not|apply br_intro)<;>intro h)|refine cond_a ?_)
 all_goals (conv=>whnf)
 all_goals first
  |(exfalso;omega)
  |exact ret_out (l:= [0,1,2,3,4,5,6,7,8,9,10,11,12,13,14,15,16,17,18,19,2,6,10,17,18,19]) rfl rfl ⟨rfl,rfl,rfl,rfl,rfl,rfl,rfl,rfl,rfl,rfl,rfl,rfl,rfl,rfl,rfl,rfl,rfl,rfl,rfl,trivial⟩ bkRw_rw
  |trace_state
theorem bk_mov_full (s:Bks) (o:Bop) (h:BkOk s) (hk:o.k=4∨o.k=5∨o.k=6) (hi:¬inL o.id s.lg.ids) (hf:512≤s.lg.ne):FC Tryz.prog 20 178 [.agg [],.ptr 1 0 0 0,o.s] (bkHp s) (isOut (.int .i64 12) (bkOt s) 26):=by
 have c1:=lg_Entry s.lg o.id h.lg
 rw [if_neg hi] at c1
 refine fc_of mixed T_ok Tryz.func178 rfl (by kernel_rfl) (by kernel_rfl) (by kernel_rfl) ?_
 repeat' ((conv=>whnf);first|refine vcall_o (l:= [0,4,5,6,7,8,9,10]) (c1) ?_|refine vcallD_o (l:= [0,4,5,6,7,8,9,10]) (c1) ?_|((first|apply br_dec|apply br_ndec)<;>intro h<;>try (exfalso;(try dsimp only at h);omega))|((first|apply br_seq|apply br_nseq|apply br_not|apply br_intro)<;>intro h)|refine cond_a ?_)
 all_goals (conv=>whnf)
 all_goals first
  |(exfalso;omega)
  |exact ret_out (l:= [0,1,2,3,4,5,6,7,8,9,10,11,12,13,14,15,16,17,18,19,2,6,10,17,18,19]) rfl rfl ⟨rfl,rfl,rfl,rfl,rfl,rfl,rfl,rfl,rfl,rfl,rfl,rfl,rfl,rfl,rfl,rfl,rfl,rfl,rfl,trivial⟩ bkRw_rw
  |trace_state
set_option maxHeartbeats 2000000 in
theorem bk_mov4 (s:Bks) (o:Bop) (h:BkOk s) (hc:CkOk o) (hk:o.k=4) (hi:¬inL o.id s.lg.ids) (hf:¬512≤s.lg.ne):FC Tryz.prog 20 178 [.agg [],.ptr 1 0 0 0,o.s] (bkHp s) (isOut (.int .i64 (mmE s o)) (bkOt (if mmE s o=0 then mmS s o else s)) 26):=by
 have hb':=mt_bd hc (by omega)
 have eF:mtF o=o.is:=by unfold mtF;rw [if_neg (by omega),if_neg (by omega)]
 have eG:mtG o=o.ac:=by unfold mtG;rw [if_neg (by omega),if_neg (by omega)]
 have eN:mtN o=o.am-o.fe:=by unfold mtN;rw [if_neg (by omega)]
 have c2:=bk_owe s o h hc (by omega) hi hf
 have c1:=lg_Entry s.lg o.id h.lg
 rw [if_neg hi] at c1
 have c3:=auth_clear (auAt s.au (s.pl o.au)) o.am o.fi
 have hidk:=clearZ_id (a:=auAt s.au (s.pl o.au)) (n:=o.am) (b:=o.fi)
 have hmS:mmS s o= { owS s o with au:=s.au.set (s.pl o.au) (clA s o).1}:=by unfold mmS;rw [if_pos hk]
 have hw:IntKind.i64.wrap (o.am-o.fe)=o.am-o.fe:=by rw [w64_in (by omega) (by omega)]
 have hfi:=i64_ne hf
 unfold mmE
 rw [if_neg hi,if_neg hf,if_pos hk]
 by_cases hp:s.pl o.au<s.na
 ·have hb:decide (sidx s.aid o.au<s.na)=true:=decide_eq_true hp
  have hpl:=lg_pl hp
  have hcn:0≤((List.range s.na).map Int.ofNat).getD (s.pl o.au) 0∧((List.range s.na).map Int.ofNat).getD (s.pl o.au) 0<(s.na:Int):=by rw [hpl];omega
  rw [if_pos hp]
  unfold auAt at c3
  try dsimp only at c3
  unfold clA at hmS⊢
  generalize hN:clearZ (auAt s.au (s.pl o.au)) o.am o.fi=N at*
  unfold auAt at hN
  rw [hN] at c3
  obtain ⟨a,n1,n2,e⟩:=N
  dsimp only at c3 hidk hmS⊢
  by_cases he:e=0
  ·subst he
   rw [if_neg (fun e=>e rfl)]
   by_cases hx:owX s o.t (mtF o) (mtG o) (mtN o)=0
   ·rw [if_pos hx]
    rw [if_pos hx] at c2
    rw [hx] at c2⊢
    have hap:=auB_set s.na s.au (s.pl o.au) a
    have r3:bkPl s.na s.aid=bkPl s.na ((s.au.set (s.pl o.au) a).map Au.id):=by rw [bk_setid _ _ _ (hidk rfl)]
    rw [hmS]
    rw [eF,eG,eN] at c2
    unfold owS at c2⊢
    dsimp only at c2⊢
    generalize mvBs s.ds s.B (bkD s o.t) ((bkAt s.ds s.B s.pr (bkD s o.t)).mv (mtF o) (mtG o) s.cur (mtN o))=B' at*
    generalize mvDs s.ds (bkD s o.t)=D' at*
    generalize lgP s.lg (enB s o)=L' at*
    refine fc_of mixed T_ok Tryz.func178 rfl (by kernel_rfl) (by kernel_rfl) (by kernel_rfl) ?_
    repeat' ((conv=>whnf);first|(rw [hb])|(rw [hw])|(simp only [hpl,lg_tn])|refine vcall_o (l:= [0,4,5,6,7,8,9,10]) (c1) ?_|refine vcallD_o (l:= [0,4,5,6,7,8,9,10]) (c1) ?_|(refine vcall_pure (c3) rfl rfl rfl ?_)|(refine vcallD_pure (c3) rfl rfl rfl ?_)|refine vcall_o (l:= [0,1,2,3,4,5,6,7,8,9,10,11,12,13,14,15,16,17,18,19]) (c2) ?_|refine vcallD_o (l:= [0,1,2,3,4,5,6,7,8,9,10,11,12,13,14,15,16,17,18,19]) (c2) ?_|((first|apply br_dec|apply br_ndec)<;>intro h<;>try (exfalso;(try dsimp only at h);omega))|((first|apply br_seq|apply br_nseq|apply br_not|apply br_intro)<;>intro h)|refine cond_a ?_)
    all_goals (conv=>whnf)
    all_goals first
     |(exfalso;omega)
     |(exfalso;exact h rfl)
     |exact ret_out (l:= [0,1,2,3,4,5,6,7,8,9,10,11,12,13,14,15,16,17,18,19,24,25,26,27,28,29]) rfl rfl ⟨rfl,congrArg (fun z=>some (HB.one false z)) hap,r3,rfl,rfl,rfl,rfl,rfl,rfl,rfl,rfl,rfl,rfl,rfl,rfl,rfl,rfl,rfl,rfl,trivial⟩ bkRw_rw
     |trace_state
   ·rw [if_neg hx]
    rw [if_neg hx] at c2
    rw [eF,eG,eN] at c2 hx⊢
    generalize owX s o.t o.is o.ac (o.am-o.fe)=E at*
    refine fc_of mixed T_ok Tryz.func178 rfl (by kernel_rfl) (by kernel_rfl) (by kernel_rfl) ?_
    repeat' ((conv=>whnf);first|(rw [hb])|(rw [hw])|(simp only [hpl,lg_tn])|refine vcall_o (l:= [0,4,5,6,7,8,9,10]) (c1) ?_|refine vcallD_o (l:= [0,4,5,6,7,8,9,10]) (c1) ?_|(refine vcall_pure (c3) rfl rfl rfl ?_)|(refine vcallD_pure (c3) rfl rfl rfl ?_)|refine vcall_o (l:= [0,1,2,3,4,5,6,7,8,9,10,11,12,13,14,15,16,17,18,19]) (c2) ?_|refine vcallD_o (l:= [0,1,2,3,4,5,6,7,8,9,10,11,12,13,14,15,16,17,18,19]) (c2) ?_|((first|apply br_dec|apply br_ndec)<;>intro h<;>try (exfalso;(try dsimp only at h);omega))|((first|apply br_seq|apply br_nseq|apply br_not|apply br_intro)<;>intro h)|refine cond_a ?_)
    all_goals (conv=>whnf)
    all_goals first
     |(exfalso;omega)
     |(exfalso;exact h rfl)
     |(exfalso;exact hx h)
     |exact ret_out (l:= [0,1,2,3,4,5,6,7,8,9,10,11,12,13,14,15,16,17,18,19,24,25,26,27,28,29]) rfl rfl ⟨rfl,rfl,rfl,rfl,rfl,rfl,rfl,rfl,rfl,rfl,rfl,rfl,rfl,rfl,rfl,rfl,rfl,rfl,rfl,trivial⟩ bkRw_rw
     |trace_state
  ·rw [if_pos he,if_neg he]
   refine fc_of mixed T_ok Tryz.func178 rfl (by kernel_rfl) (by kernel_rfl) (by kernel_rfl) ?_
   repeat' ((conv=>whnf);first|(rw [hb])|(simp only [hpl,lg_tn])|refine vcall_o (l:= [0,4,5,6,7,8,9,10]) (c1) ?_|refine vcallD_o (l:= [0,4,5,6,7,8,9,10]) (c1) ?_|(refine vcall_pure (c3) rfl rfl rfl ?_)|(refine vcallD_pure (c3) rfl rfl rfl ?_)|((first|apply br_dec|apply br_ndec)<;>intro h<;>try (exfalso;(try dsimp only at h);omega))|((first|apply br_seq|apply br_nseq|apply br_not|apply br_intro)<;>intro h)|refine cond_a ?_)
   all_goals (conv=>whnf)
   all_goals first
    |exact ret_out (l:= [0,1,2,3,4,5,6,7,8,9,10,11,12,13,14,15,16,17,18,19,2,6,10,17,18,19]) rfl rfl ⟨rfl,rfl,rfl,rfl,rfl,rfl,rfl,rfl,rfl,rfl,rfl,rfl,rfl,rfl,rfl,rfl,rfl,rfl,rfl,trivial⟩ bkRw_rw
    |(exfalso;omega)
    |(exfalso;exact he h)
    |trace_state
 ·have hb:decide (sidx s.aid o.au<s.na)=false:=decide_eq_false hp
  rw [if_neg hp,if_neg (by decide)]
  refine fc_of mixed T_ok Tryz.func178 rfl (by kernel_rfl) (by kernel_rfl) (by kernel_rfl) ?_
  repeat' ((conv=>whnf);first|(rw [hb])|refine vcall_o (l:= [0,4,5,6,7,8,9,10]) (c1) ?_|refine vcallD_o (l:= [0,4,5,6,7,8,9,10]) (c1) ?_|((first|apply br_dec|apply br_ndec)<;>intro h<;>try (exfalso;(try dsimp only at h);omega))|((first|apply br_seq|apply br_nseq|apply br_not|apply br_intro)<;>intro h)|refine cond_a ?_)
  all_goals (conv=>whnf)
  all_goals first
   |exact ret_out (l:= [0,1,2,3,4,5,6,7,8,9,10,11,12,13,14,15,16,17,18,19,2,6,10,17,18,19]) rfl rfl ⟨rfl,rfl,rfl,rfl,rfl,rfl,rfl,rfl,rfl,rfl,rfl,rfl,rfl,rfl,rfl,rfl,rfl,rfl,rfl,trivial⟩ bkRw_rw
   |(exfalso;omega)
   |trace_state
theorem bk_move (s:Bks) (o:Bop) (h:BkOk s) (hc:CkOk o) (hk:o.k=4∨o.k=5∨o.k=6):FC Tryz.prog 20 178 [.agg [],.ptr 1 0 0 0,o.s] (bkHp s) (isOut (.int .i64 (mmE s o)) (bkOt (if mmE s o=0 then mmS s o else s)) 26):=by
 by_cases hi:inL o.id s.lg.ids
 ·have e:mmE s o=15:=by unfold mmE;rw [if_pos hi]
  rw [e,if_neg (by decide)]
  exact bk_mov_in s o h hk hi
 by_cases hf:512≤s.lg.ne
 ·have e:mmE s o=12:=by unfold mmE;rw [if_neg hi,if_pos hf]
  rw [e,if_neg (by decide)]
  exact bk_mov_full s o h hk hi hf
 rcases hk with k|k|k
 ·exact bk_mov4 s o h hc k hi hf
 ·exact bk_mov5 s o h hc k hi hf
 ·by_cases ha:o.am<0
  ·exact bk_mov6n s o h hc k ha hi hf
  ·exact bk_mov6p s o h hc k ha hi hf
theorem bk_close (s:Bks) (o:Bop) (h:BkOk s) (hc:CkOk o) (hk:o.k=8):FC Tryz.prog 20 158 [.agg [],.ptr 1 0 0 0,o.s] (bkHp s) (isOut (.int .i64 (clE s.hs s.ds s.cd o.am)) (bkOt (if clE s.hs s.ds s.cd o.am=0 then clS s o else s)) 26):=by
 have hml:=h.mle
 have hn9:s.lg.ne≤100000:=by have:=h.lg.e512;omega
 have c1:=cy_Close h.bks h.hn h.nc (by omega) s.cut o.am
 have ha:0≤o.am∧o.am≤99999:=by
  have:=hc.a
  unfold pmB at this
  rw [if_neg (by omega),if_neg (by omega),if_pos hk] at this
  exact of_decide_eq_true this
 have hw:IntKind.i64.wrap o.am=o.am:=w64_in (by omega) (by omega)
 unfold clO at c1
 by_cases he:clE s.hs s.ds s.cd o.am=0
 ·rw [if_pos he] at c1⊢
  rw [he]
  unfold clS
  have r16:tmM false (s.cd++ [o.am]).length (s.cd++ [o.am])=tmM false (s.nc+1) (s.cd++ [o.am]):=by rw [List.length_append,h.nc];rfl
  refine fc_of mixed T_ok Tryz.func158 rfl (by kernel_rfl) (by kernel_rfl) (by kernel_rfl) ?_
  repeat' ((conv=>whnf);first|(rw [hw])|refine vcall_o (l:= [0,11,12,13,14,15,16,17,18,19]) (c1) ?_|refine vcallD_o (l:= [0,11,12,13,14,15,16,17,18,19]) (c1) ?_|((first|apply br_dec|apply br_ndec)<;>intro h<;>try (exfalso;(try dsimp only at h);omega))|((first|apply br_seq|apply br_nseq|apply br_not|apply br_intro)<;>intro h)|refine cond_a ?_)
  all_goals (conv=>whnf)
  all_goals first
   |(exfalso;omega)
   |exact ret_out (l:= [0,1,2,3,4,5,6,7,8,9,10,11,12,13,14,15,16,17,18,19,2,6,10,17,18,19]) rfl rfl ⟨rfl,rfl,rfl,rfl,rfl,rfl,rfl,rfl,rfl,rfl,rfl,rfl,rfl,rfl,r16,rfl,rfl,rfl,rfl,trivial⟩ bkRw_rw
   |trace_state
 ·rw [if_neg he] at c1⊢
  have r16:tmM false s.cd.length s.cd=tmM false s.nc s.cd:=by rw [h.nc]
  generalize clE s.hs s.ds s.cd o.am=E at*
  refine fc_of mixed T_ok Tryz.func158 rfl (by kernel_rfl) (by kernel_rfl) (by kernel_rfl) ?_
  repeat' ((conv=>whnf);first|(rw [hw])|refine vcall_o (l:= [0,11,12,13,14,15,16,17,18,19]) (c1) ?_|refine vcallD_o (l:= [0,11,12,13,14,15,16,17,18,19]) (c1) ?_|((first|apply br_dec|apply br_ndec)<;>intro h<;>try (exfalso;(try dsimp only at h);omega))|((first|apply br_seq|apply br_nseq|apply br_not|apply br_intro)<;>intro h)|refine cond_a ?_)
  all_goals (conv=>whnf)
  all_goals first
   |exact ret_out (l:= [0,1,2,3,4,5,6,7,8,9,10,11,12,13,14,15,16,17,18,19,2,6,10,17,18,19]) rfl rfl ⟨rfl,rfl,rfl,rfl,rfl,rfl,rfl,rfl,rfl,rfl,rfl,rfl,rfl,rfl,r16,rfl,rfl,rfl,rfl,trivial⟩ bkRw_rw
   |(exfalso;omega)
   |trace_state
end Go.Proofs.YtlankgapiecloaaGreatDoor
namespace Go.Proofs.YtlankgapiecloaaGreatDoor
open Go.RowKit Go.Sy
attribute [local irreducible] vcall vloop vcallD retP sortI
set_option maxRecDepth 100000
set_option linter.unusedVariables false
set_option linter.unusedSimpArgs false
attribute [local irreducible] seq ByteArray.extract lgE
theorem bk_Do_ck (s:Bks) (o:Bop) (hc:ckE o≠0):FC Tryz.prog 20 7 [.ptr 1 0 0 0,o.s] (bkHp s) (isOut (.int .i64 (ckE o)) (bkOt s) 26):=by
 have c1:=bk_check o
 generalize ckE o=E at*
 refine fc_of mixed T_ok Tryz.func7 rfl (by kernel_rfl) (by kernel_rfl) (by kernel_rfl) ?_
 repeat' ((conv=>whnf);first|(refine vcall_pure (c1) rfl rfl rfl ?_)|(refine vcallD_pure (c1) rfl rfl rfl ?_)|((first|apply br_dec|apply br_ndec)<;>intro h<;>try (exfalso;(try dsimp only at h);omega))|((first|apply br_seq|apply br_nseq|apply br_not|apply br_intro)<;>intro h)|refine cond_a ?_)
 all_goals (conv=>whnf)
 all_goals first
  |(exfalso;omega)
  |(exfalso;exact hc h)
  |exact ret_out (l:= [0,1,2,3,4,5,6,7,8,9,10,11,12,13,14,15,16,17,18,19,2,6,10,17,18,19]) rfl rfl ⟨rfl,rfl,rfl,rfl,rfl,rfl,rfl,rfl,rfl,rfl,rfl,rfl,rfl,rfl,rfl,rfl,rfl,rfl,rfl,trivial⟩ bkRw_rw
  |trace_state
theorem bk_Do_late (s:Bks) (o:Bop) (hc:ckE o=0) (ht:o.t<s.last):FC Tryz.prog 20 7 [.ptr 1 0 0 0,o.s] (bkHp s) (isOut (.int .i64 14) (bkOt s) 26):=by
 have c1:=bk_check o
 rw [hc] at c1
 refine fc_of mixed T_ok Tryz.func7 rfl (by kernel_rfl) (by kernel_rfl) (by kernel_rfl) ?_
 repeat' ((conv=>whnf);first|(refine vcall_pure (c1) rfl rfl rfl ?_)|(refine vcallD_pure (c1) rfl rfl rfl ?_)|((first|apply br_dec|apply br_ndec)<;>intro h<;>try (exfalso;(try dsimp only at h);omega))|((first|apply br_seq|apply br_nseq|apply br_not|apply br_intro)<;>intro h)|refine cond_a ?_)
 all_goals (conv=>whnf)
 all_goals first
  |(exfalso;omega)
  |(exfalso;exact h rfl)
  |exact ret_out (l:= [0,1,2,3,4,5,6,7,8,9,10,11,12,13,14,15,16,17,18,19,2,6,10,17,18,19]) rfl rfl ⟨rfl,rfl,rfl,rfl,rfl,rfl,rfl,rfl,rfl,rfl,rfl,rfl,rfl,rfl,rfl,rfl,rfl,rfl,rfl,trivial⟩ bkRw_rw
  |trace_state
theorem bk_Do_ap (s S':Bks) (o:Bop) (E:Int) (hc:ckE o=0) (hk:o.k=1) (ht:¬o.t<s.last)
  (c3:FC Tryz.prog 20 150 [.agg [],.ptr 1 0 0 0,o.s] (bkHp s) (isOut (.int .i64 E) (bkOt S') 26)):
  FC Tryz.prog 20 7 [.ptr 1 0 0 0,o.s] (bkHp s) (isOut (.int .i64 E) (bkOt (if E=0 then { S' with last:=o.t} else S')) 26):=by
 have c1:=bk_check o
 rw [hc] at c1
 have c2:Pure Tryz.prog 22 [.int .i64 o.k] (.iface 113 (.agg [])):=by
  have c:=bk_actionOf o.k (by omega)
  rw [if_pos hk] at c
  exact c
 by_cases he:E=0
 ·rw [if_pos he]
  subst he
  refine fc_of mixed T_ok Tryz.func7 rfl (by kernel_rfl) (by kernel_rfl) (by kernel_rfl) ?_
  repeat' ((conv=>whnf);first|(refine ⟨150,methOk_of (by kernel_rfl),?_⟩)|(refine vcall_pure (c1) rfl rfl rfl ?_)|(refine vcallD_pure (c1) rfl rfl rfl ?_)|(refine vcall_pure (c2) rfl rfl rfl ?_)|(refine vcallD_pure (c2) rfl rfl rfl ?_)|refine vcall_o (l:= [0,1,2,3,4,5,6,7,8,9,10,11,12,13,14,15,16,17,18,19]) (c3) ?_|refine vcallD_o (l:= [0,1,2,3,4,5,6,7,8,9,10,11,12,13,14,15,16,17,18,19]) (c3) ?_|((first|apply br_dec|apply br_ndec)<;>intro h<;>try (exfalso;(try dsimp only at h);omega))|((first|apply br_seq|apply br_nseq|apply br_not|apply br_intro)<;>intro h)|refine cond_a ?_)
  all_goals (conv=>whnf)
  all_goals first
   |(exfalso;omega)
   |(exfalso;exact h rfl)
   |exact ret_out (l:= [0,1,2,3,4,5,6,7,8,9,10,11,12,13,14,15,16,17,18,19,21,22,23,24,25,26]) rfl rfl ⟨rfl,rfl,rfl,rfl,rfl,rfl,rfl,rfl,rfl,rfl,rfl,rfl,rfl,rfl,rfl,rfl,rfl,rfl,rfl,trivial⟩ bkRw_rw
   |trace_state
 ·rw [if_neg he]
  refine fc_of mixed T_ok Tryz.func7 rfl (by kernel_rfl) (by kernel_rfl) (by kernel_rfl) ?_
  repeat' ((conv=>whnf);first|(refine ⟨150,methOk_of (by kernel_rfl),?_⟩)|(refine vcall_pure (c1) rfl rfl rfl ?_)|(refine vcallD_pure (c1) rfl rfl rfl ?_)|(refine vcall_pure (c2) rfl rfl rfl ?_)|(refine vcallD_pure (c2) rfl rfl rfl ?_)|refine vcall_o (l:= [0,1,2,3,4,5,6,7,8,9,10,11,12,13,14,15,16,17,18,19]) (c3) ?_|refine vcallD_o (l:= [0,1,2,3,4,5,6,7,8,9,10,11,12,13,14,15,16,17,18,19]) (c3) ?_|((first|apply br_dec|apply br_ndec)<;>intro h<;>try (exfalso;(try dsimp only at h);omega))|((first|apply br_seq|apply br_nseq|apply br_not|apply br_intro)<;>intro h)|refine cond_a ?_)
  all_goals (conv=>whnf)
  all_goals first
   |(exfalso;omega)
   |(exfalso;exact h rfl)
   |(exfalso;exact he h)
   |exact ret_out (l:= [0,1,2,3,4,5,6,7,8,9,10,11,12,13,14,15,16,17,18,19,21,22,23,24,25,26]) rfl rfl ⟨rfl,rfl,rfl,rfl,rfl,rfl,rfl,rfl,rfl,rfl,rfl,rfl,rfl,rfl,rfl,rfl,rfl,rfl,rfl,trivial⟩ bkRw_rw
   |trace_state
theorem bk_Do_cl (s S':Bks) (o:Bop) (E:Int) (hc:ckE o=0) (hk:o.k=8) (ht:¬o.t<s.last)
  (c3:FC Tryz.prog 20 158 [.agg [],.ptr 1 0 0 0,o.s] (bkHp s) (isOut (.int .i64 E) (bkOt S') 26)):
  FC Tryz.prog 20 7 [.ptr 1 0 0 0,o.s] (bkHp s) (isOut (.int .i64 E) (bkOt (if E=0 then { S' with last:=o.t} else S')) 26):=by
 have c1:=bk_check o
 rw [hc] at c1
 have c2:Pure Tryz.prog 22 [.int .i64 o.k] (.iface 115 (.agg [])):=by
  have c:=bk_actionOf o.k (by omega)
  rw [if_neg (by omega),if_pos hk] at c
  exact c
 by_cases he:E=0
 ·rw [if_pos he]
  subst he
  refine fc_of mixed T_ok Tryz.func7 rfl (by kernel_rfl) (by kernel_rfl) (by kernel_rfl) ?_
  repeat' ((conv=>whnf);first|(refine ⟨158,methOk_of (by kernel_rfl),?_⟩)|(refine vcall_pure (c1) rfl rfl rfl ?_)|(refine vcallD_pure (c1) rfl rfl rfl ?_)|(refine vcall_pure (c2) rfl rfl rfl ?_)|(refine vcallD_pure (c2) rfl rfl rfl ?_)|refine vcall_o (l:= [0,1,2,3,4,5,6,7,8,9,10,11,12,13,14,15,16,17,18,19]) (c3) ?_|refine vcallD_o (l:= [0,1,2,3,4,5,6,7,8,9,10,11,12,13,14,15,16,17,18,19]) (c3) ?_|((first|apply br_dec|apply br_ndec)<;>intro h<;>try (exfalso;(try dsimp only at h);omega))|((first|apply br_seq|apply br_nseq|apply br_not|apply br_intro)<;>intro h)|refine cond_a ?_)
  all_goals (conv=>whnf)
  all_goals first
   |(exfalso;omega)
   |(exfalso;exact h rfl)
   |exact ret_out (l:= [0,1,2,3,4,5,6,7,8,9,10,11,12,13,14,15,16,17,18,19,21,22,23,24,25,26]) rfl rfl ⟨rfl,rfl,rfl,rfl,rfl,rfl,rfl,rfl,rfl,rfl,rfl,rfl,rfl,rfl,rfl,rfl,rfl,rfl,rfl,trivial⟩ bkRw_rw
   |trace_state
 ·rw [if_neg he]
  refine fc_of mixed T_ok Tryz.func7 rfl (by kernel_rfl) (by kernel_rfl) (by kernel_rfl) ?_
  repeat' ((conv=>whnf);first|(refine ⟨158,methOk_of (by kernel_rfl),?_⟩)|(refine vcall_pure (c1) rfl rfl rfl ?_)|(refine vcallD_pure (c1) rfl rfl rfl ?_)|(refine vcall_pure (c2) rfl rfl rfl ?_)|(refine vcallD_pure (c2) rfl rfl rfl ?_)|refine vcall_o (l:= [0,1,2,3,4,5,6,7,8,9,10,11,12,13,14,15,16,17,18,19]) (c3) ?_|refine vcallD_o (l:= [0,1,2,3,4,5,6,7,8,9,10,11,12,13,14,15,16,17,18,19]) (c3) ?_|((first|apply br_dec|apply br_ndec)<;>intro h<;>try (exfalso;(try dsimp only at h);omega))|((first|apply br_seq|apply br_nseq|apply br_not|apply br_intro)<;>intro h)|refine cond_a ?_)
  all_goals (conv=>whnf)
  all_goals first
   |(exfalso;omega)
   |(exfalso;exact h rfl)
   |(exfalso;exact he h)
   |exact ret_out (l:= [0,1,2,3,4,5,6,7,8,9,10,11,12,13,14,15,16,17,18,19,21,22,23,24,25,26]) rfl rfl ⟨rfl,rfl,rfl,rfl,rfl,rfl,rfl,rfl,rfl,rfl,rfl,rfl,rfl,rfl,rfl,rfl,rfl,rfl,rfl,trivial⟩ bkRw_rw
   |trace_state
theorem bk_Do_mv (s S':Bks) (o:Bop) (E:Int) (hc:ckE o=0) (hk:o.k=4∨o.k=5∨o.k=6) (ht:¬o.t<s.last)
  (c3:FC Tryz.prog 20 178 [.agg [],.ptr 1 0 0 0,o.s] (bkHp s) (isOut (.int .i64 E) (bkOt S') 26)):
  FC Tryz.prog 20 7 [.ptr 1 0 0 0,o.s] (bkHp s) (isOut (.int .i64 E) (bkOt (if E=0 then { S' with last:=o.t} else S')) 26):=by
 have c1:=bk_check o
 rw [hc] at c1
 have c2:Pure Tryz.prog 22 [.int .i64 o.k] (.iface 116 (.agg [])):=by
  have c:=bk_actionOf o.k (by omega)
  rw [if_neg (by omega),if_neg (by omega),if_pos hk] at c
  exact c
 by_cases he:E=0
 ·rw [if_pos he]
  subst he
  refine fc_of mixed T_ok Tryz.func7 rfl (by kernel_rfl) (by kernel_rfl) (by kernel_rfl) ?_
  repeat' ((conv=>whnf);first|(refine ⟨178,methOk_of (by kernel_rfl),?_⟩)|(refine vcall_pure (c1) rfl rfl rfl ?_)|(refine vcallD_pure (c1) rfl rfl rfl ?_)|(refine vcall_pure (c2) rfl rfl rfl ?_)|(refine vcallD_pure (c2) rfl rfl rfl ?_)|refine vcall_o (l:= [0,1,2,3,4,5,6,7,8,9,10,11,12,13,14,15,16,17,18,19]) (c3) ?_|refine vcallD_o (l:= [0,1,2,3,4,5,6,7,8,9,10,11,12,13,14,15,16,17,18,19]) (c3) ?_|((first|apply br_dec|apply br_ndec)<;>intro h<;>try (exfalso;(try dsimp only at h);omega))|((first|apply br_seq|apply br_nseq|apply br_not|apply br_intro)<;>intro h)|refine cond_a ?_)
  all_goals (conv=>whnf)
  all_goals first
   |(exfalso;omega)
   |(exfalso;exact h rfl)
   |exact ret_out (l:= [0,1,2,3,4,5,6,7,8,9,10,11,12,13,14,15,16,17,18,19,21,22,23,24,25,26]) rfl rfl ⟨rfl,rfl,rfl,rfl,rfl,rfl,rfl,rfl,rfl,rfl,rfl,rfl,rfl,rfl,rfl,rfl,rfl,rfl,rfl,trivial⟩ bkRw_rw
   |trace_state
 ·rw [if_neg he]
  refine fc_of mixed T_ok Tryz.func7 rfl (by kernel_rfl) (by kernel_rfl) (by kernel_rfl) ?_
  repeat' ((conv=>whnf);first|(refine ⟨178,methOk_of (by kernel_rfl),?_⟩)|(refine vcall_pure (c1) rfl rfl rfl ?_)|(refine vcallD_pure (c1) rfl rfl rfl ?_)|(refine vcall_pure (c2) rfl rfl rfl ?_)|(refine vcallD_pure (c2) rfl rfl rfl ?_)|refine vcall_o (l:= [0,1,2,3,4,5,6,7,8,9,10,11,12,13,14,15,16,17,18,19]) (c3) ?_|refine vcallD_o (l:= [0,1,2,3,4,5,6,7,8,9,10,11,12,13,14,15,16,17,18,19]) (c3) ?_|((first|apply br_dec|apply br_ndec)<;>intro h<;>try (exfalso;(try dsimp only at h);omega))|((first|apply br_seq|apply br_nseq|apply br_not|apply br_intro)<;>intro h)|refine cond_a ?_)
  all_goals (conv=>whnf)
  all_goals first
   |(exfalso;omega)
   |(exfalso;exact h rfl)
   |(exfalso;exact he h)
   |exact ret_out (l:= [0,1,2,3,4,5,6,7,8,9,10,11,12,13,14,15,16,17,18,19,21,22,23,24,25,26]) rfl rfl ⟨rfl,rfl,rfl,rfl,rfl,rfl,rfl,rfl,rfl,rfl,rfl,rfl,rfl,rfl,rfl,rfl,rfl,rfl,rfl,trivial⟩ bkRw_rw
   |trace_state
theorem bk_Do_ch (s S':Bks) (o:Bop) (E:Int) (hc:ckE o=0) (hk:o.k=2∨o.k=3∨o.k=7) (ht:¬o.t<s.last)
  (c3:FC Tryz.prog 20 153 [.agg [],.ptr 1 0 0 0,o.s] (bkHp s) (isOut (.int .i64 E) (bkOt S') 26)):
  FC Tryz.prog 20 7 [.ptr 1 0 0 0,o.s] (bkHp s) (isOut (.int .i64 E) (bkOt (if E=0 then { S' with last:=o.t} else S')) 26):=by
 have c1:=bk_check o
 rw [hc] at c1
 have c2:Pure Tryz.prog 22 [.int .i64 o.k] (.iface 114 (.agg [])):=by
  have c:=bk_actionOf o.k (by omega)
  rw [if_neg (by omega),if_neg (by omega),if_neg (by omega)] at c
  exact c
 by_cases he:E=0
 ·rw [if_pos he]
  subst he
  refine fc_of mixed T_ok Tryz.func7 rfl (by kernel_rfl) (by kernel_rfl) (by kernel_rfl) ?_
  repeat' ((conv=>whnf);first|(refine ⟨153,methOk_of (by kernel_rfl),?_⟩)|(refine vcall_pure (c1) rfl rfl rfl ?_)|(refine vcallD_pure (c1) rfl rfl rfl ?_)|(refine vcall_pure (c2) rfl rfl rfl ?_)|(refine vcallD_pure (c2) rfl rfl rfl ?_)|refine vcall_o (l:= [0,1,2,3,4,5,6,7,8,9,10,11,12,13,14,15,16,17,18,19]) (c3) ?_|refine vcallD_o (l:= [0,1,2,3,4,5,6,7,8,9,10,11,12,13,14,15,16,17,18,19]) (c3) ?_|((first|apply br_dec|apply br_ndec)<;>intro h<;>try (exfalso;(try dsimp only at h);omega))|((first|apply br_seq|apply br_nseq|apply br_not|apply br_intro)<;>intro h)|refine cond_a ?_)
  all_goals (conv=>whnf)
  all_goals first
   |(exfalso;omega)
   |(exfalso;exact h rfl)
   |exact ret_out (l:= [0,1,2,3,4,5,6,7,8,9,10,11,12,13,14,15,16,17,18,19,21,22,23,24,25,26]) rfl rfl ⟨rfl,rfl,rfl,rfl,rfl,rfl,rfl,rfl,rfl,rfl,rfl,rfl,rfl,rfl,rfl,rfl,rfl,rfl,rfl,trivial⟩ bkRw_rw
   |trace_state
 ·rw [if_neg he]
  refine fc_of mixed T_ok Tryz.func7 rfl (by kernel_rfl) (by kernel_rfl) (by kernel_rfl) ?_
  repeat' ((conv=>whnf);first|(refine ⟨153,methOk_of (by kernel_rfl),?_⟩)|(refine vcall_pure (c1) rfl rfl rfl ?_)|(refine vcallD_pure (c1) rfl rfl rfl ?_)|(refine vcall_pure (c2) rfl rfl rfl ?_)|(refine vcallD_pure (c2) rfl rfl rfl ?_)|refine vcall_o (l:= [0,1,2,3,4,5,6,7,8,9,10,11,12,13,14,15,16,17,18,19]) (c3) ?_|refine vcallD_o (l:= [0,1,2,3,4,5,6,7,8,9,10,11,12,13,14,15,16,17,18,19]) (c3) ?_|((first|apply br_dec|apply br_ndec)<;>intro h<;>try (exfalso;(try dsimp only at h);omega))|((first|apply br_seq|apply br_nseq|apply br_not|apply br_intro)<;>intro h)|refine cond_a ?_)
  all_goals (conv=>whnf)
  all_goals first
   |(exfalso;omega)
   |(exfalso;exact h rfl)
   |(exfalso;exact he h)
   |exact ret_out (l:= [0,1,2,3,4,5,6,7,8,9,10,11,12,13,14,15,16,17,18,19,21,22,23,24,25,26]) rfl rfl ⟨rfl,rfl,rfl,rfl,rfl,rfl,rfl,rfl,rfl,rfl,rfl,rfl,rfl,rfl,rfl,rfl,rfl,rfl,rfl,trivial⟩ bkRw_rw
   |trace_state
theorem bk_Do (s:Bks) (o:Bop) (h:BkOk s):FC Tryz.prog 20 7 [.ptr 1 0 0 0,o.s] (bkHp s) (isOut (.int .i64 (doE s o)) (bkOt (doS s o)) 26):=by
 by_cases hc:ckE o=0
 ·by_cases ht:o.t<s.last
  ·have e1:doE s o=14:=by unfold doE;rw [if_neg (fun e=>e hc),if_pos ht]
   have e2:doS s o=s:=by unfold doS;rw [e1,if_neg (by decide)]
   rw [e1,e2]
   exact bk_Do_late s o hc ht
  ·have e1:doE s o=pfE s o:=by unfold doE;rw [if_neg (fun e=>e hc),if_neg ht]
   have key:∀S',S'=(if pfE s o=0 then pfS s o else s)→(if pfE s o=0 then { S' with last:=o.t} else S')=doS s o:=by
    intro S' e
    subst e
    unfold doS
    rw [e1]
    split
    ·rfl
    ·rfl
   have hO:=ck_ok hc
   rw [e1,←key _ rfl]
   have hk:=kind_of8 (show¬(o.k<1∨8<o.k) by have:=hO.k;omega)
   by_cases k1:o.k=1
   ·refine bk_Do_ap s _ o _ hc k1 ht ?_
    have e3:pfE s o=bapE s o:=by unfold pfE;rw [if_pos k1]
    have e4:pfS s o=bapS s o:=by unfold pfS;rw [if_pos k1]
    rw [e3,e4]
    exact bk_approve s o h hO
   by_cases k8:o.k=8
   ·refine bk_Do_cl s _ o _ hc k8 ht ?_
    have e3:pfE s o=clE s.hs s.ds s.cd o.am:=by unfold pfE;rw [if_neg k1,if_pos k8]
    have e4:pfS s o=clS s o:=by unfold pfS;rw [if_neg k1,if_pos k8]
    rw [e3,e4]
    exact bk_close s o h hO k8
   by_cases k4:o.k=4∨o.k=5∨o.k=6
   ·refine bk_Do_mv s _ o _ hc k4 ht ?_
    have e3:pfE s o=mmE s o:=by unfold pfE;rw [if_neg k1,if_neg k8,if_pos k4]
    have e4:pfS s o=mmS s o:=by unfold pfS;rw [if_neg k1,if_neg k8,if_pos k4]
    rw [e3,e4]
    exact bk_move s o h hO k4
   ·have k2:o.k=2∨o.k=3∨o.k=7:=by omega
    refine bk_Do_ch s _ o _ hc k2 ht ?_
    have e3:pfE s o=bcgE s o:=by unfold pfE;rw [if_neg k1,if_neg k8,if_neg k4]
    have e4:pfS s o=bcgS s o:=by unfold pfS;rw [if_neg k1,if_neg k8,if_neg k4]
    rw [e3,e4]
    rcases k2 with k|k|k
    ·exact bk_change2 s o h hO k
    ·exact bk_change3 s o h hO k
    ·exact bk_change7 s o h hO k
 ·have e1:doE s o=ckE o:=by unfold doE;rw [if_pos hc]
  have e2:doS s o=s:=by unfold doS;rw [e1,if_neg hc]
  rw [e1,e2]
  exact bk_Do_ck s o hc
end Go.Proofs.YtlankgapiecloaaGreatDoor
namespace Go.Proofs.YtlankgapiecloaaGreatDoor
open Go.RowKit Go.Sy
attribute [local irreducible] vcall vloop vcallD retP sortI
set_option maxRecDepth 100000
set_option linter.unusedVariables false
set_option linter.unusedSimpArgs false
def k5:Bk:=⟨3,p3,1,[sUsd],[[-5,5,0,0,0,0,0,0,0,0,0,0,0,0,0,0]],[0],1⟩
end Go.Proofs.YtlankgapiecloaaGreatDoor
namespace Go.Proofs.YtlankgapiecloaaGreatDoor
open Go.RowKit Go.Sy
attribute [local irreducible] vcall vloop vcallD retP sortI
set_option maxRecDepth 100000
set_option linter.unusedVariables false
set_option linter.unusedSimpArgs false
attribute [local irreducible] seq ByteArray.extract
theorem bk_Balance (s:Bks) (a:ByteArray):FC Tryz.prog 20 11 [.ptr 1 0 0 0,.str a] (bkHp s) (isOut (.int .i64 (s.lg.bal a s.cur)) (bkOt s) 26):=by
 have c1:=lg_Balance s.lg a s.cur
 generalize s.lg.bal a s.cur=x at*
 refine fc_of mixed T_ok Tryz.func11 rfl (by kernel_rfl) (by kernel_rfl) (by kernel_rfl) ?_
 repeat' ((conv=>whnf);first|refine vcall_o (l:= [0,4,5,6,7,8,9]) (c1) ?_|refine vcallD_o (l:= [0,4,5,6,7,8,9]) (c1) ?_|((first|apply br_dec|apply br_ndec)<;>intro h<;>try (exfalso;(try dsimp only at h);omega))|((first|apply br_seq|apply br_nseq|apply br_not|apply br_intro)<;>intro h)|refine cond_a ?_)
 all_goals (conv=>whnf)
 all_goals first
  |exact ret_out (l:= [0,1,2,3,4,5,6,7,8,9,10,11,12,13,14,15,16,17,18,19,2,6,10,17,18,19]) rfl rfl ⟨rfl,rfl,rfl,rfl,rfl,rfl,rfl,rfl,rfl,rfl,rfl,rfl,rfl,rfl,rfl,rfl,rfl,rfl,rfl,trivial⟩ bkRw_rw
  |trace_state
theorem bk_Positions (s:Bks) (h:BkOk s) (d:Int):FC Tryz.prog 20 13 [.ptr 1 0 0 0,.int .i64 d] (bkHp s)
  (isOut (.sl 26 0 0 (posL s.ds s.B d).length) ((26,some (.one false (pxB (posL s.ds s.B d).length (pxOf (posL s.ds s.B d)))))::bkOt s) 27):=by
 have c1:=cy_Positions h.bks s.cut d
 generalize posL s.ds s.B d=L at*
 refine fc_of mixed T_ok Tryz.func13 rfl (by kernel_rfl) (by kernel_rfl) (by kernel_rfl) ?_
 repeat' ((conv=>whnf);first|refine vcall_o (l:= [0,11,12,13,14,15,16,17,18,19]) (c1) ?_|refine vcallD_o (l:= [0,11,12,13,14,15,16,17,18,19]) (c1) ?_|((first|apply br_dec|apply br_ndec)<;>intro h<;>try (exfalso;(try dsimp only at h);omega))|((first|apply br_seq|apply br_nseq|apply br_not|apply br_intro)<;>intro h)|refine cond_a ?_)
 all_goals (conv=>whnf)
 all_goals first
  |exact ret_out (l:= [0,1,2,3,4,5,6,7,8,9,10,11,12,13,14,15,16,17,18,19,2,6,10,17,18,19,20]) rfl rfl ⟨rfl,rfl,rfl,rfl,rfl,rfl,rfl,rfl,rfl,rfl,rfl,rfl,rfl,rfl,rfl,rfl,rfl,rfl,rfl,rfl,trivial⟩ (allRw_cons bkRw_rw)
  |trace_state
theorem bk_Auth (s:Bks) (h:BkOk s) (id:ByteArray) (hp:s.pl id<s.na):FC Tryz.prog 20 10 [.ptr 1 0 0 0,.str id] (bkHp s) (isOut (.tup [(auAt s.au (s.pl id)).s,.bool true]) (bkOt s) 26):=by
 have hb:decide (sidx s.aid id<s.na)=true:=decide_eq_true hp
 have hpl:=lg_pl hp
 have hcn:0≤((List.range s.na).map Int.ofNat).getD (s.pl id) 0∧((List.range s.na).map Int.ofNat).getD (s.pl id) 0<(s.na:Int):=by rw [hpl];omega
 refine fc_of mixed T_ok Tryz.func10 rfl (by kernel_rfl) (by kernel_rfl) (by kernel_rfl) ?_
 repeat' ((conv=>whnf);first|(rw [hb];try dsimp only [setMany,setNth])|(simp only [hpl,lg_tn])|((first|apply br_dec|apply br_ndec)<;>intro h<;>try (exfalso;(try dsimp only at h);omega))|((first|apply br_seq|apply br_nseq|apply br_not|apply br_intro)<;>intro h)|refine cond_a ?_)
 all_goals (conv=>whnf)
 all_goals first
  |exact ret_out (l:= [0,1,2,3,4,5,6,7,8,9,10,11,12,13,14,15,16,17,18,19,2,6,10,17,18,19]) rfl rfl ⟨rfl,rfl,rfl,rfl,rfl,rfl,rfl,rfl,rfl,rfl,rfl,rfl,rfl,rfl,rfl,rfl,rfl,rfl,rfl,trivial⟩ bkRw_rw
  |trace_state
end Go.Proofs.YtlankgapiecloaaGreatDoor
namespace Go.Proofs.YtlankgapiecloaaGreatDoor
open Go.RowKit Go.Sy
attribute [local irreducible] vcall vloop vcallD retP sortI
set_option maxRecDepth 100000
set_option linter.unusedVariables false
set_option linter.unusedSimpArgs false
def dgT (L:List Au):Nat→ByteArray
 |0=>⟨#[]⟩
 |k+1=>dgT L k++(auT (auAt L k)++⟨#[59]⟩)
theorem dgT_size (L:List Au):∀k,(dgT L k).size≤1001*k∧(1≤k→0<(dgT L k).size)
 |0=>⟨Nat.le_refl _,fun h=>absurd h (by decide)⟩
 |k+1=>by
  have ih:=dgT_size L k
  have h1:=auT_sz (auAt L k)
  have h2:(⟨#[59]⟩:ByteArray).size=1:=rfl
  simp only [dgT,ByteArray.size_append,h2]
  omega
def dgI (s:Bks):Int:=chI s.lg.dig (dgT s.au s.na++decI s.last)
attribute [local irreducible] seq ByteArray.extract
theorem decI_pos (n:Int):0<(decI n).size:=by
 have h1:=ndig_pos n.toNat
 unfold decI dec
 split
 ·simp [bytesOf,ByteArray.size]
 ·simp [bytesOf,ByteArray.size,digs_length];exact h1
abbrev dgHp (s:Bks):Heap:= [(0,some (GB glT)),(1,bkC1 true 2 s),(2,some (.one true (auB s.na s.au))),(4,some (.one true (.cells (lgF 5 6 7 8 9 s.lg))))]
def dgS (s:Bks):Nat→VS
 |0=>⟨[(0,.ptr 1 0 0 0),(3,.ptr 20 0 0 0),(11,.sl 2 0 0 s.na),(12,.int .i64 s.na),(13,.int .i64 ((0:Nat):Int))],(20,bld0B)::dgHp s,21⟩
 |k+1=>⟨[(0,.ptr 1 0 0 0),(3,.ptr 20 0 0 0),(11,.sl 2 0 0 s.na),(12,.int .i64 s.na),(13,.int .i64 ((k+1:Nat):Int))],(20,bldB 21 (dgT s.au (k+1)).size)::(21,browB (dgT s.au (k+1)))::dgHp s,22⟩
theorem bk_Digest (s:Bks) (h:BkOk s):FC Tryz.prog 20 9 [.ptr 1 0 0 0] (dgHp s) (isOut (.int .u64 (dgI s)) [] 20):=by
 have hn:=h.n256
 have hl:=h.last
 have c5:=lg_Digest s.lg
 have g1:=conv_Itoa s.last (by omega) (by omega)
 have hd:=decI_size s.last (by omega) (by omega)
 have hd0:0<(decI s.last).size:=decI_pos s.last
 have hT:=dgT_size s.au
 refine fc_of mixed T_ok Tryz.func9 rfl (by kernel_rfl) (by kernel_rfl) (by kernel_rfl) ?_
 repeat' ((conv=>whnf);first|((first|apply br_dec|apply br_ndec)<;>intro h<;>try (exfalso;(try dsimp only at h);omega))|((first|apply br_seq|apply br_nseq|apply br_not|apply br_intro)<;>intro h)|refine cond_a ?_)
 all_goals (conv=>whnf)
 refine vloop_of (dgS s) (fun k=>k≤s.na) (fun k=>s.na-k) 0 [0,1,2,3,4,5,6,7,8,9,10,11,12,13,14,15,16,17,18,19,20] [] ⟨rfl,⟨rfl,rfl,rfl,rfl,rfl,trivial⟩,⟨rfl,gwk rfl,rfl,rfl,rfl,trivial⟩⟩ (Nat.zero_le _) ?_
 intro k hk
 by_cases hk2:k<s.na
 ·have c2:=auth_Encode (auAt s.au k)
  have hz:=auT_sz (auAt s.au k)
  have hz1:(⟨#[59]⟩:ByteArray).size=1:=rfl
  have hs1:(auT (auAt s.au k)++⟨#[59]⟩).size=(auT (auAt s.au k)).size+1:=by rw [ByteArray.size_append,hz1]
  have hcd:(auT (auAt s.au k)).size+(⟨#[59]⟩:ByteArray).size≤9223372036854775807:=by omega
  cases k with
  |zero=>
   have c3:=bld_WS0 (auT (auAt s.au 0)++⟨#[59]⟩) (by omega) (by omega)
   have hTe:dgT s.au 1=auT (auAt s.au 0)++⟨#[59]⟩:=by simp only [dgT];exact ByteArray.empty_append
   rw [←hTe] at c3
   unfold dgS
   repeat' ((conv=>whnf);first|(refine cond_intro hcd ?_)|(refine vcall_glob (c2) rfl rfl rfl rfl ?_)|(refine vcallD_glob (c2) rfl rfl rfl rfl ?_)|refine vcall_o (l:= [0,20]) (c3) ?_|refine vcallD_o (l:= [0,20]) (c3) ?_|((first|apply br_dec|apply br_ndec)<;>intro h<;>try (exfalso;(try dsimp only at h);omega))|((first|apply br_seq|apply br_nseq|apply br_not|apply br_intro)<;>intro h)|refine cond_a ?_)
   all_goals (conv=>whnf)
   all_goals first
    |(exfalso;omega)
    |exact ⟨1,[0,1,2,3,4,5,6,7,8,9,10,11,12,13,14,15,16,17,18,19,20,22],[],hk2,(show s.na-1<s.na-0 by omega),⟨rfl,⟨rfl,rfl,rfl,rfl,congrArg (fun z=>some (SV.int .i64 z)) (i64_succ (by omega)),trivial⟩,⟨rfl,rfl,gwk rfl,rfl,rfl,rfl,trivial⟩⟩⟩
    |trace_state
  |succ k=>
   have hTk:=hT (k+1)
   have c3:=bld_WS (dgT s.au (k+1)) (auT (auAt s.au (k+1))++⟨#[59]⟩) (by omega) (by omega)
   have hTe:dgT s.au (k+1+1)=dgT s.au (k+1)++(auT (auAt s.au (k+1))++⟨#[59]⟩):=rfl
   rw [←hTe] at c3
   unfold dgS
   repeat' ((conv=>whnf);first|(refine cond_intro hcd ?_)|(refine vcall_glob (c2) rfl rfl rfl rfl ?_)|(refine vcallD_glob (c2) rfl rfl rfl rfl ?_)|refine vcall_o (l:= [0,20,21]) (c3) ?_|refine vcallD_o (l:= [0,20,21]) (c3) ?_|((first|apply br_dec|apply br_ndec)<;>intro h<;>try (exfalso;(try dsimp only at h);omega))|((first|apply br_seq|apply br_nseq|apply br_not|apply br_intro)<;>intro h)|refine cond_a ?_)
   all_goals (conv=>whnf)
   all_goals first
    |(exfalso;omega)
    |exact ⟨k+1+1,[0,1,2,3,4,5,6,7,8,9,10,11,12,13,14,15,16,17,18,19,20,23],[],hk2,(show s.na-(k+1+1)<s.na-(k+1) by omega),⟨rfl,⟨rfl,rfl,rfl,rfl,congrArg (fun z=>some (SV.int .i64 z)) (i64_succ (by omega)),trivial⟩,⟨rfl,rfl,gwk rfl,rfl,rfl,rfl,trivial⟩⟩⟩
    |trace_state
 have ek:k=s.na:=by omega
 subst ek
 have hz:(dgT s.au s.na++decI s.last).size≤9223372036854775000:=by
  have:=(hT s.na).1
  rw [ByteArray.size_append];omega
 have c6:=chk_Chain s.lg.dig (dgT s.au s.na++decI s.last) hz
 have hp:0<(dgT s.au s.na++decI s.last).size:=by rw [ByteArray.size_append];omega
 have c7:=bld_String (dgT s.au s.na++decI s.last) hp
 unfold dgI
 generalize hX:chI s.lg.dig (dgT s.au s.na++decI s.last)=X at*
 cases hna:s.na with
 |zero=>
  rw [hna] at c6 c7 hp hz
  have e0:dgT s.au 0++decI s.last=decI s.last:=ByteArray.empty_append
  rw [e0] at c6 c7 hp hz
  have c3:=bld_WS0 (decI s.last) hd0 (by omega)
  unfold dgS
  repeat' ((conv=>whnf);first|(refine vcall_glob (g1) rfl rfl rfl rfl ?_)|(refine vcallD_glob (g1) rfl rfl rfl rfl ?_)|refine vcall_o (l:= [0,20]) (c3) ?_|refine vcallD_o (l:= [0,20]) (c3) ?_|refine vcall_o (l:= [0,4,5,6,7,8,9]) (c5) ?_|refine vcallD_o (l:= [0,4,5,6,7,8,9]) (c5) ?_|refine vcall_o (l:= [0,20,21]) (c7) ?_|refine vcallD_o (l:= [0,20,21]) (c7) ?_|(refine vcall_pure (c6) rfl rfl rfl ?_)|(refine vcallD_pure (c6) rfl rfl rfl ?_)|((first|apply br_dec|apply br_ndec)<;>intro h<;>try (exfalso;(try dsimp only at h);omega))|((first|apply br_seq|apply br_nseq|apply br_not|apply br_intro)<;>intro h)|refine cond_a ?_)
  all_goals (conv=>whnf)
  all_goals first
   |(exfalso;omega)
   |exact ret_out (l:= [0,1,2,3,4,5,6,7,8,9,10,11,12,13,14,15,16,17,18,19]) rfl rfl trivial allRw_nil
   |trace_state
 |succ k=>
  rw [hna] at c6 c7 hp hz
  have hTk:=hT (k+1)
  have c3:=bld_WS (dgT s.au (k+1)) (decI s.last) hd0 (by omega)
  unfold dgS
  repeat' ((conv=>whnf);first|(refine vcall_glob (g1) rfl rfl rfl rfl ?_)|(refine vcallD_glob (g1) rfl rfl rfl rfl ?_)|refine vcall_o (l:= [0,20,21]) (c3) ?_|refine vcallD_o (l:= [0,20,21]) (c3) ?_|refine vcall_o (l:= [0,4,5,6,7,8,9]) (c5) ?_|refine vcallD_o (l:= [0,4,5,6,7,8,9]) (c5) ?_|refine vcall_o (l:= [0,20,22]) (c7) ?_|refine vcallD_o (l:= [0,20,22]) (c7) ?_|(refine vcall_pure (c6) rfl rfl rfl ?_)|(refine vcallD_pure (c6) rfl rfl rfl ?_)|((first|apply br_dec|apply br_ndec)<;>intro h<;>try (exfalso;(try dsimp only at h);omega))|((first|apply br_seq|apply br_nseq|apply br_not|apply br_intro)<;>intro h)|refine cond_a ?_)
  all_goals (conv=>whnf)
  all_goals first
   |(exfalso;omega)
   |exact ret_out (l:= [0,1,2,3,4,5,6,7,8,9,10,11,12,13,14,15,16,17,18,19]) rfl rfl trivial allRw_nil
   |trace_state
end Go.Proofs.YtlankgapiecloaaGreatDoor
namespace Go.Proofs.YtlankgapiecloaaGreatDoor
open Go.RowKit Go.Sy
attribute [local irreducible] vcall vloop vcallD retP sortI
set_option maxRecDepth 100000
set_option linter.unusedVariables false
set_option linter.unusedSimpArgs false
attribute [local irreducible] seq ByteArray.extract
theorem bk_BalanceR (s:Bks) (a:ByteArray):FC Tryz.prog 20 11 [.ptr 1 0 0 0,.str a] [(1,bkC1 true 2 s),(9,lgBg true s.lg),(4,some (.one true (.cells (lgF 5 6 7 8 9 s.lg))))] (isOut (.int .i64 (s.lg.bal a s.cur)) [] 20):=by
 have c1:=lg_Balance s.lg a s.cur
 generalize s.lg.bal a s.cur=x at*
 refine fc_of mixed T_ok Tryz.func11 rfl (by kernel_rfl) (by kernel_rfl) (by kernel_rfl) ?_
 repeat' ((conv=>whnf);first|refine vcall_o (l:= [0,4,5,6,7,8,9]) (c1) ?_|refine vcallD_o (l:= [0,4,5,6,7,8,9]) (c1) ?_|((first|apply br_dec|apply br_ndec)<;>intro h<;>try (exfalso;(try dsimp only at h);omega))|((first|apply br_seq|apply br_nseq|apply br_not|apply br_intro)<;>intro h)|refine cond_a ?_)
 all_goals (conv=>whnf)
 all_goals first
  |exact ret_out (l:= [0,1,2,3,4,5,6,7,8,9,10,11,12,13,14,15,16,17,18,19]) rfl rfl trivial allRw_nil
  |trace_state
abbrev bkCy (s:Bks):Heap:= [(11,cyC true 12 14 15 16 s.np s.cut),(15,cyB true 17 s.m s.ds),(17,fmB true s.m (f7 18 19 s.np)),(18,fmB true s.m (f8 s.np (sortS s.pr))),(19,fmB true s.m (f9 s.B))]
theorem bk_PositionsR (s:Bks) (h:BkOk s) (d:Int):FC Tryz.prog 20 13 [.ptr 1 0 0 0,.int .i64 d] ((1,bkC1 true 2 s)::bkCy s)
  (isOut (.sl 20 0 0 (posL s.ds s.B d).length) [(20,some (.one false (pxB (posL s.ds s.B d).length (pxOf (posL s.ds s.B d)))))] 21):=by
 have c1:=cy_Positions h.bks s.cut d
 generalize posL s.ds s.B d=L at*
 refine fc_of mixed T_ok Tryz.func13 rfl (by kernel_rfl) (by kernel_rfl) (by kernel_rfl) ?_
 repeat' ((conv=>whnf);first|refine vcall_o (l:= [0,11,12,13,14,15,16,17,18,19]) (c1) ?_|refine vcallD_o (l:= [0,11,12,13,14,15,16,17,18,19]) (c1) ?_|((first|apply br_dec|apply br_ndec)<;>intro h<;>try (exfalso;(try dsimp only at h);omega))|((first|apply br_seq|apply br_nseq|apply br_not|apply br_intro)<;>intro h)|refine cond_a ?_)
 all_goals (conv=>whnf)
 all_goals first
  |exact ret_out (l:= [0,1,2,3,4,5,6,7,8,9,10,11,12,13,14,15,16,17,18,19,20]) rfl rfl ⟨rfl,trivial⟩ (allRw_cons allRw_nil)
  |trace_state
abbrev bkPlR (n:Nat) (ids:List ByteArray):Option HB:=some (.one true (.obj (.map false false n [.strs ids] [.sc (.ints .i64 ((List.range n).map Int.ofNat))] (List.range n) n)))
theorem bk_AuthR (s:Bks) (h:BkOk s) (id:ByteArray):FC Tryz.prog 20 10 [.ptr 1 0 0 0,.str id] [(1,bkC1 true 2 s),(2,some (.one true (auB s.na s.au))),(3,bkPlR s.na s.aid)] (isOut (.tup [(auAt s.au (s.pl id)).s,.bool (decide (s.pl id<s.na))]) [] 20):=by
 by_cases hp:s.pl id<s.na
 ·have hb:decide (sidx s.aid id<s.na)=true:=decide_eq_true hp
  have hpl:=lg_pl hp
  have hcn:0≤((List.range s.na).map Int.ofNat).getD (s.pl id) 0∧((List.range s.na).map Int.ofNat).getD (s.pl id) 0<(s.na:Int):=by rw [hpl];omega
  rw [show decide (s.pl id<s.na)=true from hb]
  refine fc_of mixed T_ok Tryz.func10 rfl (by kernel_rfl) (by kernel_rfl) (by kernel_rfl) ?_
  repeat' ((conv=>whnf);first|(rw [hb];try dsimp only [setMany,setNth])|(simp only [hpl,lg_tn])|((first|apply br_dec|apply br_ndec)<;>intro h<;>try (exfalso;(try dsimp only at h);omega))|((first|apply br_seq|apply br_nseq|apply br_not|apply br_intro)<;>intro h)|refine cond_a ?_)
  all_goals (conv=>whnf)
  all_goals first
   |exact ret_out (l:= [0,1,2,3,4,5,6,7,8,9,10,11,12,13,14,15,16,17,18,19]) rfl rfl trivial allRw_nil
   |trace_state
 ·have hb:decide (sidx s.aid id<s.na)=false:=decide_eq_false hp
  have hz:auAt s.au (s.pl id)=Au.zero:=by
   rw [auAt_eq,List.getD,List.getElem?_eq_none (by rw [h.na];omega)];rfl
  rw [show decide (s.pl id<s.na)=false from hb,hz]
  refine fc_of mixed T_ok Tryz.func10 rfl (by kernel_rfl) (by kernel_rfl) (by kernel_rfl) ?_
  repeat' ((conv=>whnf);first|(rw [hb];try dsimp only [setMany,setNth])|((first|apply br_dec|apply br_ndec)<;>intro h<;>try (exfalso;(try dsimp only at h);omega))|((first|apply br_seq|apply br_nseq|apply br_not|apply br_intro)<;>intro h)|refine cond_a ?_)
  all_goals (conv=>whnf)
  all_goals first
   |exact ret_out (l:= [0,1,2,3,4,5,6,7,8,9,10,11,12,13,14,15,16,17,18,19]) rfl rfl trivial allRw_nil
   |trace_state
theorem law_same50 (pc:PxC) (n:Nat) (hl:n≤100000000):FC Tryz.prog 3 12 [.sl 1 0 0 n,.sl 2 0 0 n] [(1,some (.one true (pxB n pc))),(2,some (.one true (pxB n pc)))] (isOut (.bool true) [] 3):=by
 refine fc_of mixed T_ok Tryz.func12 rfl (by kernel_rfl) (by kernel_rfl) (by kernel_rfl) ?_
 repeat' ((conv=>whnf);first|((first|apply br_dec|apply br_ndec)<;>intro h<;>try (exfalso;(try dsimp only at h);omega))|((first|apply br_seq|apply br_nseq|apply br_not|apply br_intro)<;>intro h)|refine cond_a ?_)
 all_goals (conv=>whnf)
 all_goals first
  |(exfalso;first|omega|contradiction)
  |skip
 refine vloop_lp (fun k:Nat=>⟨[(0,.sl 1 0 0 n),(1,.sl 2 0 0 n),(5,.int .i64 k)],[(1,some (.one true (pxB n pc))),(2,some (.one true (pxB n pc)))],3⟩) (fun k=>k≤n) (fun k=>n-k) 0 [0,1,2] [] ⟨rfl,⟨rfl,rfl,rfl,trivial⟩,⟨rfl,rfl,trivial⟩⟩ (Nat.zero_le _) ?_
 intro k hk
 by_cases hk2:k<n
 ·repeat' ((conv=>whnf);first|((first|apply br_dec|apply br_ndec)<;>intro h<;>try (exfalso;(try dsimp only at h);omega))|((first|apply br_seq|apply br_nseq|apply br_not|apply br_intro)<;>intro h)|refine cond_a ?_)
  all_goals (conv=>whnf)
  all_goals first
   |(exfalso;first|omega|contradiction|(simp [seq] at h;done))
   |exact ⟨k+1,[0,1,2],[],hk2,(show n-(k+1)<n-k by omega),⟨rfl,⟨rfl,rfl,congrArg (fun z=>some (SV.int .i64 z)) (i64_succ (by omega)),trivial⟩,⟨rfl,rfl,trivial⟩⟩⟩
   |trace_state
 ·repeat' ((conv=>whnf);first|((first|apply br_dec|apply br_ndec)<;>intro h<;>try (exfalso;(try dsimp only at h);omega))|((first|apply br_seq|apply br_nseq|apply br_not|apply br_intro)<;>intro h)|refine cond_a ?_)
  all_goals (conv=>whnf)
  all_goals first
   |exact ret_out (l:= [0,1,2]) rfl rfl trivial allRw_nil
   |(exfalso;first|omega|contradiction)
   |trace_state
end Go.Proofs.YtlankgapiecloaaGreatDoor
namespace Go.Proofs.YtlankgapiecloaaGreatDoor
open Go.RowKit Go.Sy
attribute [local irreducible] vcall vloop vcallD retP sortI
set_option maxRecDepth 100000
set_option linter.unusedVariables false
set_option linter.unusedSimpArgs false
attribute [local irreducible] seq ByteArray.extract
abbrev bkRr (r:Nat→Nat) (s:Bks):Heap:=
 (r 1,some (.one false (.cells [.str s.cur,.int .i64 s.days,.sl (r 2) 0 0 s.na,.map (r 3) 0,.ptr (r 4) 0 0 0,.int .i64 s.lg.ne,.ptr (r 11) 0 0 0,.int .i64 s.last])))::(r 2,some (.one false (auB s.na s.au)))::(r 3,bkPl s.na s.aid)::
 (r 9,lgBg false s.lg)::(r 4,some (.one false (.cells (lgF (r 5) (r 6) (r 7) (r 8) (r 9) s.lg))))::(r 5,some (.one false (lgAcc s.lg)))::(r 6,some (.one false (lgEnt (r 10) s.lg)))::(r 7,some (.one false (lgPl s.lg)))::(r 8,some (.one false (lgSt s.lg)))::(r 10,lgFam false s.lg)::
 (r 11,cyC false (r 12) (r 14) (r 15) (r 16) s.np s.cut)::(r 12,calC false (r 13))::(r 13,tmM false s.hn s.hs)::(r 14,cyP false s.np s.pr)::(r 16,tmM false s.nc s.cd)::bksH (r 15) (r 17) (r 18) (r 19) s.np s.m s.ds s.B (sortS s.pr)
theorem bkRr_rw {r:Nat→Nat} {s:Bks}:allRw (bkRr r s):=
 allRw_cons (allRw_cons (allRw_cons (allRw_cons (allRw_cons (allRw_cons (allRw_cons (allRw_cons (allRw_cons (allRw_fam (allRw_cons (allRw_cons (allRw_cons (allRw_cons (allRw_cons bks_rw))))))))))))))
theorem pty_take {L:List ByteArray} {k:Nat} (hk:k<L.length):(L.take k).map ptyS++ [ptyS (L.getD k ⟨#[]⟩)]=(L.take (k+1)).map ptyS:=by
 rw [take_snoc hk,List.map_append];rfl
abbrev bnS (L:List ByteArray) (n:Nat) (cur:ByteArray) (m:Nat) (cut days:Int) (S:List Int) (k:Nat):VS:=
 ⟨[(1,.ptr 3 0 0 0),(6,.ptr 6 0 0 0),(7,.sl 13 0 0 k),(46,.sl 1 0 0 n),(47,.int .i64 n),(48,.int .i64 k)],
  (1,some (.one true (.cols n [.sc (.strs L)])))::(3,some (.one false (.cells [.sl 1 0 0 n,.str cur,.sl 2 0 0 m,.int .i64 cut,.int .i64 days])))::(4,calC false 5)::(5,tmM false S.length S)::(6,cyC false 4 7 8 9 n cut)::(7,cyP false n L)::(9,tmM false 0 [])::
  (13,some (.one false (.cols k [.sc (.strs ((L.take k).map ptyS))])))::bksH 8 10 11 12 n 0 [] [] (sortS L),14⟩
theorem bk_New_no (cur:ByteArray) (days cut:Int) (L:List ByteArray) (n:Nat) (H:List Int) (m:Nat) (hL:L.length=n) (hH:H.length=m) (he:bkE cur days H m cut L≠0):
  FC Tryz.prog 3 4 [.agg [.sl 1 0 0 n,.str cur,.sl 2 0 0 m,.int .i64 cut,.int .i64 days]] [(1,some (.one true (.cols n [.sc (.strs L)]))),(2,some (.one true (.cols m [.sc (.ints .i64 H)])))] (isOut (.tup [.nptr,.int .i64 (bkE cur days H m cut L)]) [] 3):=by
 have c0:=bk_isCur cur
 have c1:=cal_New H m hH
 unfold holO at c1
 have c2:=cy_New cut L n hL
 unfold cnO at c2
 unfold bkE at he⊢
 by_cases h1:days<1∨1000<days
 ·rw [if_pos h1]
  refine fc_of mixed T_ok Tryz.func4 rfl (by kernel_rfl) (by kernel_rfl) (by kernel_rfl) ?_
  repeat' ((conv=>whnf);first|(refine vcall_pure (c0) rfl rfl rfl ?_)|(refine vcallD_pure (c0) rfl rfl rfl ?_)|refine vcall_o (l:= [0,2]) (c1) ?_|refine vcall_o (l:= [0,4,1]) (c2) ?_|((first|apply br_dec|apply br_ndec)<;>intro h<;>try (exfalso;(try dsimp only at h);omega))|((first|apply br_seq|apply br_nseq|apply br_not|apply br_intro)<;>intro h)|refine cond_a ?_)
  all_goals (conv=>whnf)
  all_goals first
   |exact ret_out (l:= [0,1,2]) rfl rfl trivial allRw_nil
   |(exfalso;omega)
   |trace_state
 rw [if_neg h1] at he⊢
 by_cases h2:curB cur=false
 ·rw [if_pos h2]
  rw [h2] at c0
  refine fc_of mixed T_ok Tryz.func4 rfl (by kernel_rfl) (by kernel_rfl) (by kernel_rfl) ?_
  repeat' ((conv=>whnf);first|(refine vcall_pure (c0) rfl rfl rfl ?_)|(refine vcallD_pure (c0) rfl rfl rfl ?_)|refine vcall_o (l:= [0,2]) (c1) ?_|refine vcall_o (l:= [0,4,1]) (c2) ?_|((first|apply br_dec|apply br_ndec)<;>intro h<;>try (exfalso;(try dsimp only at h);omega))|((first|apply br_seq|apply br_nseq|apply br_not|apply br_intro)<;>intro h)|refine cond_a ?_)
  all_goals (conv=>whnf)
  all_goals first
   |exact ret_out (l:= [0,1,2]) rfl rfl trivial allRw_nil
   |(exfalso;omega)
   |trace_state
 rw [if_neg h2] at he⊢
 have h2':curB cur=true:=by simpa using h2
 rw [h2'] at c0
 by_cases h3:holE H m≠0
 ·rw [if_pos h3]
  rw [if_neg h3] at c1
  generalize holE H m=E at*
  refine fc_of mixed T_ok Tryz.func4 rfl (by kernel_rfl) (by kernel_rfl) (by kernel_rfl) ?_
  repeat' ((conv=>whnf);first|(refine vcall_pure (c0) rfl rfl rfl ?_)|(refine vcallD_pure (c0) rfl rfl rfl ?_)|refine vcall_o (l:= [0,2]) (c1) ?_|refine vcall_o (l:= [0,4,1]) (c2) ?_|((first|apply br_dec|apply br_ndec)<;>intro h<;>try (exfalso;(try dsimp only at h);omega))|((first|apply br_seq|apply br_nseq|apply br_not|apply br_intro)<;>intro h)|refine cond_a ?_)
  all_goals (conv=>whnf)
  all_goals first
   |(exfalso;exact h3 h)
   |exact ret_out (l:= [0,1,2]) rfl rfl trivial allRw_nil
   |(exfalso;omega)
   |trace_state
 rw [if_neg h3] at he⊢
 rw [if_pos (by omega)] at c1
 rw [if_neg he] at c2
 generalize cnE cut L=E at*
 refine fc_of mixed T_ok Tryz.func4 rfl (by kernel_rfl) (by kernel_rfl) (by kernel_rfl) ?_
 repeat' ((conv=>whnf);first|(refine vcall_pure (c0) rfl rfl rfl ?_)|(refine vcallD_pure (c0) rfl rfl rfl ?_)|refine vcall_o (l:= [0,2]) (c1) ?_|refine vcall_o (l:= [0,4,1]) (c2) ?_|((first|apply br_dec|apply br_ndec)<;>intro h<;>try (exfalso;(try dsimp only at h);omega))|((first|apply br_seq|apply br_nseq|apply br_not|apply br_intro)<;>intro h)|refine cond_a ?_)
 all_goals (conv=>whnf)
 all_goals first
  |(exfalso;exact he h)
  |exact ret_out (l:= [0,1,2]) rfl rfl trivial allRw_nil
  |(exfalso;omega)
  |trace_state
theorem bk_New_ok (cur:ByteArray) (days cut:Int) (L:List ByteArray) (n:Nat) (H:List Int) (m:Nat) (hL:L.length=n) (hH:H.length=m) (he:bkE cur days H m cut L=0):
  FC Tryz.prog 3 4 [.agg [.sl 1 0 0 n,.str cur,.sl 2 0 0 m,.int .i64 cut,.int .i64 days]] [(1,some (.one true (.cols n [.sc (.strs L)]))),(2,some (.one true (.cols m [.sc (.ints .i64 H)])))] (isOut (.tup [.ptr 3 0 0 0,.int .i64 0]) (bkRr (fun i=>i+2) (bk1 cur days H cut L)) 22):=by
 subst hL
 have c0:=bk_isCur cur
 have c1:=cal_New H m hH
 unfold holO at c1
 have c2:=cy_New cut L L.length rfl
 unfold cnO at c2
 have hbk:=bk1_ok he
 have hn:=hbk.n256
 unfold bkE at he
 by_cases h1:days<1∨1000<days
 ·rw [if_pos h1] at he;cases he
 rw [if_neg h1] at he
 by_cases h2:curB cur=false
 ·rw [if_pos h2] at he;cases he
 rw [if_neg h2] at he
 have h2':curB cur=true:=by simpa using h2
 rw [h2'] at c0
 by_cases h3:holE H m≠0
 ·rw [if_pos h3] at he;exact absurd he h3
 rw [if_neg h3] at he
 rw [if_pos (by omega)] at c1
 rw [if_pos he] at c2
 have hnw:nwErr L=0:=by
  unfold cnE at he
  split at he
  ·cases he
  ·exact he
 obtain ⟨w1,w2,w3⟩:=nw_ok hnw
 have c5:=lg_New_ok (L.map ptyS) L.length (by rw [List.length_map]) (pty_err hnw)
 unfold bk1
 generalize hG0:lg0 (L.map ptyS)=G0 at*
 have hG:(G0.ne:Int)=0:=by rw [←hG0];rfl
 generalize ddS H=S at*
 refine fc_of mixed T_ok Tryz.func4 rfl (by kernel_rfl) (by kernel_rfl) (by kernel_rfl) ?_
 repeat' ((conv=>whnf);first|(refine vcall_pure (c0) rfl rfl rfl ?_)|(refine vcallD_pure (c0) rfl rfl rfl ?_)|refine vcall_o (l:= [0,2]) (c1) ?_|refine vcall_o (l:= [0,4,1]) (c2) ?_|((first|apply br_dec|apply br_ndec)<;>intro h<;>try (exfalso;(try dsimp only at h);omega))|((first|apply br_seq|apply br_nseq|apply br_not|apply br_intro)<;>intro h)|refine cond_a ?_)
 all_goals (conv=>whnf)
 all_goals first
  |(exfalso;omega)
  |(exfalso;exact h rfl)
  |skip
 refine vloop_of (bnS L L.length cur m cut days S) (fun k=>k≤L.length) (fun k=>L.length-k) 0 [0,1,2,3,4,5,6,7,8,9,10,11,12,13] [.slot 7 [.sc (.strs [])]] ⟨rfl,⟨rfl,rfl,rfl,rfl,rfl,rfl,trivial⟩,⟨rfl,rfl,rfl,rfl,rfl,rfl,rfl,rfl,rfl,rfl,rfl,rfl,trivial⟩⟩ (Nat.zero_le _) ?_
 intro k hk
 by_cases hk2:k<L.length
 ·have hin:L.getD k ⟨#[]⟩∈L:=by rw [List.getD,List.getElem?_eq_getElem (by omega)];exact List.getElem_mem _
  have hz:=nmB_16 (w3 _ hin)
  have c4:=bk_accountOf (L.getD k ⟨#[]⟩) (by omega)
  have hT:=pty_take (L:=L) (k:=k) (by omega)
  have hrow:=congrArg (fun z=>some (HB.one false (Blk.cols (k+1) [.sc (.strs z)]))) hT
  unfold bnS
  repeat' ((conv=>whnf);first|(refine vcall_pure (c4) rfl rfl rfl ?_)|(refine vcallD_pure (c4) rfl rfl rfl ?_)|((first|apply br_dec|apply br_ndec)<;>intro h<;>try (exfalso;(try dsimp only at h);omega))|((first|apply br_seq|apply br_nseq|apply br_not|apply br_intro)<;>intro h)|refine cond_a ?_)
  all_goals (conv=>whnf)
  all_goals first
   |(exfalso;omega)
   |exact ⟨k+1,[0,1,2,3,4,5,6,7,8,9,10,11,12,15],[],hk2,(show L.length-(k+1)<L.length-k by omega),⟨rfl,⟨rfl,rfl,rfl,rfl,rfl,congrArg (fun z=>some (SV.int .i64 z)) (i64_succ (by omega)),trivial⟩,⟨rfl,rfl,rfl,rfl,rfl,rfl,rfl,hrow,rfl,rfl,rfl,rfl,trivial⟩⟩⟩
   |trace_state
 have ek:k=L.length:=by omega
 subst ek
 unfold bnS
 rw [show L.take L.length=L from List.take_length]
 repeat' ((conv=>whnf);first|refine vcall_o (l:= [0,13]) (c5) ?_|((first|apply br_dec|apply br_ndec)<;>intro h<;>try (exfalso;(try dsimp only at h);omega))|((first|apply br_seq|apply br_nseq|apply br_not|apply br_intro)<;>intro h)|refine cond_a ?_)
 all_goals (conv=>whnf)
 all_goals first
  |(exfalso;omega)
  |(exfalso;exact h rfl)
  |exact ret_up (l:= [0,1,2,22,23,21,14,15,16,17,18,19,20,6,4,5,7,8,9,10,11,12]) [.cell 22 2 [.sc (.strs []),.sc (.strs []),.sc (.ints .i64 []),.sc (.ints .i64 []),.sc (.ints .i64 []),.sc (.ints .i64 []),.sc (.ints .i64 []),.sc (.ints .i64 []),.sc (.ints .i64 []),.sc (.ints .i64 [])]] ⟨rfl,rfl,⟨(by simp only [hG];rfl),rfl,rfl,rfl,rfl,rfl,rfl,rfl,rfl,rfl,rfl,rfl,rfl,rfl,rfl,rfl,rfl,rfl,rfl,trivial⟩⟩ bkRr_rw
  |trace_state
end Go.Proofs.YtlankgapiecloaaGreatDoor
namespace Go.Proofs.YtlankgapiecloaaGreatDoor
open Go.RowKit Go.Sy
set_option linter.unusedVariables false
set_option linter.unusedSimpArgs false
set_option maxRecDepth 100000
attribute [local irreducible] sortI
abbrev sHb:ByteArray:=⟨#[104,111,109,101,98,97,110,107]⟩
abbrev sSb:ByteArray:=⟨#[115,104,111,112,98,97,110,107]⟩
abbrev sOb:ByteArray:=⟨#[111,116,104,101,114]⟩
abbrev sA1:ByteArray:=⟨#[97,45,49]⟩
abbrev sEu:ByteArray:=⟨#[69,85,82]⟩
abbrev q3:List ByteArray:= [sHb,sSb,sOb]
abbrev r3:List ByteArray:= [sHb,sOb,sSb]
theorem q3_sort:sortS q3=r3:=by
 refine sortS_of ((List.Perm.swap _ _ _).cons _) ?_
 refine .cons (fun a h=> ?_) (.cons (fun a h=> ?_) (.cons (fun a h=>absurd h (List.not_mem_nil)) .nil))<;>simp only [List.mem_cons,List.not_mem_nil,or_false] at h<;>(first|(rcases h with rfl|rfl<;>kernel_rfl)|(subst h;kernel_rfl))
theorem q3_bkE:bkE sEu 7 [] 0 64800 q3=0:=by kernel_rfl
def o1:Bop:=⟨1,100,⟨#[]⟩,sA1,⟨#[]⟩,⟨#[]⟩,1000,0,false⟩
def o2:Bop:=⟨4,200,⟨#[97,45,49,45,49]⟩,sA1,sHb,sSb,400,10,false⟩
def w0:Bks:=bk1 sEu 7 [] 64800 q3
def au1:Au:=⟨sA1,sEu,1000,0,0,0,1,100,604900,0⟩
def au2:Au:=⟨sA1,sEu,1000,0,400,0,1,100,604900,1⟩
def w1:Bks:= { w0 with na:=1,au:= [au1],last:=100}
def bq0:Bk:=⟨3,r3,0,[],[],[],0⟩
def bq1:Bk:=⟨3,r3,1,[sEu],[[-390,0,390,0,0,0,0,0,0,0,0,0,0,0,0,0]],[0],1⟩
def lq2:Lg:=lgP (lg0 (q3.map ptyS)) (enB w1 o2)
def w2:Bks:= { w1 with au:= [au2],m:=1,ds:= [0],B:= [bq1],lg:=lq2,last:=200}
theorem w0_E:doE w0 o1=0:=by kernel_rfl
theorem w0_S:doS w0 o1=w1:=by unfold doS;rw [w0_E,if_pos rfl];kernel_rfl
theorem bq_at:bkAt [] [] q3 0=bq0:=by
 unfold bkAt nwB
 rw [if_neg (by simp),q3_sort];rfl
theorem bq_mvE:mvE bq0 sHb sSb sEu 390=0:=by kernel_rfl
theorem bq_mv:bq0.mv sHb sSb sEu 390=bq1:=by kernel_rfl
theorem w1_D:bkD w1 200=0:=by kernel_rfl
theorem w1_X:owX w1 o2.t (mtF o2) (mtG o2) (mtN o2)=0:=by
 unfold owX
 rw [show bkD w1 o2.t=0 from w1_D]
 unfold mvX
 rw [if_neg (by decide)]
 show mvE (bkAt [] [] q3 0) sHb sSb sEu 390=0
 rw [bq_at]
 exact bq_mvE
theorem w1_cl:clA w1 o2=(au2,400,0,0):=by kernel_rfl
theorem w1_mm:mmE w1 o2=0:=by
 unfold mmE
 rw [if_neg (by decide),if_neg (by decide),if_pos (show o2.k=4 from rfl),if_pos (by decide),w1_cl,if_neg (fun e=>e rfl)]
 exact w1_X
theorem w1_E:doE w1 o2=0:=by
 have h1:ckE o2=0:=by kernel_rfl
 have h2:pfE w1 o2=mmE w1 o2:=by
  unfold pfE
  rw [if_neg (by decide),if_neg (by decide),if_pos (by decide)]
 unfold doE
 rw [if_neg (fun e=>e h1),if_neg (by decide),h2,w1_mm]
theorem w1_ow:owS w1 o2= { w1 with m:=1,ds:= [0],B:= [bq1],lg:=lq2}:=by
 unfold owS
 rw [show bkD w1 o2.t=0 from w1_D]
 show Bks.mk _ _ _ _ _ _ _ _ _ _ _ (mvBs [] [] 0 ((bkAt [] [] q3 0).mv sHb sSb sEu 390)) _ _ _ _=_
 rw [bq_at,bq_mv]
 rfl
theorem w1_S:doS w1 o2=w2:=by
 have h2:pfS w1 o2=mmS w1 o2:=by
  unfold pfS
  rw [if_neg (by decide),if_neg (by decide),if_pos (by decide)]
 unfold doS
 rw [w1_E,if_pos rfl,h2]
 unfold mmS
 rw [if_pos (show o2.k=4 from rfl),w1_cl,w1_ow]
 rfl
theorem w2_E:doE w2 o2=15:=by
 have h1:ckE o2=0:=by kernel_rfl
 have h2:pfE w2 o2=mmE w2 o2:=by
  unfold pfE
  rw [if_neg (by decide),if_neg (by decide),if_pos (by decide)]
 unfold doE
 rw [if_neg (fun e=>e h1),if_neg (by decide),h2]
 unfold mmE
 rw [if_pos (by decide)]
theorem w2_S:doS w2 o2=w2:=by unfold doS;rw [w2_E,if_neg (by decide)]
theorem w0_ok:BkOk w0:=bk1_ok q3_bkE
theorem w1_ok:BkOk w1:=by rw [←w0_S];exact do_ok w0_ok _
theorem w2_ok:BkOk w2:=by rw [←w1_S];exact do_ok w1_ok _
theorem w2_h:w2.lg.bal (ptyS sHb) sEu= -390:=by kernel_rfl
theorem w2_s:w2.lg.bal (ptyS sSb) sEu=390:=by kernel_rfl
theorem w2_l:posL w2.ds w2.B 0= [⟨sHb,-390,sEu⟩,⟨sSb,390,sEu⟩]:=by
 show (if (0:Int)∈[0] then ([bq1].getD (iidx [0] 0) bk0).list else [])=_
 rw [if_pos (by decide)]
 show bq1.list=_
 unfold Bk.list
 rw [show sortS bq1.cs= [sEu] from one_sort sEu]
 kernel_rfl
theorem w2_a:auAt w2.au (w2.pl sA1)=au2:=by kernel_rfl
theorem o2_ck:ckE o2=0:=by kernel_rfl
theorem o2_t:bopT o2=⟨#[52,124,50,48,48,124,97,45,49,45,49,124,97,45,49,124,104,111,109,101,98,97,110,107,124,115,104,111,112,98,97,110,107,124,52,48,48,124,49,48,124,48]⟩:=by kernel_rfl
end Go.Proofs.YtlankgapiecloaaGreatDoor
namespace Go.Proofs.YtlankgapiecloaaGreatDoor
open Go.RowKit Go.Sy
attribute [local irreducible] vcall vloop vcallD retP sortI
set_option maxRecDepth 100000
set_option linter.unusedVariables false
set_option linter.unusedSimpArgs false
attribute [local irreducible] seq ByteArray.extract
theorem law_Small:FC Tryz.prog 1 20 [] [] (isOut (.agg [.sl 1 0 0 3,.str sEu,.nsl,.int .i64 64800,.int .i64 7]) [(1,some (.one false (.cols 3 [.sc (.strs q3)])))] 2):=by
 refine fc_of mixed T_ok Tryz.func20 rfl (by kernel_rfl) (by kernel_rfl) (by kernel_rfl) ?_
 repeat' ((conv=>whnf);first|((first|apply br_dec|apply br_ndec)<;>intro h<;>try (exfalso;(try dsimp only at h);omega))|((first|apply br_seq|apply br_nseq|apply br_not|apply br_intro)<;>intro h)|refine cond_a ?_)
 all_goals (conv=>whnf)
 all_goals first
  |exact ret_out (l:= [0,2]) rfl rfl ⟨rfl,trivial⟩ (allRw_cons allRw_nil)
  |trace_state
theorem bk_NewN:FC Tryz.prog 2 4 [.agg [.sl 1 0 0 3,.str sEu,.nsl,.int .i64 64800,.int .i64 7]] [(1,some (.one true (.cols 3 [.sc (.strs q3)])))] (isOut (.tup [.ptr 3 0 0 0,.int .i64 0]) (bkRr (fun i=>i+2) w0) 22):=by
 refine fc_aggnil (n:=2) (m:= [.sl 1 0 0 3,.str sEu,.sl 2 0 0 0,.int .i64 64800,.int .i64 7]) (cs:= [.sc (.ints .i64 [])]) rfl (by exact ⟨.inl rfl,.inl rfl,.inr ⟨rfl,rfl⟩,.inl rfl,.inl rfl,trivial⟩) ?_
 refine fc_ext (H:= [(1,some (.one true (.cols 3 [.sc (.strs q3)]))),(2,some (.one true (.cols 0 [.sc (.ints .i64 [])])))]) ?_ (bk_New_ok sEu 7 64800 q3 3 [] 0 rfl rfl q3_bkE)
 intro k
 rw [hget_cons,hget_cons,hget_cons,hget_cons]
 split<;>split<;>first|rfl|omega
theorem law_awake:Glob Tryz.prog glT 6 [] (.bool true):=by
 have cS:=law_Small
 have cN:=bk_NewN
 have d1:=bk_Do w0 o1 w0_ok
 rw [w0_E,w0_S] at d1
 have d2:=bk_Do w1 o2 w1_ok
 rw [w1_E,w1_S] at d2
 have d3:=bk_Do w2 o2 w2_ok
 rw [w2_E,w2_S] at d3
 have cA:=bk_Auth w2 w2_ok sA1 (of_decide_eq_true (by kernel_rfl))
 rw [w2_a] at cA
 have cE:=bk_Encode_ok o2 o2_ck
 rw [o2_t] at cE
 have cH:=bk_Balance w2 (ptyS sHb)
 rw [show w2.lg.bal (ptyS sHb) w2.cur= -390 from w2_h] at cH
 have cB:=bk_Balance w2 (ptyS sSb)
 rw [show w2.lg.bal (ptyS sSb) w2.cur=390 from w2_s] at cB
 have cP:=bk_Positions w2 w2_ok 0
 rw [w2_l] at cP
 simp only [List.length_cons,List.length_nil,Nat.zero_add,Nat.reduceAdd] at cP
 generalize w0=s0 at*
 generalize w1=s1 at*
 generalize w2=s2 at*
 refine fc_of mixed T_ok Tryz.func6 rfl (by kernel_rfl) (by kernel_rfl) (by kernel_rfl) ?_
 repeat' ((conv=>whnf);first|refine vcall_o (l:= [0]) (cS) ?_|refine vcallD_o (l:= [0]) (cS) ?_|refine vcall_o (l:= [0,1]) (cN) ?_|refine vcallD_o (l:= [0,1]) (cN) ?_|refine vcall_o (l:= [0,3,4,5,6,7,8,9,10,11,12,13,14,15,16,17,18,19,20,21]) (d1) ?_|refine vcall_o (l:= [0,3,23,5,6,7,24,9,10,11,25,13,14,15,16,17,18,26,27,28]) (d2) ?_|refine vcall_o (l:= [0,3,29,5,6,7,30,9,10,11,31,13,14,15,16,17,18,32,33,34]) (d3) ?_|refine vcall_o (l:= [0,3,35,5,6,7,36,9,10,11,37,13,14,15,16,17,18,38,39,40]) (cA) ?_|refine vcall_o (l:= [0,3,41,5,6,7,42,9,10,11,43,13,14,15,16,17,18,44,45,46]) (cH) ?_|refine vcall_o (l:= [0,3,48,5,6,7,49,9,10,11,50,13,14,15,16,17,18,51,52,53]) (cB) ?_|refine vcall_o (l:= [0,3,54,5,6,7,55,9,10,11,56,13,14,15,16,17,18,57,58,59]) (cP) ?_|(refine vcall_glob (cE) rfl rfl rfl rfl ?_)|(refine vcallD_glob (cE) rfl rfl rfl rfl ?_)|((first|apply br_dec|apply br_ndec)<;>intro h<;>try (exfalso;(try dsimp only at h);omega))|((first|apply br_seq|apply br_nseq|apply br_not|apply br_intro)<;>intro h)|refine cond_a ?_)
 all_goals (conv=>whnf)
 all_goals first
  |(exfalso;omega)
  |(exfalso;exact h rfl)
  |exact ret_pure (congrArg SV.bool (lg_seq.2 rfl))
  |trace_state
end Go.Proofs.YtlankgapiecloaaGreatDoor
namespace Go.Proofs.YtlankgapiecloaaGreatDoor
open Go.RowKit Go.Sy
attribute [local irreducible] vcall vloop vcallD retP sortI
set_option maxRecDepth 100000
set_option linter.unusedVariables false
set_option linter.unusedSimpArgs false
attribute [local irreducible] seq ByteArray.extract ranS bopT
theorem bk_Replay_no (cur:ByteArray) (days cut:Int) (L:List ByteArray) (n:Nat) (H:List Int) (m:Nat) (hL:L.length=n) (hH:H.length=m) (he:bkE cur days H m cut L≠0):
  FC Tryz.prog 3 5 [.agg [.sl 1 0 0 n,.str cur,.sl 2 0 0 m,.int .i64 cut,.int .i64 days],.nsl] [(1,some (.one true (.cols n [.sc (.strs L)]))),(2,some (.one true (.cols m [.sc (.ints .i64 H)])))] (isOut (.tup [.nptr,.int .i64 (bkE cur days H m cut L)]) [] 3):=by
 have c1:=bk_New_no cur days cut L n H m hL hH he
 generalize bkE cur days H m cut L=E at*
 refine fc_of mixed T_ok Tryz.func5 rfl (by kernel_rfl) (by kernel_rfl) (by kernel_rfl) ?_
 repeat' ((conv=>whnf);first|refine vcall_o (l:= [0,1,2]) (c1) ?_|refine vcallD_o (l:= [0,1,2]) (c1) ?_|((first|apply br_dec|apply br_ndec)<;>intro h<;>try (exfalso;(try dsimp only at h);omega))|((first|apply br_seq|apply br_nseq|apply br_not|apply br_intro)<;>intro h)|refine cond_a ?_)
 all_goals (conv=>whnf)
 all_goals first
  |(exfalso;omega)
  |(exfalso;exact he h)
  |exact ret_out (l:= [0,1,2]) rfl rfl trivial allRw_nil
  |trace_state
abbrev rpH (s:Bks) (n:Nat) (X:List ByteArray):Heap:=(0,some (GB glT))::(3,some (.one true (.cols n [.sc (.strs X)])))::bkRr (fun i=>i+4) s
def rpS (s0:Bks) (A:List Bop) (X:List ByteArray) (k:Nat):VS:=⟨[(6,.ptr 5 0 0 0),(21,.sl 3 0 0 A.length),(22,.int .i64 A.length),(23,.int .i64 k)],rpH (ranS s0 (A.take k)) A.length X,24⟩
theorem bk_Replay_ok (cur:ByteArray) (days cut:Int) (L:List ByteArray) (n:Nat) (H:List Int) (m:Nat) (hL:L.length=n) (hH:H.length=m) (he:bkE cur days H m cut L=0) (A:List Bop) (hA:Ran (bk1 cur days H cut L) A) (h40:A.length≤40):
  FC Tryz.prog 4 5 [.agg [.sl 1 0 0 n,.str cur,.sl 2 0 0 m,.int .i64 cut,.int .i64 days],.sl 3 0 0 A.length] [(0,some (GB glT)),(1,some (.one true (.cols n [.sc (.strs L)]))),(2,some (.one true (.cols m [.sc (.ints .i64 H)]))),(3,some (.one true (.cols A.length [.sc (.strs (A.map bopT))])))]
   (isOut (.tup [.ptr 4 0 0 0,.int .i64 0]) (bkRr (fun i=>i+3) (ranS (bk1 cur days H cut L) A)) 23):=by
 have c1:=bk_New_ok cur days cut L n H m hL hH he
 have hok0:=bk1_ok he
 have h0:bk1 cur days H cut L=ranS (bk1 cur days H cut L) (A.take 0):=by rw [List.take_zero];unfold ranS;rfl
 have htx:∀k,k<A.length→(A.map bopT).getD k ⟨#[]⟩=bopT (A.getD k bop0):=fun k hk=>txt_at A hk
 generalize A.map bopT=X at*
 rw [h0] at c1
 generalize bk1 cur days H cut L=s0 at*
 refine fc_of mixed T_ok Tryz.func5 rfl (by kernel_rfl) (by kernel_rfl) (by kernel_rfl) ?_
 repeat' ((conv=>whnf);first|refine vcall_o (l:= [0,1,2]) (c1) ?_|refine vcallD_o (l:= [0,1,2]) (c1) ?_|((first|apply br_dec|apply br_ndec)<;>intro h<;>try (exfalso;(try dsimp only at h);omega))|((first|apply br_seq|apply br_nseq|apply br_not|apply br_intro)<;>intro h)|refine cond_a ?_)
 all_goals (conv=>whnf)
 all_goals first
  |(exfalso;omega)
  |(exfalso;exact h rfl)
  |skip
 refine vloop_of (rpS s0 A X) (fun k=>k≤A.length) (fun k=>A.length-k) 0 [0,1,2,3,4,5,6,7,8,9,10,11,12,13,14,15,16,17,18,19,20,21,22,23] [] ⟨rfl,⟨rfl,rfl,rfl,rfl,trivial⟩,⟨gwk rfl,rfl,rfl,rfl,rfl,rfl,rfl,rfl,rfl,rfl,rfl,rfl,rfl,rfl,rfl,rfl,rfl,rfl,rfl,rfl,rfl,trivial⟩⟩ (Nat.zero_le _) ?_
 intro k hk
 by_cases hk2:k<A.length
 ·have ht:(BCol.sc (Col.strs X)).at ((k:Int).toNat+0)= .str (bopT (A.getD k bop0)):=by
   show SV.str (X.getD ((k:Int).toNat+0) ⟨#[]⟩)=_
   rw [toNat0,htx k hk2]
  have hd:=hA.ok k hk2
  have g1:=bk_Decode_ok (A.getD k bop0) (do_ck hd)
  have d:=bk_Do (ranS s0 (A.take k)) (A.getD k bop0) (ranS_ok hok0 _)
  rw [hd,ranS_next s0 A hk2] at d
  generalize A.getD k bop0=o at*
  unfold rpS
  generalize hs2:ranS s0 (A.take (k+1))=s2 at*
  repeat' ((conv=>whnf);first|(rw [ht])|(refine vcall_glob (g1) rfl rfl rfl rfl ?_)|(refine vcallD_glob (g1) rfl rfl rfl rfl ?_)|refine vcall_o (l:= [0,5,6,7,8,9,10,11,12,13,14,15,16,17,18,19,20,21,22,23]) (d) ?_|refine vcallD_o (l:= [0,5,6,7,8,9,10,11,12,13,14,15,16,17,18,19,20,21,22,23]) (d) ?_|((first|apply br_dec|apply br_ndec)<;>intro h<;>try (exfalso;(try dsimp only at h);omega))|((first|apply br_seq|apply br_nseq|apply br_not|apply br_intro)<;>intro h)|refine cond_a ?_)
  all_goals (conv=>whnf)
  all_goals first
   |(exfalso;omega)
   |(exfalso;exact h rfl)
   |(subst hs2;exact ⟨k+1,[0,1,2,3,4,5,25,7,8,9,26,11,12,13,27,15,16,17,18,19,20,28,29,30],[],hk2,(show A.length-(k+1)<A.length-k by omega),⟨rfl,⟨rfl,rfl,rfl,congrArg (fun z=>some (SV.int .i64 z)) (i64_succ (by omega)),trivial⟩,⟨gwk rfl,rfl,rfl,rfl,rfl,rfl,rfl,rfl,rfl,rfl,rfl,rfl,rfl,rfl,rfl,rfl,rfl,rfl,rfl,rfl,rfl,trivial⟩⟩⟩)
   |trace_state
 have ek:k=A.length:=by omega
 subst ek
 unfold rpS
 rw [List.take_length]
 repeat' ((conv=>whnf);first|((first|apply br_dec|apply br_ndec)<;>intro h<;>try (exfalso;(try dsimp only at h);omega))|((first|apply br_seq|apply br_nseq|apply br_not|apply br_intro)<;>intro h)|refine cond_a ?_)
 all_goals (conv=>whnf)
 all_goals first
  |(exfalso;omega)
  |exact ret_out (l:= [0,1,2,3,5,6,7,8,9,10,11,12,13,14,15,16,17,18,19,20,21,22,23]) rfl rfl ⟨rfl,rfl,rfl,rfl,rfl,rfl,rfl,rfl,rfl,rfl,rfl,rfl,rfl,rfl,rfl,rfl,rfl,rfl,rfl,trivial⟩ bkRr_rw
  |trace_state
end Go.Proofs.YtlankgapiecloaaGreatDoor
namespace Go.Proofs.YtlankgapiecloaaGreatDoor
open Go.RowKit Go.Sy
set_option linter.unusedVariables false
set_option linter.unusedSimpArgs false
end Go.Proofs.YtlankgapiecloaaGreatDoor
namespace Go.Proofs.YtlankgapiecloaaGreatDoor
open Go.RowKit Go.Sy
set_option linter.unusedVariables false
set_option linter.unusedSimpArgs false
end Go.Proofs.YtlankgapiecloaaGreatDoor
namespace Go.Proofs.YtlankgapiecloaaGreatDoor
open Go.RowKit Go.Sy
attribute [local irreducible] vcall vloop vcallD retP sortI
set_option maxRecDepth 100000
set_option linter.unusedVariables false
set_option linter.unusedSimpArgs false
attribute [local irreducible] seq ByteArray.extract
structure Oq where
 n:Nat
 k:List Int
 t:List Int
 id:List ByteArray
 au:List ByteArray
 is:List ByteArray
 ac:List ByteArray
 am:List Int
 fe:List Int
 fi:List Bool
abbrev Oq.b (Q:Oq):Blk:= .cols Q.n [.sc (.ints .i64 Q.k),.sc (.ints .i64 Q.t),.sc (.strs Q.id),.sc (.strs Q.au),.sc (.strs Q.is),.sc (.strs Q.ac),.sc (.ints .i64 Q.am),.sc (.ints .i64 Q.fe),.sc (.bools Q.fi)]
abbrev Oq.at (Q:Oq) (i:Nat):Bop:=⟨Q.k.getD i 0,Q.t.getD i 0,Q.id.getD i ⟨#[]⟩,Q.au.getD i ⟨#[]⟩,Q.is.getD i ⟨#[]⟩,Q.ac.getD i ⟨#[]⟩,Q.am.getD i 0,Q.fe.getD i 0,Q.fi.getD i false⟩
theorem pos_len {s:Bks} (h:BkOk s) (d:Int):(posL s.ds s.B d).length≤1600000:=by
 unfold posL
 split
 ·rename_i hd
  have hi:iidx s.ds d<s.m:=by rw [←h.bks.dl];exact iidx_lt.2 hd
  obtain ⟨b1,b2,b3,b4⟩:=h.bks.I _ hi
  have h1:=liA_len (s.B.getD (iidx s.ds d) bk0) (sortS (s.B.getD (iidx s.ds d) bk0).cs) (s.B.getD (iidx s.ds d) bk0).m
  have h2:=(nw_ok h.err).1
  rw [h.np] at h2
  unfold Bk.list
  refine Nat.le_trans h1 ?_
  rw [b2]
  exact Nat.le_trans (Nat.mul_le_mul b4 h2) (by decide)
 ·exact Nat.zero_le _
end Go.Proofs.YtlankgapiecloaaGreatDoor
namespace Go.Proofs.YtlankgapiecloaaGreatDoor
open Go.RowKit Go.Sy
attribute [local irreducible] vcall vloop vcallD retP sortI
set_option maxRecDepth 100000
set_option linter.unusedVariables false
set_option linter.unusedSimpArgs false
attribute [local irreducible] seq ByteArray.extract ranS bopT dgI
abbrev rbH (L:List ByteArray) (n:Nat) (cur:ByteArray) (H:List Int) (m:Nat) (cut days:Int) (Q:Oq) (a:Nat) (X:List ByteArray) (s:Bks):Heap:=
 (0,some (GB glT))::(1,some (.one true (.cols n [.sc (.strs L)])))::(2,some (.one true (.cols m [.sc (.ints .i64 H)])))::(3,some (.one true Q.b))::(4,some (.one false (.cells [.sl 1 0 0 n,.str cur,.sl 2 0 0 m,.int .i64 cut,.int .i64 days])))::(24,some (.one false (.cols a [.sc (.strs X)])))::bkRr (fun i=>i+4) s
def rbS (s0:Bks) (L:List ByteArray) (n:Nat) (cur:ByteArray) (H:List Int) (m:Nat) (cut days:Int) (Q:Oq) (x:Nat×Nat×List Bop):VS:=
 ⟨[(1,.sl 3 0 0 Q.n),(2,.ptr 4 0 0 0),(5,.ptr 5 0 0 0),(9,.sl 24 0 0 x.2.1),(10,.int .i64 x.1)],rbH L n cur H m cut days Q x.2.1 (x.2.2.map bopT) (ranS s0 x.2.2),25⟩
theorem rb_round (s0:Bks) (hs0:BkOk s0) (L:List ByteArray) (n:Nat) (cur:ByteArray) (H:List Int) (m:Nat) (cut days:Int) (Q:Oq) (i a:Nat) (A:List Bop) (hA:Ran s0 A) (ha:A.length=a) (hai:a≤i) (hi:i<Q.n) (hi4:i<40) (K:Exit→VS→Prop)
  (hK:∀v,(∃(y:Nat×Nat×List Bop) (l:List Nat) (u:List Up),(y.1≤40∧Ran s0 y.2.2∧y.2.2.length=y.2.1∧y.2.1≤y.1)∧40-y.1<40-i∧upK u v (fun v=>Weak 4 l v (rbS s0 L n cur H m cut days Q y)))→K .normal v):
  vcode Tryz.prog T 4 (lpc Tryz.f3 0) (rbS s0 L n cur H m cut days Q (i,a,A)) K:=by
 have d:=bk_Do (ranS s0 A) (Q.at i) (ranS_ok hs0 A)
 by_cases he:doE (ranS s0 A) (Q.at i)=0
 ·have hA2:=ran_snoc hA he
  have cE:=bk_Encode_ok (Q.at i) (do_ck he)
  have hrow:some (HB.one false (Blk.cols (a+1) [.sc (.strs (A.map bopT++ [bopT (Q.at i)]))]))=some (HB.one false (Blk.cols (a+1) [.sc (.strs ((A++ [Q.at i]).map bopT))])):=by rw [List.map_append];rfl
  rw [he,←ranS_snoc] at d
  have hl2:(A++ [Q.at i]).length=a+1:=by rw [List.length_append,ha];rfl
  unfold rbS
  dsimp only
  generalize A.map bopT=X at*
  generalize ranS s0 A=s at*
  generalize hs2:ranS s0 (A++ [Q.at i])=s2 at*
  generalize hX2:(A++ [Q.at i]).map bopT=X2 at*
  generalize hA3:A++ [Q.at i]=A2 at*
  repeat' ((conv=>whnf);first|refine vcall_o (l:= [0,5,6,7,8,9,10,11,12,13,14,15,16,17,18,19,20,21,22,23]) (d) ?_|refine vcallD_o (l:= [0,5,6,7,8,9,10,11,12,13,14,15,16,17,18,19,20,21,22,23]) (d) ?_|(refine vcall_glob (cE) rfl rfl rfl rfl ?_)|(refine vcallD_glob (cE) rfl rfl rfl rfl ?_)|((first|apply br_dec|apply br_ndec)<;>intro h<;>try (exfalso;(try dsimp only at h);omega))|((first|apply br_seq|apply br_nseq|apply br_not|apply br_intro)<;>intro h)|refine cond_a ?_)
  all_goals (conv=>whnf)
  all_goals first
   |(exfalso;omega)
   |(exfalso;exact h rfl)
   |(subst hs2;subst hX2;exact hK _ ⟨(i+1,a+1,A2),[0,1,2,3,4,5,25,7,8,9,26,11,12,13,27,15,16,17,18,19,20,28,29,30,32],[],⟨by dsimp only;omega,hA2,hl2,by dsimp only;omega⟩,by dsimp only;omega,⟨rfl,⟨rfl,rfl,rfl,rfl,congrArg (fun z=>some (SV.int .i64 z)) (i64_succ (by omega)),trivial⟩,⟨gwk rfl,rfl,rfl,rfl,rfl,hrow,rfl,rfl,rfl,rfl,rfl,rfl,rfl,rfl,rfl,rfl,rfl,rfl,rfl,rfl,rfl,rfl,rfl,rfl,rfl,trivial⟩⟩⟩)
   |trace_state
 ·rw [do_no he] at d
  unfold rbS
  dsimp only
  generalize hX:A.map bopT=X at*
  generalize hs:ranS s0 A=s at*
  generalize doE s (Q.at i)=E at*
  repeat' ((conv=>whnf);first|refine vcall_o (l:= [0,5,6,7,8,9,10,11,12,13,14,15,16,17,18,19,20,21,22,23]) (d) ?_|refine vcallD_o (l:= [0,5,6,7,8,9,10,11,12,13,14,15,16,17,18,19,20,21,22,23]) (d) ?_|((first|apply br_dec|apply br_ndec)<;>intro h<;>try (exfalso;(try dsimp only at h);omega))|((first|apply br_seq|apply br_nseq|apply br_not|apply br_intro)<;>intro h)|refine cond_a ?_)
  all_goals (conv=>whnf)
  all_goals first
   |(exfalso;omega)
   |(exfalso;exact he h)
   |(subst hs;subst hX;exact hK _ ⟨(i+1,a,A),[0,1,2,3,4,5,25,7,8,9,26,11,12,13,27,15,16,17,18,19,20,28,29,30,24],[],⟨by dsimp only;omega,hA,ha,by dsimp only;omega⟩,by dsimp only;omega,⟨rfl,⟨rfl,rfl,rfl,rfl,congrArg (fun z=>some (SV.int .i64 z)) (i64_succ (by omega)),trivial⟩,⟨gwk rfl,rfl,rfl,rfl,rfl,rfl,rfl,rfl,rfl,rfl,rfl,rfl,rfl,rfl,rfl,rfl,rfl,rfl,rfl,rfl,rfl,rfl,rfl,rfl,rfl,trivial⟩⟩⟩)
   |trace_state
abbrev rcH (Q:Oq) (s:Bks):Heap:=(0,some (GB glT))::(3,some (.one true Q.b))::(bkRr (fun i=>i+4) s++bkRr (fun i=>i+24) s)
def rcS (Q:Oq) (s:Bks) (i:Nat):VS:=⟨[(1,.sl 3 0 0 Q.n),(5,.ptr 5 0 0 0),(13,.ptr 25 0 0 0),(15,.int .i64 i)],rcH Q s,44⟩
set_option maxHeartbeats 4000000 in
theorem rc_round (s:Bks) (hs:BkOk s) (Q:Oq) (i:Nat) (hac:(Q.ac.getD i ⟨#[]⟩).size≤140737488351232) (hi:i<Q.n) (hi4:i<40) (K:Exit→VS→Prop)
  (hK:∀v,(∃(y:Nat) (l:List Nat) (u:List Up),y≤40∧40-y<40-i∧upK u v (fun v=>Weak 4 l v (rcS Q s y)))→K .normal v):
  vcode Tryz.prog T 4 (lpc Tryz.f3 1) (rcS Q s i) K:=by
 have cA:=bk_AuthR s hs (Q.au.getD i ⟨#[]⟩)
 have cB:=bk_BalanceR s (sPty++Q.ac.getD i ⟨#[]⟩)
 have cP:=bk_PositionsR s hs (IntKind.i64.wrap ((Q.t.getD i 0).tdiv 86400))
 have hlen:=pos_len hs (IntKind.i64.wrap ((Q.t.getD i 0).tdiv 86400))
 have cS:=law_same50 (pxOf (posL s.ds s.B (IntKind.i64.wrap ((Q.t.getD i 0).tdiv 86400)))) (posL s.ds s.B (IntKind.i64.wrap ((Q.t.getD i 0).tdiv 86400))).length (by omega)
 have hsz:sPty.size+(Q.ac.getD i ⟨#[]⟩).size≤9223372036854775807:=by have:sPty.size=6:=rfl;omega
 generalize auAt s.au (s.pl (Q.au.getD i ⟨#[]⟩))=x at*
 generalize s.lg.bal (sPty++Q.ac.getD i ⟨#[]⟩) s.cur=y at*
 generalize posL s.ds s.B (IntKind.i64.wrap ((Q.t.getD i 0).tdiv 86400))=P at*
 generalize pxOf P=PC at*
 generalize P.length=pn at*
 generalize decide (s.pl (Q.au.getD i ⟨#[]⟩)<s.na)=bb at*
 unfold rcS
 repeat' ((conv=>whnf);first|(refine cond_intro hsz ?_)|refine vcall_o (l:= [0,5,6,7,8,9,10,11,12,13,14,15,16,17,18,19,20,21,22,23]) (cA) ?_|refine vcallD_o (l:= [0,5,6,7,8,9,10,11,12,13,14,15,16,17,18,19,20,21,22,23]) (cA) ?_|refine vcall_o (l:= [0,25,26,27,28,29,30,31,32,33,34,35,36,37,38,39,40,41,42,43]) (cA) ?_|refine vcallD_o (l:= [0,25,26,27,28,29,30,31,32,33,34,35,36,37,38,39,40,41,42,43]) (cA) ?_|refine vcall_o (l:= [0,5,6,7,8,9,10,11,12,13,14,15,16,17,18,19,20,21,22,23]) (cB) ?_|refine vcallD_o (l:= [0,5,6,7,8,9,10,11,12,13,14,15,16,17,18,19,20,21,22,23]) (cB) ?_|refine vcall_o (l:= [0,25,26,27,28,29,30,31,32,33,34,35,36,37,38,39,40,41,42,43]) (cB) ?_|refine vcallD_o (l:= [0,25,26,27,28,29,30,31,32,33,34,35,36,37,38,39,40,41,42,43]) (cB) ?_|refine vcall_o (l:= [0,5,6,7,8,9,10,11,12,13,14,15,16,17,18,19,20,21,22,23]) (cP) ?_|refine vcallD_o (l:= [0,5,6,7,8,9,10,11,12,13,14,15,16,17,18,19,20,21,22,23]) (cP) ?_|refine vcall_o (l:= [0,25,26,27,28,29,30,31,32,33,34,35,36,37,38,39,40,41,42,43]) (cP) ?_|refine vcallD_o (l:= [0,25,26,27,28,29,30,31,32,33,34,35,36,37,38,39,40,41,42,43]) (cP) ?_|refine vcall_o (l:= [0,46,47]) (cS) ?_|refine vcallD_o (l:= [0,46,47]) (cS) ?_|((first|apply br_dec|apply br_ndec)<;>intro h<;>try (exfalso;(try dsimp only at h);omega))|((first|apply br_seq|apply br_nseq|apply br_not|apply br_intro)<;>intro h)|refine cond_a ?_)
 all_goals (conv=>whnf)
 all_goals first
  |(exfalso;omega)
  |(exfalso;first|contradiction|(simp [seq] at h;done))
  |exact hK _ ⟨i+1,[0,1,2,3,4,5,6,7,8,9,10,11,12,13,14,15,16,17,18,19,20,21,22,23,24,25,26,27,28,29,30,31,32,33,34,35,36,37,38,39,40,41,42,43],[],by omega,by omega,⟨rfl,⟨rfl,rfl,rfl,congrArg (fun z=>some (SV.int .i64 z)) (i64_succ (by omega)),trivial⟩,⟨gwk rfl,rfl,rfl,rfl,rfl,rfl,rfl,rfl,rfl,rfl,rfl,rfl,rfl,rfl,rfl,rfl,rfl,rfl,rfl,rfl,rfl,rfl,rfl,rfl,rfl,rfl,rfl,rfl,rfl,rfl,rfl,rfl,rfl,rfl,rfl,rfl,rfl,rfl,rfl,rfl,trivial⟩⟩⟩
  |trace_state
theorem law_Rebuild (L:List ByteArray) (n:Nat) (hL:L.length=n) (cur:ByteArray) (H:List Int) (m:Nat) (hH:H.length=m) (cut days:Int) (Q:Oq) (hac:∀x∈Q.ac,x.size≤140737488351232):FC Tryz.prog 4 3 [.agg [.sl 1 0 0 n,.str cur,.sl 2 0 0 m,.int .i64 cut,.int .i64 days],.sl 3 0 0 Q.n] [(0,some (GB glT)),(1,some (.one true (.cols n [.sc (.strs L)]))),(2,some (.one true (.cols m [.sc (.ints .i64 H)]))),(3,some (.one true Q.b))] (isOut (.bool true) [] 4):=by
 have cA:=law_awake
 by_cases he:bkE cur days H m cut L≠0
 ·have c1:=bk_New_no cur days cut L n H m hL hH he
  have c2:=bk_Replay_no cur days cut L n H m hL hH he
  generalize bkE cur days H m cut L=E at*
  refine fc_of mixed T_ok Tryz.func3 rfl (by kernel_rfl) (by kernel_rfl) (by kernel_rfl) ?_
  repeat' ((conv=>whnf);first|refine vcall_o (l:= [0,1,2]) (c1) ?_|refine vcallD_o (l:= [0,1,2]) (c1) ?_|refine vcall_o (l:= [0,1,2]) (c2) ?_|refine vcallD_o (l:= [0,1,2]) (c2) ?_|(refine vcall_glob (cA) rfl rfl rfl rfl ?_)|(refine vcallD_glob (cA) rfl rfl rfl rfl ?_)|((first|apply br_dec|apply br_ndec)<;>intro h<;>try (exfalso;(try dsimp only at h);omega))|((first|apply br_seq|apply br_nseq|apply br_not|apply br_intro)<;>intro h)|refine cond_a ?_)
  all_goals (conv=>whnf)
  all_goals first
   |(exfalso;omega)
   |(exfalso;exact he h)
   |exact ret_out (l:= [0,1,2,3]) rfl rfl trivial allRw_nil
   |trace_state
 have he:bkE cur days H m cut L=0:=by omega
 have c1:=bk_New_ok cur days cut L n H m hL hH he
 have hok:=bk1_ok he
 have c2:=bk_Replay_ok cur days cut L n H m hL hH he
 have h0:bk1 cur days H cut L=ranS (bk1 cur days H cut L) []:=by unfold ranS;rfl
 rw [h0] at c1
 generalize bk1 cur days H cut L=s0 at*
 refine fc_of mixed T_ok Tryz.func3 rfl (by kernel_rfl) (by kernel_rfl) (by kernel_rfl) ?_
 repeat' ((conv=>whnf);first|refine vcall_o (l:= [0,1,2]) (c1) ?_|refine vcallD_o (l:= [0,1,2]) (c1) ?_|((first|apply br_dec|apply br_ndec)<;>intro h<;>try (exfalso;(try dsimp only at h);omega))|((first|apply br_seq|apply br_nseq|apply br_not|apply br_intro)<;>intro h)|refine cond_a ?_)
 all_goals (conv=>whnf)
 all_goals first
  |(exfalso;omega)
  |(exfalso;exact h rfl)
  |skip
 refine vloop_of (rbS s0 L n cur H m cut days Q) (fun x=>x.1≤40∧Ran s0 x.2.2∧x.2.2.length=x.2.1∧x.2.1≤x.1) (fun x=>40-x.1) (0,0,[]) [0,1,2,3,4,5,6,7,8,9,10,11,12,13,14,15,16,17,18,19,20,21,22,23,24] [.slot 9 [.sc (.strs [])]] ⟨rfl,⟨rfl,rfl,rfl,rfl,rfl,trivial⟩,⟨gwk rfl,rfl,rfl,rfl,rfl,rfl,rfl,rfl,rfl,rfl,rfl,rfl,rfl,rfl,rfl,rfl,rfl,rfl,rfl,rfl,rfl,rfl,rfl,rfl,rfl,trivial⟩⟩ ⟨Nat.zero_le _,ran_nil s0,rfl,Nat.zero_le _⟩ ?_
 rintro ⟨i,a,A⟩ ⟨hi,hA,ha,hai⟩
 dsimp only at hi hA ha hai
 by_cases hi2:i<Q.n∧i<40
 ·exact rb_round s0 hok L n cur H m cut days Q i a A hA ha hai hi2.1 hi2.2 _ (fun v hv=>hv)
 have c3:=c2 A hA (by omega)
 have hs:=ranS_ok hok A
 have cD:=bk_Digest (ranS s0 A) hs
 subst ha
 unfold rbS
 dsimp only
 generalize A.map bopT=X at*
 generalize ranS s0 A=s at*
 generalize dgI s=D at*
 repeat' ((conv=>whnf);first|refine vcall_o (l:= [0,1,2,24]) (c3) ?_|refine vcallD_o (l:= [0,1,2,24]) (c3) ?_|refine vcall_o (l:= [0,5,6,7,8,9,10,11,12,13,14,15,16,17,18,19,20,21,22,23]) (cD) ?_|refine vcallD_o (l:= [0,5,6,7,8,9,10,11,12,13,14,15,16,17,18,19,20,21,22,23]) (cD) ?_|refine vcall_o (l:= [0,25,26,27,28,29,30,31,32,33,34,35,36,37,38,39,40,41,42,43]) (cD) ?_|refine vcallD_o (l:= [0,25,26,27,28,29,30,31,32,33,34,35,36,37,38,39,40,41,42,43]) (cD) ?_|((first|apply br_dec|apply br_ndec)<;>intro h<;>try (exfalso;(try dsimp only at h);omega))|((first|apply br_seq|apply br_nseq|apply br_not|apply br_intro)<;>intro h)|refine cond_a ?_)
 all_goals (conv=>whnf)
 all_goals first
  |(exfalso;omega)
  |(exfalso;exact h rfl)
  |skip
 all_goals
  refine vloop_of (rcS Q s) (fun d=>d≤40) (fun d=>40-d) 0 [0,1,2,3,4,5,6,7,8,9,10,11,12,13,14,15,16,17,18,19,20,21,22,23,24,25,26,27,28,29,30,31,32,33,34,35,36,37,38,39,40,41,42,43] [] ⟨rfl,⟨rfl,rfl,rfl,rfl,trivial⟩,⟨gwk rfl,rfl,rfl,rfl,rfl,rfl,rfl,rfl,rfl,rfl,rfl,rfl,rfl,rfl,rfl,rfl,rfl,rfl,rfl,rfl,rfl,rfl,rfl,rfl,rfl,rfl,rfl,rfl,rfl,rfl,rfl,rfl,rfl,rfl,rfl,rfl,rfl,rfl,rfl,rfl,trivial⟩⟩ (Nat.zero_le _) ?_
  intro d hd
  by_cases hd2:d<Q.n∧d<40
  ·refine rc_round s hs Q d ?_ hd2.1 hd2.2 _ (fun v hv=>hv)
   by_cases q:d<Q.ac.length
   ·rw [List.getD,List.getElem?_eq_getElem q];exact hac _ (List.getElem_mem _)
   ·rw [List.getD,List.getElem?_eq_none (by omega)];decide
  unfold rcS
  repeat' ((conv=>whnf);first|(refine vcall_glob (cA) rfl rfl rfl rfl ?_)|(refine vcallD_glob (cA) rfl rfl rfl rfl ?_)|((first|apply br_dec|apply br_ndec)<;>intro h<;>try (exfalso;(try dsimp only at h);omega))|((first|apply br_seq|apply br_nseq|apply br_not|apply br_intro)<;>intro h)|refine cond_a ?_)
  all_goals (conv=>whnf)
  all_goals first
   |(exfalso;omega)
   |exact ret_out (l:= [0,1,2,3]) rfl rfl trivial allRw_nil
   |trace_state
end Go.Proofs.YtlankgapiecloaaGreatDoor
