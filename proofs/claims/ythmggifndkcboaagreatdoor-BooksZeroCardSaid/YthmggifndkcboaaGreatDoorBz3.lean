/- Several texts in one: XBkC, XBkD, XBkE, XBkF, XLgG, XBkN, XCyG, XBkG, XBkH, XBkT, XBkW, XBkV, XBkZ, XBkS, XBkX. -/
import Derived.Test.YthmggifndkcboaaGreatDoorBz2
import Derived.Test.YthmggifndkcboaaGreatDoorYMeth
import Derived.Test.YthmggifndkcboaaGreatDoorYJoin
import Derived.Test.YthmggifndkcboaaGreatDoorShelf
import Derived.Test.YthmggifndkcboaaGreatDoorYArg
namespace Go.Proofs.YthmggifndkcboaaGreatDoor
open Go.RowKit Go.Sy
attribute [local irreducible] vcall vloop vcallD retP sortI
set_option maxRecDepth 100000
set_option linter.unusedVariables false
set_option linter.unusedSimpArgs false
attribute [local irreducible] seq ByteArray.extract lgE
theorem bkPl_put {n ix:Nat} {ids:List ByteArray} {id:ByteArray} (hix:ix=n) (hl:ids.length=n):
  (some (HB.one false (.obj (.map false false (if ix<n then n else n+1) [.strs (putL ix id ids)] [.sc (.ints .i64 (putL ix (n:Int) ((List.range n).map Int.ofNat)))] (if ix<n then List.range n else List.range n++ [n]) (if ix<n then n else n+1)))):Option HB)=bkPl (n+1) (ids++ [id]):=by
 subst hix
 rw [if_neg (by omega),if_neg (by omega),lg_putNew hl,lg_putNew (by rw [List.length_map,List.length_range])]
 unfold bkPl
 rw [List.range_succ,List.map_append]
 rfl
theorem bk_setid (L:List Au) (i:Nat) (a:Au) (h:a.id=(auAt L i).id):(L.set i a).map Au.id=L.map Au.id:=by
 rw [List.map_set]
 refine List.ext_getElem (List.length_set ..) fun j h1 h2=> ?_
 rw [List.getElem_set]
 split
 ·rename_i e
  subst e
  rw [h]
  show (L.map Au.id).getD i ⟨#[]⟩=_
  rw [List.getD,List.getElem?_eq_getElem h2];rfl
 ·rfl
theorem raiseZ_id {a:Au} {n u:Int} (h:(raiseZ a n u).2=0):(raiseZ a n u).1.id=a.id:=by
 unfold raiseZ at h⊢
 repeat' split
 all_goals first|rfl|(simp_all;done)
theorem reverseZ_id {a:Au} {n:Int} (h:(reverseZ a n).2.2=0):(reverseZ a n).1.id=a.id:=by
 unfold reverseZ at h⊢
 repeat' split
 all_goals first|rfl|(simp_all;done)
theorem expireZ_id {a:Au} {n:Int} (h:(expireZ a n).2.2=0):(expireZ a n).1.id=a.id:=by
 unfold expireZ at h⊢
 repeat' split
 all_goals first|rfl|(simp_all;done)
theorem clearZ_id {a:Au} {n:Int} {b:Bool} (h:(clearZ a n b).2.2.2=0):(clearZ a n b).1.id=a.id:=by
 unfold clearZ at h⊢
 repeat' split
 all_goals first|rfl|(simp_all;done)
set_option maxHeartbeats 2000000 in
theorem bk_approve (s:Bks) (o:Bop) (h:BkOk s) (hc:CkOk o):FC Tryz.prog 20 324 [.agg [],.ptr 1 0 0 0,o.s] (bkHp s) (isOut (.int .i64 (bapE s o)) (bkOt (if bapE s o=0 then bapS s o else s)) 26):=by
 have c1:=bk_end s o.t h.days hc.t
 have c2:=auth_new o.au s.cur o.am o.t (endI s o.t)
 have hal:s.aid.length=s.na:=by unfold Bks.aid;rw [List.length_map,h.na]
 have h256:=h.n256
 unfold bapE bapS
 by_cases hk:s.pl o.au<s.na
 ·rw [if_pos hk,if_neg (by decide)]
  have hb:decide (sidx s.aid o.au<s.na)=true:=decide_eq_true hk
  refine fc_of mixed T_ok Tryz.func324 rfl (by kernel_rfl) (by kernel_rfl) (by kernel_rfl) ?_
  repeat' ((conv=>whnf);first|(rw [hb])|((first|apply br_dec|apply br_ndec)<;>intro h<;>try (exfalso;(try dsimp only at h);omega))|((first|apply br_seq|apply br_nseq|apply br_not|apply br_intro)<;>intro h)|refine cond_a ?_)
  all_goals (conv=>whnf)
  all_goals first
   |exact ret_out (l:= [0,1,2,3,4,5,6,7,8,9,10,11,12,13,14,15,16,17,18,19,2,6,10,17,18,19]) rfl rfl ⟨rfl,rfl,rfl,rfl,rfl,rfl,rfl,rfl,rfl,rfl,rfl,rfl,rfl,rfl,rfl,rfl,rfl,rfl,rfl,trivial⟩ bkRw_rw
   |(exfalso;omega)
   |trace_state
 rw [if_neg hk]
 have hb:decide (sidx s.aid o.au<s.na)=false:=decide_eq_false hk
 by_cases hn:256≤s.na
 ·rw [if_pos hn,if_neg (by decide)]
  refine fc_of mixed T_ok Tryz.func324 rfl (by kernel_rfl) (by kernel_rfl) (by kernel_rfl) ?_
  repeat' ((conv=>whnf);first|(rw [hb])|((first|apply br_dec|apply br_ndec)<;>intro h<;>try (exfalso;(try dsimp only at h);omega))|((first|apply br_seq|apply br_nseq|apply br_not|apply br_intro)<;>intro h)|refine cond_a ?_)
  all_goals (conv=>whnf)
  all_goals first
   |exact ret_out (l:= [0,1,2,3,4,5,6,7,8,9,10,11,12,13,14,15,16,17,18,19,2,6,10,17,18,19]) rfl rfl ⟨rfl,rfl,rfl,rfl,rfl,rfl,rfl,rfl,rfl,rfl,rfl,rfl,rfl,rfl,rfl,rfl,rfl,rfl,rfl,trivial⟩ bkRw_rw
   |(exfalso;omega)
   |trace_state
 rw [if_neg hn]
 have hnid:=newZ_id o.au s.cur o.am o.t (endI s o.t)
 generalize newZ o.au s.cur o.am o.t (endI s o.t)=N at*
 obtain ⟨a,e⟩:=N
 dsimp only at c2 hnid⊢
 by_cases he:e=0
 ·rw [if_pos he]
  subst he
  have hid:a.id=o.au:=hnid rfl
  have hix:sidx s.aid o.au=s.na:=by
   have h1:=Go.Sy.sidx_le s.aid o.au
   have h2:¬sidx s.aid o.au<s.na:=hk
   omega
  have hpl:=bkPl_put (n:=s.na) (ids:=s.aid) (id:=o.au) hix hal
  have hap:=auB_app (s.na+1) s.au a
  have e3:bkPl (s.na+1) (s.aid++ [o.au])=bkPl (s.na+1) ((s.au++ [a]).map Au.id):=by rw [List.map_append,←hid];rfl
  refine fc_of mixed T_ok Tryz.func324 rfl (by kernel_rfl) (by kernel_rfl) (by kernel_rfl) ?_
  repeat' ((conv=>whnf);first|(rw [hb])|refine vcall_o (l:= [0,1,2,3,4,5,6,7,8,9,10,11,12,13,14,15,16,17,18,19]) (c1) ?_|refine vcallD_o (l:= [0,1,2,3,4,5,6,7,8,9,10,11,12,13,14,15,16,17,18,19]) (c1) ?_|(refine vcall_pure (c2) rfl rfl rfl ?_)|(refine vcallD_pure (c2) rfl rfl rfl ?_)|((first|apply br_dec|apply br_ndec)<;>intro h<;>try (exfalso;(try dsimp only at h);omega))|((first|apply br_seq|apply br_nseq|apply br_not|apply br_intro)<;>intro h)|refine cond_a ?_)
  all_goals (conv=>whnf)
  all_goals first
   |(exfalso;omega)
   |(exfalso;exact h rfl)
   |exact ret_out (l:= [0,1,2,3,4,5,6,7,8,9,10,11,12,13,14,15,16,17,18,19,24,6,10,17,18,19]) rfl rfl ⟨rfl,congrArg (fun z=>some (HB.one false z)) hap,hpl.trans e3,rfl,rfl,rfl,rfl,rfl,rfl,rfl,rfl,rfl,rfl,rfl,rfl,rfl,rfl,rfl,rfl,trivial⟩ bkRw_rw
   |trace_state
 ·rw [if_neg he]
  refine fc_of mixed T_ok Tryz.func324 rfl (by kernel_rfl) (by kernel_rfl) (by kernel_rfl) ?_
  repeat' ((conv=>whnf);first|(rw [hb])|refine vcall_o (l:= [0,1,2,3,4,5,6,7,8,9,10,11,12,13,14,15,16,17,18,19]) (c1) ?_|refine vcallD_o (l:= [0,1,2,3,4,5,6,7,8,9,10,11,12,13,14,15,16,17,18,19]) (c1) ?_|(refine vcall_pure (c2) rfl rfl rfl ?_)|(refine vcallD_pure (c2) rfl rfl rfl ?_)|((first|apply br_dec|apply br_ndec)<;>intro h<;>try (exfalso;(try dsimp only at h);omega))|((first|apply br_seq|apply br_nseq|apply br_not|apply br_intro)<;>intro h)|refine cond_a ?_)
  all_goals (conv=>whnf)
  all_goals first
   |exact ret_out (l:= [0,1,2,3,4,5,6,7,8,9,10,11,12,13,14,15,16,17,18,19,2,6,10,17,18,19]) rfl rfl ⟨rfl,rfl,rfl,rfl,rfl,rfl,rfl,rfl,rfl,rfl,rfl,rfl,rfl,rfl,rfl,rfl,rfl,rfl,rfl,trivial⟩ bkRw_rw
   |(exfalso;omega)
   |(exfalso;exact he h)
   |trace_state
set_option maxHeartbeats 2000000 in
theorem bk_change2 (s:Bks) (o:Bop) (h:BkOk s) (hc:CkOk o) (hk:o.k=2):FC Tryz.prog 20 327 [.agg [],.ptr 1 0 0 0,o.s] (bkHp s) (isOut (.int .i64 (bcgE s o)) (bkOt (if bcgE s o=0 then bcgS s o else s)) 26):=by
 have c1:=bk_end s o.t h.days hc.t
 have c2:=auth_raise (auAt s.au (s.pl o.au)) o.am (max (auAt s.au (s.pl o.au)).unt (endI s o.t))
 have hA:bcgA s o=raiseZ (auAt s.au (s.pl o.au)) o.am (max (auAt s.au (s.pl o.au)).unt (endI s o.t)):=by unfold bcgA;rw [if_pos hk]
 have hd2:decide (o.k=2)=true:=decide_eq_true hk
 unfold bcgE bcgS
 by_cases hp:s.pl o.au<s.na
 ·have hb:decide (sidx s.aid o.au<s.na)=true:=decide_eq_true hp
  have hpl:=lg_pl hp
  have hcn:0≤((List.range s.na).map Int.ofNat).getD (s.pl o.au) 0∧((List.range s.na).map Int.ofNat).getD (s.pl o.au) 0<(s.na:Int):=by rw [hpl];omega
  rw [if_pos hp,hA]
  have hidk:=raiseZ_id (a:=auAt s.au (s.pl o.au)) (n:=o.am) (u:=max (auAt s.au (s.pl o.au)).unt (endI s o.t))
  unfold auAt at c2
  try dsimp only at c2
  generalize hN:raiseZ (auAt s.au (s.pl o.au)) o.am (max (auAt s.au (s.pl o.au)).unt (endI s o.t))=N at*
  unfold auAt at hN
  rw [hN] at c2
  obtain ⟨a,e⟩:=N
  dsimp only at c2 hidk⊢
  by_cases he:e=0
  ·rw [if_pos he]
   subst he
   have hap:=auB_set s.na s.au (s.pl o.au) a
   have r3:bkPl s.na s.aid=bkPl s.na ((s.au.set (s.pl o.au) a).map Au.id):=by rw [bk_setid _ _ _ (hidk rfl)]
   refine fc_of mixed T_ok Tryz.func327 rfl (by kernel_rfl) (by kernel_rfl) (by kernel_rfl) ?_
   repeat' ((conv=>whnf);first|(rw [hb])|(rw [hd2];dsimp only [setMany,setNth])|(simp only [hpl,lg_tn])|refine vcall_o (l:= [0,1,2,3,4,5,6,7,8,9,10,11,12,13,14,15,16,17,18,19]) (c1) ?_|refine vcallD_o (l:= [0,1,2,3,4,5,6,7,8,9,10,11,12,13,14,15,16,17,18,19]) (c1) ?_|(refine vcall_pure (c2) rfl rfl rfl ?_)|(refine vcallD_pure (c2) rfl rfl rfl ?_)|((first|apply br_dec|apply br_ndec)<;>intro h<;>try (exfalso;(try dsimp only at h);omega))|((first|apply br_seq|apply br_nseq|apply br_not|apply br_intro)<;>intro h)|refine cond_a ?_)
   all_goals (conv=>whnf)
   all_goals first
    |(exfalso;omega)
    |(exfalso;exact h rfl)
    |exact ret_out (l:= [0,1,2,3,4,5,6,7,8,9,10,11,12,13,14,15,16,17,18,19,2,6,10,17,18,19]) rfl rfl ⟨rfl,congrArg (fun z=>some (HB.one false z)) hap,r3,rfl,rfl,rfl,rfl,rfl,rfl,rfl,rfl,rfl,rfl,rfl,rfl,rfl,rfl,rfl,rfl,trivial⟩ bkRw_rw
    |trace_state
  ·rw [if_neg he]
   refine fc_of mixed T_ok Tryz.func327 rfl (by kernel_rfl) (by kernel_rfl) (by kernel_rfl) ?_
   repeat' ((conv=>whnf);first|(rw [hb])|(rw [hd2];dsimp only [setMany,setNth])|(simp only [hpl,lg_tn])|refine vcall_o (l:= [0,1,2,3,4,5,6,7,8,9,10,11,12,13,14,15,16,17,18,19]) (c1) ?_|refine vcallD_o (l:= [0,1,2,3,4,5,6,7,8,9,10,11,12,13,14,15,16,17,18,19]) (c1) ?_|(refine vcall_pure (c2) rfl rfl rfl ?_)|(refine vcallD_pure (c2) rfl rfl rfl ?_)|((first|apply br_dec|apply br_ndec)<;>intro h<;>try (exfalso;(try dsimp only at h);omega))|((first|apply br_seq|apply br_nseq|apply br_not|apply br_intro)<;>intro h)|refine cond_a ?_)
   all_goals (conv=>whnf)
   all_goals first
    |exact ret_out (l:= [0,1,2,3,4,5,6,7,8,9,10,11,12,13,14,15,16,17,18,19,2,6,10,17,18,19]) rfl rfl ⟨rfl,rfl,rfl,rfl,rfl,rfl,rfl,rfl,rfl,rfl,rfl,rfl,rfl,rfl,rfl,rfl,rfl,rfl,rfl,trivial⟩ bkRw_rw
    |(exfalso;omega)
    |(exfalso;exact he h)
    |trace_state
 ·have hb:decide (sidx s.aid o.au<s.na)=false:=decide_eq_false hp
  rw [if_neg hp,if_neg (by decide)]
  refine fc_of mixed T_ok Tryz.func327 rfl (by kernel_rfl) (by kernel_rfl) (by kernel_rfl) ?_
  repeat' ((conv=>whnf);first|(rw [hb])|((first|apply br_dec|apply br_ndec)<;>intro h<;>try (exfalso;(try dsimp only at h);omega))|((first|apply br_seq|apply br_nseq|apply br_not|apply br_intro)<;>intro h)|refine cond_a ?_)
  all_goals (conv=>whnf)
  all_goals first
   |exact ret_out (l:= [0,1,2,3,4,5,6,7,8,9,10,11,12,13,14,15,16,17,18,19,2,6,10,17,18,19]) rfl rfl ⟨rfl,rfl,rfl,rfl,rfl,rfl,rfl,rfl,rfl,rfl,rfl,rfl,rfl,rfl,rfl,rfl,rfl,rfl,rfl,trivial⟩ bkRw_rw
   |(exfalso;omega)
   |trace_state
set_option maxHeartbeats 2000000 in
theorem bk_change3 (s:Bks) (o:Bop) (h:BkOk s) (hc:CkOk o) (hk:o.k=3):FC Tryz.prog 20 327 [.agg [],.ptr 1 0 0 0,o.s] (bkHp s) (isOut (.int .i64 (bcgE s o)) (bkOt (if bcgE s o=0 then bcgS s o else s)) 26):=by
 have c1:=bk_end s o.t h.days hc.t
 have c2:=auth_reverse (auAt s.au (s.pl o.au)) o.am
 have hA:bcgA s o=((reverseZ (auAt s.au (s.pl o.au)) o.am).1,(reverseZ (auAt s.au (s.pl o.au)) o.am).2.2):=by unfold bcgA;rw [if_neg (by omega),if_pos hk]
 have hd2:decide (o.k=2)=false:=decide_eq_false (by omega)
 have hd3:decide (o.k=3)=true:=decide_eq_true hk
 unfold bcgE bcgS
 by_cases hp:s.pl o.au<s.na
 ·have hb:decide (sidx s.aid o.au<s.na)=true:=decide_eq_true hp
  have hpl:=lg_pl hp
  have hcn:0≤((List.range s.na).map Int.ofNat).getD (s.pl o.au) 0∧((List.range s.na).map Int.ofNat).getD (s.pl o.au) 0<(s.na:Int):=by rw [hpl];omega
  rw [if_pos hp,hA]
  have hidk:=reverseZ_id (a:=auAt s.au (s.pl o.au)) (n:=o.am)
  unfold auAt at c2
  try dsimp only at c2
  generalize hN:reverseZ (auAt s.au (s.pl o.au)) o.am=N at*
  unfold auAt at hN
  rw [hN] at c2
  obtain ⟨a,r,e⟩:=N
  dsimp only at c2 hidk⊢
  by_cases he:e=0
  ·rw [if_pos he]
   subst he
   have hap:=auB_set s.na s.au (s.pl o.au) a
   have r3:bkPl s.na s.aid=bkPl s.na ((s.au.set (s.pl o.au) a).map Au.id):=by rw [bk_setid _ _ _ (hidk rfl)]
   refine fc_of mixed T_ok Tryz.func327 rfl (by kernel_rfl) (by kernel_rfl) (by kernel_rfl) ?_
   repeat' ((conv=>whnf);first|(rw [hb])|(rw [hd2];dsimp only [setMany,setNth])|(rw [hd3];try dsimp only [setMany,setNth])|(simp only [hpl,lg_tn])|refine vcall_o (l:= [0,1,2,3,4,5,6,7,8,9,10,11,12,13,14,15,16,17,18,19]) (c1) ?_|refine vcallD_o (l:= [0,1,2,3,4,5,6,7,8,9,10,11,12,13,14,15,16,17,18,19]) (c1) ?_|(refine vcall_pure (c2) rfl rfl rfl ?_)|(refine vcallD_pure (c2) rfl rfl rfl ?_)|((first|apply br_dec|apply br_ndec)<;>intro h<;>try (exfalso;(try dsimp only at h);omega))|((first|apply br_seq|apply br_nseq|apply br_not|apply br_intro)<;>intro h)|refine cond_a ?_)
   all_goals (conv=>whnf)
   all_goals first
    |(exfalso;omega)
    |(exfalso;exact h rfl)
    |exact ret_out (l:= [0,1,2,3,4,5,6,7,8,9,10,11,12,13,14,15,16,17,18,19,2,6,10,17,18,19]) rfl rfl ⟨rfl,congrArg (fun z=>some (HB.one false z)) hap,r3,rfl,rfl,rfl,rfl,rfl,rfl,rfl,rfl,rfl,rfl,rfl,rfl,rfl,rfl,rfl,rfl,trivial⟩ bkRw_rw
    |trace_state
  ·rw [if_neg he]
   refine fc_of mixed T_ok Tryz.func327 rfl (by kernel_rfl) (by kernel_rfl) (by kernel_rfl) ?_
   repeat' ((conv=>whnf);first|(rw [hb])|(rw [hd2];dsimp only [setMany,setNth])|(rw [hd3];try dsimp only [setMany,setNth])|(simp only [hpl,lg_tn])|refine vcall_o (l:= [0,1,2,3,4,5,6,7,8,9,10,11,12,13,14,15,16,17,18,19]) (c1) ?_|refine vcallD_o (l:= [0,1,2,3,4,5,6,7,8,9,10,11,12,13,14,15,16,17,18,19]) (c1) ?_|(refine vcall_pure (c2) rfl rfl rfl ?_)|(refine vcallD_pure (c2) rfl rfl rfl ?_)|((first|apply br_dec|apply br_ndec)<;>intro h<;>try (exfalso;(try dsimp only at h);omega))|((first|apply br_seq|apply br_nseq|apply br_not|apply br_intro)<;>intro h)|refine cond_a ?_)
   all_goals (conv=>whnf)
   all_goals first
    |exact ret_out (l:= [0,1,2,3,4,5,6,7,8,9,10,11,12,13,14,15,16,17,18,19,2,6,10,17,18,19]) rfl rfl ⟨rfl,rfl,rfl,rfl,rfl,rfl,rfl,rfl,rfl,rfl,rfl,rfl,rfl,rfl,rfl,rfl,rfl,rfl,rfl,trivial⟩ bkRw_rw
    |(exfalso;omega)
    |(exfalso;exact he h)
    |trace_state
 ·have hb:decide (sidx s.aid o.au<s.na)=false:=decide_eq_false hp
  rw [if_neg hp,if_neg (by decide)]
  refine fc_of mixed T_ok Tryz.func327 rfl (by kernel_rfl) (by kernel_rfl) (by kernel_rfl) ?_
  repeat' ((conv=>whnf);first|(rw [hb])|((first|apply br_dec|apply br_ndec)<;>intro h<;>try (exfalso;(try dsimp only at h);omega))|((first|apply br_seq|apply br_nseq|apply br_not|apply br_intro)<;>intro h)|refine cond_a ?_)
  all_goals (conv=>whnf)
  all_goals first
   |exact ret_out (l:= [0,1,2,3,4,5,6,7,8,9,10,11,12,13,14,15,16,17,18,19,2,6,10,17,18,19]) rfl rfl ⟨rfl,rfl,rfl,rfl,rfl,rfl,rfl,rfl,rfl,rfl,rfl,rfl,rfl,rfl,rfl,rfl,rfl,rfl,rfl,trivial⟩ bkRw_rw
   |(exfalso;omega)
   |trace_state
set_option maxHeartbeats 2000000 in
theorem bk_change7 (s:Bks) (o:Bop) (h:BkOk s) (hc:CkOk o) (hk:o.k=7):FC Tryz.prog 20 327 [.agg [],.ptr 1 0 0 0,o.s] (bkHp s) (isOut (.int .i64 (bcgE s o)) (bkOt (if bcgE s o=0 then bcgS s o else s)) 26):=by
 have c1:=bk_end s o.t h.days hc.t
 have c2:=auth_expire (auAt s.au (s.pl o.au)) o.t
 have hA:bcgA s o=((expireZ (auAt s.au (s.pl o.au)) o.t).1,(expireZ (auAt s.au (s.pl o.au)) o.t).2.2):=by unfold bcgA;rw [if_neg (by omega),if_neg (by omega)]
 have hd2:decide (o.k=2)=false:=decide_eq_false (by omega)
 have hd3:decide (o.k=3)=false:=decide_eq_false (by omega)
 unfold bcgE bcgS
 by_cases hp:s.pl o.au<s.na
 ·have hb:decide (sidx s.aid o.au<s.na)=true:=decide_eq_true hp
  have hpl:=lg_pl hp
  have hcn:0≤((List.range s.na).map Int.ofNat).getD (s.pl o.au) 0∧((List.range s.na).map Int.ofNat).getD (s.pl o.au) 0<(s.na:Int):=by rw [hpl];omega
  rw [if_pos hp,hA]
  have hidk:=expireZ_id (a:=auAt s.au (s.pl o.au)) (n:=o.t)
  unfold auAt at c2
  try dsimp only at c2
  generalize hN:expireZ (auAt s.au (s.pl o.au)) o.t=N at*
  unfold auAt at hN
  rw [hN] at c2
  obtain ⟨a,r,e⟩:=N
  dsimp only at c2 hidk⊢
  by_cases he:e=0
  ·rw [if_pos he]
   subst he
   have hap:=auB_set s.na s.au (s.pl o.au) a
   have r3:bkPl s.na s.aid=bkPl s.na ((s.au.set (s.pl o.au) a).map Au.id):=by rw [bk_setid _ _ _ (hidk rfl)]
   refine fc_of mixed T_ok Tryz.func327 rfl (by kernel_rfl) (by kernel_rfl) (by kernel_rfl) ?_
   repeat' ((conv=>whnf);first|(rw [hb])|(rw [hd2];dsimp only [setMany,setNth])|(rw [hd3];try dsimp only [setMany,setNth])|(simp only [hpl,lg_tn])|refine vcall_o (l:= [0,1,2,3,4,5,6,7,8,9,10,11,12,13,14,15,16,17,18,19]) (c1) ?_|refine vcallD_o (l:= [0,1,2,3,4,5,6,7,8,9,10,11,12,13,14,15,16,17,18,19]) (c1) ?_|(refine vcall_pure (c2) rfl rfl rfl ?_)|(refine vcallD_pure (c2) rfl rfl rfl ?_)|((first|apply br_dec|apply br_ndec)<;>intro h<;>try (exfalso;(try dsimp only at h);omega))|((first|apply br_seq|apply br_nseq|apply br_not|apply br_intro)<;>intro h)|refine cond_a ?_)
   all_goals (conv=>whnf)
   all_goals first
    |(exfalso;omega)
    |(exfalso;exact h rfl)
    |exact ret_out (l:= [0,1,2,3,4,5,6,7,8,9,10,11,12,13,14,15,16,17,18,19,2,6,10,17,18,19]) rfl rfl ⟨rfl,congrArg (fun z=>some (HB.one false z)) hap,r3,rfl,rfl,rfl,rfl,rfl,rfl,rfl,rfl,rfl,rfl,rfl,rfl,rfl,rfl,rfl,rfl,trivial⟩ bkRw_rw
    |trace_state
  ·rw [if_neg he]
   refine fc_of mixed T_ok Tryz.func327 rfl (by kernel_rfl) (by kernel_rfl) (by kernel_rfl) ?_
   repeat' ((conv=>whnf);first|(rw [hb])|(rw [hd2];dsimp only [setMany,setNth])|(rw [hd3];try dsimp only [setMany,setNth])|(simp only [hpl,lg_tn])|refine vcall_o (l:= [0,1,2,3,4,5,6,7,8,9,10,11,12,13,14,15,16,17,18,19]) (c1) ?_|refine vcallD_o (l:= [0,1,2,3,4,5,6,7,8,9,10,11,12,13,14,15,16,17,18,19]) (c1) ?_|(refine vcall_pure (c2) rfl rfl rfl ?_)|(refine vcallD_pure (c2) rfl rfl rfl ?_)|((first|apply br_dec|apply br_ndec)<;>intro h<;>try (exfalso;(try dsimp only at h);omega))|((first|apply br_seq|apply br_nseq|apply br_not|apply br_intro)<;>intro h)|refine cond_a ?_)
   all_goals (conv=>whnf)
   all_goals first
    |exact ret_out (l:= [0,1,2,3,4,5,6,7,8,9,10,11,12,13,14,15,16,17,18,19,2,6,10,17,18,19]) rfl rfl ⟨rfl,rfl,rfl,rfl,rfl,rfl,rfl,rfl,rfl,rfl,rfl,rfl,rfl,rfl,rfl,rfl,rfl,rfl,rfl,trivial⟩ bkRw_rw
    |(exfalso;omega)
    |(exfalso;exact he h)
    |trace_state
 ·have hb:decide (sidx s.aid o.au<s.na)=false:=decide_eq_false hp
  rw [if_neg hp,if_neg (by decide)]
  refine fc_of mixed T_ok Tryz.func327 rfl (by kernel_rfl) (by kernel_rfl) (by kernel_rfl) ?_
  repeat' ((conv=>whnf);first|(rw [hb])|((first|apply br_dec|apply br_ndec)<;>intro h<;>try (exfalso;(try dsimp only at h);omega))|((first|apply br_seq|apply br_nseq|apply br_not|apply br_intro)<;>intro h)|refine cond_a ?_)
  all_goals (conv=>whnf)
  all_goals first
   |exact ret_out (l:= [0,1,2,3,4,5,6,7,8,9,10,11,12,13,14,15,16,17,18,19,2,6,10,17,18,19]) rfl rfl ⟨rfl,rfl,rfl,rfl,rfl,rfl,rfl,rfl,rfl,rfl,rfl,rfl,rfl,rfl,rfl,rfl,rfl,rfl,rfl,trivial⟩ bkRw_rw
   |(exfalso;omega)
   |trace_state
end Go.Proofs.YthmggifndkcboaaGreatDoor
namespace Go.Proofs.YthmggifndkcboaaGreatDoor
open Go.RowKit Go.Sy
attribute [local irreducible] vcall vloop vcallD retP sortI
set_option maxRecDepth 100000
set_option linter.unusedVariables false
set_option linter.unusedSimpArgs false
attribute [local irreducible] seq ByteArray.extract lgE
theorem nmB_16 {s:ByteArray} (h:nmB s=true):s.size≤16:=by
 unfold nmB at h
 simp only [Bool.and_eq_true,decide_eq_true_eq] at h
 exact h.1.1.2
theorem bk_owe_no (s:Bks) (o:Bop) (f g:ByteArray) (n:Int) (h:BkOk s) (hx:owX s o.t f g n≠0):FC Tryz.prog 20 354 [.ptr 1 0 0 0,o.s,.str f,.str g,.int .i64 n] (bkHp s) (isOut (.int .i64 (owX s o.t f g n)) (bkOt s) 26):=by
 have c1:=bk_money s n
 have c2:=cy_Move h.bks h.hn h.nc h.np h.err s.cut o.t f g s.cur n
 unfold mvO at c2
 rw [if_neg (show¬mvX s.hs s.ds s.cd s.B s.pr (mvD s.hs s.cd (ofI s.hs s.cut o.t)) f g s.cur n=0 from hx)] at c2
 unfold owX bkD at hx⊢
 generalize mvX s.hs s.ds s.cd s.B s.pr (mvD s.hs s.cd (ofI s.hs s.cut o.t)) f g s.cur n=E at*
 refine fc_of mixed T_ok Tryz.func354 rfl (by kernel_rfl) (by kernel_rfl) (by kernel_rfl) ?_
 repeat' ((conv=>whnf);first|refine vcall_o (l:= [0,1,2,3,4,5,6,7,8,9,10,11,12,13,14,15,16,17,18,19]) (c1) ?_|refine vcallD_o (l:= [0,1,2,3,4,5,6,7,8,9,10,11,12,13,14,15,16,17,18,19]) (c1) ?_|refine vcall_o (l:= [0,11,12,13,14,15,16,17,18,19]) (c2) ?_|refine vcallD_o (l:= [0,11,12,13,14,15,16,17,18,19]) (c2) ?_|((first|apply br_dec|apply br_ndec)<;>intro h<;>try (exfalso;(try dsimp only at h);omega))|((first|apply br_seq|apply br_nseq|apply br_not|apply br_intro)<;>intro h)|refine cond_a ?_)
 all_goals (conv=>whnf)
 all_goals first
  |exact ret_out (l:= [0,1,2,3,4,5,6,7,8,9,10,11,12,13,14,15,16,17,18,19,2,6,10,17,18,19]) rfl rfl ⟨rfl,rfl,rfl,rfl,rfl,rfl,rfl,rfl,rfl,rfl,rfl,rfl,rfl,rfl,rfl,rfl,rfl,rfl,rfl,trivial⟩ bkRw_rw
  |(exfalso;omega)
  |(exfalso;exact hx h)
  |trace_state
theorem bk_owe_ok (s:Bks) (o:Bop) (h:BkOk s) (hc:CkOk o) (hk:o.k=4∨o.k=5∨o.k=6) (hi:¬inL o.id s.lg.ids) (hf:¬512≤s.lg.ne) (hx:owX s o.t (mtF o) (mtG o) (mtN o)=0):
  FC Tryz.prog 20 354 [.ptr 1 0 0 0,o.s,.str (mtF o),.str (mtG o),.int .i64 (mtN o)] (bkHp s) (isOut (.int .i64 0) (bkOt (owS s o)) 26):=by
 obtain ⟨hp,hne⟩:=po_ok h hc hk hi hf hx
 obtain ⟨b1,b2,b3⟩:=bkAt_I h.bks h.np h.err (bkD s o.t)
 obtain ⟨m1,m2,m3,m4,m5,m6⟩:=bk_mv_ok hx b3 b1.psl
 have hb:=mt_bd hc hk
 obtain ⟨w1,w2,w3⟩:=nw_ok h.err
 have z1:=nmB_16 (w3 _ m3)
 have z2:=nmB_16 (w3 _ m4)
 have c1:=bk_money s (mtN o)
 have c1':=bk_money s (-mtN o)
 have c2:=cy_Move h.bks h.hn h.nc h.np h.err s.cut o.t (mtF o) (mtG o) s.cur (mtN o)
 unfold mvO at c2
 rw [if_pos (show mvX s.hs s.ds s.cd s.B s.pr (mvD s.hs s.cd (ofI s.hs s.cut o.t)) (mtF o) (mtG o) s.cur (mtN o)=0 from hx)] at c2
 have c3:=cal_Day o.t
 have c4:=bk_accountOf (mtF o) (by omega)
 have c4':=bk_accountOf (mtG o) (by omega)
 have c5:=lg_Post_ok s.lg o.id (dayI o.t) (enB s o).ps 2 h.lg rfl hp
 change FC _ _ _ _ _ (isOut _ ((6,lgBg false (lgP s.lg (enB s o)))::psO (lgP s.lg (enB s o))) _) at c5
 have hneg:IntKind.i64.wrap (0-mtN o)= -mtN o:=by rw [w64_in (by omega) (by omega)];omega
 have hne1:IntKind.i64.wrap ((s.lg.ne:Int)+1)=((lgP s.lg (enB s o)).ne:Int):=i64_succ (by omega)
 have ha:lgAcc s.lg=lgAcc (lgP s.lg (enB s o)):=rfl
 have hst:lgSt s.lg=lgSt (lgP s.lg (enB s o)):=rfl
 unfold owS
 unfold enB at c5
 dsimp only at c5
 change FC _ _ _ _ _ (isOut _ ((6,lgBg false (lgP s.lg (enB s o)))::psO (lgP s.lg (enB s o))) _) at c5
 generalize lgP s.lg (enB s o)=S' at*
 unfold bkD
 generalize mvD s.hs s.cd (ofI s.hs s.cut o.t)=D at*
 generalize mtF o=F at*
 generalize mtG o=G at*
 generalize mtN o=N at*
 generalize dayI o.t=dd at*
 generalize secI o.t=ds at*
 have r1:(some (HB.one false (.cells [.str s.cur,.int .i64 s.days,.sl 2 0 0 s.na,.map 3 0,.ptr 4 0 0 0,.int .i64 (IntKind.i64.wrap ((s.lg.ne:Int)+1)),.ptr 11 0 0 0,.int .i64 s.last])):Option HB)=some (.one false (.cells [.str s.cur,.int .i64 s.days,.sl 2 0 0 s.na,.map 3 0,.ptr 4 0 0 0,.int .i64 S'.ne,.ptr 11 0 0 0,.int .i64 s.last])):=by rw [hne1]
 have r5:=congrArg (fun z=>some (HB.one false z)) ha
 have r8:=congrArg (fun z=>some (HB.one false z)) hst
 refine fc_of mixed T_ok Tryz.func354 rfl (by kernel_rfl) (by kernel_rfl) (by kernel_rfl) ?_
 repeat' ((conv=>whnf);first|refine vcall_o (l:= [0,1,2,3,4,5,6,7,8,9,10,11,12,13,14,15,16,17,18,19]) (c1) ?_|refine vcallD_o (l:= [0,1,2,3,4,5,6,7,8,9,10,11,12,13,14,15,16,17,18,19]) (c1) ?_|refine vcall_o (l:= [0,1,2,3,4,5,6,7,8,9,10,11,12,13,14,15,16,17,18,19]) (c1') ?_|refine vcallD_o (l:= [0,1,2,3,4,5,6,7,8,9,10,11,12,13,14,15,16,17,18,19]) (c1') ?_|refine vcall_o (l:= [0,11,12,13,14,15,16,17,18,19]) (c2) ?_|refine vcallD_o (l:= [0,11,12,13,14,15,16,17,18,19]) (c2) ?_|(refine vcall_pure (c3) rfl rfl rfl ?_)|(refine vcallD_pure (c3) rfl rfl rfl ?_)|(refine vcall_pure (c4) rfl rfl rfl ?_)|(refine vcallD_pure (c4) rfl rfl rfl ?_)|(refine vcall_pure (c4') rfl rfl rfl ?_)|(refine vcallD_pure (c4') rfl rfl rfl ?_)|(rw [hneg])|refine vcall_o (l:= [0,4,5,6,7,8,9,10,24]) (c5) ?_|refine vcallD_o (l:= [0,4,5,6,7,8,9,10,24]) (c5) ?_|((first|apply br_dec|apply br_ndec)<;>intro h<;>try (exfalso;(try dsimp only at h);omega))|((first|apply br_seq|apply br_nseq|apply br_not|apply br_intro)<;>intro h)|refine cond_a ?_)
 all_goals (conv=>whnf)
 all_goals first
  |(exfalso;omega)
  |(exfalso;exact h rfl)
  |exact ret_out (l:= [0,1,2,3,4,5,6,7,8,9,10,11,12,13,14,15,16,17,18,19,2,25,26,21,22,23]) rfl rfl ⟨r1,rfl,rfl,rfl,rfl,r5,rfl,rfl,r8,rfl,rfl,rfl,rfl,rfl,rfl,rfl,rfl,rfl,rfl,trivial⟩ bkRw_rw
  |trace_state
end Go.Proofs.YthmggifndkcboaaGreatDoor
namespace Go.Proofs.YthmggifndkcboaaGreatDoor
open Go.RowKit Go.Sy
attribute [local irreducible] vcall vloop vcallD retP sortI
set_option maxRecDepth 100000
set_option linter.unusedVariables false
set_option linter.unusedSimpArgs false
attribute [local irreducible] seq ByteArray.extract lgE
theorem bk_owe (s:Bks) (o:Bop) (h:BkOk s) (hc:CkOk o) (hk:o.k=4∨o.k=5∨o.k=6) (hi:¬inL o.id s.lg.ids) (hf:¬512≤s.lg.ne):
  FC Tryz.prog 20 354 [.ptr 1 0 0 0,o.s,.str (mtF o),.str (mtG o),.int .i64 (mtN o)] (bkHp s) (isOut (.int .i64 (owX s o.t (mtF o) (mtG o) (mtN o))) (bkOt (if owX s o.t (mtF o) (mtG o) (mtN o)=0 then owS s o else s)) 26):=by
 by_cases hx:owX s o.t (mtF o) (mtG o) (mtN o)=0
 ·rw [if_pos hx,hx]
  exact bk_owe_ok s o h hc hk hi hf hx
 ·rw [if_neg hx]
  exact bk_owe_no s o (mtF o) (mtG o) (mtN o) h hx
theorem i64_ne {n:Nat} (h:¬512≤n):(n:Int)<512:=by omega
theorem bk_mov5 (s:Bks) (o:Bop) (h:BkOk s) (hc:CkOk o) (hk:o.k=5) (hi:¬inL o.id s.lg.ids) (hf:¬512≤s.lg.ne):FC Tryz.prog 20 352 [.agg [],.ptr 1 0 0 0,o.s] (bkHp s) (isOut (.int .i64 (mmE s o)) (bkOt (if mmE s o=0 then mmS s o else s)) 26):=by
 have hb:=mt_bd hc (by omega)
 have eF:mtF o=o.ac:=by unfold mtF;rw [if_pos hk]
 have eG:mtG o=o.is:=by unfold mtG;rw [if_pos hk]
 have eN:mtN o=o.am-o.fe:=by unfold mtN;rw [if_neg (by omega)]
 have hE:mmE s o=owX s o.t (mtF o) (mtG o) (mtN o):=by unfold mmE;rw [if_neg hi,if_neg hf,if_neg (by omega)]
 have hS:mmS s o=owS s o:=by unfold mmS;rw [if_neg (by omega)]
 have c2:=bk_owe s o h hc (by omega) hi hf
 have c1:=lg_Entry s.lg o.id h.lg
 rw [if_neg hi] at c1
 rw [hE,hS]
 rw [eF,eG,eN] at c2⊢
 rw [eN] at hb
 have hw:IntKind.i64.wrap (o.am-o.fe)=o.am-o.fe:=by rw [w64_in (by omega) (by omega)]
 have hfi:=i64_ne hf
 generalize owX s o.t o.ac o.is (o.am-o.fe)=E at*
 generalize (if E=0 then owS s o else s)=S' at*
 refine fc_of mixed T_ok Tryz.func352 rfl (by kernel_rfl) (by kernel_rfl) (by kernel_rfl) ?_
 repeat' ((conv=>whnf);first|(rw [hw])|refine vcall_o (l:= [0,4,5,6,7,8,9,10]) (c1) ?_|refine vcallD_o (l:= [0,4,5,6,7,8,9,10]) (c1) ?_|refine vcall_o (l:= [0,1,2,3,4,5,6,7,8,9,10,11,12,13,14,15,16,17,18,19]) (c2) ?_|refine vcallD_o (l:= [0,1,2,3,4,5,6,7,8,9,10,11,12,13,14,15,16,17,18,19]) (c2) ?_|((first|apply br_dec|apply br_ndec)<;>intro h<;>try (exfalso;(try dsimp only at h);omega))|((first|apply br_seq|apply br_nseq|apply br_not|apply br_intro)<;>intro h)|refine cond_a ?_)
 all_goals (conv=>whnf)
 all_goals first
  |(exfalso;omega)
  |exact ret_out (l:= [0,1,2,3,4,5,6,7,8,9,10,11,12,13,14,15,16,17,18,19,23,24,25,26,27,28]) rfl rfl ⟨rfl,rfl,rfl,rfl,rfl,rfl,rfl,rfl,rfl,rfl,rfl,rfl,rfl,rfl,rfl,rfl,rfl,rfl,rfl,trivial⟩ bkRw_rw
  |trace_state
theorem bk_mov6n (s:Bks) (o:Bop) (h:BkOk s) (hc:CkOk o) (hk:o.k=6) (ha:o.am<0) (hi:¬inL o.id s.lg.ids) (hf:¬512≤s.lg.ne):FC Tryz.prog 20 352 [.agg [],.ptr 1 0 0 0,o.s] (bkHp s) (isOut (.int .i64 (mmE s o)) (bkOt (if mmE s o=0 then mmS s o else s)) 26):=by
 have hb:=mt_bd hc (by omega)
 have eF:mtF o=o.is:=by unfold mtF;rw [if_neg (by omega),if_neg (fun e=>e.2 ha)]
 have eG:mtG o=o.ac:=by unfold mtG;rw [if_neg (by omega),if_neg (fun e=>e.2 ha)]
 have eN:mtN o= -o.am:=by unfold mtN;rw [if_pos hk,if_pos ha]
 have hE:mmE s o=owX s o.t (mtF o) (mtG o) (mtN o):=by unfold mmE;rw [if_neg hi,if_neg hf,if_neg (by omega)]
 have hS:mmS s o=owS s o:=by unfold mmS;rw [if_neg (by omega)]
 have c2:=bk_owe s o h hc (by omega) hi hf
 have c1:=lg_Entry s.lg o.id h.lg
 rw [if_neg hi] at c1
 rw [hE,hS]
 rw [eF,eG,eN] at c2⊢
 rw [eN] at hb
 have hw:IntKind.i64.wrap (0-o.am)= -o.am:=by rw [w64_in (by omega) (by omega)];omega
 have hfi:=i64_ne hf
 generalize owX s o.t o.is o.ac (-o.am)=E at*
 generalize (if E=0 then owS s o else s)=S' at*
 refine fc_of mixed T_ok Tryz.func352 rfl (by kernel_rfl) (by kernel_rfl) (by kernel_rfl) ?_
 repeat' ((conv=>whnf);first|(rw [hw])|refine vcall_o (l:= [0,4,5,6,7,8,9,10]) (c1) ?_|refine vcallD_o (l:= [0,4,5,6,7,8,9,10]) (c1) ?_|refine vcall_o (l:= [0,1,2,3,4,5,6,7,8,9,10,11,12,13,14,15,16,17,18,19]) (c2) ?_|refine vcallD_o (l:= [0,1,2,3,4,5,6,7,8,9,10,11,12,13,14,15,16,17,18,19]) (c2) ?_|((first|apply br_dec|apply br_ndec)<;>intro h<;>try (exfalso;(try dsimp only at h);omega))|((first|apply br_seq|apply br_nseq|apply br_not|apply br_intro)<;>intro h)|refine cond_a ?_)
 all_goals (conv=>whnf)
 all_goals first
  |(exfalso;omega)
  |exact ret_out (l:= [0,1,2,3,4,5,6,7,8,9,10,11,12,13,14,15,16,17,18,19,23,24,25,26,27,28]) rfl rfl ⟨rfl,rfl,rfl,rfl,rfl,rfl,rfl,rfl,rfl,rfl,rfl,rfl,rfl,rfl,rfl,rfl,rfl,rfl,rfl,trivial⟩ bkRw_rw
  |trace_state
theorem bk_mov6p (s:Bks) (o:Bop) (h:BkOk s) (hc:CkOk o) (hk:o.k=6) (ha:¬o.am<0) (hi:¬inL o.id s.lg.ids) (hf:¬512≤s.lg.ne):FC Tryz.prog 20 352 [.agg [],.ptr 1 0 0 0,o.s] (bkHp s) (isOut (.int .i64 (mmE s o)) (bkOt (if mmE s o=0 then mmS s o else s)) 26):=by
 have hb:=mt_bd hc (by omega)
 have eF:mtF o=o.ac:=by unfold mtF;rw [if_neg (by omega),if_pos ⟨hk,ha⟩]
 have eG:mtG o=o.is:=by unfold mtG;rw [if_neg (by omega),if_pos ⟨hk,ha⟩]
 have eN:mtN o=o.am:=by unfold mtN;rw [if_pos hk,if_neg ha]
 have hE:mmE s o=owX s o.t (mtF o) (mtG o) (mtN o):=by unfold mmE;rw [if_neg hi,if_neg hf,if_neg (by omega)]
 have hS:mmS s o=owS s o:=by unfold mmS;rw [if_neg (by omega)]
 have c2:=bk_owe s o h hc (by omega) hi hf
 have c1:=lg_Entry s.lg o.id h.lg
 rw [if_neg hi] at c1
 rw [hE,hS]
 rw [eF,eG,eN] at c2⊢
 rw [eN] at hb
 have hw:IntKind.i64.wrap o.am=o.am:=by rw [w64_in (by omega) (by omega)]
 have hfi:=i64_ne hf
 generalize owX s o.t o.ac o.is (o.am)=E at*
 generalize (if E=0 then owS s o else s)=S' at*
 refine fc_of mixed T_ok Tryz.func352 rfl (by kernel_rfl) (by kernel_rfl) (by kernel_rfl) ?_
 repeat' ((conv=>whnf);first|refine vcall_o (l:= [0,4,5,6,7,8,9,10]) (c1) ?_|refine vcallD_o (l:= [0,4,5,6,7,8,9,10]) (c1) ?_|refine vcall_o (l:= [0,1,2,3,4,5,6,7,8,9,10,11,12,13,14,15,16,17,18,19]) (c2) ?_|refine vcallD_o (l:= [0,1,2,3,4,5,6,7,8,9,10,11,12,13,14,15,16,17,18,19]) (c2) ?_|((first|apply br_dec|apply br_ndec)<;>intro h<;>try (exfalso;(try dsimp only at h);omega))|((first|apply br_seq|apply br_nseq|apply br_not|apply br_intro)<;>intro h)|refine cond_a ?_)
 all_goals (conv=>whnf)
 all_goals first
  |(exfalso;omega)
  |exact ret_out (l:= [0,1,2,3,4,5,6,7,8,9,10,11,12,13,14,15,16,17,18,19,23,24,25,26,27,28]) rfl rfl ⟨rfl,rfl,rfl,rfl,rfl,rfl,rfl,rfl,rfl,rfl,rfl,rfl,rfl,rfl,rfl,rfl,rfl,rfl,rfl,trivial⟩ bkRw_rw
  |trace_state
theorem bk_mov_in (s:Bks) (o:Bop) (h:BkOk s) (hk:o.k=4∨o.k=5∨o.k=6) (hi:inL o.id s.lg.ids):FC Tryz.prog 20 352 [.agg [],.ptr 1 0 0 0,o.s] (bkHp s) (isOut (.int .i64 15) (bkOt s) 26):=by
 have c1:=lg_Entry s.lg o.id h.lg
 rw [if_pos hi] at c1
 refine fc_of mixed T_ok Tryz.func352 rfl (by kernel_rfl) (by kernel_rfl) (by kernel_rfl) ?_
 repeat' ((conv=>whnf);first|refine vcall_o (l:= [0,4,5,6,7,8,9,10]) (c1) ?_|refine vcallD_o (l:= [0,4,5,6,7,8,9,10]) (c1) ?_|((first|apply br_dec|apply br_ndec)<;>intro h<;>try (exfalso;(try dsimp only at h);omega))|((first|apply br_seq|apply br_nseq|apply br_not|apply br_intro)<;>intro h)|refine cond_a ?_)
 all_goals (conv=>whnf)
 all_goals first
  |(exfalso;omega)
  |exact ret_out (l:= [0,1,2,3,4,5,6,7,8,9,10,11,12,13,14,15,16,17,18,19,2,6,10,17,18,19]) rfl rfl ⟨rfl,rfl,rfl,rfl,rfl,rfl,rfl,rfl,rfl,rfl,rfl,rfl,rfl,rfl,rfl,rfl,rfl,rfl,rfl,trivial⟩ bkRw_rw
  |trace_state
theorem bk_mov_full (s:Bks) (o:Bop) (h:BkOk s) (hk:o.k=4∨o.k=5∨o.k=6) (hi:¬inL o.id s.lg.ids) (hf:512≤s.lg.ne):FC Tryz.prog 20 352 [.agg [],.ptr 1 0 0 0,o.s] (bkHp s) (isOut (.int .i64 12) (bkOt s) 26):=by
 have c1:=lg_Entry s.lg o.id h.lg
 rw [if_neg hi] at c1
 refine fc_of mixed T_ok Tryz.func352 rfl (by kernel_rfl) (by kernel_rfl) (by kernel_rfl) ?_
 repeat' ((conv=>whnf);first|refine vcall_o (l:= [0,4,5,6,7,8,9,10]) (c1) ?_|refine vcallD_o (l:= [0,4,5,6,7,8,9,10]) (c1) ?_|((first|apply br_dec|apply br_ndec)<;>intro h<;>try (exfalso;(try dsimp only at h);omega))|((first|apply br_seq|apply br_nseq|apply br_not|apply br_intro)<;>intro h)|refine cond_a ?_)
 all_goals (conv=>whnf)
 all_goals first
  |(exfalso;omega)
  |exact ret_out (l:= [0,1,2,3,4,5,6,7,8,9,10,11,12,13,14,15,16,17,18,19,2,6,10,17,18,19]) rfl rfl ⟨rfl,rfl,rfl,rfl,rfl,rfl,rfl,rfl,rfl,rfl,rfl,rfl,rfl,rfl,rfl,rfl,rfl,rfl,rfl,trivial⟩ bkRw_rw
  |trace_state
set_option maxHeartbeats 2000000 in
theorem bk_mov4 (s:Bks) (o:Bop) (h:BkOk s) (hc:CkOk o) (hk:o.k=4) (hi:¬inL o.id s.lg.ids) (hf:¬512≤s.lg.ne):FC Tryz.prog 20 352 [.agg [],.ptr 1 0 0 0,o.s] (bkHp s) (isOut (.int .i64 (mmE s o)) (bkOt (if mmE s o=0 then mmS s o else s)) 26):=by
 have hb':=mt_bd hc (by omega)
 have eF:mtF o=o.is:=by unfold mtF;rw [if_neg (by omega),if_neg (by omega)]
 have eG:mtG o=o.ac:=by unfold mtG;rw [if_neg (by omega),if_neg (by omega)]
 have eN:mtN o=o.am-o.fe:=by unfold mtN;rw [if_neg (by omega)]
 have c2:=bk_owe s o h hc (by omega) hi hf
 have c1:=lg_Entry s.lg o.id h.lg
 rw [if_neg hi] at c1
 have c3:=auth_clear (auAt s.au (s.pl o.au)) o.am o.fi
 have hidk:=clearZ_id (a:=auAt s.au (s.pl o.au)) (n:=o.am) (b:=o.fi)
 have hmS:mmS s o= { owS s o with au:=s.au.set (s.pl o.au) (clA s o).1}:=by unfold mmS;rw [if_pos hk]
 have hw:IntKind.i64.wrap (o.am-o.fe)=o.am-o.fe:=by rw [w64_in (by omega) (by omega)]
 have hfi:=i64_ne hf
 unfold mmE
 rw [if_neg hi,if_neg hf,if_pos hk]
 by_cases hp:s.pl o.au<s.na
 ·have hb:decide (sidx s.aid o.au<s.na)=true:=decide_eq_true hp
  have hpl:=lg_pl hp
  have hcn:0≤((List.range s.na).map Int.ofNat).getD (s.pl o.au) 0∧((List.range s.na).map Int.ofNat).getD (s.pl o.au) 0<(s.na:Int):=by rw [hpl];omega
  rw [if_pos hp]
  unfold auAt at c3
  try dsimp only at c3
  unfold clA at hmS⊢
  generalize hN:clearZ (auAt s.au (s.pl o.au)) o.am o.fi=N at*
  unfold auAt at hN
  rw [hN] at c3
  obtain ⟨a,n1,n2,e⟩:=N
  dsimp only at c3 hidk hmS⊢
  by_cases he:e=0
  ·subst he
   rw [if_neg (fun e=>e rfl)]
   by_cases hx:owX s o.t (mtF o) (mtG o) (mtN o)=0
   ·rw [if_pos hx]
    rw [if_pos hx] at c2
    rw [hx] at c2⊢
    have hap:=auB_set s.na s.au (s.pl o.au) a
    have r3:bkPl s.na s.aid=bkPl s.na ((s.au.set (s.pl o.au) a).map Au.id):=by rw [bk_setid _ _ _ (hidk rfl)]
    rw [hmS]
    rw [eF,eG,eN] at c2
    unfold owS at c2⊢
    dsimp only at c2⊢
    generalize mvBs s.ds s.B (bkD s o.t) ((bkAt s.ds s.B s.pr (bkD s o.t)).mv (mtF o) (mtG o) s.cur (mtN o))=B' at*
    generalize mvDs s.ds (bkD s o.t)=D' at*
    generalize lgP s.lg (enB s o)=L' at*
    refine fc_of mixed T_ok Tryz.func352 rfl (by kernel_rfl) (by kernel_rfl) (by kernel_rfl) ?_
    repeat' ((conv=>whnf);first|(rw [hb])|(rw [hw])|(simp only [hpl,lg_tn])|refine vcall_o (l:= [0,4,5,6,7,8,9,10]) (c1) ?_|refine vcallD_o (l:= [0,4,5,6,7,8,9,10]) (c1) ?_|(refine vcall_pure (c3) rfl rfl rfl ?_)|(refine vcallD_pure (c3) rfl rfl rfl ?_)|refine vcall_o (l:= [0,1,2,3,4,5,6,7,8,9,10,11,12,13,14,15,16,17,18,19]) (c2) ?_|refine vcallD_o (l:= [0,1,2,3,4,5,6,7,8,9,10,11,12,13,14,15,16,17,18,19]) (c2) ?_|((first|apply br_dec|apply br_ndec)<;>intro h<;>try (exfalso;(try dsimp only at h);omega))|((first|apply br_seq|apply br_nseq|apply br_not|apply br_intro)<;>intro h)|refine cond_a ?_)
    all_goals (conv=>whnf)
    all_goals first
     |(exfalso;omega)
     |(exfalso;exact h rfl)
     |exact ret_out (l:= [0,1,2,3,4,5,6,7,8,9,10,11,12,13,14,15,16,17,18,19,24,25,26,27,28,29]) rfl rfl ⟨rfl,congrArg (fun z=>some (HB.one false z)) hap,r3,rfl,rfl,rfl,rfl,rfl,rfl,rfl,rfl,rfl,rfl,rfl,rfl,rfl,rfl,rfl,rfl,trivial⟩ bkRw_rw
     |trace_state
   ·rw [if_neg hx]
    rw [if_neg hx] at c2
    rw [eF,eG,eN] at c2 hx⊢
    generalize owX s o.t o.is o.ac (o.am-o.fe)=E at*
    refine fc_of mixed T_ok Tryz.func352 rfl (by kernel_rfl) (by kernel_rfl) (by kernel_rfl) ?_
    repeat' ((conv=>whnf);first|(rw [hb])|(rw [hw])|(simp only [hpl,lg_tn])|refine vcall_o (l:= [0,4,5,6,7,8,9,10]) (c1) ?_|refine vcallD_o (l:= [0,4,5,6,7,8,9,10]) (c1) ?_|(refine vcall_pure (c3) rfl rfl rfl ?_)|(refine vcallD_pure (c3) rfl rfl rfl ?_)|refine vcall_o (l:= [0,1,2,3,4,5,6,7,8,9,10,11,12,13,14,15,16,17,18,19]) (c2) ?_|refine vcallD_o (l:= [0,1,2,3,4,5,6,7,8,9,10,11,12,13,14,15,16,17,18,19]) (c2) ?_|((first|apply br_dec|apply br_ndec)<;>intro h<;>try (exfalso;(try dsimp only at h);omega))|((first|apply br_seq|apply br_nseq|apply br_not|apply br_intro)<;>intro h)|refine cond_a ?_)
    all_goals (conv=>whnf)
    all_goals first
     |(exfalso;omega)
     |(exfalso;exact h rfl)
     |(exfalso;exact hx h)
     |exact ret_out (l:= [0,1,2,3,4,5,6,7,8,9,10,11,12,13,14,15,16,17,18,19,24,25,26,27,28,29]) rfl rfl ⟨rfl,rfl,rfl,rfl,rfl,rfl,rfl,rfl,rfl,rfl,rfl,rfl,rfl,rfl,rfl,rfl,rfl,rfl,rfl,trivial⟩ bkRw_rw
     |trace_state
  ·rw [if_pos he,if_neg he]
   refine fc_of mixed T_ok Tryz.func352 rfl (by kernel_rfl) (by kernel_rfl) (by kernel_rfl) ?_
   repeat' ((conv=>whnf);first|(rw [hb])|(simp only [hpl,lg_tn])|refine vcall_o (l:= [0,4,5,6,7,8,9,10]) (c1) ?_|refine vcallD_o (l:= [0,4,5,6,7,8,9,10]) (c1) ?_|(refine vcall_pure (c3) rfl rfl rfl ?_)|(refine vcallD_pure (c3) rfl rfl rfl ?_)|((first|apply br_dec|apply br_ndec)<;>intro h<;>try (exfalso;(try dsimp only at h);omega))|((first|apply br_seq|apply br_nseq|apply br_not|apply br_intro)<;>intro h)|refine cond_a ?_)
   all_goals (conv=>whnf)
   all_goals first
    |exact ret_out (l:= [0,1,2,3,4,5,6,7,8,9,10,11,12,13,14,15,16,17,18,19,2,6,10,17,18,19]) rfl rfl ⟨rfl,rfl,rfl,rfl,rfl,rfl,rfl,rfl,rfl,rfl,rfl,rfl,rfl,rfl,rfl,rfl,rfl,rfl,rfl,trivial⟩ bkRw_rw
    |(exfalso;omega)
    |(exfalso;exact he h)
    |trace_state
 ·have hb:decide (sidx s.aid o.au<s.na)=false:=decide_eq_false hp
  rw [if_neg hp,if_neg (by decide)]
  refine fc_of mixed T_ok Tryz.func352 rfl (by kernel_rfl) (by kernel_rfl) (by kernel_rfl) ?_
  repeat' ((conv=>whnf);first|(rw [hb])|refine vcall_o (l:= [0,4,5,6,7,8,9,10]) (c1) ?_|refine vcallD_o (l:= [0,4,5,6,7,8,9,10]) (c1) ?_|((first|apply br_dec|apply br_ndec)<;>intro h<;>try (exfalso;(try dsimp only at h);omega))|((first|apply br_seq|apply br_nseq|apply br_not|apply br_intro)<;>intro h)|refine cond_a ?_)
  all_goals (conv=>whnf)
  all_goals first
   |exact ret_out (l:= [0,1,2,3,4,5,6,7,8,9,10,11,12,13,14,15,16,17,18,19,2,6,10,17,18,19]) rfl rfl ⟨rfl,rfl,rfl,rfl,rfl,rfl,rfl,rfl,rfl,rfl,rfl,rfl,rfl,rfl,rfl,rfl,rfl,rfl,rfl,trivial⟩ bkRw_rw
   |(exfalso;omega)
   |trace_state
theorem bk_move (s:Bks) (o:Bop) (h:BkOk s) (hc:CkOk o) (hk:o.k=4∨o.k=5∨o.k=6):FC Tryz.prog 20 352 [.agg [],.ptr 1 0 0 0,o.s] (bkHp s) (isOut (.int .i64 (mmE s o)) (bkOt (if mmE s o=0 then mmS s o else s)) 26):=by
 by_cases hi:inL o.id s.lg.ids
 ·have e:mmE s o=15:=by unfold mmE;rw [if_pos hi]
  rw [e,if_neg (by decide)]
  exact bk_mov_in s o h hk hi
 by_cases hf:512≤s.lg.ne
 ·have e:mmE s o=12:=by unfold mmE;rw [if_neg hi,if_pos hf]
  rw [e,if_neg (by decide)]
  exact bk_mov_full s o h hk hi hf
 rcases hk with k|k|k
 ·exact bk_mov4 s o h hc k hi hf
 ·exact bk_mov5 s o h hc k hi hf
 ·by_cases ha:o.am<0
  ·exact bk_mov6n s o h hc k ha hi hf
  ·exact bk_mov6p s o h hc k ha hi hf
theorem bk_close (s:Bks) (o:Bop) (h:BkOk s) (hc:CkOk o) (hk:o.k=8):FC Tryz.prog 20 332 [.agg [],.ptr 1 0 0 0,o.s] (bkHp s) (isOut (.int .i64 (clE s.hs s.ds s.cd o.am)) (bkOt (if clE s.hs s.ds s.cd o.am=0 then clS s o else s)) 26):=by
 have hml:=h.mle
 have hn9:s.lg.ne≤100000:=by have:=h.lg.e512;omega
 have c1:=cy_Close h.bks h.hn h.nc (by omega) s.cut o.am
 have ha:0≤o.am∧o.am≤99999:=by
  have:=hc.a
  unfold pmB at this
  rw [if_neg (by omega),if_neg (by omega),if_pos hk] at this
  exact of_decide_eq_true this
 have hw:IntKind.i64.wrap o.am=o.am:=w64_in (by omega) (by omega)
 unfold clO at c1
 by_cases he:clE s.hs s.ds s.cd o.am=0
 ·rw [if_pos he] at c1⊢
  rw [he]
  unfold clS
  have r16:tmM false (s.cd++ [o.am]).length (s.cd++ [o.am])=tmM false (s.nc+1) (s.cd++ [o.am]):=by rw [List.length_append,h.nc];rfl
  refine fc_of mixed T_ok Tryz.func332 rfl (by kernel_rfl) (by kernel_rfl) (by kernel_rfl) ?_
  repeat' ((conv=>whnf);first|(rw [hw])|refine vcall_o (l:= [0,11,12,13,14,15,16,17,18,19]) (c1) ?_|refine vcallD_o (l:= [0,11,12,13,14,15,16,17,18,19]) (c1) ?_|((first|apply br_dec|apply br_ndec)<;>intro h<;>try (exfalso;(try dsimp only at h);omega))|((first|apply br_seq|apply br_nseq|apply br_not|apply br_intro)<;>intro h)|refine cond_a ?_)
  all_goals (conv=>whnf)
  all_goals first
   |(exfalso;omega)
   |exact ret_out (l:= [0,1,2,3,4,5,6,7,8,9,10,11,12,13,14,15,16,17,18,19,2,6,10,17,18,19]) rfl rfl ⟨rfl,rfl,rfl,rfl,rfl,rfl,rfl,rfl,rfl,rfl,rfl,rfl,rfl,rfl,r16,rfl,rfl,rfl,rfl,trivial⟩ bkRw_rw
   |trace_state
 ·rw [if_neg he] at c1⊢
  have r16:tmM false s.cd.length s.cd=tmM false s.nc s.cd:=by rw [h.nc]
  generalize clE s.hs s.ds s.cd o.am=E at*
  refine fc_of mixed T_ok Tryz.func332 rfl (by kernel_rfl) (by kernel_rfl) (by kernel_rfl) ?_
  repeat' ((conv=>whnf);first|(rw [hw])|refine vcall_o (l:= [0,11,12,13,14,15,16,17,18,19]) (c1) ?_|refine vcallD_o (l:= [0,11,12,13,14,15,16,17,18,19]) (c1) ?_|((first|apply br_dec|apply br_ndec)<;>intro h<;>try (exfalso;(try dsimp only at h);omega))|((first|apply br_seq|apply br_nseq|apply br_not|apply br_intro)<;>intro h)|refine cond_a ?_)
  all_goals (conv=>whnf)
  all_goals first
   |exact ret_out (l:= [0,1,2,3,4,5,6,7,8,9,10,11,12,13,14,15,16,17,18,19,2,6,10,17,18,19]) rfl rfl ⟨rfl,rfl,rfl,rfl,rfl,rfl,rfl,rfl,rfl,rfl,rfl,rfl,rfl,rfl,r16,rfl,rfl,rfl,rfl,trivial⟩ bkRw_rw
   |(exfalso;omega)
   |trace_state
end Go.Proofs.YthmggifndkcboaaGreatDoor
namespace Go.Proofs.YthmggifndkcboaaGreatDoor
open Go.RowKit Go.Sy
attribute [local irreducible] vcall vloop vcallD retP sortI
set_option maxRecDepth 100000
set_option linter.unusedVariables false
set_option linter.unusedSimpArgs false
attribute [local irreducible] seq ByteArray.extract lgE
theorem bk_Do_ck (s:Bks) (o:Bop) (hc:ckE o≠0):FC Tryz.prog 20 10 [.ptr 1 0 0 0,o.s] (bkHp s) (isOut (.int .i64 (ckE o)) (bkOt s) 26):=by
 have c1:=bk_check o
 generalize ckE o=E at*
 refine fc_of mixed T_ok Tryz.func10 rfl (by kernel_rfl) (by kernel_rfl) (by kernel_rfl) ?_
 repeat' ((conv=>whnf);first|(refine vcall_pure (c1) rfl rfl rfl ?_)|(refine vcallD_pure (c1) rfl rfl rfl ?_)|((first|apply br_dec|apply br_ndec)<;>intro h<;>try (exfalso;(try dsimp only at h);omega))|((first|apply br_seq|apply br_nseq|apply br_not|apply br_intro)<;>intro h)|refine cond_a ?_)
 all_goals (conv=>whnf)
 all_goals first
  |(exfalso;omega)
  |(exfalso;exact hc h)
  |exact ret_out (l:= [0,1,2,3,4,5,6,7,8,9,10,11,12,13,14,15,16,17,18,19,2,6,10,17,18,19]) rfl rfl ⟨rfl,rfl,rfl,rfl,rfl,rfl,rfl,rfl,rfl,rfl,rfl,rfl,rfl,rfl,rfl,rfl,rfl,rfl,rfl,trivial⟩ bkRw_rw
  |trace_state
theorem bk_Do_late (s:Bks) (o:Bop) (hc:ckE o=0) (ht:o.t<s.last):FC Tryz.prog 20 10 [.ptr 1 0 0 0,o.s] (bkHp s) (isOut (.int .i64 14) (bkOt s) 26):=by
 have c1:=bk_check o
 rw [hc] at c1
 refine fc_of mixed T_ok Tryz.func10 rfl (by kernel_rfl) (by kernel_rfl) (by kernel_rfl) ?_
 repeat' ((conv=>whnf);first|(refine vcall_pure (c1) rfl rfl rfl ?_)|(refine vcallD_pure (c1) rfl rfl rfl ?_)|((first|apply br_dec|apply br_ndec)<;>intro h<;>try (exfalso;(try dsimp only at h);omega))|((first|apply br_seq|apply br_nseq|apply br_not|apply br_intro)<;>intro h)|refine cond_a ?_)
 all_goals (conv=>whnf)
 all_goals first
  |(exfalso;omega)
  |(exfalso;exact h rfl)
  |exact ret_out (l:= [0,1,2,3,4,5,6,7,8,9,10,11,12,13,14,15,16,17,18,19,2,6,10,17,18,19]) rfl rfl ⟨rfl,rfl,rfl,rfl,rfl,rfl,rfl,rfl,rfl,rfl,rfl,rfl,rfl,rfl,rfl,rfl,rfl,rfl,rfl,trivial⟩ bkRw_rw
  |trace_state
theorem bk_Do_ap (s S':Bks) (o:Bop) (E:Int) (hc:ckE o=0) (hk:o.k=1) (ht:¬o.t<s.last)
  (c3:FC Tryz.prog 20 324 [.agg [],.ptr 1 0 0 0,o.s] (bkHp s) (isOut (.int .i64 E) (bkOt S') 26)):
  FC Tryz.prog 20 10 [.ptr 1 0 0 0,o.s] (bkHp s) (isOut (.int .i64 E) (bkOt (if E=0 then { S' with last:=o.t} else S')) 26):=by
 have c1:=bk_check o
 rw [hc] at c1
 have c2:Pure Tryz.prog 48 [.int .i64 o.k] (.iface 177 (.agg [])):=by
  have c:=bk_actionOf o.k (by omega)
  rw [if_pos hk] at c
  exact c
 by_cases he:E=0
 ·rw [if_pos he]
  subst he
  refine fc_of mixed T_ok Tryz.func10 rfl (by kernel_rfl) (by kernel_rfl) (by kernel_rfl) ?_
  repeat' ((conv=>whnf);first|(refine ⟨324,methOk_of (by kernel_rfl),?_⟩)|(refine vcall_pure (c1) rfl rfl rfl ?_)|(refine vcallD_pure (c1) rfl rfl rfl ?_)|(refine vcall_pure (c2) rfl rfl rfl ?_)|(refine vcallD_pure (c2) rfl rfl rfl ?_)|refine vcall_o (l:= [0,1,2,3,4,5,6,7,8,9,10,11,12,13,14,15,16,17,18,19]) (c3) ?_|refine vcallD_o (l:= [0,1,2,3,4,5,6,7,8,9,10,11,12,13,14,15,16,17,18,19]) (c3) ?_|((first|apply br_dec|apply br_ndec)<;>intro h<;>try (exfalso;(try dsimp only at h);omega))|((first|apply br_seq|apply br_nseq|apply br_not|apply br_intro)<;>intro h)|refine cond_a ?_)
  all_goals (conv=>whnf)
  all_goals first
   |(exfalso;omega)
   |(exfalso;exact h rfl)
   |exact ret_out (l:= [0,1,2,3,4,5,6,7,8,9,10,11,12,13,14,15,16,17,18,19,21,22,23,24,25,26]) rfl rfl ⟨rfl,rfl,rfl,rfl,rfl,rfl,rfl,rfl,rfl,rfl,rfl,rfl,rfl,rfl,rfl,rfl,rfl,rfl,rfl,trivial⟩ bkRw_rw
   |trace_state
 ·rw [if_neg he]
  refine fc_of mixed T_ok Tryz.func10 rfl (by kernel_rfl) (by kernel_rfl) (by kernel_rfl) ?_
  repeat' ((conv=>whnf);first|(refine ⟨324,methOk_of (by kernel_rfl),?_⟩)|(refine vcall_pure (c1) rfl rfl rfl ?_)|(refine vcallD_pure (c1) rfl rfl rfl ?_)|(refine vcall_pure (c2) rfl rfl rfl ?_)|(refine vcallD_pure (c2) rfl rfl rfl ?_)|refine vcall_o (l:= [0,1,2,3,4,5,6,7,8,9,10,11,12,13,14,15,16,17,18,19]) (c3) ?_|refine vcallD_o (l:= [0,1,2,3,4,5,6,7,8,9,10,11,12,13,14,15,16,17,18,19]) (c3) ?_|((first|apply br_dec|apply br_ndec)<;>intro h<;>try (exfalso;(try dsimp only at h);omega))|((first|apply br_seq|apply br_nseq|apply br_not|apply br_intro)<;>intro h)|refine cond_a ?_)
  all_goals (conv=>whnf)
  all_goals first
   |(exfalso;omega)
   |(exfalso;exact h rfl)
   |(exfalso;exact he h)
   |exact ret_out (l:= [0,1,2,3,4,5,6,7,8,9,10,11,12,13,14,15,16,17,18,19,21,22,23,24,25,26]) rfl rfl ⟨rfl,rfl,rfl,rfl,rfl,rfl,rfl,rfl,rfl,rfl,rfl,rfl,rfl,rfl,rfl,rfl,rfl,rfl,rfl,trivial⟩ bkRw_rw
   |trace_state
theorem bk_Do_cl (s S':Bks) (o:Bop) (E:Int) (hc:ckE o=0) (hk:o.k=8) (ht:¬o.t<s.last)
  (c3:FC Tryz.prog 20 332 [.agg [],.ptr 1 0 0 0,o.s] (bkHp s) (isOut (.int .i64 E) (bkOt S') 26)):
  FC Tryz.prog 20 10 [.ptr 1 0 0 0,o.s] (bkHp s) (isOut (.int .i64 E) (bkOt (if E=0 then { S' with last:=o.t} else S')) 26):=by
 have c1:=bk_check o
 rw [hc] at c1
 have c2:Pure Tryz.prog 48 [.int .i64 o.k] (.iface 179 (.agg [])):=by
  have c:=bk_actionOf o.k (by omega)
  rw [if_neg (by omega),if_pos hk] at c
  exact c
 by_cases he:E=0
 ·rw [if_pos he]
  subst he
  refine fc_of mixed T_ok Tryz.func10 rfl (by kernel_rfl) (by kernel_rfl) (by kernel_rfl) ?_
  repeat' ((conv=>whnf);first|(refine ⟨332,methOk_of (by kernel_rfl),?_⟩)|(refine vcall_pure (c1) rfl rfl rfl ?_)|(refine vcallD_pure (c1) rfl rfl rfl ?_)|(refine vcall_pure (c2) rfl rfl rfl ?_)|(refine vcallD_pure (c2) rfl rfl rfl ?_)|refine vcall_o (l:= [0,1,2,3,4,5,6,7,8,9,10,11,12,13,14,15,16,17,18,19]) (c3) ?_|refine vcallD_o (l:= [0,1,2,3,4,5,6,7,8,9,10,11,12,13,14,15,16,17,18,19]) (c3) ?_|((first|apply br_dec|apply br_ndec)<;>intro h<;>try (exfalso;(try dsimp only at h);omega))|((first|apply br_seq|apply br_nseq|apply br_not|apply br_intro)<;>intro h)|refine cond_a ?_)
  all_goals (conv=>whnf)
  all_goals first
   |(exfalso;omega)
   |(exfalso;exact h rfl)
   |exact ret_out (l:= [0,1,2,3,4,5,6,7,8,9,10,11,12,13,14,15,16,17,18,19,21,22,23,24,25,26]) rfl rfl ⟨rfl,rfl,rfl,rfl,rfl,rfl,rfl,rfl,rfl,rfl,rfl,rfl,rfl,rfl,rfl,rfl,rfl,rfl,rfl,trivial⟩ bkRw_rw
   |trace_state
 ·rw [if_neg he]
  refine fc_of mixed T_ok Tryz.func10 rfl (by kernel_rfl) (by kernel_rfl) (by kernel_rfl) ?_
  repeat' ((conv=>whnf);first|(refine ⟨332,methOk_of (by kernel_rfl),?_⟩)|(refine vcall_pure (c1) rfl rfl rfl ?_)|(refine vcallD_pure (c1) rfl rfl rfl ?_)|(refine vcall_pure (c2) rfl rfl rfl ?_)|(refine vcallD_pure (c2) rfl rfl rfl ?_)|refine vcall_o (l:= [0,1,2,3,4,5,6,7,8,9,10,11,12,13,14,15,16,17,18,19]) (c3) ?_|refine vcallD_o (l:= [0,1,2,3,4,5,6,7,8,9,10,11,12,13,14,15,16,17,18,19]) (c3) ?_|((first|apply br_dec|apply br_ndec)<;>intro h<;>try (exfalso;(try dsimp only at h);omega))|((first|apply br_seq|apply br_nseq|apply br_not|apply br_intro)<;>intro h)|refine cond_a ?_)
  all_goals (conv=>whnf)
  all_goals first
   |(exfalso;omega)
   |(exfalso;exact h rfl)
   |(exfalso;exact he h)
   |exact ret_out (l:= [0,1,2,3,4,5,6,7,8,9,10,11,12,13,14,15,16,17,18,19,21,22,23,24,25,26]) rfl rfl ⟨rfl,rfl,rfl,rfl,rfl,rfl,rfl,rfl,rfl,rfl,rfl,rfl,rfl,rfl,rfl,rfl,rfl,rfl,rfl,trivial⟩ bkRw_rw
   |trace_state
theorem bk_Do_mv (s S':Bks) (o:Bop) (E:Int) (hc:ckE o=0) (hk:o.k=4∨o.k=5∨o.k=6) (ht:¬o.t<s.last)
  (c3:FC Tryz.prog 20 352 [.agg [],.ptr 1 0 0 0,o.s] (bkHp s) (isOut (.int .i64 E) (bkOt S') 26)):
  FC Tryz.prog 20 10 [.ptr 1 0 0 0,o.s] (bkHp s) (isOut (.int .i64 E) (bkOt (if E=0 then { S' with last:=o.t} else S')) 26):=by
 have c1:=bk_check o
 rw [hc] at c1
 have c2:Pure Tryz.prog 48 [.int .i64 o.k] (.iface 180 (.agg [])):=by
  have c:=bk_actionOf o.k (by omega)
  rw [if_neg (by omega),if_neg (by omega),if_pos hk] at c
  exact c
 by_cases he:E=0
 ·rw [if_pos he]
  subst he
  refine fc_of mixed T_ok Tryz.func10 rfl (by kernel_rfl) (by kernel_rfl) (by kernel_rfl) ?_
  repeat' ((conv=>whnf);first|(refine ⟨352,methOk_of (by kernel_rfl),?_⟩)|(refine vcall_pure (c1) rfl rfl rfl ?_)|(refine vcallD_pure (c1) rfl rfl rfl ?_)|(refine vcall_pure (c2) rfl rfl rfl ?_)|(refine vcallD_pure (c2) rfl rfl rfl ?_)|refine vcall_o (l:= [0,1,2,3,4,5,6,7,8,9,10,11,12,13,14,15,16,17,18,19]) (c3) ?_|refine vcallD_o (l:= [0,1,2,3,4,5,6,7,8,9,10,11,12,13,14,15,16,17,18,19]) (c3) ?_|((first|apply br_dec|apply br_ndec)<;>intro h<;>try (exfalso;(try dsimp only at h);omega))|((first|apply br_seq|apply br_nseq|apply br_not|apply br_intro)<;>intro h)|refine cond_a ?_)
  all_goals (conv=>whnf)
  all_goals first
   |(exfalso;omega)
   |(exfalso;exact h rfl)
   |exact ret_out (l:= [0,1,2,3,4,5,6,7,8,9,10,11,12,13,14,15,16,17,18,19,21,22,23,24,25,26]) rfl rfl ⟨rfl,rfl,rfl,rfl,rfl,rfl,rfl,rfl,rfl,rfl,rfl,rfl,rfl,rfl,rfl,rfl,rfl,rfl,rfl,trivial⟩ bkRw_rw
   |trace_state
 ·rw [if_neg he]
  refine fc_of mixed T_ok Tryz.func10 rfl (by kernel_rfl) (by kernel_rfl) (by kernel_rfl) ?_
  repeat' ((conv=>whnf);first|(refine ⟨352,methOk_of (by kernel_rfl),?_⟩)|(refine vcall_pure (c1) rfl rfl rfl ?_)|(refine vcallD_pure (c1) rfl rfl rfl ?_)|(refine vcall_pure (c2) rfl rfl rfl ?_)|(refine vcallD_pure (c2) rfl rfl rfl ?_)|refine vcall_o (l:= [0,1,2,3,4,5,6,7,8,9,10,11,12,13,14,15,16,17,18,19]) (c3) ?_|refine vcallD_o (l:= [0,1,2,3,4,5,6,7,8,9,10,11,12,13,14,15,16,17,18,19]) (c3) ?_|((first|apply br_dec|apply br_ndec)<;>intro h<;>try (exfalso;(try dsimp only at h);omega))|((first|apply br_seq|apply br_nseq|apply br_not|apply br_intro)<;>intro h)|refine cond_a ?_)
  all_goals (conv=>whnf)
  all_goals first
   |(exfalso;omega)
   |(exfalso;exact h rfl)
   |(exfalso;exact he h)
   |exact ret_out (l:= [0,1,2,3,4,5,6,7,8,9,10,11,12,13,14,15,16,17,18,19,21,22,23,24,25,26]) rfl rfl ⟨rfl,rfl,rfl,rfl,rfl,rfl,rfl,rfl,rfl,rfl,rfl,rfl,rfl,rfl,rfl,rfl,rfl,rfl,rfl,trivial⟩ bkRw_rw
   |trace_state
theorem bk_Do_ch (s S':Bks) (o:Bop) (E:Int) (hc:ckE o=0) (hk:o.k=2∨o.k=3∨o.k=7) (ht:¬o.t<s.last)
  (c3:FC Tryz.prog 20 327 [.agg [],.ptr 1 0 0 0,o.s] (bkHp s) (isOut (.int .i64 E) (bkOt S') 26)):
  FC Tryz.prog 20 10 [.ptr 1 0 0 0,o.s] (bkHp s) (isOut (.int .i64 E) (bkOt (if E=0 then { S' with last:=o.t} else S')) 26):=by
 have c1:=bk_check o
 rw [hc] at c1
 have c2:Pure Tryz.prog 48 [.int .i64 o.k] (.iface 178 (.agg [])):=by
  have c:=bk_actionOf o.k (by omega)
  rw [if_neg (by omega),if_neg (by omega),if_neg (by omega)] at c
  exact c
 by_cases he:E=0
 ·rw [if_pos he]
  subst he
  refine fc_of mixed T_ok Tryz.func10 rfl (by kernel_rfl) (by kernel_rfl) (by kernel_rfl) ?_
  repeat' ((conv=>whnf);first|(refine ⟨327,methOk_of (by kernel_rfl),?_⟩)|(refine vcall_pure (c1) rfl rfl rfl ?_)|(refine vcallD_pure (c1) rfl rfl rfl ?_)|(refine vcall_pure (c2) rfl rfl rfl ?_)|(refine vcallD_pure (c2) rfl rfl rfl ?_)|refine vcall_o (l:= [0,1,2,3,4,5,6,7,8,9,10,11,12,13,14,15,16,17,18,19]) (c3) ?_|refine vcallD_o (l:= [0,1,2,3,4,5,6,7,8,9,10,11,12,13,14,15,16,17,18,19]) (c3) ?_|((first|apply br_dec|apply br_ndec)<;>intro h<;>try (exfalso;(try dsimp only at h);omega))|((first|apply br_seq|apply br_nseq|apply br_not|apply br_intro)<;>intro h)|refine cond_a ?_)
  all_goals (conv=>whnf)
  all_goals first
   |(exfalso;omega)
   |(exfalso;exact h rfl)
   |exact ret_out (l:= [0,1,2,3,4,5,6,7,8,9,10,11,12,13,14,15,16,17,18,19,21,22,23,24,25,26]) rfl rfl ⟨rfl,rfl,rfl,rfl,rfl,rfl,rfl,rfl,rfl,rfl,rfl,rfl,rfl,rfl,rfl,rfl,rfl,rfl,rfl,trivial⟩ bkRw_rw
   |trace_state
 ·rw [if_neg he]
  refine fc_of mixed T_ok Tryz.func10 rfl (by kernel_rfl) (by kernel_rfl) (by kernel_rfl) ?_
  repeat' ((conv=>whnf);first|(refine ⟨327,methOk_of (by kernel_rfl),?_⟩)|(refine vcall_pure (c1) rfl rfl rfl ?_)|(refine vcallD_pure (c1) rfl rfl rfl ?_)|(refine vcall_pure (c2) rfl rfl rfl ?_)|(refine vcallD_pure (c2) rfl rfl rfl ?_)|refine vcall_o (l:= [0,1,2,3,4,5,6,7,8,9,10,11,12,13,14,15,16,17,18,19]) (c3) ?_|refine vcallD_o (l:= [0,1,2,3,4,5,6,7,8,9,10,11,12,13,14,15,16,17,18,19]) (c3) ?_|((first|apply br_dec|apply br_ndec)<;>intro h<;>try (exfalso;(try dsimp only at h);omega))|((first|apply br_seq|apply br_nseq|apply br_not|apply br_intro)<;>intro h)|refine cond_a ?_)
  all_goals (conv=>whnf)
  all_goals first
   |(exfalso;omega)
   |(exfalso;exact h rfl)
   |(exfalso;exact he h)
   |exact ret_out (l:= [0,1,2,3,4,5,6,7,8,9,10,11,12,13,14,15,16,17,18,19,21,22,23,24,25,26]) rfl rfl ⟨rfl,rfl,rfl,rfl,rfl,rfl,rfl,rfl,rfl,rfl,rfl,rfl,rfl,rfl,rfl,rfl,rfl,rfl,rfl,trivial⟩ bkRw_rw
   |trace_state
theorem bk_Do (s:Bks) (o:Bop) (h:BkOk s):FC Tryz.prog 20 10 [.ptr 1 0 0 0,o.s] (bkHp s) (isOut (.int .i64 (doE s o)) (bkOt (doS s o)) 26):=by
 by_cases hc:ckE o=0
 ·by_cases ht:o.t<s.last
  ·have e1:doE s o=14:=by unfold doE;rw [if_neg (fun e=>e hc),if_pos ht]
   have e2:doS s o=s:=by unfold doS;rw [e1,if_neg (by decide)]
   rw [e1,e2]
   exact bk_Do_late s o hc ht
  ·have e1:doE s o=pfE s o:=by unfold doE;rw [if_neg (fun e=>e hc),if_neg ht]
   have key:∀S',S'=(if pfE s o=0 then pfS s o else s)→(if pfE s o=0 then { S' with last:=o.t} else S')=doS s o:=by
    intro S' e
    subst e
    unfold doS
    rw [e1]
    split
    ·rfl
    ·rfl
   have hO:=ck_ok hc
   rw [e1,←key _ rfl]
   have hk:=kind_of8 (show¬(o.k<1∨8<o.k) by have:=hO.k;omega)
   by_cases k1:o.k=1
   ·refine bk_Do_ap s _ o _ hc k1 ht ?_
    have e3:pfE s o=bapE s o:=by unfold pfE;rw [if_pos k1]
    have e4:pfS s o=bapS s o:=by unfold pfS;rw [if_pos k1]
    rw [e3,e4]
    exact bk_approve s o h hO
   by_cases k8:o.k=8
   ·refine bk_Do_cl s _ o _ hc k8 ht ?_
    have e3:pfE s o=clE s.hs s.ds s.cd o.am:=by unfold pfE;rw [if_neg k1,if_pos k8]
    have e4:pfS s o=clS s o:=by unfold pfS;rw [if_neg k1,if_pos k8]
    rw [e3,e4]
    exact bk_close s o h hO k8
   by_cases k4:o.k=4∨o.k=5∨o.k=6
   ·refine bk_Do_mv s _ o _ hc k4 ht ?_
    have e3:pfE s o=mmE s o:=by unfold pfE;rw [if_neg k1,if_neg k8,if_pos k4]
    have e4:pfS s o=mmS s o:=by unfold pfS;rw [if_neg k1,if_neg k8,if_pos k4]
    rw [e3,e4]
    exact bk_move s o h hO k4
   ·have k2:o.k=2∨o.k=3∨o.k=7:=by omega
    refine bk_Do_ch s _ o _ hc k2 ht ?_
    have e3:pfE s o=bcgE s o:=by unfold pfE;rw [if_neg k1,if_neg k8,if_neg k4]
    have e4:pfS s o=bcgS s o:=by unfold pfS;rw [if_neg k1,if_neg k8,if_neg k4]
    rw [e3,e4]
    rcases k2 with k|k|k
    ·exact bk_change2 s o h hO k
    ·exact bk_change3 s o h hO k
    ·exact bk_change7 s o h hO k
 ·have e1:doE s o=ckE o:=by unfold doE;rw [if_pos hc]
  have e2:doS s o=s:=by unfold doS;rw [e1,if_neg hc]
  rw [e1,e2]
  exact bk_Do_ck s o hc
end Go.Proofs.YthmggifndkcboaaGreatDoor
namespace Go.Proofs.YthmggifndkcboaaGreatDoor
open Go.RowKit Go.Sy
attribute [local irreducible] vcall vloop vcallD retP
set_option maxRecDepth 100000
set_option linter.unusedVariables false
set_option linter.unusedSimpArgs false
theorem relab_ent_start {H:Heap} {n a:Nat} {F:Nat→Blk} (ha:a<n) (hta:hget H a=some (.one false (.cols 0 [.sc (.strs []),.sc (.ints .i64 []),.svs []]))):
  Relab H n (fun _ _=>none) (fun _=>0) [(a,some (.one false (.cols 0 [.sc (.strs []),.sc (.ints .i64 []),.own n []]))),(n+0,some (.fam false (fun x=>x<0) F))] [] 1:=by
 refine relab_none (n:=n) (th:=a) [⟨0,0,F⟩] ha hta (ble_cols ⟨⟨fun _=>rfl,fun i hi=>sle_refl _⟩,⟨fun _=>rfl,fun i hi=>sle_refl _⟩,⟨fun _=>rfl,fun i hi=>absurd hi (Nat.not_lt_zero _)⟩,trivial⟩)
def nmE (A:List ByteArray):List ByteArray→Int
 | []=>0
 |a::L=>if labB a=false then 5 else if inL a A then 7 else nmE (A++ [a]) L
def lnwE (L:List ByteArray):Int:=if 512<L.length then 3 else nmE [] L
def lg0 (L:List ByteArray):Lg:=⟨L.length,L,0,[],0,[],fun _ _=>0,0⟩
theorem nmE_ok:∀(L A:List ByteArray),nmE A L=0→A.Nodup→(A++L).Nodup∧∀a∈L,labB a=true
 | [],A,_,hA=>⟨by simpa using hA,by simp⟩
 |a::L,A,h,hA=>by
  simp only [nmE] at h
  split at h
  ·cases h
  ·rename_i h1
   split at h
   ·cases h
   ·rename_i h2
    have h2':a∉A:=fun hm=>h2 (in_iff.2 hm)
    have hA2:(A++ [a]).Nodup:=List.nodup_append.2 ⟨hA,by simp,fun x hx y hy e=>by simp at hy;subst hy;subst e;exact h2' hx⟩
    obtain ⟨i1,i2⟩:=nmE_ok L (A++ [a]) h hA2
    rw [List.append_assoc] at i1
    refine ⟨i1,fun x hx=> ?_⟩
    rcases List.mem_cons.1 hx with rfl|hx
    ·simpa using h1
    ·exact i2 x hx
theorem lg0_ok {L:List ByteArray} (h:lnwE L=0):LgOk (lg0 L):=by
 unfold lnwE at h
 split at h
 ·cases h
 rename_i h1
 obtain ⟨i1,i2⟩:=nmE_ok L [] h List.nodup_nil
 exact ⟨rfl,by show L.length≤512;omega,(by rw [List.nil_append] at i1;exact i1),i2,rfl,by show (0:Nat)≤512;omega,List.nodup_nil,(fun e he=>absurd he (List.not_mem_nil)),rfl,Nat.le_refl _,(fun x hx=>absurd hx (List.not_mem_nil)),fun a c=>rfl,fun a c=>by show (-4503599627370496:Int)≤0∧(0:Int)≤4503599627370496;omega,by show (0:Int)≤0∧(0:Int)<18446744073709551616;omega⟩
theorem nm_step {L:List ByteArray} {k:Nat} (hk:k<L.length):nmE (L.take k) (L.drop k)=if labB (L.getD k ⟨#[]⟩)=false then 5 else if inL (L.getD k ⟨#[]⟩) (L.take k) then 7 else nmE (L.take (k+1)) (L.drop (k+1)):=by
 rw [List.drop_eq_getElem_cons hk]
 simp only [nmE]
 rw [List.getD,List.getElem?_eq_getElem hk,List.take_add_one,List.getElem?_eq_getElem hk]
 rfl
theorem acc_put {L:List ByteArray} {k:Nat} (hk:k<L.length) (hix:sidx (L.take k) (L.getD k ⟨#[]⟩)=k):
  (some (HB.one false (.obj (.map false false (if sidx (L.take k) (L.getD k ⟨#[]⟩)<k then k else k+1) [.strs (putL (sidx (L.take k) (L.getD k ⟨#[]⟩)) (L.getD k ⟨#[]⟩) (L.take k))] [.sc (.bools (putL (sidx (L.take k) (L.getD k ⟨#[]⟩)) true (List.replicate k true)))] (if sidx (L.take k) (L.getD k ⟨#[]⟩)<k then List.range k else List.range k++ [k]) (if sidx (L.take k) (L.getD k ⟨#[]⟩)<k then k else k+1)))):Option HB)
   =some (.one false (.obj (.map false false (k+1) [.strs (L.take (k+1))] [.sc (.bools (List.replicate (k+1) true))] (List.range (k+1)) (k+1)))):=by
 rw [hix]
 simp only [Nat.lt_irrefl,if_false]
 rw [lg_putNew (l:=L.take k) (by rw [List.length_take];omega),lg_putNew (l:=List.replicate k true) (by simp),List.range_succ,List.replicate_succ',List.take_add_one,List.getD,List.getElem?_eq_getElem hk]
 rfl
attribute [local irreducible] seq ByteArray.extract nmE
abbrev nwH (n k:Nat) (L:List ByteArray):Heap:= [(1,some (.one true (.cols n [.sc (.strs L)]))),(2,some (.one false (.obj (.map false false k [.strs (L.take k)] [.sc (.bools (List.replicate k true))] (List.range k) k)))),(3,some (.one false (.obj (.map false false 0 [.strs []] [.sc (.ints .i64 [])] [] 0)))),(4,some (.one false (.obj (.map false false 0 [.strs []] [.sc (.bools [])] [] 0)))),(5,some (.one false (.obj (.map true false 0 [.strs [],.strs []] [.sc (.ints .i64 [])] [] 0)))),(6,some (.one false (.cells [.map 2 0,.nsl,.map 3 0,.map 4 0,.map 5 0,.int .u64 0])))]
theorem lg_New_ok (L:List ByteArray) (n:Nat) (hn:L.length=n) (h:lnwE L=0):FC Tryz.prog 2 46 [.sl 1 0 0 n] [(1,some (.one true (.cols n [.sc (.strs L)])))]
  (isOut (.tup [.ptr 2 0 0 0,.int .i64 0]) [(7,lgBg false (lg0 L)),(2,some (.one false (.cells (lgF 3 4 5 6 7 (lg0 L))))),(3,some (.one false (lgAcc (lg0 L)))),(4,some (.one false (lgEnt 8 (lg0 L)))),(5,some (.one false (lgPl (lg0 L)))),(6,some (.one false (lgSt (lg0 L)))),(8,lgFam false (lg0 L))] 9):=by
 have h512:n≤512:=by
  unfold lnwE at h
  split at h
  ·cases h
  ·omega
 have e:lnwE L=nmE [] L:=by unfold lnwE;rw [if_neg (by omega)]
 rw [e] at h
 refine fc_bag_out (x:=⟨[],[],[],0⟩) ⟨[],rfl,rfl,rfl,List.Pairwise.nil,fun a c=>rfl,Nat.zero_le _⟩ ?_
 unfold lg0
 rw [hn]
 refine fc_of mixed T_ok Tryz.func46 rfl (by kernel_rfl) (by kernel_rfl) (by kernel_rfl) ?_
 repeat' ((conv=>whnf);first|((first|apply br_dec|apply br_ndec)<;>intro h<;>try (exfalso;(try dsimp only at h);omega))|((first|apply br_seq|apply br_nseq|apply br_not|apply br_intro)<;>intro h)|refine cond_a ?_)
 all_goals (conv=>whnf)
 all_goals first
  |(exfalso;omega)
  |skip
 refine vloop_of (fun k:Nat=>⟨[(4,.ptr 6 0 0 0),(16,.sl 1 0 0 n),(17,.int .i64 n),(18,.int .i64 k)],nwH n k L,7⟩) (fun k=>k≤n∧nmE [] L=nmE (L.take k) (L.drop k)) (fun k=>n-k) 0 [0,1,2,3,4,5,6] [] ⟨rfl,⟨rfl,rfl,rfl,rfl,trivial⟩,⟨rfl,rfl,rfl,rfl,rfl,rfl,trivial⟩⟩ ⟨Nat.zero_le _,by simp⟩ ?_
 rintro k ⟨hk,hE⟩
 unfold nwH
 by_cases hk2:k<n
 ·rw [nm_step (by omega)] at hE
  have c1:=lg_isLabel (L.getD k ⟨#[]⟩)
  have hrep:=lg_rep k (sidx (L.take k) (L.getD k ⟨#[]⟩))
  have hle:=Go.Sy.sidx_le (L.take k) (L.getD k ⟨#[]⟩)
  have hlk:(L.take k).length=k:=by rw [List.length_take];omega
  by_cases g1:labB (L.getD k ⟨#[]⟩)=false
  ·rw [if_pos g1] at hE;omega
  rw [if_neg g1] at hE
  have g1':labB (L.getD k ⟨#[]⟩)=true:=by simpa using g1
  rw [g1'] at c1
  by_cases g2:inL (L.getD k ⟨#[]⟩) (L.take k)
  ·rw [if_pos g2] at hE;omega
  rw [if_neg g2] at hE
  unfold inL at g2
  rw [decide_eq_false (by omega)] at hrep
  have hrow:=acc_put (L:=L) (k:=k) (by omega) (by omega)
  repeat' ((conv=>whnf);first|(refine vcall_pure (c1) rfl rfl rfl ?_)|(refine vcallD_pure (c1) rfl rfl rfl ?_)|(simp only [lg_tn,hrep])|((first|apply br_dec|apply br_ndec)<;>intro h<;>try (exfalso;(try dsimp only at h);omega))|((first|apply br_seq|apply br_nseq|apply br_not|apply br_intro)<;>intro h)|refine cond_a ?_)
  all_goals (conv=>whnf)
  all_goals first
   |exact ⟨k+1,[0,1,2,3,4,5,6],[],⟨hk2,hE⟩,(show n-(k+1)<n-k by omega),⟨rfl,⟨rfl,rfl,rfl,congrArg (fun z=>some (SV.int .i64 z)) (i64_succ (by omega)),trivial⟩,⟨rfl,hrow,rfl,rfl,rfl,rfl,trivial⟩⟩⟩
   |(exfalso;omega)
 have ek:k=n:=by omega
 subst ek
 rw [show L.take k=L by rw [←hn,List.take_length]]
 repeat' ((conv=>whnf);first|((first|apply br_dec|apply br_ndec)<;>intro h<;>try (exfalso;(try dsimp only at h);omega))|((first|apply br_seq|apply br_nseq|apply br_not|apply br_intro)<;>intro h)|refine cond_a ?_)
 all_goals (conv=>whnf)
 all_goals first
  |(exfalso;omega)
  |exact ret_up (l:= [0,1,6,2,7,3,4,5,8]) [.cell 6 1 [.sc (.strs []),.sc (.ints .i64 []),.svs []],.relab (fun _ _=>none) (fun _=>0) [(7,some (.one false (.cols 0 [.sc (.strs []),.sc (.ints .i64 []),.own 8 []]))),(8+0,some (.fam false (fun x=>x<0) (enF [])))] [] 1] ⟨relab_ent_start (n:=8) (a:=7) (by decide) rfl,rfl,rfl,rfl,rfl,rfl,rfl,rfl,rfl,rfl,trivial⟩ (allRw_cons (allRw_cons (allRw_cons (allRw_cons (allRw_cons (allRw_cons (allRw_fam allRw_nil)))))))
end Go.Proofs.YthmggifndkcboaaGreatDoor
namespace Go.Proofs.YthmggifndkcboaaGreatDoor
open Go.RowKit Go.Sy
set_option linter.unusedVariables false
set_option linter.unusedSimpArgs false
attribute [local irreducible] sortI
theorem wdTo_all {s:ByteArray}:∀{n:Nat},wdTo s n=true→∀k,k<n→wdP (byteAt s (k:Int))
 |0,_,k,hk=>absurd hk (Nat.not_lt_zero _)
 |n+1,h,k,hk=>by
  simp only [wdTo,Bool.and_eq_true,decide_eq_true_eq] at h
  rcases Nat.lt_succ_iff_lt_or_eq.1 hk with h1|h1
  ·exact wdTo_all h.1 k h1
  ·subst h1;exact h.2
theorem pty_lab {p:ByteArray} (h:nmB p=true):labB (ptyS p)=true:=by
 unfold nmB at h
 simp only [Bool.and_eq_true,decide_eq_true_eq] at h
 obtain ⟨⟨⟨h1,h2⟩,h3⟩,h4⟩:=h
 have hz:(ptyS p).size=6+p.size:=by unfold ptyS;rw [ByteArray.size_append];rfl
 unfold labB
 rw [Bool.and_eq_true,hz]
 refine ⟨decide_eq_true (by omega),?_⟩
 rw [List.all_eq_true]
 intro i hi
 rw [List.mem_range] at hi
 unfold labC
 refine decide_eq_true ?_
 by_cases hi6:i<6
 ·unfold ptyS
  rw [byteAt_app1 (a:=sPty) (b:=p) (by show i<6;exact hi6)]
  rcases (show i=0∨i=1∨i=2∨i=3∨i=4∨i=5 by omega) with rfl|rfl|rfl|rfl|rfl|rfl<;>decide
 ·have e:=byteAt_app2 (a:=sPty) (b:=p) (i:=i-6)
  rw [show sPty.size+(i-6)=i by show 6+(i-6)=i;omega] at e
  have h5:=wdTo_all h4 (i-6) (by omega)
  unfold wdP ltP at h5
  unfold ptyS
  rw [e]
  omega
theorem nmE_zero:∀(L A:List ByteArray),(A++L).Nodup→(∀a∈L,labB a=true)→nmE A L=0
 | [],A,_,_=>rfl
 |a::L,A,h,hl=>by
  simp only [nmE]
  rw [if_neg (by rw [hl a (List.mem_cons_self ..)];decide)]
  have h1:a∉A:=fun hm=>by
   rw [List.nodup_append] at h
   exact h.2.2 a hm a (List.mem_cons_self ..) rfl
  rw [if_neg (fun hi=>h1 (in_iff.1 hi))]
  exact nmE_zero L (A++ [a]) (by rw [List.append_assoc];exact h) (fun x hx=>hl x (List.mem_cons_of_mem _ hx))
theorem pty_err {L:List ByteArray} (h:nwErr L=0):lnwE (L.map ptyS)=0:=by
 obtain ⟨h1,h2,h3⟩:=nw_ok h
 unfold lnwE
 rw [List.length_map,if_neg (by omega)]
 refine nmE_zero _ _ ?_ ?_
 ·rw [List.nil_append]
  exact (List.Pairwise.map ptyS (R:=fun a b=>a≠b) (S:=fun a b=>a≠b) (fun a b hab e=>hab (ptyS_inj e)) h2)
 ·intro a ha
  obtain ⟨p,hp,rfl⟩:=List.mem_map.1 ha
  exact pty_lab (h3 p hp)
def bkE (cur:ByteArray) (days:Int) (H:List Int) (m:Nat) (cut:Int) (L:List ByteArray):Int:=
 if days<1∨1000<days then 4 else if curB cur=false then 11 else if holE H m≠0 then holE H m else cnE cut L
def bk1 (cur:ByteArray) (days:Int) (H:List Int) (cut:Int) (L:List ByteArray):Bks:=
 ⟨cur,days,0,[],cut,(ddS H).length,ddS H,L.length,L,0,[],[],0,[],lg0 (L.map ptyS),0⟩
theorem bk1_ok {cur:ByteArray} {days:Int} {H:List Int} {m:Nat} {cut:Int} {L:List ByteArray} (h:bkE cur days H m cut L=0):BkOk (bk1 cur days H cut L):=by
 unfold bkE at h
 by_cases h1:days<1∨1000<days
 ·rw [if_pos h1] at h;cases h
 rw [if_neg h1] at h
 by_cases h2:curB cur=false
 ·rw [if_pos h2] at h;cases h
 rw [if_neg h2] at h
 by_cases h3:holE H m≠0
 ·rw [if_pos h3] at h;exact absurd h h3
 rw [if_neg h3] at h
 unfold cnE at h
 by_cases h4:cut<0∨86400<cut
 ·rw [if_pos h4] at h;cases h
 rw [if_neg h4] at h
 have hE:=pty_err h
 exact ⟨lg0_ok hE,rfl,fun a c=>by show-(999999999999*((0:Nat):Int))≤0∧(0:Int)≤999999999999*((0:Nat):Int);omega,rfl,rfl,h,
  ⟨rfl,rfl,List.nodup_nil,fun i hi=>absurd hi (Nat.not_lt_zero _)⟩,rfl,rfl,Nat.zero_le _,by show 1≤days∧days≤1000;omega,by show curB cur=true;simpa using h2,by show (0:Int)≤0∧(0:Int)≤1099511627776;omega,Nat.le_refl _,fun i hi=>absurd hi (Nat.not_lt_zero _)⟩
end Go.Proofs.YthmggifndkcboaaGreatDoor
namespace Go.Proofs.YthmggifndkcboaaGreatDoor
open Go.RowKit Go.Sy
attribute [local irreducible] vcall vloop vcallD retP sortI
set_option maxRecDepth 100000
set_option linter.unusedVariables false
set_option linter.unusedSimpArgs false
def k5:Bk:=⟨3,p3,1,[sUsd],[[-5,5,0,0,0,0,0,0,0,0,0,0,0,0,0,0]],[0],1⟩
end Go.Proofs.YthmggifndkcboaaGreatDoor
namespace Go.Proofs.YthmggifndkcboaaGreatDoor
open Go.RowKit Go.Sy
attribute [local irreducible] vcall vloop vcallD retP sortI
set_option maxRecDepth 100000
set_option linter.unusedVariables false
set_option linter.unusedSimpArgs false
attribute [local irreducible] seq ByteArray.extract
theorem bk_Balance (s:Bks) (a:ByteArray):FC Tryz.prog 20 11 [.ptr 1 0 0 0,.str a] (bkHp s) (isOut (.int .i64 (s.lg.bal a s.cur)) (bkOt s) 26):=by
 have c1:=lg_Balance s.lg a s.cur
 generalize s.lg.bal a s.cur=x at*
 refine fc_of mixed T_ok Tryz.func11 rfl (by kernel_rfl) (by kernel_rfl) (by kernel_rfl) ?_
 repeat' ((conv=>whnf);first|refine vcall_o (l:= [0,4,5,6,7,8,9]) (c1) ?_|refine vcallD_o (l:= [0,4,5,6,7,8,9]) (c1) ?_|((first|apply br_dec|apply br_ndec)<;>intro h<;>try (exfalso;(try dsimp only at h);omega))|((first|apply br_seq|apply br_nseq|apply br_not|apply br_intro)<;>intro h)|refine cond_a ?_)
 all_goals (conv=>whnf)
 all_goals first
  |exact ret_out (l:= [0,1,2,3,4,5,6,7,8,9,10,11,12,13,14,15,16,17,18,19,2,6,10,17,18,19]) rfl rfl ⟨rfl,rfl,rfl,rfl,rfl,rfl,rfl,rfl,rfl,rfl,rfl,rfl,rfl,rfl,rfl,rfl,rfl,rfl,rfl,trivial⟩ bkRw_rw
  |trace_state
theorem bk_Positions (s:Bks) (h:BkOk s) (d:Int):FC Tryz.prog 20 12 [.ptr 1 0 0 0,.int .i64 d] (bkHp s)
  (isOut (.sl 26 0 0 (posL s.ds s.B d).length) ((26,some (.one false (pxB (posL s.ds s.B d).length (pxOf (posL s.ds s.B d)))))::bkOt s) 27):=by
 have c1:=cy_Positions h.bks s.cut d
 generalize posL s.ds s.B d=L at*
 refine fc_of mixed T_ok Tryz.func12 rfl (by kernel_rfl) (by kernel_rfl) (by kernel_rfl) ?_
 repeat' ((conv=>whnf);first|refine vcall_o (l:= [0,11,12,13,14,15,16,17,18,19]) (c1) ?_|refine vcallD_o (l:= [0,11,12,13,14,15,16,17,18,19]) (c1) ?_|((first|apply br_dec|apply br_ndec)<;>intro h<;>try (exfalso;(try dsimp only at h);omega))|((first|apply br_seq|apply br_nseq|apply br_not|apply br_intro)<;>intro h)|refine cond_a ?_)
 all_goals (conv=>whnf)
 all_goals first
  |exact ret_out (l:= [0,1,2,3,4,5,6,7,8,9,10,11,12,13,14,15,16,17,18,19,2,6,10,17,18,19,20]) rfl rfl ⟨rfl,rfl,rfl,rfl,rfl,rfl,rfl,rfl,rfl,rfl,rfl,rfl,rfl,rfl,rfl,rfl,rfl,rfl,rfl,rfl,trivial⟩ (allRw_cons bkRw_rw)
  |trace_state
theorem bk_Auth (s:Bks) (h:BkOk s) (id:ByteArray) (hp:s.pl id<s.na):FC Tryz.prog 20 15 [.ptr 1 0 0 0,.str id] (bkHp s) (isOut (.tup [(auAt s.au (s.pl id)).s,.bool true]) (bkOt s) 26):=by
 have hb:decide (sidx s.aid id<s.na)=true:=decide_eq_true hp
 have hpl:=lg_pl hp
 have hcn:0≤((List.range s.na).map Int.ofNat).getD (s.pl id) 0∧((List.range s.na).map Int.ofNat).getD (s.pl id) 0<(s.na:Int):=by rw [hpl];omega
 refine fc_of mixed T_ok Tryz.func15 rfl (by kernel_rfl) (by kernel_rfl) (by kernel_rfl) ?_
 repeat' ((conv=>whnf);first|(rw [hb];try dsimp only [setMany,setNth])|(simp only [hpl,lg_tn])|((first|apply br_dec|apply br_ndec)<;>intro h<;>try (exfalso;(try dsimp only at h);omega))|((first|apply br_seq|apply br_nseq|apply br_not|apply br_intro)<;>intro h)|refine cond_a ?_)
 all_goals (conv=>whnf)
 all_goals first
  |exact ret_out (l:= [0,1,2,3,4,5,6,7,8,9,10,11,12,13,14,15,16,17,18,19,2,6,10,17,18,19]) rfl rfl ⟨rfl,rfl,rfl,rfl,rfl,rfl,rfl,rfl,rfl,rfl,rfl,rfl,rfl,rfl,rfl,rfl,rfl,rfl,rfl,trivial⟩ bkRw_rw
  |trace_state
end Go.Proofs.YthmggifndkcboaaGreatDoor
namespace Go.Proofs.YthmggifndkcboaaGreatDoor
open Go.RowKit Go.Sy
attribute [local irreducible] vcall vloop vcallD retP sortI
set_option maxRecDepth 100000
set_option linter.unusedVariables false
set_option linter.unusedSimpArgs false
attribute [local irreducible] seq ByteArray.extract
abbrev bkRr (r:Nat→Nat) (s:Bks):Heap:=
 (r 1,some (.one false (.cells [.str s.cur,.int .i64 s.days,.sl (r 2) 0 0 s.na,.map (r 3) 0,.ptr (r 4) 0 0 0,.int .i64 s.lg.ne,.ptr (r 11) 0 0 0,.int .i64 s.last])))::(r 2,some (.one false (auB s.na s.au)))::(r 3,bkPl s.na s.aid)::
 (r 9,lgBg false s.lg)::(r 4,some (.one false (.cells (lgF (r 5) (r 6) (r 7) (r 8) (r 9) s.lg))))::(r 5,some (.one false (lgAcc s.lg)))::(r 6,some (.one false (lgEnt (r 10) s.lg)))::(r 7,some (.one false (lgPl s.lg)))::(r 8,some (.one false (lgSt s.lg)))::(r 10,lgFam false s.lg)::
 (r 11,cyC false (r 12) (r 14) (r 15) (r 16) s.np s.cut)::(r 12,calC false (r 13))::(r 13,tmM false s.hn s.hs)::(r 14,cyP false s.np s.pr)::(r 16,tmM false s.nc s.cd)::bksH (r 15) (r 17) (r 18) (r 19) s.np s.m s.ds s.B (sortS s.pr)
theorem bkRr_rw {r:Nat→Nat} {s:Bks}:allRw (bkRr r s):=
 allRw_cons (allRw_cons (allRw_cons (allRw_cons (allRw_cons (allRw_cons (allRw_cons (allRw_cons (allRw_cons (allRw_fam (allRw_cons (allRw_cons (allRw_cons (allRw_cons (allRw_cons bks_rw))))))))))))))
theorem pty_take {L:List ByteArray} {k:Nat} (hk:k<L.length):(L.take k).map ptyS++ [ptyS (L.getD k ⟨#[]⟩)]=(L.take (k+1)).map ptyS:=by
 rw [take_snoc hk,List.map_append];rfl
abbrev bnS (L:List ByteArray) (n:Nat) (cur:ByteArray) (m:Nat) (cut days:Int) (S:List Int) (k:Nat):VS:=
 ⟨[(1,.ptr 3 0 0 0),(6,.ptr 6 0 0 0),(7,.sl 13 0 0 k),(46,.sl 1 0 0 n),(47,.int .i64 n),(48,.int .i64 k)],
  (1,some (.one true (.cols n [.sc (.strs L)])))::(3,some (.one false (.cells [.sl 1 0 0 n,.str cur,.sl 2 0 0 m,.int .i64 cut,.int .i64 days])))::(4,calC false 5)::(5,tmM false S.length S)::(6,cyC false 4 7 8 9 n cut)::(7,cyP false n L)::(9,tmM false 0 [])::
  (13,some (.one false (.cols k [.sc (.strs ((L.take k).map ptyS))])))::bksH 8 10 11 12 n 0 [] [] (sortS L),14⟩
theorem bk_New_no (cur:ByteArray) (days cut:Int) (L:List ByteArray) (n:Nat) (H:List Int) (m:Nat) (hL:L.length=n) (hH:H.length=m) (he:bkE cur days H m cut L≠0):
  FC Tryz.prog 3 8 [.agg [.sl 1 0 0 n,.str cur,.sl 2 0 0 m,.int .i64 cut,.int .i64 days]] [(1,some (.one true (.cols n [.sc (.strs L)]))),(2,some (.one true (.cols m [.sc (.ints .i64 H)])))] (isOut (.tup [.nptr,.int .i64 (bkE cur days H m cut L)]) [] 3):=by
 have c0:=bk_isCur cur
 have c1:=cal_New H m hH
 unfold holO at c1
 have c2:=cy_New cut L n hL
 unfold cnO at c2
 unfold bkE at he⊢
 by_cases h1:days<1∨1000<days
 ·rw [if_pos h1]
  refine fc_of mixed T_ok Tryz.func8 rfl (by kernel_rfl) (by kernel_rfl) (by kernel_rfl) ?_
  repeat' ((conv=>whnf);first|(refine vcall_pure (c0) rfl rfl rfl ?_)|(refine vcallD_pure (c0) rfl rfl rfl ?_)|refine vcall_o (l:= [0,2]) (c1) ?_|refine vcall_o (l:= [0,4,1]) (c2) ?_|((first|apply br_dec|apply br_ndec)<;>intro h<;>try (exfalso;(try dsimp only at h);omega))|((first|apply br_seq|apply br_nseq|apply br_not|apply br_intro)<;>intro h)|refine cond_a ?_)
  all_goals (conv=>whnf)
  all_goals first
   |exact ret_out (l:= [0,1,2]) rfl rfl trivial allRw_nil
   |(exfalso;omega)
   |trace_state
 rw [if_neg h1] at he⊢
 by_cases h2:curB cur=false
 ·rw [if_pos h2]
  rw [h2] at c0
  refine fc_of mixed T_ok Tryz.func8 rfl (by kernel_rfl) (by kernel_rfl) (by kernel_rfl) ?_
  repeat' ((conv=>whnf);first|(refine vcall_pure (c0) rfl rfl rfl ?_)|(refine vcallD_pure (c0) rfl rfl rfl ?_)|refine vcall_o (l:= [0,2]) (c1) ?_|refine vcall_o (l:= [0,4,1]) (c2) ?_|((first|apply br_dec|apply br_ndec)<;>intro h<;>try (exfalso;(try dsimp only at h);omega))|((first|apply br_seq|apply br_nseq|apply br_not|apply br_intro)<;>intro h)|refine cond_a ?_)
  all_goals (conv=>whnf)
  all_goals first
   |exact ret_out (l:= [0,1,2]) rfl rfl trivial allRw_nil
   |(exfalso;omega)
   |trace_state
 rw [if_neg h2] at he⊢
 have h2':curB cur=true:=by simpa using h2
 rw [h2'] at c0
 by_cases h3:holE H m≠0
 ·rw [if_pos h3]
  rw [if_neg h3] at c1
  generalize holE H m=E at*
  refine fc_of mixed T_ok Tryz.func8 rfl (by kernel_rfl) (by kernel_rfl) (by kernel_rfl) ?_
  repeat' ((conv=>whnf);first|(refine vcall_pure (c0) rfl rfl rfl ?_)|(refine vcallD_pure (c0) rfl rfl rfl ?_)|refine vcall_o (l:= [0,2]) (c1) ?_|refine vcall_o (l:= [0,4,1]) (c2) ?_|((first|apply br_dec|apply br_ndec)<;>intro h<;>try (exfalso;(try dsimp only at h);omega))|((first|apply br_seq|apply br_nseq|apply br_not|apply br_intro)<;>intro h)|refine cond_a ?_)
  all_goals (conv=>whnf)
  all_goals first
   |(exfalso;exact h3 h)
   |exact ret_out (l:= [0,1,2]) rfl rfl trivial allRw_nil
   |(exfalso;omega)
   |trace_state
 rw [if_neg h3] at he⊢
 rw [if_pos (by omega)] at c1
 rw [if_neg he] at c2
 generalize cnE cut L=E at*
 refine fc_of mixed T_ok Tryz.func8 rfl (by kernel_rfl) (by kernel_rfl) (by kernel_rfl) ?_
 repeat' ((conv=>whnf);first|(refine vcall_pure (c0) rfl rfl rfl ?_)|(refine vcallD_pure (c0) rfl rfl rfl ?_)|refine vcall_o (l:= [0,2]) (c1) ?_|refine vcall_o (l:= [0,4,1]) (c2) ?_|((first|apply br_dec|apply br_ndec)<;>intro h<;>try (exfalso;(try dsimp only at h);omega))|((first|apply br_seq|apply br_nseq|apply br_not|apply br_intro)<;>intro h)|refine cond_a ?_)
 all_goals (conv=>whnf)
 all_goals first
  |(exfalso;exact he h)
  |exact ret_out (l:= [0,1,2]) rfl rfl trivial allRw_nil
  |(exfalso;omega)
  |trace_state
theorem bk_New_ok (cur:ByteArray) (days cut:Int) (L:List ByteArray) (n:Nat) (H:List Int) (m:Nat) (hL:L.length=n) (hH:H.length=m) (he:bkE cur days H m cut L=0):
  FC Tryz.prog 3 8 [.agg [.sl 1 0 0 n,.str cur,.sl 2 0 0 m,.int .i64 cut,.int .i64 days]] [(1,some (.one true (.cols n [.sc (.strs L)]))),(2,some (.one true (.cols m [.sc (.ints .i64 H)])))] (isOut (.tup [.ptr 3 0 0 0,.int .i64 0]) (bkRr (fun i=>i+2) (bk1 cur days H cut L)) 22):=by
 subst hL
 have c0:=bk_isCur cur
 have c1:=cal_New H m hH
 unfold holO at c1
 have c2:=cy_New cut L L.length rfl
 unfold cnO at c2
 have hbk:=bk1_ok he
 have hn:=hbk.n256
 unfold bkE at he
 by_cases h1:days<1∨1000<days
 ·rw [if_pos h1] at he;cases he
 rw [if_neg h1] at he
 by_cases h2:curB cur=false
 ·rw [if_pos h2] at he;cases he
 rw [if_neg h2] at he
 have h2':curB cur=true:=by simpa using h2
 rw [h2'] at c0
 by_cases h3:holE H m≠0
 ·rw [if_pos h3] at he;exact absurd he h3
 rw [if_neg h3] at he
 rw [if_pos (by omega)] at c1
 rw [if_pos he] at c2
 have hnw:nwErr L=0:=by
  unfold cnE at he
  split at he
  ·cases he
  ·exact he
 obtain ⟨w1,w2,w3⟩:=nw_ok hnw
 have c5:=lg_New_ok (L.map ptyS) L.length (by rw [List.length_map]) (pty_err hnw)
 unfold bk1
 generalize hG0:lg0 (L.map ptyS)=G0 at*
 have hG:(G0.ne:Int)=0:=by rw [←hG0];rfl
 generalize ddS H=S at*
 refine fc_of mixed T_ok Tryz.func8 rfl (by kernel_rfl) (by kernel_rfl) (by kernel_rfl) ?_
 repeat' ((conv=>whnf);first|(refine vcall_pure (c0) rfl rfl rfl ?_)|(refine vcallD_pure (c0) rfl rfl rfl ?_)|refine vcall_o (l:= [0,2]) (c1) ?_|refine vcall_o (l:= [0,4,1]) (c2) ?_|((first|apply br_dec|apply br_ndec)<;>intro h<;>try (exfalso;(try dsimp only at h);omega))|((first|apply br_seq|apply br_nseq|apply br_not|apply br_intro)<;>intro h)|refine cond_a ?_)
 all_goals (conv=>whnf)
 all_goals first
  |(exfalso;omega)
  |(exfalso;exact h rfl)
  |skip
 refine vloop_of (bnS L L.length cur m cut days S) (fun k=>k≤L.length) (fun k=>L.length-k) 0 [0,1,2,3,4,5,6,7,8,9,10,11,12,13] [.slot 7 [.sc (.strs [])]] ⟨rfl,⟨rfl,rfl,rfl,rfl,rfl,rfl,trivial⟩,⟨rfl,rfl,rfl,rfl,rfl,rfl,rfl,rfl,rfl,rfl,rfl,rfl,trivial⟩⟩ (Nat.zero_le _) ?_
 intro k hk
 by_cases hk2:k<L.length
 ·have hin:L.getD k ⟨#[]⟩∈L:=by rw [List.getD,List.getElem?_eq_getElem (by omega)];exact List.getElem_mem _
  have hz:=nmB_16 (w3 _ hin)
  have c4:=bk_accountOf (L.getD k ⟨#[]⟩) (by omega)
  have hT:=pty_take (L:=L) (k:=k) (by omega)
  have hrow:=congrArg (fun z=>some (HB.one false (Blk.cols (k+1) [.sc (.strs z)]))) hT
  unfold bnS
  repeat' ((conv=>whnf);first|(refine vcall_pure (c4) rfl rfl rfl ?_)|(refine vcallD_pure (c4) rfl rfl rfl ?_)|((first|apply br_dec|apply br_ndec)<;>intro h<;>try (exfalso;(try dsimp only at h);omega))|((first|apply br_seq|apply br_nseq|apply br_not|apply br_intro)<;>intro h)|refine cond_a ?_)
  all_goals (conv=>whnf)
  all_goals first
   |(exfalso;omega)
   |exact ⟨k+1,[0,1,2,3,4,5,6,7,8,9,10,11,12,15],[],hk2,(show L.length-(k+1)<L.length-k by omega),⟨rfl,⟨rfl,rfl,rfl,rfl,rfl,congrArg (fun z=>some (SV.int .i64 z)) (i64_succ (by omega)),trivial⟩,⟨rfl,rfl,rfl,rfl,rfl,rfl,rfl,hrow,rfl,rfl,rfl,rfl,trivial⟩⟩⟩
   |trace_state
 have ek:k=L.length:=by omega
 subst ek
 unfold bnS
 rw [show L.take L.length=L from List.take_length]
 repeat' ((conv=>whnf);first|refine vcall_o (l:= [0,13]) (c5) ?_|((first|apply br_dec|apply br_ndec)<;>intro h<;>try (exfalso;(try dsimp only at h);omega))|((first|apply br_seq|apply br_nseq|apply br_not|apply br_intro)<;>intro h)|refine cond_a ?_)
 all_goals (conv=>whnf)
 all_goals first
  |(exfalso;omega)
  |(exfalso;exact h rfl)
  |exact ret_up (l:= [0,1,2,22,23,21,14,15,16,17,18,19,20,6,4,5,7,8,9,10,11,12]) [.cell 22 2 [.sc (.strs []),.sc (.strs []),.sc (.ints .i64 []),.sc (.ints .i64 []),.sc (.ints .i64 []),.sc (.ints .i64 []),.sc (.ints .i64 []),.sc (.ints .i64 []),.sc (.ints .i64 []),.sc (.ints .i64 [])]] ⟨rfl,rfl,⟨(by simp only [hG];rfl),rfl,rfl,rfl,rfl,rfl,rfl,rfl,rfl,rfl,rfl,rfl,rfl,rfl,rfl,rfl,rfl,rfl,rfl,trivial⟩⟩ bkRr_rw
  |trace_state
end Go.Proofs.YthmggifndkcboaaGreatDoor
namespace Go.Proofs.YthmggifndkcboaaGreatDoor
open Go.RowKit Go.Sy
attribute [local irreducible] vcall vloop vcallD retP sortI
set_option maxRecDepth 100000
set_option linter.unusedVariables false
set_option linter.unusedSimpArgs false
theorem fi_size {s:ByteArray} {u:Bool} {p:ByteArray→Bool} (h:fiB s u p=true) (hp:p s=true→s.size≤16):s.size≤16:=by
 unfold fiB at h
 cases u with
 |true=>exact hp h
 |false=>have e:s=⟨#[]⟩:=of_decide_eq_true h;rw [e];decide
theorem auI_16 {s:ByteArray} (h:auI s=true):s.size≤16:=by
 unfold auI at h
 rw [Bool.and_eq_true] at h
 have:=of_decide_eq_true h.1
 omega
def bopL (o:Bop):List ByteArray:= [decI o.k,decI o.t,o.id,o.au,o.is,o.ac,decI o.am,decI o.fe,if o.fi=true then ⟨#[49]⟩ else ⟨#[48]⟩]
def bopT (o:Bop):ByteArray:=joinB (bopL o) ⟨#[124]⟩
structure BopSz (o:Bop):Prop where
 k: -9223372036854775808≤o.k∧o.k≤9223372036854775807
 t: -9223372036854775808≤o.t∧o.t≤9223372036854775807
 am: -9223372036854775808≤o.am∧o.am≤9223372036854775807
 fe: -9223372036854775808≤o.fe∧o.fe≤9223372036854775807
 id:o.id.size≤16
 au:o.au.size≤16
 is:o.is.size≤16
 ac:o.ac.size≤16
theorem bop_sz {o:Bop} (h:CkOk o):BopSz o:=by
 have hn:=h.n
 unfold bkN at hn
 simp only [Bool.and_eq_true] at hn
 have ha:=h.a
 have hk:=h.k
 have ht:=h.t
 have hf:=h.f
 have hb: -999999999999≤o.am∧o.am≤999999999999:=by
  unfold pmB at ha
  repeat' split at ha
  all_goals (have ha:=of_decide_eq_true ha;omega)
 have hfe:o.fe≤999999999999:=by
  have:=hf.2
  split at this<;>omega
 exact ⟨by omega,by omega,by omega,by omega,fi_size hn.1 auI_16,fi_size hn.2.1 auI_16,fi_size hn.2.2.1 nmB_16,fi_size hn.2.2.2 nmB_16⟩
theorem bop_join {o:Bop} (h:BopSz o):(joinB (bopL o) ⟨#[124]⟩).size≤1000:=by
 have h1:=decI_size o.k h.k.1 h.k.2
 have h2:=decI_size o.t h.t.1 h.t.2
 have h3:=decI_size o.am h.am.1 h.am.2
 have h4:=decI_size o.fe h.fe.1 h.fe.2
 have h5:o.id.data.size≤16:=h.id
 have h6:o.au.data.size≤16:=h.au
 have h7:o.is.data.size≤16:=h.is
 have h8:o.ac.data.size≤16:=h.ac
 have h9:(if o.fi=true then (⟨#[49]⟩:ByteArray) else ⟨#[48]⟩).size≤1:=by split<;>decide
 unfold joinB bopL
 show (Lib.join _ _).toArray.size≤1000
 rw [List.size_toArray,List.map_cons,Lib.join_cons,List.length_append,Lib.joinTail_length]
 generalize (if o.fi=true then (⟨#[49]⟩:ByteArray) else ⟨#[48]⟩)=z at*
 simp only [Lib.lens,List.map_cons,List.map_nil,List.sum_cons,List.sum_nil,List.length_cons,List.length_nil,Array.length_toList]
 simp only [ByteArray.size] at h1 h2 h3 h4 h9
 omega
theorem str_Join (n:Nat) (L:List ByteArray) (sep:ByteArray) (h0:0<n) (hN:n≤1000000) (hlen:(joinB L sep).size≤140737488355328):
  FC Tryz.prog 2 71 [.sl 1 0 0 n,.str sep] [(1,some (.one true (.cols n [.sc (.strs L)])))] (isOut (.str (joinB L sep)) [] 2):=
 fc_join (fun bk o c xs sep w h1 h2 h3 h4 h5=>Tryz.strings_Join bk o c xs sep w h1 h2 h3 h4 h5) (bodied_of Tryz.func71 (by kernel_rfl) (by kernel_rfl)) n L sep h0 hN hlen
theorem bk_Encode_ok (o:Bop) (hc:ckE o=0):Glob Tryz.prog glT 23 [o.s] (.tup [.str (bopT o),.int .i64 0]):=by
 have c1:=bk_check o
 rw [hc] at c1
 have hs:=bop_sz (ck_ok hc)
 have hj:=bop_join hs
 have g1:=conv_Itoa o.k hs.k.1 hs.k.2
 have g2:=conv_Itoa o.t hs.t.1 hs.t.2
 have g3:=conv_FormatInt o.am hs.am.1 hs.am.2
 have g4:=conv_FormatInt o.fe hs.fe.1 hs.fe.2
 have c2:=str_Join 9 (bopL o) ⟨#[124]⟩ (by decide) (by decide) (by omega)
 unfold bopT
 unfold bopL at c2⊢
 obtain ⟨k,t,id,au,is,ac,am,fe,fi⟩:=o
 cases fi with
 |true=>
  rw [if_pos rfl] at c2
  rw [if_pos rfl]
  refine fc_of mixed T_ok Tryz.func23 rfl (by kernel_rfl) (by kernel_rfl) (by kernel_rfl) ?_
  repeat' ((conv=>whnf);first|(refine vcall_pure (c1) rfl rfl rfl ?_)|(refine vcallD_pure (c1) rfl rfl rfl ?_)|(refine vcall_glob (g1) rfl rfl rfl rfl ?_)|(refine vcallD_glob (g1) rfl rfl rfl rfl ?_)|(refine vcall_glob (g2) rfl rfl rfl rfl ?_)|(refine vcallD_glob (g2) rfl rfl rfl rfl ?_)|(refine vcall_glob (g3) rfl rfl rfl rfl ?_)|(refine vcallD_glob (g3) rfl rfl rfl rfl ?_)|(refine vcall_glob (g4) rfl rfl rfl rfl ?_)|(refine vcallD_glob (g4) rfl rfl rfl rfl ?_)|refine vcall_o (l:= [0,2]) (c2) ?_|refine vcallD_o (l:= [0,2]) (c2) ?_|((first|apply br_dec|apply br_ndec)<;>intro h<;>try (exfalso;(try dsimp only at h);omega))|((first|apply br_seq|apply br_nseq|apply br_not|apply br_intro)<;>intro h)|refine cond_a ?_)
  all_goals (conv=>whnf)
  all_goals first
   |(exfalso;omega)
   |(exfalso;exact h rfl)
   |exact ret_pure rfl
   |trace_state
 |false=>
  rw [if_neg (fun e=>Bool.noConfusion e)] at c2
  rw [if_neg (fun e=>Bool.noConfusion e)]
  refine fc_of mixed T_ok Tryz.func23 rfl (by kernel_rfl) (by kernel_rfl) (by kernel_rfl) ?_
  repeat' ((conv=>whnf);first|(refine vcall_pure (c1) rfl rfl rfl ?_)|(refine vcallD_pure (c1) rfl rfl rfl ?_)|(refine vcall_glob (g1) rfl rfl rfl rfl ?_)|(refine vcallD_glob (g1) rfl rfl rfl rfl ?_)|(refine vcall_glob (g2) rfl rfl rfl rfl ?_)|(refine vcallD_glob (g2) rfl rfl rfl rfl ?_)|(refine vcall_glob (g3) rfl rfl rfl rfl ?_)|(refine vcallD_glob (g3) rfl rfl rfl rfl ?_)|(refine vcall_glob (g4) rfl rfl rfl rfl ?_)|(refine vcallD_glob (g4) rfl rfl rfl rfl ?_)|refine vcall_o (l:= [0,2]) (c2) ?_|refine vcallD_o (l:= [0,2]) (c2) ?_|((first|apply br_dec|apply br_ndec)<;>intro h<;>try (exfalso;(try dsimp only at h);omega))|((first|apply br_seq|apply br_nseq|apply br_not|apply br_intro)<;>intro h)|refine cond_a ?_)
  all_goals (conv=>whnf)
  all_goals first
   |(exfalso;omega)
   |(exfalso;exact h rfl)
   |exact ret_pure rfl
   |trace_state
end Go.Proofs.YthmggifndkcboaaGreatDoor
namespace Go.Proofs.YthmggifndkcboaaGreatDoor
open Go.RowKit Go.Sy
set_option linter.unusedVariables false
set_option linter.unusedSimpArgs false
set_option maxRecDepth 100000
attribute [local irreducible] sortI
abbrev sHb:ByteArray:=⟨#[104,111,109,101,98,97,110,107]⟩
abbrev sSb:ByteArray:=⟨#[115,104,111,112,98,97,110,107]⟩
abbrev sOb:ByteArray:=⟨#[111,116,104,101,114]⟩
abbrev sA1:ByteArray:=⟨#[97,45,49]⟩
abbrev sEu:ByteArray:=⟨#[69,85,82]⟩
abbrev q3:List ByteArray:= [sHb,sSb,sOb]
abbrev r3:List ByteArray:= [sHb,sOb,sSb]
theorem q3_sort:sortS q3=r3:=by
 refine sortS_of ((List.Perm.swap _ _ _).cons _) ?_
 refine .cons (fun a h=> ?_) (.cons (fun a h=> ?_) (.cons (fun a h=>absurd h (List.not_mem_nil)) .nil))<;>simp only [List.mem_cons,List.not_mem_nil,or_false] at h<;>(first|(rcases h with rfl|rfl<;>kernel_rfl)|(subst h;kernel_rfl))
theorem q3_bkE:bkE sEu 7 [] 0 64800 q3=0:=by kernel_rfl
def o1:Bop:=⟨1,100,⟨#[]⟩,sA1,⟨#[]⟩,⟨#[]⟩,1000,0,false⟩
def o2:Bop:=⟨4,200,⟨#[97,45,49,45,49]⟩,sA1,sHb,sSb,400,10,false⟩
def w0:Bks:=bk1 sEu 7 [] 64800 q3
def au1:Au:=⟨sA1,sEu,1000,0,0,0,1,100,604900,0⟩
def au2:Au:=⟨sA1,sEu,1000,0,400,0,1,100,604900,1⟩
def w1:Bks:= { w0 with na:=1,au:= [au1],last:=100}
def bq0:Bk:=⟨3,r3,0,[],[],[],0⟩
def bq1:Bk:=⟨3,r3,1,[sEu],[[-390,0,390,0,0,0,0,0,0,0,0,0,0,0,0,0]],[0],1⟩
def lq2:Lg:=lgP (lg0 (q3.map ptyS)) (enB w1 o2)
def w2:Bks:= { w1 with au:= [au2],m:=1,ds:= [0],B:= [bq1],lg:=lq2,last:=200}
theorem w0_E:doE w0 o1=0:=by kernel_rfl
theorem w0_S:doS w0 o1=w1:=by unfold doS;rw [w0_E,if_pos rfl];kernel_rfl
theorem bq_at:bkAt [] [] q3 0=bq0:=by
 unfold bkAt nwB
 rw [if_neg (by simp),q3_sort];rfl
theorem bq_mvE:mvE bq0 sHb sSb sEu 390=0:=by kernel_rfl
theorem bq_mv:bq0.mv sHb sSb sEu 390=bq1:=by kernel_rfl
theorem w1_D:bkD w1 200=0:=by kernel_rfl
theorem w1_X:owX w1 o2.t (mtF o2) (mtG o2) (mtN o2)=0:=by
 unfold owX
 rw [show bkD w1 o2.t=0 from w1_D]
 unfold mvX
 rw [if_neg (by decide)]
 show mvE (bkAt [] [] q3 0) sHb sSb sEu 390=0
 rw [bq_at]
 exact bq_mvE
theorem w1_cl:clA w1 o2=(au2,400,0,0):=by kernel_rfl
theorem w1_mm:mmE w1 o2=0:=by
 unfold mmE
 rw [if_neg (by decide),if_neg (by decide),if_pos (show o2.k=4 from rfl),if_pos (by decide),w1_cl,if_neg (fun e=>e rfl)]
 exact w1_X
theorem w1_E:doE w1 o2=0:=by
 have h1:ckE o2=0:=by kernel_rfl
 have h2:pfE w1 o2=mmE w1 o2:=by
  unfold pfE
  rw [if_neg (by decide),if_neg (by decide),if_pos (by decide)]
 unfold doE
 rw [if_neg (fun e=>e h1),if_neg (by decide),h2,w1_mm]
theorem w1_ow:owS w1 o2= { w1 with m:=1,ds:= [0],B:= [bq1],lg:=lq2}:=by
 unfold owS
 rw [show bkD w1 o2.t=0 from w1_D]
 show Bks.mk _ _ _ _ _ _ _ _ _ _ _ (mvBs [] [] 0 ((bkAt [] [] q3 0).mv sHb sSb sEu 390)) _ _ _ _=_
 rw [bq_at,bq_mv]
 rfl
theorem w1_S:doS w1 o2=w2:=by
 have h2:pfS w1 o2=mmS w1 o2:=by
  unfold pfS
  rw [if_neg (by decide),if_neg (by decide),if_pos (by decide)]
 unfold doS
 rw [w1_E,if_pos rfl,h2]
 unfold mmS
 rw [if_pos (show o2.k=4 from rfl),w1_cl,w1_ow]
 rfl
theorem w2_E:doE w2 o2=15:=by
 have h1:ckE o2=0:=by kernel_rfl
 have h2:pfE w2 o2=mmE w2 o2:=by
  unfold pfE
  rw [if_neg (by decide),if_neg (by decide),if_pos (by decide)]
 unfold doE
 rw [if_neg (fun e=>e h1),if_neg (by decide),h2]
 unfold mmE
 rw [if_pos (by decide)]
theorem w2_S:doS w2 o2=w2:=by unfold doS;rw [w2_E,if_neg (by decide)]
theorem w0_ok:BkOk w0:=bk1_ok q3_bkE
theorem w1_ok:BkOk w1:=by rw [←w0_S];exact do_ok w0_ok _
theorem w2_ok:BkOk w2:=by rw [←w1_S];exact do_ok w1_ok _
theorem w2_h:w2.lg.bal (ptyS sHb) sEu= -390:=by kernel_rfl
theorem w2_s:w2.lg.bal (ptyS sSb) sEu=390:=by kernel_rfl
theorem w2_l:posL w2.ds w2.B 0= [⟨sHb,-390,sEu⟩,⟨sSb,390,sEu⟩]:=by
 show (if (0:Int)∈[0] then ([bq1].getD (iidx [0] 0) bk0).list else [])=_
 rw [if_pos (by decide)]
 show bq1.list=_
 unfold Bk.list
 rw [show sortS bq1.cs= [sEu] from one_sort sEu]
 kernel_rfl
theorem w2_a:auAt w2.au (w2.pl sA1)=au2:=by kernel_rfl
theorem o2_ck:ckE o2=0:=by kernel_rfl
theorem o2_t:bopT o2=⟨#[52,124,50,48,48,124,97,45,49,45,49,124,97,45,49,124,104,111,109,101,98,97,110,107,124,115,104,111,112,98,97,110,107,124,52,48,48,124,49,48,124,48]⟩:=by kernel_rfl
end Go.Proofs.YthmggifndkcboaaGreatDoor
namespace Go.Proofs.YthmggifndkcboaaGreatDoor
open Go.RowKit Go.Sy
attribute [local irreducible] vcall vloop vcallD retP sortI
set_option maxRecDepth 100000
set_option linter.unusedVariables false
set_option linter.unusedSimpArgs false
attribute [local irreducible] seq ByteArray.extract
theorem law_Small:FC Tryz.prog 1 41 [] [] (isOut (.agg [.sl 1 0 0 3,.str sEu,.nsl,.int .i64 64800,.int .i64 7]) [(1,some (.one false (.cols 3 [.sc (.strs q3)])))] 2):=by
 refine fc_of mixed T_ok Tryz.func41 rfl (by kernel_rfl) (by kernel_rfl) (by kernel_rfl) ?_
 repeat' ((conv=>whnf);first|((first|apply br_dec|apply br_ndec)<;>intro h<;>try (exfalso;(try dsimp only at h);omega))|((first|apply br_seq|apply br_nseq|apply br_not|apply br_intro)<;>intro h)|refine cond_a ?_)
 all_goals (conv=>whnf)
 all_goals first
  |exact ret_out (l:= [0,2]) rfl rfl ⟨rfl,trivial⟩ (allRw_cons allRw_nil)
  |trace_state
theorem bk_NewN:FC Tryz.prog 2 8 [.agg [.sl 1 0 0 3,.str sEu,.nsl,.int .i64 64800,.int .i64 7]] [(1,some (.one true (.cols 3 [.sc (.strs q3)])))] (isOut (.tup [.ptr 3 0 0 0,.int .i64 0]) (bkRr (fun i=>i+2) w0) 22):=by
 refine fc_aggnil (n:=2) (m:= [.sl 1 0 0 3,.str sEu,.sl 2 0 0 0,.int .i64 64800,.int .i64 7]) (cs:= [.sc (.ints .i64 [])]) rfl (by exact ⟨.inl rfl,.inl rfl,.inr ⟨rfl,rfl⟩,.inl rfl,.inl rfl,trivial⟩) ?_
 refine fc_ext (H:= [(1,some (.one true (.cols 3 [.sc (.strs q3)]))),(2,some (.one true (.cols 0 [.sc (.ints .i64 [])])))]) ?_ (bk_New_ok sEu 7 64800 q3 3 [] 0 rfl rfl q3_bkE)
 intro k
 rw [hget_cons,hget_cons,hget_cons,hget_cons]
 split<;>split<;>first|rfl|omega
theorem law_awake:Glob Tryz.prog glT 9 [] (.bool true):=by
 have cS:=law_Small
 have cN:=bk_NewN
 have d1:=bk_Do w0 o1 w0_ok
 rw [w0_E,w0_S] at d1
 have d2:=bk_Do w1 o2 w1_ok
 rw [w1_E,w1_S] at d2
 have d3:=bk_Do w2 o2 w2_ok
 rw [w2_E,w2_S] at d3
 have cA:=bk_Auth w2 w2_ok sA1 (of_decide_eq_true (by kernel_rfl))
 rw [w2_a] at cA
 have cE:=bk_Encode_ok o2 o2_ck
 rw [o2_t] at cE
 have cH:=bk_Balance w2 (ptyS sHb)
 rw [show w2.lg.bal (ptyS sHb) w2.cur= -390 from w2_h] at cH
 have cB:=bk_Balance w2 (ptyS sSb)
 rw [show w2.lg.bal (ptyS sSb) w2.cur=390 from w2_s] at cB
 have cP:=bk_Positions w2 w2_ok 0
 rw [w2_l] at cP
 simp only [List.length_cons,List.length_nil,Nat.zero_add,Nat.reduceAdd] at cP
 generalize w0=s0 at*
 generalize w1=s1 at*
 generalize w2=s2 at*
 refine fc_of mixed T_ok Tryz.func9 rfl (by kernel_rfl) (by kernel_rfl) (by kernel_rfl) ?_
 repeat' ((conv=>whnf);first|refine vcall_o (l:= [0]) (cS) ?_|refine vcallD_o (l:= [0]) (cS) ?_|refine vcall_o (l:= [0,1]) (cN) ?_|refine vcallD_o (l:= [0,1]) (cN) ?_|refine vcall_o (l:= [0,3,4,5,6,7,8,9,10,11,12,13,14,15,16,17,18,19,20,21]) (d1) ?_|refine vcall_o (l:= [0,3,23,5,6,7,24,9,10,11,25,13,14,15,16,17,18,26,27,28]) (d2) ?_|refine vcall_o (l:= [0,3,29,5,6,7,30,9,10,11,31,13,14,15,16,17,18,32,33,34]) (d3) ?_|refine vcall_o (l:= [0,3,35,5,6,7,36,9,10,11,37,13,14,15,16,17,18,38,39,40]) (cA) ?_|refine vcall_o (l:= [0,3,41,5,6,7,42,9,10,11,43,13,14,15,16,17,18,44,45,46]) (cH) ?_|refine vcall_o (l:= [0,3,48,5,6,7,49,9,10,11,50,13,14,15,16,17,18,51,52,53]) (cB) ?_|refine vcall_o (l:= [0,3,54,5,6,7,55,9,10,11,56,13,14,15,16,17,18,57,58,59]) (cP) ?_|(refine vcall_glob (cE) rfl rfl rfl rfl ?_)|(refine vcallD_glob (cE) rfl rfl rfl rfl ?_)|((first|apply br_dec|apply br_ndec)<;>intro h<;>try (exfalso;(try dsimp only at h);omega))|((first|apply br_seq|apply br_nseq|apply br_not|apply br_intro)<;>intro h)|refine cond_a ?_)
 all_goals (conv=>whnf)
 all_goals first
  |(exfalso;omega)
  |(exfalso;exact h rfl)
  |exact ret_pure (congrArg SV.bool (lg_seq.2 rfl))
  |trace_state
end Go.Proofs.YthmggifndkcboaaGreatDoor
namespace Go.Proofs.YthmggifndkcboaaGreatDoor
open Go.RowKit Go.Sy
set_option linter.unusedVariables false
set_option linter.unusedSimpArgs false
def psK (P:List Int):Nat→Int
 |0=>0
 |k+1=>psK P k+P.getD k 0
theorem psK_cons (x:Int) (P:List Int):∀k,psK (x::P) (k+1)=x+psK P k
 |0=>by simp [psK]
 |k+1=>by
  have ih:=psK_cons x P k
  simp only [psK] at ih⊢
  rw [List.getD_cons_succ];omega
theorem psK_sum (P:List Int):psK P P.length=P.sum:=by
 induction P with
 |nil=>rfl
 |cons x P ih=>rw [List.length_cons,psK_cons,List.sum_cons,ih]
theorem psK_more {P:List Int} {n:Nat} (h:∀j,n≤j→P.getD j 0=0):∀d,psK P (n+d)=psK P n
 |0=>rfl
 |d+1=>by
  have e:psK P (n+(d+1))=psK P (n+d)+P.getD (n+d) 0:=rfl
  rw [e,psK_more h d,h _ (by omega)];omega
theorem psK_row {r:List Int} {n:Nat} (hl:r.length=16) (hn:n≤16) (h:∀j,n≤j→r.getD j 0=0):psK r n=r.sum:=by
 have:=psK_more h (16-n)
 rw [show n+(16-n)=16 by omega] at this
 rw [←this,←psK_sum,hl]
def smL (L:List Px) (c:ByteArray):Int:=(L.map (fun x=>if x.c=c then x.a else 0)).sum
theorem smL_app (L M:List Px) (c:ByteArray):smL (L++M) c=smL L c+smL M c:=by unfold smL;rw [List.map_append,List.sum_append]
theorem liR_sum (r:List Int) (ps:List ByteArray) (c c':ByteArray):∀i,smL (liR r ps c i) c'=if c=c' then psK r i else 0
 |0=>by simp [liR,smL,psK]
 |i+1=>by
  have ih:=liR_sum r ps c c' i
  simp only [liR,psK]
  by_cases z:r.getD i 0=0
  ·rw [if_pos z,ih,z,Int.add_zero]
  ·rw [if_neg z,smL_app,ih]
   by_cases q:c=c'
   ·simp [smL,q]
   ·simp [smL,q]
theorem liR_mem {r:List Int} {ps:List ByteArray} {c:ByteArray}:∀i x,x∈liR r ps c i→x.c=c∧x.a≠0∧∃j,j<i∧x.p=ps.getD j ⟨#[]⟩∧x.a=r.getD j 0
 |0,x,h=>by simp [liR] at h
 |i+1,x,h=>by
  simp only [liR] at h
  by_cases z:r.getD i 0=0
  ·rw [if_pos z] at h
   obtain ⟨h1,h2,j,h3,h4⟩:=liR_mem i x h
   exact ⟨h1,h2,j,by omega,h4⟩
  ·rw [if_neg z] at h
   rcases List.mem_append.1 h with h|h
   ·obtain ⟨h1,h2,j,h3,h4⟩:=liR_mem i x h
    exact ⟨h1,h2,j,by omega,h4⟩
   ·rw [List.mem_singleton] at h
    subst h
    exact ⟨rfl,z,i,by omega,rfl,rfl⟩
theorem list_sum {b:Bk} {K:Int} (h:BkI b K):(b.list.map Px.a).sum=0:=by
 have key:∀(cs:List ByteArray) k,((liA b cs k).map Px.a).sum=0:=by
  intro cs k
  induction k with
  |zero=>rfl
  |succ k ih=>
   simp only [liA,List.map_append,List.sum_append,ih,Int.zero_add]
   have e1:∀(r:List Int) (ps:List ByteArray) (c:ByteArray) i,((liR r ps c i).map Px.a).sum=psK r i:=by
    intro r ps c i
    induction i with
    |zero=>rfl
    |succ i ih2=>
     have h1:=liR_sum r ps c c (i+1)
     rw [if_pos rfl] at h1
     rw [←h1]
     unfold smL
     refine congrArg List.sum (List.map_congr_left fun x hx=> ?_)
     rw [if_pos (liR_mem _ _ hx).1]
   rw [e1,psK_row (h.rl _) h.n16 (fun j hj=>h.rt _ j hj),h.rs]
 exact key _ _
end Go.Proofs.YthmggifndkcboaaGreatDoor
namespace Go.Proofs.YthmggifndkcboaaGreatDoor
open Go.RowKit Go.Sy
set_option linter.unusedVariables false
set_option linter.unusedSimpArgs false
def nmS (f:ByteArray→Int):List ByteArray→Int
 | []=>0
 |a::l=>f a+nmS f l
theorem nmS_add (f g:ByteArray→Int):∀l,nmS (fun a=>f a+g a) l=nmS f l+nmS g l
 | []=>rfl
 |a::l=>by simp only [nmS];rw [nmS_add f g l];omega
theorem nmS_zero {f:ByteArray→Int}:∀{l:List ByteArray},(∀a∈l,f a=0)→nmS f l=0
 | [],_=>rfl
 |a::l,h=>by simp only [nmS];rw [h a (by simp),nmS_zero (fun b hb=>h b (by simp [hb]))];rfl
theorem nmS_congr {f g:ByteArray→Int}:∀{l:List ByteArray},(∀a∈l,f a=g a)→nmS f l=nmS g l
 | [],_=>rfl
 |a::l,h=>by simp only [nmS];rw [h a (by simp),nmS_congr (fun b hb=>h b (by simp [hb]))]
theorem nmS_one {x:ByteArray} {n:Int}:∀{l:List ByteArray},l.Nodup→x∈l→nmS (fun a=>if x=a then n else 0) l=n
 | [],_,h=>by cases h
 |a::l,hd,h=>by
  obtain ⟨h1,h2⟩:=List.nodup_cons.1 hd
  simp only [nmS]
  by_cases e:x=a
  ·rw [if_pos e,nmS_zero (fun b hb=>if_neg (fun e2=>h1 (by rw [←e,e2];exact hb)))];omega
  ·rw [if_neg e,nmS_one h2 (by rcases List.mem_cons.1 h with h|h;exact absurd h e;exact h)];omega
theorem nm_lgC {names:List ByteArray} (hd:names.Nodup) (c:ByteArray):∀{L:List Lp},(∀p∈L,p.a∈names)→nmS (fun a=>lgS L a c) names=lgC L c
 | [],_=>nmS_zero fun a _=>rfl
 |p::L,h=>by
  have ih:=nm_lgC hd c (L:=L) (fun q hq=>h q (by simp [hq]))
  have e:nmS (fun a=>lgS (p::L) a c) names=nmS (fun a=>if p.a=a then (if p.c=c then p.n else 0) else 0) names+nmS (fun a=>lgS L a c) names:=by
   rw [←nmS_add]
   refine nmS_congr fun a _=> ?_
   simp only [lgS]
   by_cases h1:p.a=a
   ·by_cases h2:p.c=c
    ·rw [if_pos ⟨h1,h2⟩,if_pos h1,if_pos h2]
    ·rw [if_neg (fun h=>h2 h.2),if_pos h1,if_neg h2]
   ·rw [if_neg (fun h=>h1 h.1),if_neg h1]
  rw [e,ih,nmS_one hd (h p (by simp))]
  rfl
theorem lgC_all {c:ByteArray}:∀{E:List Le},(∀e∈E,lgBal e.ps=true)→lgC (allP E) c=0
 | [],_=>rfl
 |e::E,h=>by
  have:allP (e::E)=e.ps++allP E:=rfl
  rw [this,lgC_append,lgC_all (fun x hx=>h x (by simp [hx])),lgBal_iff.1 (h e (by simp)) c];rfl
theorem lg_total {s:Lg} (h:LgOk s) (c:ByteArray):nmS (fun a=>s.bal a c) s.acc=0:=by
 rw [nmS_congr (fun a _=>h.bal a c),nm_lgC h.nd c (fun p hp=> ?_)]
 ·exact lgC_all fun e he=>(h.ent e he).b
 ·obtain ⟨e,he,hp⟩:=List.mem_flatMap.1 hp
  exact (poE_zero.1 (h.ent e he).ps p hp).1
end Go.Proofs.YthmggifndkcboaaGreatDoor
namespace Go.Proofs.YthmggifndkcboaaGreatDoor
open Go.RowKit Go.Sy
attribute [local irreducible] vcall vloop vcallD retP sortI
set_option maxRecDepth 100000
set_option linter.unusedVariables false
set_option linter.unusedSimpArgs false
attribute [local irreducible] seq ByteArray.extract
structure Oq where
 n:Nat
 k:List Int
 t:List Int
 id:List ByteArray
 au:List ByteArray
 is:List ByteArray
 ac:List ByteArray
 am:List Int
 fe:List Int
 fi:List Bool
abbrev Oq.b (Q:Oq):Blk:= .cols Q.n [.sc (.ints .i64 Q.k),.sc (.ints .i64 Q.t),.sc (.strs Q.id),.sc (.strs Q.au),.sc (.strs Q.is),.sc (.strs Q.ac),.sc (.ints .i64 Q.am),.sc (.ints .i64 Q.fe),.sc (.bools Q.fi)]
abbrev Oq.at (Q:Oq) (i:Nat):Bop:=⟨Q.k.getD i 0,Q.t.getD i 0,Q.id.getD i ⟨#[]⟩,Q.au.getD i ⟨#[]⟩,Q.is.getD i ⟨#[]⟩,Q.ac.getD i ⟨#[]⟩,Q.am.getD i 0,Q.fe.getD i 0,Q.fi.getD i false⟩
theorem do_pr (s:Bks) (o:Bop):(doS s o).pr=s.pr:=by
 unfold doS pfS bapS clS mmS owS bcgS
 repeat' split
 all_goals rfl
def wpS (f:ByteArray→Int) (L:List ByteArray) (k:Nat):Int:=IntKind.i64.wrap (nmS f (L.take k))
theorem nmS_snoc (f:ByteArray→Int) (x:ByteArray):∀l,nmS f (l++ [x])=nmS f l+f x
 | []=>by simp [nmS]
 |a::l=>by simp only [List.cons_append,nmS];rw [nmS_snoc f x l];omega
theorem nmS_map (f:ByteArray→Int) (g:ByteArray→ByteArray):∀l,nmS f (l.map g)=nmS (fun a=>f (g a)) l
 | []=>rfl
 |a::l=>by simp only [List.map_cons,nmS];rw [nmS_map f g l]
theorem z_wrap (x:Int):IntKind.i64.wrap x=(x+9223372036854775808)%18446744073709551616-9223372036854775808:=by
 simp only [IntKind.wrap,IntKind.signed,IntKind.bits,Bool.true_and,decide_eq_true_eq,Int.reducePow,Nat.reduceSub,ge_iff_le]
 split<;>omega
theorem z_add (x y:Int):IntKind.i64.wrap (IntKind.i64.wrap x+y)=IntKind.i64.wrap (x+y):=by
 rw [z_wrap,z_wrap,z_wrap]
 omega
theorem wp_succ (f:ByteArray→Int) {L:List ByteArray} {k:Nat} (hk:k<L.length):IntKind.i64.wrap (wpS f L k+f (L.getD k ⟨#[]⟩))=wpS f L (k+1):=by
 unfold wpS
 rw [z_add,take_snoc hk,nmS_snoc]
theorem wp_all {s:Bks} (h:BkOk s):wpS (fun p=>s.lg.bal (ptyS p) s.cur) s.pr s.pr.length=0:=by
 unfold wpS
 have h1:=lg_total h.lg s.cur
 rw [h.acc,nmS_map] at h1
 rw [List.take_length,h1];rfl
def wpA (l:List Int) (k:Nat):Int:=IntKind.i64.wrap (l.take k).sum
theorem wa_succ {l:List Int} {k:Nat} (hk:k<l.length):IntKind.i64.wrap (wpA l k+l.getD k 0)=wpA l (k+1):=by
 unfold wpA
 rw [z_add,List.take_succ_eq_append_getElem hk,List.sum_append,List.getD,List.getElem?_eq_getElem hk]
 simp
theorem wa_all {s:Bks} (h:BkOk s) (d:Int):wpA (pxOf (posL s.ds s.B d)).a (posL s.ds s.B d).length=0:=by
 unfold wpA
 have e:(pxOf (posL s.ds s.B d)).a.length=(posL s.ds s.B d).length:=List.length_map ..
 rw [←e,List.take_length]
 have h0:(pxOf (posL s.ds s.B d)).a.sum=0:=by
  unfold posL
  split
  ·rename_i hd
   have hi:iidx s.ds d<s.m:=by rw [←h.bks.dl];exact iidx_lt.2 hd
   exact list_sum (h.bks.I _ hi).1
  ·rfl
 rw [h0];rfl
abbrev bzH (L:List ByteArray) (n:Nat) (cur:ByteArray) (m:Nat) (cut days:Int) (Q:Oq) (s:Bks):Heap:=
 (0,some (GB glT))::(1,some (.one true (.cols n [.sc (.strs L)])))::(3,some (.one true Q.b))::(4,some (.one false (.cells [.sl 1 0 0 n,.str cur,.sl 2 0 0 m,.int .i64 cut,.int .i64 days])))::bkRr (fun i=>i+4) s
def bzS (L:List ByteArray) (n:Nat) (cur:ByteArray) (m:Nat) (cut days:Int) (Q:Oq) (x:Nat×Bks):VS:=
 ⟨[(1,.sl 3 0 0 Q.n),(2,.ptr 4 0 0 0),(5,.ptr 5 0 0 0),(7,.int .i64 x.1)],bzH L n cur m cut days Q x.2,24⟩
def bzI (L:List ByteArray) (n:Nat) (cur:ByteArray) (m:Nat) (cut days:Int) (Q:Oq) (i:Nat) (s:Bks) (k:Nat):VS:=
 ⟨[(1,.sl 3 0 0 Q.n),(2,.ptr 4 0 0 0),(5,.ptr 5 0 0 0),(7,.int .i64 i),(8,.int .i64 (wpS (fun p=>s.lg.bal (ptyS p) s.cur) L k)),(9,.int .i64 k)],bzH L n cur m cut days Q s,24⟩
theorem bz_round (L:List ByteArray) (n:Nat) (hL:L.length=n) (cur:ByteArray) (m:Nat) (cut days:Int) (Q:Oq) (i:Nat) (s:Bks) (hok:BkOk s) (hpr:s.pr=L) (hi:i<Q.n) (hi4:i<40) (K:Exit→VS→Prop)
  (hK:∀v,(∃(y:Nat×Bks) (l:List Nat) (u:List Up),(y.1≤40∧BkOk y.2∧y.2.pr=L)∧40-y.1<40-i∧upK u v (fun v=>Weak 4 l v (bzS L n cur m cut days Q y)))→K .normal v):
  vcode Tryz.prog T 4 (lpc Tryz.f3 0) (bzS L n cur m cut days Q (i,s)) K:=by
 have d:=bk_Do s (Q.at i) hok
 have hok2:=do_ok hok (Q.at i)
 have hpr2:=do_pr s (Q.at i)
 obtain ⟨w1,w2,w3⟩:=nw_ok hok.err
 rw [hpr] at w1 w3 hpr2
 unfold bzS
 dsimp only
 by_cases ht:2592000<Q.t.getD i 0
 ·repeat' ((conv=>whnf);first|((first|apply br_dec|apply br_ndec)<;>intro h<;>try (exfalso;(try dsimp only at h);omega))|((first|apply br_seq|apply br_nseq|apply br_not|apply br_intro)<;>intro h)|refine cond_a ?_)
  all_goals (conv=>whnf)
  all_goals first
   |(exfalso;omega)
   |(exfalso;exact h ht)
   |exact hK _ ⟨(i+1,s),[0,1,2,3,4,5,6,7,8,9,10,11,12,13,14,15,16,17,18,19,20,21,22,23],[],⟨by dsimp only;omega,hok,hpr⟩,by dsimp only;omega,⟨rfl,⟨rfl,rfl,rfl,congrArg (fun z=>some (SV.int .i64 z)) (i64_succ (by omega)),trivial⟩,⟨gwk rfl,rfl,rfl,rfl,rfl,rfl,rfl,rfl,rfl,rfl,rfl,rfl,rfl,rfl,rfl,rfl,rfl,rfl,rfl,rfl,rfl,rfl,rfl,trivial⟩⟩⟩
   |trace_state
 generalize doS s (Q.at i)=s' at*
 have hall:=wp_all hok2
 rw [hpr2] at hall
 repeat' ((conv=>whnf);first|refine vcall_o (l:= [0,5,6,7,8,9,10,11,12,13,14,15,16,17,18,19,20,21,22,23]) (d) ?_|refine vcallD_o (l:= [0,5,6,7,8,9,10,11,12,13,14,15,16,17,18,19,20,21,22,23]) (d) ?_|((first|apply br_dec|apply br_ndec)<;>intro h<;>try (exfalso;(try dsimp only at h);omega))|((first|apply br_seq|apply br_nseq|apply br_not|apply br_intro)<;>intro h)|refine cond_a ?_)
 all_goals (conv=>whnf)
 all_goals first
  |(exfalso;omega)
  |(exfalso;exact ht h)
  |skip
 refine vloop_of (bzI L n cur m cut days Q i s') (fun k=>k≤n) (fun k=>n-k) 0 [0,1,2,3,4,5,24,7,8,9,25,11,12,13,26,15,16,17,18,19,20,27,28,29] [] ⟨rfl,⟨rfl,rfl,rfl,rfl,rfl,rfl,trivial⟩,⟨gwk rfl,rfl,rfl,rfl,rfl,rfl,rfl,rfl,rfl,rfl,rfl,rfl,rfl,rfl,rfl,rfl,rfl,rfl,rfl,rfl,rfl,rfl,rfl,trivial⟩⟩ (Nat.zero_le _) ?_
 intro k hk
 by_cases hk2:k<n
 ·have hin:L.getD k ⟨#[]⟩∈L:=by rw [List.getD,List.getElem?_eq_getElem (by omega)];exact List.getElem_mem _
  have hz:=nmB_16 (w3 _ hin)
  have hsz:sPty.size+(L.getD k ⟨#[]⟩).size≤9223372036854775807:=by have:sPty.size=6:=rfl;omega
  have cB:=bk_Balance s' (ptyS (L.getD k ⟨#[]⟩))
  have hW:=wp_succ (fun p=>s'.lg.bal (ptyS p) s'.cur) (L:=L) (k:=k) (by omega)
  unfold bzI
  repeat' ((conv=>whnf);first|(refine cond_intro hsz ?_)|refine vcall_o (l:= [0,5,6,7,8,9,10,11,12,13,14,15,16,17,18,19,20,21,22,23]) (cB) ?_|refine vcallD_o (l:= [0,5,6,7,8,9,10,11,12,13,14,15,16,17,18,19,20,21,22,23]) (cB) ?_|((first|apply br_dec|apply br_ndec)<;>intro h<;>try (exfalso;(try dsimp only at h);omega))|((first|apply br_seq|apply br_nseq|apply br_not|apply br_intro)<;>intro h)|refine cond_a ?_)
  all_goals (conv=>whnf)
  all_goals first
   |(exfalso;omega)
   |exact ⟨k+1,[0,1,2,3,4,5,24,7,8,9,25,11,12,13,26,15,16,17,18,19,20,27,28,29],[],(show k+1≤n by omega),(show n-(k+1)<n-k by omega),⟨rfl,⟨rfl,rfl,rfl,rfl,congrArg (fun z=>some (SV.int .i64 z)) hW,congrArg (fun z=>some (SV.int .i64 z)) (i64_succ (by omega)),trivial⟩,⟨gwk rfl,rfl,rfl,rfl,rfl,rfl,rfl,rfl,rfl,rfl,rfl,rfl,rfl,rfl,rfl,rfl,rfl,rfl,rfl,rfl,rfl,rfl,rfl,trivial⟩⟩⟩
   |trace_state
 obtain rfl:k=n:=by omega
 rw [hL] at hall
 unfold bzI
 rw [hall]
 repeat' ((conv=>whnf);first|((first|apply br_dec|apply br_ndec)<;>intro h<;>try (exfalso;(try dsimp only at h);omega))|((first|apply br_seq|apply br_nseq|apply br_not|apply br_intro)<;>intro h)|refine cond_a ?_)
 all_goals (conv=>whnf)
 all_goals first
  |(exfalso;omega)
  |(exfalso;exact h rfl)
  |exact hK _ ⟨(i+1,s'),[0,1,2,3,4,5,6,7,8,9,10,11,12,13,14,15,16,17,18,19,20,21,22,23],[],⟨by dsimp only;omega,hok2,hpr2⟩,by dsimp only;omega,⟨rfl,⟨rfl,rfl,rfl,congrArg (fun z=>some (SV.int .i64 z)) (i64_succ (by omega)),trivial⟩,⟨gwk rfl,rfl,rfl,rfl,rfl,rfl,rfl,rfl,rfl,rfl,rfl,rfl,rfl,rfl,rfl,rfl,rfl,rfl,rfl,rfl,rfl,rfl,rfl,trivial⟩⟩⟩
  |trace_state
theorem pos_len {s:Bks} (h:BkOk s) (d:Int):(posL s.ds s.B d).length≤1600000:=by
 unfold posL
 split
 ·rename_i hd
  have hi:iidx s.ds d<s.m:=by rw [←h.bks.dl];exact iidx_lt.2 hd
  obtain ⟨b1,b2,b3,b4⟩:=h.bks.I _ hi
  have h1:=liA_len (s.B.getD (iidx s.ds d) bk0) (sortS (s.B.getD (iidx s.ds d) bk0).cs) (s.B.getD (iidx s.ds d) bk0).m
  have h2:=(nw_ok h.err).1
  rw [h.np] at h2
  unfold Bk.list
  refine Nat.le_trans h1 ?_
  rw [b2]
  exact Nat.le_trans (Nat.mul_le_mul b4 h2) (by decide)
 ·exact Nat.zero_le _
abbrev bdH (s:Bks):Heap:=(0,some (GB glT))::bkRr (fun i=>i+4) s
def bdS (s:Bks) (d:Nat):VS:=⟨[(5,.ptr 5 0 0 0),(10,.int .i64 d)],bdH s,24⟩
def bdI (s:Bks) (d:Nat) (P:List Px) (k:Nat):VS:=
 ⟨[(5,.ptr 5 0 0 0),(10,.int .i64 d),(11,.sl 24 0 0 P.length),(12,.int .i64 (wpA (pxOf P).a k)),(13,.int .i64 k)],(24,some (.one false (pxB P.length (pxOf P))))::bdH s,25⟩
theorem bd_round (s:Bks) (hok:BkOk s) (d:Nat) (hd:d<40) (K:Exit→VS→Prop)
  (hK:∀v,(∃(y:Nat) (l:List Nat) (u:List Up),y≤40∧40-y<40-d∧upK u v (fun v=>Weak 4 l v (bdS s y)))→K .normal v):
  vcode Tryz.prog T 4 (lpc Tryz.f3 2) (bdS s d) K:=by
 have c:=bk_Positions s hok (d:Int)
 have hall:=wa_all hok (d:Int)
 have hlen:=pos_len hok (d:Int)
 generalize posL s.ds s.B (d:Int)=P at*
 unfold bdS
 repeat' ((conv=>whnf);first|refine vcall_o (l:= [0,5,6,7,8,9,10,11,12,13,14,15,16,17,18,19,20,21,22,23]) (c) ?_|refine vcallD_o (l:= [0,5,6,7,8,9,10,11,12,13,14,15,16,17,18,19,20,21,22,23]) (c) ?_|((first|apply br_dec|apply br_ndec)<;>intro h<;>try (exfalso;(try dsimp only at h);omega))|((first|apply br_seq|apply br_nseq|apply br_not|apply br_intro)<;>intro h)|refine cond_a ?_)
 all_goals (conv=>whnf)
 all_goals first
  |(exfalso;omega)
  |skip
 refine vloop_of (bdI s d P) (fun k=>k≤P.length) (fun k=>P.length-k) 0 [0,1,2,3,4,5,24,7,8,9,25,11,12,13,26,15,16,17,18,19,20,27,28,29,30] [] ⟨rfl,⟨rfl,rfl,rfl,rfl,rfl,trivial⟩,⟨rfl,gwk rfl,rfl,rfl,rfl,rfl,rfl,rfl,rfl,rfl,rfl,rfl,rfl,rfl,rfl,rfl,rfl,rfl,rfl,rfl,rfl,trivial⟩⟩ (Nat.zero_le _) ?_
 intro k hk
 by_cases hk2:k<P.length
 ·have hW:=wa_succ (l:=(pxOf P).a) (k:=k) (by show k<(P.map Px.a).length;rw [List.length_map];exact hk2)
  unfold bdI
  repeat' ((conv=>whnf);first|((first|apply br_dec|apply br_ndec)<;>intro h<;>try (exfalso;(try dsimp only at h);omega))|((first|apply br_seq|apply br_nseq|apply br_not|apply br_intro)<;>intro h)|refine cond_a ?_)
  all_goals (conv=>whnf)
  all_goals first
   |(exfalso;omega)
   |exact ⟨k+1,[0,1,2,3,4,5,6,7,8,9,10,11,12,13,14,15,16,17,18,19,20,21,22,23,24],[],(show k+1≤P.length by omega),(show P.length-(k+1)<P.length-k by omega),⟨rfl,⟨rfl,rfl,rfl,congrArg (fun z=>some (SV.int .i64 z)) hW,congrArg (fun z=>some (SV.int .i64 z)) (i64_succ (by omega)),trivial⟩,⟨rfl,gwk rfl,rfl,rfl,rfl,rfl,rfl,rfl,rfl,rfl,rfl,rfl,rfl,rfl,rfl,rfl,rfl,rfl,rfl,rfl,rfl,trivial⟩⟩⟩
   |trace_state
 have ek:k=P.length:=by omega
 subst ek
 unfold bdI
 rw [hall]
 repeat' ((conv=>whnf);first|((first|apply br_dec|apply br_ndec)<;>intro h<;>try (exfalso;(try dsimp only at h);omega))|((first|apply br_seq|apply br_nseq|apply br_not|apply br_intro)<;>intro h)|refine cond_a ?_)
 all_goals (conv=>whnf)
 all_goals first
  |(exfalso;omega)
  |(exfalso;exact h rfl)
  |exact hK _ ⟨d+1,[0,1,2,3,4,5,6,7,8,9,10,11,12,13,14,15,16,17,18,19,20,21,22,23],[],by omega,by omega,⟨rfl,⟨rfl,congrArg (fun z=>some (SV.int .i64 z)) (i64_succ (by omega)),trivial⟩,⟨gwk rfl,rfl,rfl,rfl,rfl,rfl,rfl,rfl,rfl,rfl,rfl,rfl,rfl,rfl,rfl,rfl,rfl,rfl,rfl,rfl,trivial⟩⟩⟩
  |trace_state
theorem law_Zero (L:List ByteArray) (n:Nat) (hL:L.length=n) (cur:ByteArray) (H:List Int) (m:Nat) (hH:H.length=m) (cut days:Int) (Q:Oq):FC Tryz.prog 4 3 [.agg [.sl 1 0 0 n,.str cur,.sl 2 0 0 m,.int .i64 cut,.int .i64 days],.sl 3 0 0 Q.n] [(0,some (GB glT)),(1,some (.one true (.cols n [.sc (.strs L)]))),(2,some (.one true (.cols m [.sc (.ints .i64 H)]))),(3,some (.one true Q.b))] (isOut (.bool true) [] 4):=by
 have cA:=law_awake
 by_cases he:bkE cur days H m cut L≠0
 ·have c1:=bk_New_no cur days cut L n H m hL hH he
  generalize bkE cur days H m cut L=E at*
  refine fc_of mixed T_ok Tryz.func3 rfl (by kernel_rfl) (by kernel_rfl) (by kernel_rfl) ?_
  repeat' ((conv=>whnf);first|refine vcall_o (l:= [0,1,2]) (c1) ?_|refine vcallD_o (l:= [0,1,2]) (c1) ?_|(refine vcall_glob (cA) rfl rfl rfl rfl ?_)|(refine vcallD_glob (cA) rfl rfl rfl rfl ?_)|((first|apply br_dec|apply br_ndec)<;>intro h<;>try (exfalso;(try dsimp only at h);omega))|((first|apply br_seq|apply br_nseq|apply br_not|apply br_intro)<;>intro h)|refine cond_a ?_)
  all_goals (conv=>whnf)
  all_goals first
   |(exfalso;omega)
   |(exfalso;exact he h)
   |exact ret_out (l:= [0,1,2,3]) rfl rfl trivial allRw_nil
   |trace_state
 have he:bkE cur days H m cut L=0:=by omega
 have c1:=bk_New_ok cur days cut L n H m hL hH he
 have hok:=bk1_ok he
 have hpr:(bk1 cur days H cut L).pr=L:=rfl
 have hn16:=(nw_ok hok.err).1
 rw [hpr] at hn16
 generalize bk1 cur days H cut L=s0 at*
 refine fc_of mixed T_ok Tryz.func3 rfl (by kernel_rfl) (by kernel_rfl) (by kernel_rfl) ?_
 repeat' ((conv=>whnf);first|refine vcall_o (l:= [0,1,2]) (c1) ?_|refine vcallD_o (l:= [0,1,2]) (c1) ?_|((first|apply br_dec|apply br_ndec)<;>intro h<;>try (exfalso;(try dsimp only at h);omega))|((first|apply br_seq|apply br_nseq|apply br_not|apply br_intro)<;>intro h)|refine cond_a ?_)
 all_goals (conv=>whnf)
 all_goals first
  |(exfalso;omega)
  |(exfalso;exact h rfl)
  |skip
 refine vloop_of (bzS L n cur m cut days Q) (fun x=>x.1≤40∧BkOk x.2∧x.2.pr=L) (fun x=>40-x.1) (0,s0) [0,1,2,3,4,5,6,7,8,9,10,11,12,13,14,15,16,17,18,19,20,21,22,23] [] ⟨rfl,⟨rfl,rfl,rfl,rfl,trivial⟩,⟨gwk rfl,rfl,rfl,rfl,rfl,rfl,rfl,rfl,rfl,rfl,rfl,rfl,rfl,rfl,rfl,rfl,rfl,rfl,rfl,rfl,rfl,rfl,rfl,trivial⟩⟩ ⟨Nat.zero_le _,hok,hpr⟩ ?_
 rintro ⟨i,s⟩ ⟨hi,hs,hp⟩
 dsimp only at hi hs hp
 by_cases hi2:i<Q.n∧i<40
 ·exact bz_round L n hL cur m cut days Q i s hs hp hi2.1 hi2.2 _ (fun v hv=>hv)
 unfold bzS
 dsimp only
 repeat' ((conv=>whnf);first|((first|apply br_dec|apply br_ndec)<;>intro h<;>try (exfalso;(try dsimp only at h);omega))|((first|apply br_seq|apply br_nseq|apply br_not|apply br_intro)<;>intro h)|refine cond_a ?_)
 all_goals (conv=>whnf)
 all_goals first
  |(exfalso;omega)
  |skip
 all_goals
  refine vloop_of (bdS s) (fun d=>d≤40) (fun d=>40-d) 0 [0,1,2,3,4,5,6,7,8,9,10,11,12,13,14,15,16,17,18,19,20,21,22,23] [] ⟨rfl,⟨rfl,rfl,trivial⟩,⟨gwk rfl,rfl,rfl,rfl,rfl,rfl,rfl,rfl,rfl,rfl,rfl,rfl,rfl,rfl,rfl,rfl,rfl,rfl,rfl,rfl,trivial⟩⟩ (Nat.zero_le _) ?_
  intro d hd
  by_cases hd2:d<40
  ·exact bd_round s hs d hd2 _ (fun v hv=>hv)
  obtain rfl:d=40:=by omega
  unfold bdS
  repeat' ((conv=>whnf);first|(refine vcall_glob (cA) rfl rfl rfl rfl ?_)|(refine vcallD_glob (cA) rfl rfl rfl rfl ?_)|((first|apply br_dec|apply br_ndec)<;>intro h<;>try (exfalso;(try dsimp only at h);omega))|((first|apply br_seq|apply br_nseq|apply br_not|apply br_intro)<;>intro h)|refine cond_a ?_)
  all_goals (conv=>whnf)
  all_goals first
   |(exfalso;omega)
   |exact ret_out (l:= [0,1,2,3]) rfl rfl trivial allRw_nil
   |trace_state
end Go.Proofs.YthmggifndkcboaaGreatDoor
