/- Several texts in one: XPosP, XPosS, XCyA, XCyB, XCyC, XCyD, XCyE, XCyF, XLgP, XChk, XLgQ, XBkQ, XBkR, XBkA, XAuC, XAuC2, XLgA, XBld, XBldC, XLgB, XLgC, XLgD, XLgE, XLgF, XBkB. -/
import Derived.Test.YtlankgapiecloaaGreatDoorBr1
import Derived.Test.YtlankgapiecloaaGreatDoorYLaw
import Derived.Test.YtlankgapiecloaaGreatDoorYLaid
import Derived.Test.YtlankgapiecloaaGreatDoorYArg
import Derived.Test.YtlankgapiecloaaGreatDoorYFam
import Derived.Test.YtlankgapiecloaaGreatDoorLay
import Derived.Test.YtlankgapiecloaaGreatDoorYRen
import Derived.Test.YtlankgapiecloaaGreatDoorYPlain
import Derived.Test.YtlankgapiecloaaGreatDoorTab
import Derived.Test.YtlankgapiecloaaGreatDoorYBag
import Derived.Test.YtlankgapiecloaaGreatDoorYNil
import Derived.WalkKit
import Derived.Lib.Builder
import Derived.Lib.AppendStr
import Derived.Lib.UnsafeStr
import Derived.Lib.Strings
import Derived.Lib.Slices
import Derived.Lib.Walk
import Derived.Shelf.RegionOpenPlain
import Derived.Test.YtlankgapiecloaaGreatDoorYCalls
import Derived.Test.YtlankgapiecloaaGreatDoorYOwn
import Derived.Test.YtlankgapiecloaaGreatDoorYMem
import Derived.Test.YtlankgapiecloaaGreatDoorYMeth
namespace Go.Proofs.YtlankgapiecloaaGreatDoor
open Go.RowKit Go.Sy
attribute [local irreducible] vcall vloop vcallD retP
set_option maxRecDepth 100000
set_option linter.unusedVariables false
set_option linter.unusedSimpArgs false
end Go.Proofs.YtlankgapiecloaaGreatDoor
namespace Go.Proofs.YtlankgapiecloaaGreatDoor
open Go.RowKit Go.Sy
attribute [local irreducible] vcall vloop vcallD retP
set_option maxRecDepth 100000
set_option linter.unusedVariables false
set_option linter.unusedSimpArgs false
theorem pos_NewA (ps:List ByteArray) (n:Nat) (hl:ps.length=n):FC Tryz.prog 2 34 [.sl 1 0 0 n] [(1,some (.one true (.cols n [.sc (.strs ps)])))] (nwOut ps):=by
 by_cases h16:16<n
 ·unfold nwOut nwErr
  rw [hl,if_pos h16,if_pos (by decide)]
  refine fc_of mixed T_ok Tryz.func34 rfl (by kernel_rfl) (by kernel_rfl) (by kernel_rfl) ?_
  repeat' ((conv=>whnf);first|((first|apply br_dec|apply br_ndec)<;>intro h<;>try (exfalso;(try dsimp only at h);omega))|((first|apply br_seq|apply br_nseq|apply br_not|apply br_intro)<;>intro h)|refine cond_a ?_)
  all_goals (conv=>whnf)
  all_goals first
   |exact ret_out (l:= [0,1]) rfl rfl trivial allRw_nil
   |(exfalso;omega)
   |trace_state
 ·exact pos_New ps n hl (by omega)
theorem nwK_mono {ps:List ByteArray}:∀{n k:Nat},nwK ps n=0→k≤n→nwK ps k=0
 |0,k,h,hk=>by rw [show k=0 by omega];rfl
 |n+1,k,h,hk=>by
  have h0:nwK ps n=0:=by
   simp only [nwK] at h
   by_cases q:nwK ps n=0
   ·exact q
   ·rw [if_pos q] at h;exact h
  by_cases e:k=n+1
  ·rw [e];exact h
  ·exact nwK_mono h0 (by omega)
theorem nw_ok {ps:List ByteArray} (h:nwErr ps=0):ps.length≤16∧ps.Nodup∧∀s∈ps,nmB s=true:=by
 unfold nwErr at h
 split at h
 ·cases h
 ·have hE:∀k,k<ps.length→nwE ps k=0:=fun k hk=>by
   have h1:=nwK_mono h (show k+1≤ps.length from hk)
   have h0:=nwK_mono h (show k≤ps.length by omega)
   simp only [nwK] at h1
   rwa [if_neg (by simpa using h0)] at h1
  refine ⟨by omega,?_,fun s hs=> ?_⟩
  ·refine List.pairwise_iff_getElem.2 fun i j hi hj hij e=> ?_
   have:=hE j hj
   unfold nwE at this
   split at this
   ·cases this
   ·split at this
    ·cases this
    ·rename_i g
     have gj:ps.getD j ⟨#[]⟩=ps[j]:=by rw [List.getD,List.getElem?_eq_getElem hj];rfl
     have hm:ps[j]∈ps.take j:=by
      rw [←e]
      exact List.mem_iff_getElem.2 ⟨i,by rw [List.length_take];omega,by rw [List.getElem_take]⟩
     have hlt:=Go.Sy.sidx_lt.2 hm
     rw [List.length_take,Nat.min_eq_left (by omega)] at hlt
     rw [gj] at g
     unfold idI at g
     rw [if_pos hlt] at g
     omega
  ·obtain ⟨k,hk,rfl⟩:=List.getElem_of_mem hs
   have:=hE k hk
   unfold nwE at this
   have gj:ps.getD k ⟨#[]⟩=ps[k]:=by rw [List.getD,List.getElem?_eq_getElem hk];rfl
   rw [gj] at this
   cases q:nmB ps[k] with
   |true=>rfl
   |false=>rw [q,if_pos rfl] at this;cases this
theorem nwB_I {ps:List ByteArray} (h:nwErr ps=0):BkI (nwB ps) 0:=by
 have hr:∀c,(nwB ps).row c=z16:=fun c=>rfl
 refine ⟨⟨rfl,rfl,List.nodup_nil⟩,(nw_ok h).1,sortS_length ps,fun c q=>absurd q (List.not_mem_nil),fun c q=>absurd q (List.not_mem_nil),fun c=>rfl,fun c j=> ?_,fun c=>rfl,fun c j _=> ?_⟩
 ·rw [hr,z16_get];decide
 ·rw [hr,z16_get]
abbrev bkX (ro:Bool) (np:Nat) (ps:List ByteArray) (b:Bk):Heap:= [(1,bkC true 2 3 np),(2,some (.one true (.cols np [.sc (.strs ps)]))),(3,bkM ro b)]
theorem pos_MoveX {b:Bk} (h:BkI b 4503599627370496) {np:Nat} {ps:List ByteArray} (hn:b.n=np) (hp:b.ps=ps) (f t c:ByteArray) (a:Int):FC Tryz.prog 4 191 [.ptr 1 0 0 0,.str f,.str t,.agg [.int .i64 a,.str c]] (bkX false np ps b) (isOut (.int .i64 (mvE b f t c a)) [(3,bkM false (b.mv f t c a))] 4):=by
 subst hn hp;exact pos_Move b (h.ok (Int.le_refl _)) f t c a
theorem pos_ListX {b:Bk} (h:BkI b 4503599627370496) {np:Nat} {ps:List ByteArray} (hn:b.n=np) (hp:b.ps=ps) (hm:b.m≤100000):FC Tryz.prog 4 50 [.ptr 1 0 0 0] (bkX true np ps b) (isOut (.sl 4 0 0 b.list.length) [(4,some (.one false (pxB b.list.length (pxOf b.list))))] 5):=by
 subst hn hp;exact pos_List b (h.ok (Int.le_refl _)) (h.cok hm)
theorem BkI.up {b:Bk} {B B':Int} (h:BkI b B) (hB:B≤B'):BkI b B':=by
 have g:=h.rb
 exact ⟨h.C,h.n16,h.psl,h.nz,h.c3,h.rl,fun c j=>by have:=g c j;omega,h.rs,h.rt⟩
end Go.Proofs.YtlankgapiecloaaGreatDoor
namespace Go.Proofs.YtlankgapiecloaaGreatDoor
open Go.RowKit Go.Sy
attribute [local irreducible] vcall vloop vcallD retP
set_option maxRecDepth 100000
set_option linter.unusedVariables false
set_option linter.unusedSimpArgs false
theorem segs_all {α:Type} {l:List α} {n:Nat} (h:l.length=n):seg 0 n l=l:=by
 unfold seg;rw [List.drop_zero,List.take_of_length_le (by omega)]
theorem str_Clone (n:Nat) (l:List ByteArray) (hl:l.length=n) (hn:n≤1000000):FC Tryz.prog 2 35 [.sl 1 0 0 n] [(1,some (.one true (.cols n [.sc (.strs l)])))] (isOut (.sl 2 0 0 n) [(2,some (.one false (.cols n [.sc (.strs l)])))] 3):=by
 cases n with
 |zero=>
  obtain rfl:=List.eq_nil_of_length_eq_zero hl
  refine fc_nil rfl ?_
  refine fc_of mixed T_ok Tryz.func35 rfl (by kernel_rfl) (by kernel_rfl) (by kernel_rfl) ?_
  repeat' ((conv=>whnf);first|((first|apply br_dec|apply br_ndec)<;>intro h<;>try (exfalso;(try dsimp only at h);omega))|((first|apply br_seq|apply br_nseq|apply br_not|apply br_intro)<;>intro h)|refine cond_a ?_|(refine And.intro ?_ ?_))
  all_goals (conv=>whnf)
  all_goals first
   |exact retP_mono (fun _ _ _ h=> .inl h) (ret_out (l:= [0,1]) rfl rfl trivial allRw_nil)
   |exact retP_mono (fun _ _ _ h=> .inr h) (ret_out (l:= [0,1,3]) rfl rfl ⟨rfl,trivial⟩ (allRw_cons allRw_nil))
   |decide
 |succ n=>
  refine fc_of mixed T_ok Tryz.func35 rfl (by kernel_rfl) (by kernel_rfl) (by kernel_rfl) ?_
  repeat' ((conv=>whnf);first|((first|apply br_dec|apply br_ndec)<;>intro h<;>try (exfalso;(try dsimp only at h);omega))|((first|apply br_seq|apply br_nseq|apply br_not|apply br_intro)<;>intro h)|refine cond_a ?_)
  all_goals (conv=>whnf)
  all_goals (rw [Nat.zero_add (n+1),segs_all hl];exact ret_out (l:= [0,1,3]) rfl rfl ⟨rfl,trivial⟩ (allRw_cons allRw_nil))
abbrev bk0:Bk:=⟨0,[],0,[],[],[],0⟩
abbrev bkMb (b:Bk):Blk:= .obj (.map false false b.m [.strs b.cs] [.arrs 16 .i64 b.vs] b.bs b.ck)
abbrev cyC (ro:Bool) (hc hp hb hd np:Nat) (cut:Int):Option HB:=some (.one ro (.cells [.ptr hc 0 0 0,.int .i64 cut,.sl hp 0 0 np,.map hb 0,.map hd 0]))
abbrev cyP (ro:Bool) (n:Nat) (ps:List ByteArray):Option HB:=some (.one ro (.cols n [.sc (.strs ps)]))
abbrev cyB (ro:Bool) (h m:Nat) (ds:List Int):Option HB:=some (.one ro (.obj (.map false false m [.ints .i64 ds] [.ptrs h m] (List.range m) m)))
def f7 (hp hm np:Nat) (x:Nat):Blk:= .cells [.sl hp x 0 np,.map hm x]
def f8 (np:Nat) (sp:List ByteArray) (x:Nat):Blk:= .cols np [.sc (.strs sp)]
def f9 (B:List Bk) (x:Nat):Blk:=bkMb (B.getD x bk0)
abbrev fmB (ro:Bool) (m:Nat) (f:Nat→Blk):Option HB:=some (.fam ro (fun x=>x<m) f)
def cnE (cut:Int) (ps:List ByteArray):Int:=if cut<0∨86400<cut then 4 else nwErr ps
def cnO (cut:Int) (ps:List ByteArray) (n:Nat):SV→Heap→Nat→Prop:=if cnE cut ps=0 then isOut (.tup [.ptr 3 0 0 0,.int .i64 0]) [(3,cyC false 1 4 5 6 n cut),(4,cyP false n ps),(5,cyB false 7 0 []),(6,tmM false 0 []),(7,fmB false 0 (f7 8 9 n)),(8,fmB false 0 (f8 n (sortS ps))),(9,fmB false 0 (f9 []))] 10 else isOut (.tup [.nptr,.int .i64 (cnE cut ps)]) [] 3
theorem cy_New (cut:Int) (ps:List ByteArray) (n:Nat) (hl:ps.length=n):FC Tryz.prog 3 16 [.ptr 1 0 0 0,.int .i64 cut,.sl 2 0 0 n] [(2,some (.one true (.cols n [.sc (.strs ps)])))] (cnO cut ps n):=by
 have c1:=pos_NewA ps n hl
 unfold cnO cnE
 by_cases h:cut<0∨86400<cut
 ·rw [if_pos h,if_neg (by decide)]
  refine fc_of mixed T_ok Tryz.func16 rfl (by kernel_rfl) (by kernel_rfl) (by kernel_rfl) ?_
  repeat' ((conv=>whnf);first|((first|apply br_dec|apply br_ndec)<;>intro h<;>try (exfalso;(try dsimp only at h);omega))|((first|apply br_seq|apply br_nseq|apply br_not|apply br_intro)<;>intro h)|refine cond_a ?_)
  all_goals (conv=>whnf)
  all_goals first
   |exact ret_out (l:= [0,1,2]) rfl rfl trivial allRw_nil
   |(exfalso;omega)
   |trace_state
 rw [if_neg h]
 unfold nwOut at c1
 by_cases he:nwErr ps=0
 ·rw [if_neg (by rw [he];simp)] at c1
  rw [if_pos he]
  have c2:=str_Clone n ps hl (by have:=(nw_ok he).1;omega)
  refine fc_of mixed T_ok Tryz.func16 rfl (by kernel_rfl) (by kernel_rfl) (by kernel_rfl) ?_
  repeat' ((conv=>whnf);first|refine vcall_o (l:= [0,2]) (c1) ?_|refine vcall_o (l:= [0,2]) (c2) ?_|((first|apply br_dec|apply br_ndec)<;>intro h<;>try (exfalso;(try dsimp only at h);omega))|((first|apply br_seq|apply br_nseq|apply br_not|apply br_intro)<;>intro h)|refine cond_a ?_)
  all_goals (conv=>whnf)
  all_goals first
   |(exfalso;omega)
   |exact ret_up (l:= [0,1,2,9,6,7,8,10,11,12]) [.relab (fun _ _=>none) (fun _=>0) ((7,cyB false 10 0 [])::gdN 10 0 0 [⟨0,0,f7 11 12 n⟩,⟨0,0,f8 n (sortS ps)⟩,⟨0,0,f9 []⟩]) [] 3] ⟨relab_none (n:=10) (th:=7) [⟨0,0,f7 11 12 n⟩,⟨0,0,f8 n (sortS ps)⟩,⟨0,0,f9 []⟩] (by decide) rfl (ble_map1 rfl (fun i hi=>by omega)),rfl,rfl,⟨rfl,rfl,rfl,rfl,rfl,rfl,rfl,trivial⟩⟩ (allRw_cons (allRw_cons (allRw_cons (allRw_cons (allRw_fam (allRw_fam (allRw_fam allRw_nil)))))))
   |trace_state
 ·rw [if_pos he] at c1
  rw [if_neg he]
  generalize nwErr ps=e at*
  refine fc_of mixed T_ok Tryz.func16 rfl (by kernel_rfl) (by kernel_rfl) (by kernel_rfl) ?_
  repeat' ((conv=>whnf);first|refine vcall_o (l:= [0,2]) (c1) ?_|((first|apply br_dec|apply br_ndec)<;>intro h<;>try (exfalso;(try dsimp only at h);omega))|((first|apply br_seq|apply br_nseq|apply br_not|apply br_intro)<;>intro h)|refine cond_a ?_)
  all_goals (conv=>whnf)
  all_goals first
   |exact ret_out (l:= [0,1,2]) rfl rfl trivial allRw_nil
   |(exfalso;omega)
   |trace_state
end Go.Proofs.YtlankgapiecloaaGreatDoor
namespace Go.Proofs.YtlankgapiecloaaGreatDoor
open Go.RowKit Go.Sy
attribute [local irreducible] vcall vloop vcallD retP
set_option maxRecDepth 100000
set_option linter.unusedVariables false
set_option linter.unusedSimpArgs false
theorem nxK_ok (p:Int→Bool):∀(k:Nat) (d:Int),nxK p k d<0∨(d≤nxK p k d∧nxK p k d<d+(k:Int)∧p (nxK p k d)=true)
 |0,d=> .inl (by simp [nxK])
 |k+1,d=>by
  simp only [nxK]
  split
  ·rename_i h
   exact .inr ⟨by omega,by omega,h⟩
  ·rcases nxK_ok p k (d+1) with h|⟨h1,h2,h3⟩
   ·exact .inl h
   ·exact .inr ⟨by omega,by omega,h3⟩
theorem nxI_ok {hs:List Int} {d:Int} (h:¬nxI hs d<0):d≤nxI hs d∧nxI hs d≤99999∧busB hs (nxI hs d)=true:=by
 rcases nxK_ok (busB hs) (100000-d).toNat d with q|⟨h1,h2,h3⟩
 ·exact absurd q h
 ·have h4:=h3
  unfold busB at h4
  simp only [Bool.and_eq_true] at h4
  exact ⟨h1,(isD_yes.1 h4.1).2,h3⟩
def ofI (hs:List Int) (cut t:Int):Int:=if dayI t<0 then-1 else if busB hs (dayI t)=true∧secI t<cut then dayI t else nxI hs (dayI t+1)
def ofV (x:Int):SV:=if x<0 then .tup [.int .i64 0,.int .i64 14] else .tup [.int .i64 x,.int .i64 0]
abbrev cyR (np hn:Nat) (cut:Int) (hs:List Int):Heap:= [(1,cyC true 2 4 5 6 np cut),(2,calC true 3),(3,tmM true hn hs)]
theorem cy_later (np hn:Nat) (cut:Int) (hs:List Int) (hh:hs.length=hn) (d:Int) (hd:0≤d) (hd2:d≤99999):FC Tryz.prog 10 189 [.ptr 1 0 0 0,.int .i64 d] (cyR np hn cut hs) (isOut (ofV (nxI hs (d+1))) [] 10):=by
 have e:IntKind.i64.wrap (d+1)=d+1:=w64_in (by omega) (by omega)
 have c:=cal_Next hn hs hh (d+1)
 have hv:(if isD (d+1)=true then nxV (nxI hs (d+1)) else nxV (-1))=nxV (nxI hs (d+1)):=by
  cases h:isD (d+1) with
  |true=>rw [if_pos rfl]
  |false=>rw [if_neg (by simp),nxI_end (by have:=isD_no.1 h;omega)]
 rw [hv] at c
 unfold nxV at c
 unfold ofV
 by_cases h:nxI hs (d+1)<0
 ·rw [if_pos h] at c⊢
  refine fc_of mixed T_ok Tryz.func189 rfl (by kernel_rfl) (by kernel_rfl) (by kernel_rfl) ?_
  repeat' ((conv=>whnf);first|(simp only [e])|refine vcall_o (l:= [0,2,3]) (c) ?_|((first|apply br_dec|apply br_ndec)<;>intro h<;>try (exfalso;(try dsimp only at h);omega))|((first|apply br_seq|apply br_nseq|apply br_not|apply br_intro)<;>intro h)|refine cond_a ?_)
  all_goals (conv=>whnf)
  all_goals first
   |exact ret_out (l:= [0,1,2,3,4,5,6,7,8,9]) rfl rfl trivial allRw_nil
   |(exfalso;omega)
   |trace_state
 ·rw [if_neg h] at c⊢
  refine fc_of mixed T_ok Tryz.func189 rfl (by kernel_rfl) (by kernel_rfl) (by kernel_rfl) ?_
  repeat' ((conv=>whnf);first|(simp only [e])|refine vcall_o (l:= [0,2,3]) (c) ?_|((first|apply br_dec|apply br_ndec)<;>intro h<;>try (exfalso;(try dsimp only at h);omega))|((first|apply br_seq|apply br_nseq|apply br_not|apply br_intro)<;>intro h)|refine cond_a ?_)
  all_goals (conv=>whnf)
  all_goals first
   |exact ret_out (l:= [0,1,2,3,4,5,6,7,8,9]) rfl rfl trivial allRw_nil
   |(exfalso;omega)
   |trace_state
theorem dayI_ok {t:Int} (h:¬dayI t<0):okT t=true∧0≤dayI t∧dayI t≤99999∧0≤secI t:=by
 unfold dayI secI at*
 by_cases q:okT t=true
 ·rw [if_pos q] at h⊢
  rw [if_pos q]
  have:=isD_yes.1 (okT_yes.1 q).2.2
  exact ⟨q,this.1,this.2,by omega⟩
 ·rw [if_neg q] at h;omega
theorem cy_Of (np hn:Nat) (cut:Int) (hs:List Int) (hh:hs.length=hn) (t:Int):FC Tryz.prog 10 188 [.ptr 1 0 0 0,.int .i64 t] (cyR np hn cut hs) (isOut (ofV (ofI hs cut t)) [] 10):=by
 have c1:=cal_Day t
 unfold ofI
 by_cases h:dayI t<0
 ·rw [if_pos h]
  generalize dayI t=d at*
  refine fc_of mixed T_ok Tryz.func188 rfl (by kernel_rfl) (by kernel_rfl) (by kernel_rfl) ?_
  repeat' ((conv=>whnf);first|(refine vcall_pure (c1) rfl rfl rfl ?_)|(refine vcallD_pure (c1) rfl rfl rfl ?_)|((first|apply br_dec|apply br_ndec)<;>intro h<;>try (exfalso;(try dsimp only at h);omega))|((first|apply br_seq|apply br_nseq|apply br_not|apply br_intro)<;>intro h)|refine cond_a ?_)
  all_goals (conv=>whnf)
  all_goals first
   |exact ret_out (l:= [0,1,2,3,4,5,6,7,8,9]) rfl rfl trivial allRw_nil
   |(exfalso;omega)
   |trace_state
 ·have hd:=dayI_ok h
  rw [if_neg h]
  have c2:=cal_Business hn hs hh (dayI t)
  have c3:=cy_later np hn cut hs hh (dayI t) hd.2.1 hd.2.2.1
  generalize dayI t=d at*
  generalize secI t=s at*
  cases hb:busB hs d with
  |true=>
   rw [hb] at c2
   by_cases hq:s<cut
   ·rw [if_pos ⟨rfl,hq⟩]
    unfold ofV
    rw [if_neg h]
    refine fc_of mixed T_ok Tryz.func188 rfl (by kernel_rfl) (by kernel_rfl) (by kernel_rfl) ?_
    repeat' ((conv=>whnf);first|(refine vcall_pure (c1) rfl rfl rfl ?_)|(refine vcallD_pure (c1) rfl rfl rfl ?_)|refine vcall_o (l:= [0,2,3]) (c2) ?_|refine vcallD_o (l:= [0,2,3]) (c2) ?_|((first|apply br_dec|apply br_ndec)<;>intro h<;>try (exfalso;(try dsimp only at h);omega))|((first|apply br_seq|apply br_nseq|apply br_not|apply br_intro)<;>intro h)|refine cond_a ?_)
    all_goals (conv=>whnf)
    all_goals first
     |exact ret_out (l:= [0,1,2,3,4,5,6,7,8,9]) rfl rfl trivial allRw_nil
     |(exfalso;omega)
     |trace_state
   ·rw [if_neg (fun w=>hq w.2)]
    unfold ofV at c3⊢
    by_cases hx:nxI hs (d+1)<0
    ·rw [if_pos hx] at c3⊢
     refine fc_of mixed T_ok Tryz.func188 rfl (by kernel_rfl) (by kernel_rfl) (by kernel_rfl) ?_
     repeat' ((conv=>whnf);first|(refine vcall_pure (c1) rfl rfl rfl ?_)|(refine vcallD_pure (c1) rfl rfl rfl ?_)|refine vcall_o (l:= [0,2,3]) (c2) ?_|refine vcallD_o (l:= [0,2,3]) (c2) ?_|refine vcall_o (l:= [0,1,2,3,4,5,6,7,8,9]) (c3) ?_|refine vcallD_o (l:= [0,1,2,3,4,5,6,7,8,9]) (c3) ?_|((first|apply br_dec|apply br_ndec)<;>intro h<;>try (exfalso;(try dsimp only at h);omega))|((first|apply br_seq|apply br_nseq|apply br_not|apply br_intro)<;>intro h)|refine cond_a ?_)
     all_goals (conv=>whnf)
     all_goals first
      |exact ret_out (l:= [0,1,2,3,4,5,6,7,8,9]) rfl rfl trivial allRw_nil
      |(exfalso;omega)
      |trace_state
    ·rw [if_neg hx] at c3⊢
     refine fc_of mixed T_ok Tryz.func188 rfl (by kernel_rfl) (by kernel_rfl) (by kernel_rfl) ?_
     repeat' ((conv=>whnf);first|(refine vcall_pure (c1) rfl rfl rfl ?_)|(refine vcallD_pure (c1) rfl rfl rfl ?_)|refine vcall_o (l:= [0,2,3]) (c2) ?_|refine vcallD_o (l:= [0,2,3]) (c2) ?_|refine vcall_o (l:= [0,1,2,3,4,5,6,7,8,9]) (c3) ?_|refine vcallD_o (l:= [0,1,2,3,4,5,6,7,8,9]) (c3) ?_|((first|apply br_dec|apply br_ndec)<;>intro h<;>try (exfalso;(try dsimp only at h);omega))|((first|apply br_seq|apply br_nseq|apply br_not|apply br_intro)<;>intro h)|refine cond_a ?_)
     all_goals (conv=>whnf)
     all_goals first
      |exact ret_out (l:= [0,1,2,3,4,5,6,7,8,9]) rfl rfl trivial allRw_nil
      |(exfalso;omega)
      |trace_state
  |false=>
   rw [hb] at c2
   rw [if_neg (fun w=>by simp at w)]
   unfold ofV at c3⊢
   by_cases hx:nxI hs (d+1)<0
   ·rw [if_pos hx] at c3⊢
    refine fc_of mixed T_ok Tryz.func188 rfl (by kernel_rfl) (by kernel_rfl) (by kernel_rfl) ?_
    repeat' ((conv=>whnf);first|(refine vcall_pure (c1) rfl rfl rfl ?_)|(refine vcallD_pure (c1) rfl rfl rfl ?_)|refine vcall_o (l:= [0,2,3]) (c2) ?_|refine vcallD_o (l:= [0,2,3]) (c2) ?_|refine vcall_o (l:= [0,1,2,3,4,5,6,7,8,9]) (c3) ?_|refine vcallD_o (l:= [0,1,2,3,4,5,6,7,8,9]) (c3) ?_|((first|apply br_dec|apply br_ndec)<;>intro h<;>try (exfalso;(try dsimp only at h);omega))|((first|apply br_seq|apply br_nseq|apply br_not|apply br_intro)<;>intro h)|refine cond_a ?_)
    all_goals (conv=>whnf)
    all_goals first
     |exact ret_out (l:= [0,1,2,3,4,5,6,7,8,9]) rfl rfl trivial allRw_nil
     |(exfalso;omega)
     |trace_state
   ·rw [if_neg hx] at c3⊢
    refine fc_of mixed T_ok Tryz.func188 rfl (by kernel_rfl) (by kernel_rfl) (by kernel_rfl) ?_
    repeat' ((conv=>whnf);first|(refine vcall_pure (c1) rfl rfl rfl ?_)|(refine vcallD_pure (c1) rfl rfl rfl ?_)|refine vcall_o (l:= [0,2,3]) (c2) ?_|refine vcallD_o (l:= [0,2,3]) (c2) ?_|refine vcall_o (l:= [0,1,2,3,4,5,6,7,8,9]) (c3) ?_|refine vcallD_o (l:= [0,1,2,3,4,5,6,7,8,9]) (c3) ?_|((first|apply br_dec|apply br_ndec)<;>intro h<;>try (exfalso;(try dsimp only at h);omega))|((first|apply br_seq|apply br_nseq|apply br_not|apply br_intro)<;>intro h)|refine cond_a ?_)
    all_goals (conv=>whnf)
    all_goals first
     |exact ret_out (l:= [0,1,2,3,4,5,6,7,8,9]) rfl rfl trivial allRw_nil
     |(exfalso;omega)
     |trace_state
end Go.Proofs.YtlankgapiecloaaGreatDoor
namespace Go.Proofs.YtlankgapiecloaaGreatDoor
open Go.RowKit Go.Sy
attribute [local irreducible] vcall vloop vcallD retP sortI
set_option maxRecDepth 100000
set_option linter.unusedVariables false
set_option linter.unusedSimpArgs false
theorem int_Sort (n:Nat) (l:List Int) (hn:n<4611686018427387904):FC Tryz.prog 2 162 [.sl 1 0 0 n] [(1,some (.one false (.cols n [.sc (.ints .i64 l)])))] (isOut (.tup []) [(1,some (.one false (.cols n [.sc (.ints .i64 (sortI l))])))] 2):=
 fc_sortI ⟨fun blk off cap ss W hH hblk hsz=>AnyM.slices_Sort_int Tryz.sortI blk off cap ss W hH hblk hsz,fun p cap W=>AnyM.slices_Sort_int_none Tryz.sortI p cap W⟩ (bodied_of Tryz.func162 (by kernel_rfl) (by kernel_rfl)) n l hn
def opL (ds cd:List Int) (sn:List Nat):List Int:=(sn.reverse.map (fun i=>ds.getD i 0)).filter (fun t=> !decide (t∈cd))
def openS (ds cd:List Int):List Int:=sortI (ds.filter (fun t=> !decide (t∈cd)))
theorem opL_yes {ds cd:List Int} {i:Nat} {sn:List Nat} (h:decide (ds.getD i 0∈cd)=false):opL ds cd (i::sn)=opL ds cd sn++ [ds.getD i 0]:=by
 unfold opL
 rw [List.reverse_cons,List.map_append,List.filter_append]
 simp only [List.map_cons,List.map_nil,List.filter_cons,List.filter_nil,h,Bool.not_false,if_true]
theorem opL_no {ds cd:List Int} {i:Nat} {sn:List Nat} (h:decide (ds.getD i 0∈cd)=true):opL ds cd (i::sn)=opL ds cd sn:=by
 unfold opL
 rw [List.reverse_cons,List.map_append,List.filter_append]
 simp only [List.map_cons,List.map_nil,List.filter_cons,List.filter_nil,h,Bool.not_true,Bool.false_eq_true,if_false,List.append_nil]
theorem opL_len (ds cd:List Int) (sn:List Nat):(opL ds cd sn).length≤sn.length:=by
 unfold opL
 refine Nat.le_trans (List.length_filter_le _ _) ?_
 simp
theorem opL_eq {m:Nat} {ds cd:List Int} {sn:List Nat} (hk:ds.length=m) (hd:sn.Nodup) (hl:∀i∈sn,i<m) (ha:∀i,i<m→i∈sn):sortI (opL ds cd sn)=openS ds cd:=by
 unfold openS opL
 refine sortI_congr (List.Perm.filter _ ?_)
 have:=((List.reverse_perm sn).trans (perm_range hd hl ha)).map (fun i=>ds.getD i 0)
 rwa [←hk,map_range_getD] at this
abbrev opR (np m nc:Nat) (cut:Int) (ds cd:List Int):Heap:= [(1,cyC true 2 4 5 6 np cut),(5,cyB true 7 m ds),(6,tmM true nc cd)]
theorem cy_Open (np m nc:Nat) (cut:Int) (ds cd:List Int) (hds:ds.length=m) (hcd:cd.length=nc) (hm:m≤100000):FC Tryz.prog 10 160 [.ptr 1 0 0 0] (opR np m nc cut ds cd) (isOut (.sl 10 0 0 (openS ds cd).length) [(10,some (.one false (.cols (openS ds cd).length [.sc (.ints .i64 (openS ds cd))])))] 11):=by
 refine fc_of mixed T_ok Tryz.func160 rfl (by kernel_rfl) (by kernel_rfl) (by kernel_rfl) ?_
 repeat' ((conv=>whnf);first|((first|apply br_dec|apply br_ndec)<;>intro h<;>try (exfalso;(try dsimp only at h);omega))|((first|apply br_seq|apply br_nseq|apply br_not|apply br_intro)<;>intro h)|refine cond_a ?_)
 all_goals (conv=>whnf)
 refine vloop_of (fun sn:List Nat=>⟨[(0,.ptr 1 0 0 0),(11,.ptr 10 0 0 0),(3,.sl 11 0 0 (opL ds cd sn).length)],(10,some (.one false (.obj (.iter 5 0 (List.range m) m sn))))::(11,some (.one false (.cols (opL ds cd sn).length [.sc (.ints .i64 (opL ds cd sn))])))::opR np m nc cut ds cd,12⟩) (fun sn=>sn.Nodup∧∀i∈sn,i<m) (fun sn=>m-sn.length) [] [0,1,2,3,4,5,6,7,8,9,10,11] [.slot 3 [.sc (.ints .i64 [])]] ⟨rfl,⟨rfl,rfl,rfl,trivial⟩,⟨rfl,rfl,rfl,rfl,rfl,trivial⟩⟩ ⟨List.nodup_nil,by simp⟩ ?_
 rintro sn ⟨hnd,hb⟩
 have hsl:=nodup_len _ sn hnd hb
 have htl:=opL_len ds cd sn
 have cs:=int_Sort (opL ds cd sn).length (opL ds cd sn) (by omega)
 have hg:∀d,(List.replicate nc true).getD (iidx cd d) false=decide (d∈cd):=tm_get hcd
 repeat' ((conv=>whnf);first|(refine ⟨⟨rfl,rfl⟩,fun i hi hni=> ?_,fun hall=> ?_⟩)|refine vcall_o (l:= [0,11]) (cs) ?_|((first|apply br_dec|apply br_ndec)<;>intro h<;>try (exfalso;(try dsimp only at h);omega))|((first|apply br_seq|apply br_nseq|apply br_not|apply br_intro)<;>intro h)|refine cond_a ?_)
 all_goals (conv=>whnf)
 all_goals (try simp only [hg] at h)
 ·have hlt:=nodup_cons_lt hnd hb hi hni
  refine ⟨i::sn,[0,1,2,3,4,5,6,7,8,9,10,13],[],⟨List.nodup_cons.2 ⟨hni,hnd⟩,fun x hx=> ?_⟩,by simp only [List.length_cons];omega,?_⟩
  ·rcases List.mem_cons.1 hx with rfl|hx
   ·exact hi
   ·exact hb x hx
  ·rw [opL_yes (by simpa using h),List.length_append]
   exact ⟨rfl,⟨rfl,rfl,rfl,trivial⟩,⟨rfl,rfl,rfl,rfl,rfl,trivial⟩⟩
 ·have hlt:=nodup_cons_lt hnd hb hi hni
  refine ⟨i::sn,[0,1,2,3,4,5,6,7,8,9,10,11],[],⟨List.nodup_cons.2 ⟨hni,hnd⟩,fun x hx=> ?_⟩,by simp only [List.length_cons];omega,?_⟩
  ·rcases List.mem_cons.1 hx with rfl|hx
   ·exact hi
   ·exact hb x hx
  ·rw [opL_no (by simpa using h)]
   exact ⟨rfl,⟨rfl,rfl,rfl,trivial⟩,⟨rfl,rfl,rfl,rfl,rfl,trivial⟩⟩
 ·have ed:=opL_eq (cd:=cd) hds hnd hb hall
  have el:(opL ds cd sn).length=(openS ds cd).length:=by rw [←ed,sortI_length]
  rw [ed,el]
  exact ret_out (l:= [0,1,2,3,4,5,6,7,8,9,11]) rfl rfl ⟨rfl,trivial⟩ (allRw_cons allRw_nil)
theorem pos_ListF {B:List Bk} {m i np:Nat} {sp:List ByteArray} (hi:i<m) (h:BkI (B.getD i bk0) 4503599627370496) (hn:(B.getD i bk0).n=np) (hp:(B.getD i bk0).ps=sp) (hm:(B.getD i bk0).m≤100000):FC Tryz.prog 4 50 [.ptr 1 i 0 0] [(1,fmB true m (f7 2 3 np)),(2,fmB true m (f8 np sp)),(3,fmB true m (f9 B))] (isOut (.sl 4 0 0 (B.getD i bk0).list.length) [(4,some (.one false (pxB (B.getD i bk0).list.length (pxOf (B.getD i bk0).list))))] 5):=by
 have c:=fc_fam [(1,⟨i,fun x=>x<m,f7 2 3 np⟩),(2,⟨i,fun x=>x<m,f8 np sp⟩),(3,⟨i,fun x=>x<m,f9 B⟩)] (by
  refine ⟨⟨by decide,by decide,_,_,rfl,hi,?_,.inl rfl⟩,⟨by decide,by decide,_,_,rfl,hi,rfl,.inl rfl⟩,⟨by decide,by decide,_,_,rfl,hi,rfl,.inl rfl⟩,trivial⟩
  show Blk.cells [.sl 2 i 0 np,.map 3 i]= .cells [.sl 2 (0+i) 0 np,.map 3 (0+i)]
  rw [Nat.zero_add]) (by exact ⟨rfl,rfl,rfl,trivial⟩) (by exact ⟨rfl,trivial⟩) (allRw_cons allRw_nil) (pos_ListX h hn hp hm)
 have e:SV.mems (fmu [(1,⟨i,fun x=>x<m,f7 2 3 np⟩),(2,⟨i,fun x=>x<m,f8 np sp⟩),(3,⟨i,fun x=>x<m,f9 B⟩)]) [.ptr 1 0 0 0]= [.ptr 1 i 0 0]:=by
  show [SV.ptr 1 (0+i) 0 0]=_
  rw [Nat.zero_add]
 rw [e] at c
 exact c
theorem pos_ListN:Pure Tryz.prog 50 [.nptr] .nsl:=by
 refine fc_of mixed T_ok Tryz.func50 rfl (by kernel_rfl) (by kernel_rfl) (by kernel_rfl) ?_
 repeat' ((conv=>whnf);first|((first|apply br_dec|apply br_ndec)<;>intro h<;>try (exfalso;(try dsimp only at h);omega))|((first|apply br_seq|apply br_nseq|apply br_not|apply br_intro)<;>intro h)|refine cond_a ?_)
 all_goals (conv=>whnf)
 all_goals exact ret_pure rfl
def posL (ds:List Int) (B:List Bk) (d:Int):List Px:=if d∈ds then (B.getD (iidx ds d) bk0).list else []
structure BksI (ds:List Int) (B:List Bk) (m np:Nat) (sp:List ByteArray):Prop where
 dl:ds.length=m
 bl:B.length=m
 nd:ds.Nodup
 I:∀i,i<m→BkI (B.getD i bk0) 4503599627370496∧(B.getD i bk0).n=np∧(B.getD i bk0).ps=sp∧(B.getD i bk0).m≤100000
abbrev psR (np m:Nat) (cut:Int) (ds:List Int) (B:List Bk) (sp:List ByteArray):Heap:= [(1,cyC true 2 4 5 6 np cut),(5,cyB true 7 m ds),(7,fmB true m (f7 8 9 np)),(8,fmB true m (f8 np sp)),(9,fmB true m (f9 B))]
theorem cy_Positions {np m:Nat} {ds:List Int} {B:List Bk} {sp:List ByteArray} (hb:BksI ds B m np sp) (cut:Int) (d:Int):FC Tryz.prog 10 32 [.ptr 1 0 0 0,.int .i64 d] (psR np m cut ds B sp) (isOut (.sl 10 0 0 (posL ds B d).length) [(10,some (.one false (pxB (posL ds B d).length (pxOf (posL ds B d)))))] 11):=by
 unfold posL
 by_cases h:d∈ds
 ·have hi:iidx ds d<m:=by rw [←hb.dl];exact iidx_lt.2 h
  obtain ⟨b1,b2,b3,b4⟩:=hb.I _ hi
  rw [if_pos h]
  have c:=pos_ListF (B:=B) hi b1 b2 b3 b4
  have hfd:foundS false m [.ptrs 7 m] (iidx ds d)= .ptr 7 (iidx ds d) 0 0:=by
   show (bif decide (iidx ds d<m) then SV.ptr 7 (iidx ds d) 0 0 else .nptr)=_
   rw [decide_eq_true hi];rfl
  refine fc_of mixed T_ok Tryz.func32 rfl (by kernel_rfl) (by kernel_rfl) (by kernel_rfl) ?_
  repeat' ((conv=>whnf);first|(rw [hfd])|refine vcall_o (l:= [0,7,8,9]) (c) ?_|((first|apply br_dec|apply br_ndec)<;>intro h<;>try (exfalso;(try dsimp only at h);omega))|((first|apply br_seq|apply br_nseq|apply br_not|apply br_intro)<;>intro h)|refine cond_a ?_)
  all_goals (conv=>whnf)
  all_goals first
   |exact ret_out (l:= [0,1,2,3,4,5,6,7,8,9,10]) rfl rfl ⟨rfl,trivial⟩ (allRw_cons allRw_nil)
   |(exfalso;omega)
   |trace_state
 ·have hi:¬iidx ds d<m:=by rw [←hb.dl];exact fun q=>h (iidx_lt.1 q)
  rw [if_neg h]
  refine fc_nil rfl ?_
  have hfd:foundS false m [.ptrs 7 m] (iidx ds d)= .nptr:=by
   show (bif decide (iidx ds d<m) then SV.ptr 7 (iidx ds d) 0 0 else .nptr)=_
   rw [decide_eq_false hi];rfl
  have c:=pos_ListN
  refine fc_of mixed T_ok Tryz.func32 rfl (by kernel_rfl) (by kernel_rfl) (by kernel_rfl) ?_
  repeat' ((conv=>whnf);first|(rw [hfd])|(refine vcall_pure (c) rfl rfl rfl ?_)|(refine vcallD_pure (c) rfl rfl rfl ?_)|((first|apply br_dec|apply br_ndec)<;>intro h<;>try (exfalso;(try dsimp only at h);omega))|((first|apply br_seq|apply br_nseq|apply br_not|apply br_intro)<;>intro h)|refine cond_a ?_)
  all_goals (conv=>whnf)
  all_goals first
   |exact retP_mono (fun _ _ _ h=> .inl h) (ret_out (l:= [0,1,2,3,4,5,6,7,8,9]) rfl rfl trivial allRw_nil)
   |(exfalso;omega)
   |trace_state
end Go.Proofs.YtlankgapiecloaaGreatDoor
namespace Go.Proofs.YtlankgapiecloaaGreatDoor
open Go.RowKit Go.Sy
attribute [local irreducible] vcall vloop vcallD retP sortI
set_option maxRecDepth 100000
set_option linter.unusedVariables false
set_option linter.unusedSimpArgs false
def clE (hs ds cd:List Int) (d:Int):Int:=if busB hs d=false then 14 else if d∈cd then 23 else if 0<(openS ds cd).length∧(openS ds cd).getD 0 0<d then 8 else 0
abbrev clH (np m hn nc:Nat) (cut:Int) (hs ds cd:List Int) (B:List Bk) (sp:List ByteArray):Heap:= [(1,cyC true 2 4 5 6 np cut),(2,calC true 3),(3,tmM true hn hs),(5,cyB true 7 m ds),(6,tmM false nc cd),(7,fmB true m (f7 8 9 np)),(8,fmB true m (f8 np sp)),(9,fmB true m (f9 B))]
def clO (hs ds cd:List Int) (B:List Bk) (d:Int):SV→Heap→Nat→Prop:=if clE hs ds cd d=0 then isOut (.tup [.sl 10 0 0 (posL ds B d).length,.int .i64 0]) [(6,tmM false (cd++ [d]).length (cd++ [d])),(10,some (.one false (pxB (posL ds B d).length (pxOf (posL ds B d)))))] 11 else isOut (.tup [.nsl,.int .i64 (clE hs ds cd d)]) [(6,tmM false cd.length cd)] 10
theorem cy_Close {np m hn nc:Nat} {hs ds cd:List Int} {B:List Bk} {sp:List ByteArray} (hb:BksI ds B m np sp) (hh:hs.length=hn) (hc:cd.length=nc) (hm:m≤100000) (cut d:Int):FC Tryz.prog 10 159 [.ptr 1 0 0 0,.int .i64 d] (clH np m hn nc cut hs ds cd B sp) (clO hs ds cd B d):=by
 subst hc
 have c1:=cal_Business hn hs hh d
 have c2:=cy_Open np m cd.length cut ds cd hb.dl rfl hm
 have c3:=cy_Positions hb cut d
 have hg:=tm_get (n:=cd.length) (ks:=cd) rfl d
 have hput:=tmPut (s:=cd) rfl d
 unfold clO clE
 cases hq:busB hs d with
 |false=>
  rw [hq] at c1
  rw [if_pos rfl,if_neg (by decide)]
  refine fc_of mixed T_ok Tryz.func159 rfl (by kernel_rfl) (by kernel_rfl) (by kernel_rfl) ?_
  repeat' ((conv=>whnf);first|refine vcall_o (l:= [0,2,3]) (c1) ?_|((first|apply br_dec|apply br_ndec)<;>intro h<;>try (exfalso;(try dsimp only at h);omega))|((first|apply br_seq|apply br_nseq|apply br_not|apply br_intro)<;>intro h)|refine cond_a ?_)
  all_goals (conv=>whnf)
  all_goals first
   |exact ret_out (l:= [0,1,2,3,4,5,6,7,8,9]) rfl rfl ⟨rfl,trivial⟩ (allRw_cons allRw_nil)
   |(exfalso;omega)
   |trace_state
 |true=>
  rw [hq] at c1
  rw [if_neg (show¬true=false by simp)]
  by_cases hd:d∈cd
  ·rw [decide_eq_true hd] at hg
   rw [if_pos hd,if_neg (by decide)]
   refine fc_of mixed T_ok Tryz.func159 rfl (by kernel_rfl) (by kernel_rfl) (by kernel_rfl) ?_
   repeat' ((conv=>whnf);first|refine vcall_o (l:= [0,2,3]) (c1) ?_|((first|apply br_dec|apply br_ndec)<;>intro h<;>try (exfalso;(try dsimp only at h);omega))|((first|apply br_seq|apply br_nseq|apply br_not|apply br_intro)<;>intro h)|refine cond_a ?_)
   all_goals (conv=>whnf)
   all_goals first
    |exact ret_out (l:= [0,1,2,3,4,5,6,7,8,9]) rfl rfl ⟨rfl,trivial⟩ (allRw_cons allRw_nil)
    |(exfalso;rw [hg] at h;cases h;done)
    |trace_state
  ·rw [decide_eq_false hd] at hg
   rw [if_neg hd] at hput⊢
   have hol:(openS ds cd).length≤100000:=by
    unfold openS
    rw [sortI_length]
    exact Nat.le_trans (List.length_filter_le _ _) (by rw [hb.dl];exact hm)
   generalize openS ds cd=S at*
   by_cases hS:0<S.length∧S.getD 0 0<d
   ·rw [if_pos hS,if_neg (by decide)]
    refine fc_of mixed T_ok Tryz.func159 rfl (by kernel_rfl) (by kernel_rfl) (by kernel_rfl) ?_
    repeat' ((conv=>whnf);first|refine vcall_o (l:= [0,2,3]) (c1) ?_|refine vcall_o (l:= [0,1,2,3,4,5,6,7,8,9]) (c2) ?_|((first|apply br_dec|apply br_ndec)<;>intro h<;>try (exfalso;(try dsimp only at h);omega))|((first|apply br_seq|apply br_nseq|apply br_not|apply br_intro)<;>intro h)|refine cond_a ?_)
    all_goals (conv=>whnf)
    all_goals first
     |exact ret_out (l:= [0,1,2,3,4,5,6,7,8,9]) rfl rfl ⟨rfl,trivial⟩ (allRw_cons allRw_nil)
     |(exfalso;rw [hg] at h;cases h;done)
     |exact absurd hS.2 h
     |exact absurd ⟨by omega,h⟩ hS
     |(exfalso;omega)
     |trace_state
   ·rw [if_neg hS,if_pos rfl]
    refine fc_of mixed T_ok Tryz.func159 rfl (by kernel_rfl) (by kernel_rfl) (by kernel_rfl) ?_
    repeat' ((conv=>whnf);first|refine vcall_o (l:= [0,2,3]) (c1) ?_|refine vcall_o (l:= [0,1,2,3,4,5,6,7,8,9]) (c2) ?_|refine vcall_o (l:= [0,1,2,3,4,5,6,7,8,9]) (c3) ?_|((first|apply br_dec|apply br_ndec)<;>intro h<;>try (exfalso;(try dsimp only at h);omega))|((first|apply br_seq|apply br_nseq|apply br_not|apply br_intro)<;>intro h)|refine cond_a ?_)
    all_goals (conv=>whnf)
    all_goals first
     |exact ret_out (l:= [0,1,2,3,4,5,6,7,8,9,10]) rfl rfl ⟨hput,rfl,trivial⟩ (allRw_cons (allRw_cons allRw_nil))
     |exact ret_out (l:= [0,1,2,3,4,5,6,7,8,9,11]) rfl rfl ⟨hput,rfl,trivial⟩ (allRw_cons (allRw_cons allRw_nil))
     |(exfalso;rw [hg] at h;cases h;done)
     |exact absurd hS.2 h
     |exact absurd ⟨by omega,h⟩ hS
     |(exfalso;omega)
     |trace_state
end Go.Proofs.YtlankgapiecloaaGreatDoor
namespace Go.Proofs.YtlankgapiecloaaGreatDoor
open Go.RowKit Go.Sy
attribute [local irreducible] vcall vloop vcallD retP sortI
set_option maxRecDepth 100000
set_option linter.unusedVariables false
set_option linter.unusedSimpArgs false
theorem f9_set {B:List Bk} {i:Nat} (hi:i<B.length) (b:Bk) (x:Nat):(if x=i then bkMb b else f9 B x)=f9 (B.set i b) x:=by
 unfold f9
 by_cases e:x=i
 ·subst e
  rw [if_pos rfl,List.getD,List.getElem?_set_self hi];rfl
 ·rw [if_neg e,List.getD,List.getD,List.getElem?_set_ne (fun q=>e q.symm)]
theorem pos_MoveF {B:List Bk} {m i np:Nat} {sp:List ByteArray} (hi:i<m) (hB:B.length=m) (h:BkI (B.getD i bk0) 4503599627370496) (hn:(B.getD i bk0).n=np) (hp:(B.getD i bk0).ps=sp) (f t c:ByteArray) (a:Int):FC Tryz.prog 4 191 [.ptr 1 i 0 0,.str f,.str t,.agg [.int .i64 a,.str c]] [(1,fmB true m (f7 2 3 np)),(2,fmB true m (f8 np sp)),(3,fmB false m (f9 B))] (isOut (.int .i64 (mvE (B.getD i bk0) f t c a)) [(3,fmB false m (f9 (B.set i ((B.getD i bk0).mv f t c a))))] 4):=by
 have c0:=fc_fam [(1,⟨i,fun x=>x<m,f7 2 3 np⟩),(2,⟨i,fun x=>x<m,f8 np sp⟩),(3,⟨i,fun x=>x<m,f9 B⟩)] (by
  refine ⟨⟨by decide,by decide,_,_,rfl,hi,?_,.inl rfl⟩,⟨by decide,by decide,_,_,rfl,hi,rfl,.inl rfl⟩,⟨by decide,by decide,_,_,rfl,hi,rfl,.inr ⟨rfl,_,rfl⟩⟩,trivial⟩
  show Blk.cells [.sl 2 i 0 np,.map 3 i]= .cells [.sl 2 (0+i) 0 np,.map 3 (0+i)]
  rw [Nat.zero_add]) (by exact ⟨rfl,rfl,rfl,trivial⟩) (by exact ⟨rfl,trivial⟩) (allRw_cons allRw_nil) (pos_MoveX h hn hp f t c a)
 have e:SV.mems (fmu [(1,⟨i,fun x=>x<m,f7 2 3 np⟩),(2,⟨i,fun x=>x<m,f8 np sp⟩),(3,⟨i,fun x=>x<m,f9 B⟩)]) [.ptr 1 0 0 0,.str f,.str t,.agg [.int .i64 a,.str c]]= [.ptr 1 i 0 0,.str f,.str t,.agg [.int .i64 a,.str c]]:=by
  show [SV.ptr 1 (0+i) 0 0,.str f,.str t,.agg [.int .i64 a,.str c]]=_
  rw [Nat.zero_add]
 rw [e] at c0
 have e2:f9 (B.set i ((B.getD i bk0).mv f t c a))=fun x=>if x=i then bkMb ((B.getD i bk0).mv f t c a) else f9 B x:=funext fun x=>(f9_set (by omega) _ x).symm
 rw [e2]
 exact c0
abbrev bksH (h5 h7 h8 h9 np m:Nat) (ds:List Int) (B:List Bk) (sp:List ByteArray):Heap:= [(h5,cyB false h7 m ds),(h7,fmB false m (f7 h8 h9 np)),(h8,fmB false m (f8 np sp)),(h9,fmB false m (f9 B))]
theorem cy_book_old {np m:Nat} {ds:List Int} (hds:ds.length=m) (cut d:Int) (h:d∈ds):FC Tryz.prog 10 190 [.ptr 1 0 0 0,.int .i64 d] [(1,cyC true 2 4 5 6 np cut),(5,cyB true 7 m ds)] (isOut (.tup [.ptr 7 (iidx ds d) 0 0,.int .i64 0]) [] 10):=by
 have hi:iidx ds d<m:=by rw [←hds];exact iidx_lt.2 h
 have hfd:foundS false m [.ptrs 7 m] (iidx ds d)= .ptr 7 (iidx ds d) 0 0:=by
  show (bif decide (iidx ds d<m) then SV.ptr 7 (iidx ds d) 0 0 else .nptr)=_
  rw [decide_eq_true hi];rfl
 have hdec:decide (iidx ds d<m)=true:=decide_eq_true hi
 refine fc_of mixed T_ok Tryz.func190 rfl (by kernel_rfl) (by kernel_rfl) (by kernel_rfl) ?_
 repeat' ((conv=>whnf);first|(rw [hfd,hdec])|((first|apply br_dec|apply br_ndec)<;>intro h<;>try (exfalso;(try dsimp only at h);omega))|((first|apply br_seq|apply br_nseq|apply br_not|apply br_intro)<;>intro h)|refine cond_a ?_)
 all_goals (conv=>whnf)
 all_goals first
  |exact ret_out (l:= [0,1,2,3,4,5,6,7,8,9]) rfl rfl trivial allRw_nil
  |(exfalso;omega)
  |trace_state
theorem cy_book_new {np m:Nat} {ds:List Int} {pr:List ByteArray} (hds:ds.length=m) (hp:pr.length=np) (he:nwErr pr=0) (cut d:Int) (h:¬d∈ds):FC Tryz.prog 10 190 [.ptr 1 0 0 0,.int .i64 d] [(1,cyC true 2 4 5 6 np cut),(4,cyP true np pr),(5,cyB true 7 m ds)] (isOut (.tup [.ptr 10 0 0 0,.int .i64 0]) [(10,bkC false 11 12 np),(11,cyP false np (sortS pr)),(12,bkM false (nwB pr))] 13):=by
 subst hp
 have hi:¬iidx ds d<m:=by rw [←hds];exact fun q=>h (iidx_lt.1 q)
 have hdec:decide (iidx ds d<m)=false:=decide_eq_false hi
 have hfd:foundS false m [.ptrs 7 m] (iidx ds d)= .nptr:=by
  show (bif decide (iidx ds d<m) then SV.ptr 7 (iidx ds d) 0 0 else .nptr)=_
  rw [hdec];rfl
 have c:=pos_NewA pr pr.length rfl
 unfold nwOut at c
 rw [if_neg (by rw [he];simp)] at c
 refine fc_of mixed T_ok Tryz.func190 rfl (by kernel_rfl) (by kernel_rfl) (by kernel_rfl) ?_
 repeat' ((conv=>whnf);first|(rw [hfd,hdec])|refine vcall_o (l:= [0,4]) (c) ?_|((first|apply br_dec|apply br_ndec)<;>intro h<;>try (exfalso;(try dsimp only at h);omega))|((first|apply br_seq|apply br_nseq|apply br_not|apply br_intro)<;>intro h)|refine cond_a ?_)
 all_goals (conv=>whnf)
 all_goals first
  |exact ret_out (l:= [0,1,2,3,4,5,6,7,8,9,10,11,12]) rfl rfl ⟨rfl,rfl,rfl,trivial⟩ (allRw_cons (allRw_cons (allRw_cons allRw_nil)))
  |(exfalso;omega)
  |trace_state
end Go.Proofs.YtlankgapiecloaaGreatDoor
namespace Go.Proofs.YtlankgapiecloaaGreatDoor
open Go.RowKit Go.Sy
attribute [local irreducible] vcall vloop vcallD retP sortI
set_option maxRecDepth 100000
set_option linter.unusedVariables false
set_option linter.unusedSimpArgs false
def mvF (hs cd:List Int):Nat→Int→Int
 |0,_=> -1
 |k+1,x=>if x<0 then-1 else if x∈cd then mvF hs cd k (nxI hs (x+1)) else x
@[irreducible] def mvD (hs cd:List Int) (x:Int):Int:=mvF hs cd 100001 x
theorem mvF_neg {hs cd:List Int} {x:Int} (h:x<0):∀k,mvF hs cd k x= -1
 |0=>rfl
 |k+1=>by simp only [mvF];rw [if_pos h]
def ofP (x:Int):Int:=if x<0 then 0 else x
def ofQ (x:Int):Int:=if x<0 then 14 else 0
theorem ofV_eq (x:Int):ofV x= .tup [.int .i64 (ofP x),.int .i64 (ofQ x)]:=by unfold ofV ofP ofQ;split<;>rfl
theorem ofI_le {hs:List Int} {cut t:Int}:ofI hs cut t≤99999:=by
 unfold ofI
 split
 ·omega
 ·rename_i h
  have:=dayI_ok h
  split
  ·omega
  ·by_cases q:nxI hs (dayI t+1)<0
   ·omega
   ·exact (nxI_ok q).2.1
def bkAt (ds:List Int) (B:List Bk) (pr:List ByteArray) (d:Int):Bk:=if d∈ds then B.getD (iidx ds d) bk0 else nwB pr
def mvDs (ds:List Int) (d:Int):List Int:=if d∈ds then ds else ds++ [d]
def mvBs (ds:List Int) (B:List Bk) (d:Int) (b:Bk):List Bk:=if d∈ds then B.set (iidx ds d) b else B++ [b]
def mvX (hs ds cd:List Int) (B:List Bk) (pr:List ByteArray) (D:Int) (f t c:ByteArray) (a:Int):Int:=if D<0 then 14 else mvE (bkAt ds B pr D) f t c a
def mvO (np m:Nat) (hs ds cd:List Int) (B:List Bk) (pr:List ByteArray) (D:Int) (f t c:ByteArray) (a:Int):SV→Heap→Nat→Prop:=
 if mvX hs ds cd B pr D f t c a=0 then isOut (.tup [.int .i64 D,.int .i64 0]) (bksH 5 10 11 12 np (mvDs ds D).length (mvDs ds D) (mvBs ds B D ((bkAt ds B pr D).mv f t c a)) (sortS pr)) 13
 else isOut (.tup [.int .i64 0,.int .i64 (mvX hs ds cd B pr D f t c a)]) (bksH 5 7 8 9 np m ds B (sortS pr)) 10
abbrev mvH (np m hn nc:Nat) (cut:Int) (hs ds cd:List Int) (B:List Bk) (pr:List ByteArray):Heap:=(1,cyC true 2 4 5 6 np cut)::(2,calC true 3)::(3,tmM true hn hs)::(4,cyP true np pr)::(6,tmM true nc cd)::bksH 5 7 8 9 np m ds B (sortS pr)
theorem f9_app_lt {B:List Bk} {q:Nat} (h:q<B.length) (b:Bk):f9 (B++ [b]) q=f9 B q:=by
 unfold f9
 rw [List.getD,List.getD,List.getElem?_append_left h]
theorem f9_app_at {B:List Bk} {m:Nat} (h:B.length=m) (b:Bk):f9 (B++ [b]) m=bkMb b:=by
 unfold f9
 rw [List.getD,List.getElem?_append_right (by omega),←h,Nat.sub_self];rfl
theorem mvO_none {np m:Nat} {hs ds cd:List Int} {B:List Bk} {pr:List ByteArray} {D:Int} {f t c:ByteArray} {a:Int} (h:D<0):mvO np m hs ds cd B pr D f t c a=isOut (.tup [.int .i64 0,.int .i64 14]) (bksH 5 7 8 9 np m ds B (sortS pr)) 10:=by
 unfold mvO mvX
 rw [if_pos h,if_neg (by decide)]
theorem mvO_err {np m:Nat} {hs ds cd:List Int} {B:List Bk} {pr:List ByteArray} {D:Int} {f t c:ByteArray} {a:Int} (h:¬D<0) (he:¬mvE (bkAt ds B pr D) f t c a=0):mvO np m hs ds cd B pr D f t c a=isOut (.tup [.int .i64 0,.int .i64 (mvE (bkAt ds B pr D) f t c a)]) (bksH 5 7 8 9 np m ds B (sortS pr)) 10:=by
 unfold mvO mvX
 rw [if_neg h,if_neg he]
theorem mvO_old {np m:Nat} {hs ds cd:List Int} {B:List Bk} {pr:List ByteArray} {D:Int} {f t c:ByteArray} {a:Int} (h:¬D<0) (he:mvE (bkAt ds B pr D) f t c a=0) (hd:D∈ds) (hm:ds.length=m):mvO np m hs ds cd B pr D f t c a=isOut (.tup [.int .i64 D,.int .i64 0]) (bksH 5 10 11 12 np m ds (B.set (iidx ds D) ((bkAt ds B pr D).mv f t c a)) (sortS pr)) 13:=by
 unfold mvO mvX mvDs mvBs
 rw [if_neg h,if_pos he,if_pos hd,if_pos hd,hm]
theorem mvO_new {np m:Nat} {hs ds cd:List Int} {B:List Bk} {pr:List ByteArray} {D:Int} {f t c:ByteArray} {a:Int} (h:¬D<0) (he:mvE (bkAt ds B pr D) f t c a=0) (hd:¬D∈ds) (hm:ds.length=m):mvO np m hs ds cd B pr D f t c a=isOut (.tup [.int .i64 D,.int .i64 0]) (bksH 5 10 11 12 np (m+1) (ds++ [D]) (B++ [(bkAt ds B pr D).mv f t c a]) (sortS pr)) 13:=by
 unfold mvO mvX mvDs mvBs
 rw [if_neg h,if_pos he,if_neg hd,if_neg hd,List.length_append,hm];rfl
theorem ptrs_ren {n m h h':Nat} {R:Nat→Nat→Option (Nat×Nat)} (hn:n≤h') (h1:∀q,q<m→R h' q=some (h,q)):∀i,i<m→SLe n R ((BCol.svs (ptrL h m)).at i) ((BCol.ptrs h' m).at i):=by
 intro i hi
 have e1:(BCol.svs (ptrL h m)).at i= .ptr h i 0 0:=ptrL_at hi
 rw [e1]
 exact sle_ptr hn (h1 i hi)
theorem bkPut_old {ds:List Int} {m:Nat} (hm:ds.length=m) {D:Int} (hd:D∈ds):(some (HB.one false (.obj (.map false false (if iidx ds D<m then m else m+1) [.ints .i64 (putL (iidx ds D) D ds)] [.svs (putL (iidx ds D) (.ptr 7 (iidx ds D) 0 0) (ptrL 7 m))] (if iidx ds D<m then List.range m else List.range m++ [m]) (if iidx ds D<m then m else m+1)))):Option HB)=some (.one false (.obj (.map false false m [.ints .i64 ds] [.svs (ptrL 7 m)] (List.range m) m))):=by
 have hi:=iidx_lt.2 hd
 rw [iput_key,if_pos hi,if_pos (by omega),if_pos (by omega),ptrL_put (by omega)]
theorem bkPut_new {ds:List Int} {m h:Nat} (hm:ds.length=m) {D:Int} (hd:¬D∈ds):(some (HB.one false (.obj (.map false false (if iidx ds D<m then m else m+1) [.ints .i64 (putL (iidx ds D) D ds)] [.svs (putL (iidx ds D) (.ptr h 0 0 0) (ptrL 7 m))] (if iidx ds D<m then List.range m else List.range m++ [m]) (if iidx ds D<m then m else m+1)))):Option HB)=some (.one false (.obj (.map false false (m+1) [.ints .i64 (ds++ [D])] [.svs (ptrL 7 m++ [.ptr h 0 0 0])] (List.range (m+1)) (m+1)))):=by
 have hi:¬iidx ds D<ds.length:=fun q=>hd (iidx_lt.1 q)
 have e:iidx ds D=m:=by have:=iidx_le ds D;omega
 rw [iput_key,if_neg hi,if_neg (by omega),if_neg (by omega),e,ptrL_new,List.range_succ]
theorem bks_rw {h5 h7 h8 h9 np m:Nat} {ds:List Int} {B:List Bk} {sp:List ByteArray}:allRw (bksH h5 h7 h8 h9 np m ds B sp):=allRw_cons (allRw_fam (allRw_fam (allRw_fam allRw_nil)))
abbrev odD (n np:Nat) (B:List Bk) (sp:List ByteArray):List RD:= [⟨7,f7 (n+1) (n+2) np⟩,⟨8,f8 np sp⟩,⟨9,f9 B⟩]
theorem bks_old {H:Heap} {n m np:Nat} {ds:List Int} {B:List Bk} {sp:List ByteArray} (hn:10≤n) (h5:hget H 5=some (.one false (.obj (.map false false m [.ints .i64 ds] [.svs (ptrL 7 m)] (List.range m) m)))) (h7:hget H 7=fmB false m (f7 8 9 np)) (h8:hget H 8=fmB false m (f8 np sp)) (h9:hget H 9=fmB false m (f9 B)):
  Relab H n (rdR n m (odD n np B sp)) (fun _=>0) ((5,cyB false n m ds)::rdN n m 0 (odD n np B sp)) [7,8,9] 3:=by
 have r0:∀q,q<m→rdR n m (odD n np B sp) n q=some (7,q):=fun q hq=>rdR_at (D:=odD n np B sp) (i:=0) (d:=⟨7,f7 (n+1) (n+2) np⟩) rfl hq
 have r1:∀q,q<m→rdR n m (odD n np B sp) (n+1) q=some (8,q):=fun q hq=>rdR_at (D:=odD n np B sp) (i:=1) (d:=⟨8,f8 np sp⟩) rfl hq
 have r2:∀q,q<m→rdR n m (odD n np B sp) (n+2) q=some (9,q):=fun q hq=>rdR_at (D:=odD n np B sp) (i:=2) (d:=⟨9,f9 B⟩) rfl hq
 exact relab_ren (n:=n) (th:=5) (odD n np B sp) (by omega) h5 (ble_map1 rfl (ptrs_ren (by omega) r0))
  ⟨⟨(show (7:Nat)≠5 by decide),_,_,h7,fun q hq=>⟨hq,ble_cells ⟨sle_sl (by omega) (r1 q hq),sle_map (by omega) (r2 q hq),trivial⟩⟩⟩,⟨(show (8:Nat)≠5 by decide),_,_,h8,fun q hq=>⟨hq,.inl rfl⟩⟩,⟨(show (9:Nat)≠5 by decide),_,_,h9,fun q hq=>⟨hq,.inl rfl⟩⟩,trivial⟩ rfl
abbrev nwD (n h np:Nat) (B:List Bk) (sp:List ByteArray):List GD:= [⟨7,h,f7 (n+1) (n+2) np⟩,⟨8,h+1,f8 np sp⟩,⟨9,h+2,f9 B⟩]
theorem bks_new {H:Heap} {n m np h:Nat} {ds:List Int} {B:List Bk} {b:Bk} {sp:List ByteArray} (hn:10≤n) (hh:10≤h) (hB:B.length=m) (h5:hget H 5=some (.one false (.obj (.map false false (m+1) [.ints .i64 ds] [.svs (ptrL 7 m++ [.ptr h 0 0 0])] (List.range (m+1)) (m+1))))) (h7:hget H 7=fmB false m (f7 8 9 np)) (h8:hget H 8=fmB false m (f8 np sp)) (h9:hget H 9=fmB false m (f9 B)) (k7:hget H h=bkC false (h+1) (h+2) np) (k8:hget H (h+1)=cyP false np sp) (k9:hget H (h+2)=bkM false b) (hdist:gdDist (nwD n h np (B++ [b]) sp)=true):
  Relab H n (gdR n m (nwD n h np (B++ [b]) sp)) (fun _=>0) ((5,cyB false n (m+1) ds)::gdN n (m+1) 0 (nwD n h np (B++ [b]) sp)) [7,h,8,h+1,9,h+2] 3:=by
 have r0:∀q,q<m→gdR n m (nwD n h np (B++ [b]) sp) n q=some (7,q):=fun q hq=>gdR_old (D:=nwD n h np (B++ [b]) sp) (i:=0) (d:=⟨7,h,f7 (n+1) (n+2) np⟩) rfl hq
 have r1:∀q,q<m→gdR n m (nwD n h np (B++ [b]) sp) (n+1) q=some (8,q):=fun q hq=>gdR_old (D:=nwD n h np (B++ [b]) sp) (i:=1) (d:=⟨8,h+1,f8 np sp⟩) rfl hq
 have r2:∀q,q<m→gdR n m (nwD n h np (B++ [b]) sp) (n+2) q=some (9,q):=fun q hq=>gdR_old (D:=nwD n h np (B++ [b]) sp) (i:=2) (d:=⟨9,h+2,f9 (B++ [b])⟩) rfl hq
 have s0:gdR n m (nwD n h np (B++ [b]) sp) n m=some (h,0):=gdR_new (D:=nwD n h np (B++ [b]) sp) (i:=0) (d:=⟨7,h,f7 (n+1) (n+2) np⟩) rfl
 have s1:gdR n m (nwD n h np (B++ [b]) sp) (n+1) m=some (h+1,0):=gdR_new (D:=nwD n h np (B++ [b]) sp) (i:=1) (d:=⟨8,h+1,f8 np sp⟩) rfl
 have s2:gdR n m (nwD n h np (B++ [b]) sp) (n+2) m=some (h+2,0):=gdR_new (D:=nwD n h np (B++ [b]) sp) (i:=2) (d:=⟨9,h+2,f9 (B++ [b])⟩) rfl
 exact relab_fams (n:=n) (th:=5) (nwD n h np (B++ [b]) sp) (by omega) h5 (ble_map1 rfl (ptrs_put (by omega) r0 s0))
  ⟨⟨(show (7:Nat)≠5 by decide),(show h≠5 by omega),⟨_,_,h7,fun q hq=>⟨hq,ble_cells ⟨sle_sl (by omega) (r1 q hq),sle_map (by omega) (r2 q hq),trivial⟩⟩⟩,_,k7,ble_cells ⟨sle_sl (by omega) s1,sle_map (by omega) s2,trivial⟩⟩,
    ⟨(show (8:Nat)≠5 by decide),(show h+1≠5 by omega),⟨_,_,h8,fun q hq=>⟨hq,.inl rfl⟩⟩,_,k8,.inl rfl⟩,
    ⟨(show (9:Nat)≠5 by decide),(show h+2≠5 by omega),⟨_,_,h9,fun q hq=>⟨hq,.inl (f9_app_lt (by rw [hB];exact hq) b)⟩⟩,_,k9,.inl (f9_app_at hB b)⟩,trivial⟩ hdist
set_option maxHeartbeats 1000000 in
theorem cy_Move {np m hn nc:Nat} {hs ds cd:List Int} {B:List Bk} {pr:List ByteArray} (hb:BksI ds B m np (sortS pr)) (hh:hs.length=hn) (hc:cd.length=nc) (hp:pr.length=np) (he:nwErr pr=0) (cut t:Int) (f g c:ByteArray) (a:Int):FC Tryz.prog 10 183 [.ptr 1 0 0 0,.int .i64 t,.str f,.str g,.agg [.int .i64 a,.str c]] (mvH np m hn nc cut hs ds cd B pr) (mvO np m hs ds cd B pr (mvD hs cd (ofI hs cut t)) f g c a):=by
 have c1:=cy_Of np hn cut hs hh t
 rw [ofV_eq] at c1
 have hX:=ofI_le (hs:=hs) (cut:=cut) (t:=t)
 have hg:∀d,(List.replicate nc true).getD (iidx cd d) false=decide (d∈cd):=tm_get hc
 generalize ofI hs cut t=X at*
 have hD:mvF hs cd 100001 X=mvD hs cd X:=by unfold mvD;rfl
 generalize mvD hs cd X=D at*
 obtain ⟨K0,hK⟩:∃K:Nat,K=100001:=⟨_,rfl⟩
 rw [←hK] at hD
 refine fc_of mixed T_ok Tryz.func183 rfl (by kernel_rfl) (by kernel_rfl) (by kernel_rfl) ?_
 repeat' ((conv=>whnf);first|refine vcall_o (l:= [0,1,2,3,4,5,6,7,8,9]) (c1) ?_|((first|apply br_dec|apply br_ndec)<;>intro h<;>try (exfalso;(try dsimp only at h);omega))|((first|apply br_seq|apply br_nseq|apply br_not|apply br_intro)<;>intro h)|refine cond_a ?_)
 all_goals (conv=>whnf)
 refine vloop_of (fun x:Nat×Int=>⟨[(0,.ptr 1 0 0 0),(2,.str f),(3,.str g),(9,.ptr 10 0 0 0),(12,.int .i64 (ofP x.2)),(13,.int .i64 (ofQ x.2))],(10,some (.one false (.cells [.int .i64 a,.str c])))::mvH np m hn nc cut hs ds cd B pr,11⟩) (fun x=>mvF hs cd x.1 x.2=D∧x.2≤99999∧(x.2<0∨100001-x.2≤(x.1:Int))) (fun x=>x.1) (K0,X) [0,1,2,3,4,5,6,7,8,9,10] [] ⟨rfl,⟨rfl,rfl,rfl,rfl,rfl,rfl,trivial⟩,⟨rfl,rfl,rfl,rfl,rfl,rfl,rfl,rfl,rfl,rfl,trivial⟩⟩ ⟨hD,hX,by dsimp only;omega⟩ ?_
 rintro ⟨k,x⟩ ⟨hF,hx,hk⟩
 dsimp only at hF hx hk
 clear hD hX hK c1
 by_cases h0:x<0
 ·have e1:ofP x=0:=if_pos h0
  have e2:ofQ x=14:=if_pos h0
  dsimp only
  rw [e1,e2]
  rw [mvF_neg h0] at hF
  subst hF
  rw [mvO_none (by decide)]
  repeat' ((conv=>whnf);first|((first|apply br_dec|apply br_ndec)<;>intro h<;>try (exfalso;(try dsimp only at h);omega))|((first|apply br_seq|apply br_nseq|apply br_not|apply br_intro)<;>intro h)|refine cond_a ?_)
  all_goals (conv=>whnf)
  all_goals first
   |exact ret_out (l:= [0,1,2,3,4,5,6,7,8,9]) rfl rfl ⟨rfl,rfl,rfl,rfl,trivial⟩ bks_rw
   |(exfalso;omega)
   |trace_state
 ·have e1:ofP x=x:=if_neg h0
  have e2:ofQ x=0:=if_neg h0
  dsimp only
  rw [e1,e2]
  obtain ⟨k,rfl⟩:∃j,k=j+1:=⟨k-1,by omega⟩
  simp only [mvF] at hF
  rw [if_neg h0] at hF
  have hgx:=hg x
  by_cases hxc:x∈cd
  ·rw [if_pos hxc] at hF
   rw [decide_eq_true hxc] at hgx
   have c2:=cy_later np hn cut hs hh x (by omega) hx
   rw [ofV_eq] at c2
   have hN:nxI hs (x+1)≤99999∧(nxI hs (x+1)<0∨x+1≤nxI hs (x+1)):=by
    by_cases q:nxI hs (x+1)<0
    ·exact ⟨by omega,.inl q⟩
    ·have:=nxI_ok q
     exact ⟨this.2.1,.inr this.1⟩
   generalize nxI hs (x+1)=y at*
   repeat' ((conv=>whnf);first|refine vcall_o (l:= [0,1,2,3,4,5,6,7,8,9]) (c2) ?_|((first|apply br_dec|apply br_ndec)<;>intro h<;>try (exfalso;(try dsimp only at h);omega))|((first|apply br_seq|apply br_nseq|apply br_not|apply br_intro)<;>intro h)|refine cond_a ?_)
   all_goals (conv=>whnf)
   all_goals first
    |exact ⟨(k,y),[0,1,2,3,4,5,6,7,8,9,10],[],⟨hF,hN.1,by dsimp only;omega⟩,Nat.lt_succ_self k,⟨rfl,⟨rfl,rfl,rfl,rfl,rfl,rfl,trivial⟩,⟨rfl,rfl,rfl,rfl,rfl,rfl,rfl,rfl,rfl,rfl,trivial⟩⟩⟩
    |(exfalso;rw [hgx] at h;cases h;done)
    |(exfalso;omega)
    |trace_state
  ·rw [if_neg hxc] at hF
   rw [decide_eq_false hxc] at hgx
   subst hF
   by_cases hd:x∈ds
   ·have hi:iidx ds x<m:=by rw [←hb.dl];exact iidx_lt.2 hd
    obtain ⟨b1,b2,b3,b4⟩:=hb.I _ hi
    have c3:=cy_book_old (np:=np) hb.dl cut x hd
    have c4:=pos_MoveF hi hb.bl b1 b2 b3 f g c a
    have hat:bkAt ds B pr x=B.getD (iidx ds x) bk0:=if_pos hd
    have hput:=bkPut_old hb.dl hd
    rw [←hat] at c4
    by_cases hz:mvE (bkAt ds B pr x) f g c a=0
    ·rw [mvO_old h0 hz hd hb.dl]
     rw [hz] at c4
     generalize (bkAt ds B pr x).mv f g c a=b' at*
     repeat' ((conv=>whnf);first|refine vcall_o (l:= [0,1,2,3,4,5,6,7,8,9]) (c3) ?_|refine vcall_o (l:= [0,7,8,9]) (c4) ?_|((first|apply br_dec|apply br_ndec)<;>intro h<;>try (exfalso;(try dsimp only at h);omega))|((first|apply br_seq|apply br_nseq|apply br_not|apply br_intro)<;>intro h)|refine cond_a ?_)
     all_goals (conv=>whnf)
     all_goals first
      |exact ret_up (l:= [0,1,2,3,4,5,6,7,8,9,11,12,13]) [.relab (rdR 11 m (odD 11 np (B.set (iidx ds x) b') (sortS pr))) (fun _=>0) ((5,cyB false 11 m ds)::rdN 11 m 0 (odD 11 np (B.set (iidx ds x) b') (sortS pr))) [7,8,9] 3] ⟨bks_old (n:=11) (by decide) hput rfl rfl rfl,rfl,rfl,⟨rfl,rfl,rfl,rfl,trivial⟩⟩ bks_rw
      |(exfalso;rw [hgx] at h;cases h;done)
      |(exfalso;omega)
      |trace_state
    ·rw [mvO_err h0 hz]
     have hbs:mvE (bkAt ds B pr x) f g c a≠0:=hz
     have hmv:(bkAt ds B pr x).mv f g c a=bkAt ds B pr x:=if_neg hz
     have hset:B.set (iidx ds x) (bkAt ds B pr x)=B:=by
      rw [hat]
      refine List.ext_getElem? fun j=> ?_
      rw [List.getElem?_set]
      split
      ·rename_i e
       subst e
       rw [if_pos (by rw [hb.bl];exact hi),List.getD,List.getElem?_eq_getElem (by rw [hb.bl];exact hi)];rfl
      ·rfl
     rw [hmv,hset] at c4
     generalize mvE (bkAt ds B pr x) f g c a=e at*
     repeat' ((conv=>whnf);first|refine vcall_o (l:= [0,1,2,3,4,5,6,7,8,9]) (c3) ?_|refine vcall_o (l:= [0,7,8,9]) (c4) ?_|((first|apply br_dec|apply br_ndec)<;>intro h<;>try (exfalso;(try dsimp only at h);omega))|((first|apply br_seq|apply br_nseq|apply br_not|apply br_intro)<;>intro h)|refine cond_a ?_)
     all_goals (conv=>whnf)
     all_goals first
      |exact ret_out (l:= [0,1,2,3,4,5,6,7,8,9]) rfl rfl ⟨rfl,rfl,rfl,rfl,trivial⟩ bks_rw
      |(exfalso;rw [hgx] at h;cases h;done)
      |(exfalso;omega)
      |trace_state
   ·have c3:=cy_book_new hb.dl hp he cut x hd
    have hat:bkAt ds B pr x=nwB pr:=if_neg hd
    have c4:=pos_MoveX ((nwB_I he).up (B':=4503599627370496) (by decide)) hp rfl f g c a
    have hput:=bkPut_new (h:=11) hb.dl hd
    rw [←hat] at c4
    by_cases hz:mvE (bkAt ds B pr x) f g c a=0
    ·rw [mvO_new h0 hz hd hb.dl]
     rw [hz] at c4
     rw [hat] at c4
     rw [hat]
     have hsp:(nwB pr).ps=sortS pr:=rfl
     generalize hbb:(nwB pr).mv f g c a=b' at*
     repeat' ((conv=>whnf);first|refine vcall_o (l:= [0,1,2,3,4,5,6,7,8,9]) (c3) ?_|refine vcall_o (l:= [0,11,12,13]) (c4) ?_|((first|apply br_dec|apply br_ndec)<;>intro h<;>try (exfalso;(try dsimp only at h);omega))|((first|apply br_seq|apply br_nseq|apply br_not|apply br_intro)<;>intro h)|refine cond_a ?_)
     all_goals (conv=>whnf)
     all_goals first
      |exact ret_up (l:= [0,1,2,3,4,5,6,7,8,9,14,15,16]) [.relab (gdR 14 m (nwD 14 11 np (B++ [b']) (sortS pr))) (fun _=>0) ((5,cyB false 14 (m+1) (ds++ [x]))::gdN 14 (m+1) 0 (nwD 14 11 np (B++ [b']) (sortS pr))) [7,11,8,12,9,13] 3] ⟨bks_new (n:=14) (h:=11) (by decide) (by decide) hb.bl hput rfl rfl rfl rfl rfl rfl rfl,rfl,rfl,⟨rfl,rfl,rfl,rfl,trivial⟩⟩ bks_rw
      |(exfalso;rw [hgx] at h;cases h;done)
      |(exfalso;omega)
      |trace_state
    ·rw [mvO_err h0 hz]
     rw [hat] at c4 hz⊢
     generalize mvE (nwB pr) f g c a=e at*
     repeat' ((conv=>whnf);first|refine vcall_o (l:= [0,1,2,3,4,5,6,7,8,9]) (c3) ?_|refine vcall_o (l:= [0,11,12,13]) (c4) ?_|((first|apply br_dec|apply br_ndec)<;>intro h<;>try (exfalso;(try dsimp only at h);omega))|((first|apply br_seq|apply br_nseq|apply br_not|apply br_intro)<;>intro h)|refine cond_a ?_)
     all_goals (conv=>whnf)
     all_goals first
      |exact ret_out (l:= [0,1,2,3,4,5,6,7,8,9]) rfl rfl ⟨rfl,rfl,rfl,rfl,trivial⟩ bks_rw
      |(exfalso;rw [hgx] at h;cases h;done)
      |(exfalso;omega)
      |trace_state
end Go.Proofs.YtlankgapiecloaaGreatDoor
namespace Go.Proofs.YtlankgapiecloaaGreatDoor
open Go.RowKit Go.Sy
set_option linter.unusedVariables false
set_option linter.unusedSimpArgs false
structure Lp where
 a:ByteArray
 n:Int
 c:ByteArray
abbrev lp0:Lp:=⟨⟨#[]⟩,0,⟨#[]⟩⟩
def poB (n:Nat) (l:List Lp):Blk:= .cols n [.sc (.strs (l.map Lp.a)),.sc (.ints .i64 (l.map Lp.n)),.sc (.strs (l.map Lp.c))]
theorem lp_a (l:List Lp) (k:Nat):(l.map Lp.a).getD k ⟨#[]⟩=(l.getD k lp0).a:=by
 rw [List.getD,List.getD,List.getElem?_map];cases l[k]?<;>rfl
theorem lp_n (l:List Lp) (k:Nat):(l.map Lp.n).getD k 0=(l.getD k lp0).n:=by
 rw [List.getD,List.getD,List.getElem?_map];cases l[k]?<;>rfl
theorem lp_c (l:List Lp) (k:Nat):(l.map Lp.c).getD k ⟨#[]⟩=(l.getD k lp0).c:=by
 rw [List.getD,List.getD,List.getElem?_map];cases l[k]?<;>rfl
theorem lg_seq {a b:ByteArray}:seq a b=true↔a=b:=by unfold seq;exact decide_eq_true_iff
abbrev lgI (R:List Lp) (a c:ByteArray):Nat:=sidx2 (R.map Lp.a) (R.map Lp.c) a c
theorem lgI_cons (x:Lp) (R:List Lp) (a c:ByteArray):lgI (x::R) a c=if x.a=a∧x.c=c then 0 else lgI R a c+1:=by
 show (bif seq x.a a&&seq x.c c then 0 else lgI R a c+1)=_
 by_cases h:x.a=a∧x.c=c
 ·rw [if_pos h,show (seq x.a a&&seq x.c c)=true from by rw [Bool.and_eq_true,lg_seq,lg_seq];exact h];rfl
 ·rw [if_neg h,show (seq x.a a&&seq x.c c)=false from by
   cases e:(seq x.a a&&seq x.c c) with
   |false=>rfl
   |true=>rw [Bool.and_eq_true,lg_seq,lg_seq] at e;exact absurd e h];rfl
theorem lgI_le (a c:ByteArray):∀R:List Lp,lgI R a c≤R.length
 | []=>Nat.le_refl _
 |x::R=>by
  have:=lgI_le a c R
  rw [lgI_cons,List.length_cons]
  split<;>omega
def lgV (R:List Lp) (a c:ByteArray):Int:=(R.getD (lgI R a c) lp0).n
theorem lgV_nil (a c:ByteArray):lgV [] a c=0:=rfl
theorem lgV_cons (x:Lp) (R:List Lp) (a c:ByteArray):lgV (x::R) a c=if x.a=a∧x.c=c then x.n else lgV R a c:=by
 unfold lgV
 rw [lgI_cons]
 split
 ·rfl
 ·rw [List.getD_cons_succ]
def lgAdd (R:List Lp) (x:Lp):List Lp:=putL (lgI R x.a x.c) ⟨x.a,lgV R x.a x.c+x.n,x.c⟩ R
theorem lgAdd_nil (x:Lp):lgAdd [] x= [x]:=by
 unfold lgAdd putL
 rw [lgV_nil,Int.zero_add]
 rfl
theorem lgAdd_cons (y:Lp) (R:List Lp) (x:Lp):lgAdd (y::R) x=if y.a=x.a∧y.c=x.c then ⟨x.a,y.n+x.n,x.c⟩::R else y::lgAdd R x:=by
 unfold lgAdd
 rw [lgI_cons,lgV_cons]
 split
 ·unfold putL
  rw [if_pos (by simp)];rfl
 ·rw [putL_succ]
theorem lgV_add (x:Lp) (a c:ByteArray):∀R:List Lp,lgV (lgAdd R x) a c=lgV R a c+if x.a=a∧x.c=c then x.n else 0
 | []=>by rw [lgAdd_nil,lgV_cons,lgV_nil,Int.zero_add]
 |y::R=>by
  have ih:=lgV_add x a c R
  rw [lgAdd_cons,lgV_cons]
  by_cases h:y.a=x.a∧y.c=x.c
  ·rw [if_pos h,lgV_cons]
   obtain ⟨h1,h2⟩:=h
   rw [h1,h2]
   split
   ·rfl
   ·rw [Int.add_zero]
  ·rw [if_neg h,lgV_cons]
   by_cases h2:y.a=a∧y.c=c
   ·rw [if_pos h2,if_pos h2]
    obtain ⟨e1,e2⟩:=h2
    rw [if_neg (fun k=>h ⟨e1.trans k.1.symm,e2.trans k.2.symm⟩),Int.add_zero]
   ·rw [if_neg h2,if_neg h2,ih]
theorem lgAdd_len (R:List Lp) (x:Lp):(lgAdd R x).length=if lgI R x.a x.c<R.length then R.length else R.length+1:=putL_len _ _ _
def lgD (R:List Lp):Prop:=R.Pairwise (fun x y=>¬(x.a=y.a∧x.c=y.c))
theorem lgAdd_key {x z:Lp}:∀{R:List Lp},z∈lgAdd R x→(z.a=x.a∧z.c=x.c)∨∃y∈R,z.a=y.a∧z.c=y.c
 | [],h=>by
   rw [lgAdd_nil,List.mem_singleton] at h
   subst h
   exact .inl ⟨rfl,rfl⟩
 |y::R,h=>by
  rw [lgAdd_cons] at h
  split at h
  ·rcases List.mem_cons.1 h with rfl|h
   ·exact .inl ⟨rfl,rfl⟩
   ·exact .inr ⟨z,by simp [h],rfl,rfl⟩
  ·rcases List.mem_cons.1 h with rfl|h
   ·exact .inr ⟨z,by simp,rfl,rfl⟩
   ·rcases lgAdd_key h with h|⟨w,hw,h⟩
    ·exact .inl h
    ·exact .inr ⟨w,by simp [hw],h⟩
theorem lgD_add {x:Lp}:∀{R:List Lp},lgD R→lgD (lgAdd R x)
 | [],_=>by rw [lgAdd_nil];exact List.pairwise_singleton _ _
 |y::R,h=>by
  obtain ⟨h1,h2⟩:=List.pairwise_cons.1 h
  rw [lgAdd_cons]
  split
  ·rename_i hk
   refine List.pairwise_cons.2 ⟨fun z hz k=>h1 z hz ⟨hk.1.trans k.1,hk.2.trans k.2⟩,h2⟩
  ·rename_i hk
   refine List.pairwise_cons.2 ⟨fun z hz k=> ?_,lgD_add h2⟩
   rcases lgAdd_key hz with ⟨e1,e2⟩|⟨w,hw,e1,e2⟩
   ·exact hk ⟨k.1.trans e1,k.2.trans e2⟩
   ·exact h1 w hw ⟨k.1.trans e1,k.2.trans e2⟩
def lgS:List Lp→ByteArray→ByteArray→Int
 | [],_,_=>0
 |x::L,a,c=>(if x.a=a∧x.c=c then x.n else 0)+lgS L a c
theorem lgS_append (A B:List Lp) (a c:ByteArray):lgS (A++B) a c=lgS A a c+lgS B a c:=by
 induction A with
 |nil=>simp [lgS]
 |cons x A ih=>simp only [List.cons_append,lgS,ih,Int.add_assoc]
theorem lgS_perm {A B:List Lp} (h:A.Perm B) (a c:ByteArray):lgS A a c=lgS B a c:=by
 induction h with
 |nil=>rfl
 |cons x _ ih=>simp only [lgS,ih]
 |swap x y l=>simp only [lgS];omega
 |trans _ _ ih1 ih2=>exact ih1.trans ih2
theorem lgS_no {L:List Lp} {a c:ByteArray} (h:∀x∈L,¬(x.a=a∧x.c=c)):lgS L a c=0:=by
 induction L with
 |nil=>rfl
 |cons x L ih=>
  simp only [lgS]
  rw [if_neg (h x (by simp)),ih (fun y hy=>h y (by simp [hy]))];rfl
theorem lgS_dist {a c:ByteArray}:∀{R:List Lp},lgD R→lgS R a c=lgV R a c
 | [],_=>rfl
 |y::R,h=>by
  obtain ⟨h1,h2⟩:=List.pairwise_cons.1 h
  rw [lgV_cons]
  simp only [lgS]
  by_cases hk:y.a=a∧y.c=c
  ·rw [if_pos hk,if_pos hk,lgS_no (fun x hx k=>h1 x hx ⟨hk.1.trans k.1.symm,hk.2.trans k.2.symm⟩),Int.add_zero]
  ·rw [if_neg hk,if_neg hk,lgS_dist h2,Int.zero_add]
theorem lg_take {L:List Lp} {k:Nat} (hk:k<L.length):L.take (k+1)=L.take k++ [L.getD k lp0]:=by
 rw [List.take_succ_eq_append_getElem hk,List.getD,List.getElem?_eq_getElem hk];rfl
def chR (L:List Lp):Nat→List Lp
 |0=> []
 |k+1=>lgAdd (chR L k) (L.getD k lp0)
theorem chR_dist (L:List Lp):∀k,lgD (chR L k)
 |0=>List.Pairwise.nil
 |k+1=>lgD_add (chR_dist L k)
theorem chR_len (L:List Lp):∀k,(chR L k).length≤k
 |0=>Nat.le_refl _
 |k+1=>by
  have:=chR_len L k
  simp only [chR]
  rw [lgAdd_len]
  split<;>omega
theorem chR_val {L:List Lp} (a c:ByteArray):∀k,k≤L.length→lgV (chR L k) a c=lgS (L.take k) a c
 |0,_=>by simp [chR,lgS,lgV_nil]
 |k+1,h=>by
  simp only [chR]
  rw [lgV_add,chR_val a c k (by omega),lg_take (by omega),lgS_append]
  simp [lgS]
def vsR (B C:List Lp):List Nat→List Lp
 | []=>B
 |i::sn=>lgAdd (vsR B C sn) (C.getD i lp0)
theorem vsR_dist {B C:List Lp} (h:lgD B):∀sn,lgD (vsR B C sn)
 | []=>h
 |i::sn=>lgD_add (vsR_dist h sn)
theorem vsR_len (B C:List Lp):∀sn,(vsR B C sn).length≤B.length+sn.length
 | []=>Nat.le_refl _
 |i::sn=>by
  have:=vsR_len B C sn
  simp only [vsR]
  rw [lgAdd_len,List.length_cons]
  split<;>omega
theorem vsR_val (B C:List Lp) (a c:ByteArray):∀sn,lgV (vsR B C sn) a c=lgV B a c+lgS (sn.map (fun i=>C.getD i lp0)) a c
 | []=>by simp [vsR,lgS]
 |i::sn=>by
  simp only [vsR,List.map_cons,lgS]
  rw [lgV_add,vsR_val B C a c sn]
  omega
theorem vsR_all {B C:List Lp} (hC:lgD C) {sn:List Nat} (hd:sn.Nodup) (hl:∀i∈sn,i<C.length) (ha:∀i,i<C.length→i∈sn) (a c:ByteArray):lgV (vsR B C sn) a c=lgV B a c+lgV C a c:=by
 rw [vsR_val,←lgS_dist hC]
 congr 1
 have hp:=(perm_range hd hl ha).map (fun i=>C.getD i lp0)
 rw [map_range_getD] at hp
 exact lgS_perm hp a c
theorem lgV_row {R:List Lp} (h:lgD R) {i:Nat} (hi:i<R.length):lgV R (R.getD i lp0).a (R.getD i lp0).c=(R.getD i lp0).n:=by
 induction R generalizing i with
 |nil=>simp at hi
 |cons y R ih=>
  obtain ⟨h1,h2⟩:=List.pairwise_cons.1 h
  rw [lgV_cons]
  cases i with
  |zero=>rw [if_pos ⟨rfl,rfl⟩];rfl
  |succ i=>
   rw [List.getD_cons_succ]
   have hi':i<R.length:=by simpa using hi
   rw [if_neg (fun k=>h1 _ (by rw [List.getD,List.getElem?_eq_getElem hi'];exact List.getElem_mem hi') k)]
   exact ih h2 hi'
def lgC:List Lp→ByteArray→Int
 | [],_=>0
 |x::L,c=>(if x.c=c then x.n else 0)+lgC L c
theorem lgC_append (A B:List Lp) (c:ByteArray):lgC (A++B) c=lgC A c+lgC B c:=by
 induction A with
 |nil=>simp [lgC]
 |cons x A ih=>simp only [List.cons_append,lgC,ih,Int.add_assoc]
theorem lgC_no {L:List Lp} {c:ByteArray} (h:∀x∈L,x.c≠c):lgC L c=0:=by
 induction L with
 |nil=>rfl
 |cons x L ih=>
  simp only [lgC]
  rw [if_neg (h x (by simp)),ih (fun y hy=>h y (by simp [hy]))];rfl
theorem lgC_step {L:List Lp} {k:Nat} (hk:k<L.length) (c:ByteArray):lgC (L.take (k+1)) c=lgC (L.take k) c+if (L.getD k lp0).c=c then (L.getD k lp0).n else 0:=by
 rw [lg_take hk,lgC_append];simp [lgC]
def lgBal (L:List Lp):Bool:=L.all (fun x=>decide (lgC L x.c=0))
theorem lgBal_iff {L:List Lp}:lgBal L=true↔∀c,lgC L c=0:=by
 unfold lgBal
 rw [List.all_eq_true]
 constructor
 ·intro h c
  by_cases hc:∃x∈L,x.c=c
  ·obtain ⟨x,hx,rfl⟩:=hc
   exact of_decide_eq_true (h x hx)
  ·exact lgC_no fun x hx e=>hc ⟨x,hx,e⟩
 ·exact fun h x _=>decide_eq_true (h _)
structure LgM (L:List Lp) (k n:Nat) (C:List ByteArray) (W:List Int):Prop where
 c:C.length=n
 w:W.length=n
 nd:C.Nodup
 all:∀c,(if sidx C c<n then W.getD (sidx C c) 0 else 0)=lgC (L.take k) c
theorem lgM_zero (L:List Lp):LgM L 0 0 [] []:=⟨rfl,rfl,List.nodup_nil,fun c=>by simp [lgC]⟩
theorem lg_putNew {α:Type} {l:List α} {n:Nat} (h:l.length=n) (x:α):putL n x l=l++ [x]:=by unfold putL;rw [if_neg (by omega)]
theorem lg_putLt {α:Type} {l:List α} {i:Nat} (h:i<l.length) (x:α):putL i x l=l.set i x:=by unfold putL;rw [if_pos h]
theorem lgM_step {L:List Lp} {k n:Nat} {C:List ByteArray} {W:List Int} (hI:LgM L k n C W) (hk:k<L.length) (v:Int) (hv:v=lgC (L.take k) (L.getD k lp0).c+(L.getD k lp0).n):
  LgM L (k+1) (if sidx C (L.getD k lp0).c<n then n else n+1) (putL (sidx C (L.getD k lp0).c) (L.getD k lp0).c C) (putL (sidx C (L.getD k lp0).c) v W):=by
 generalize hx:L.getD k lp0=x at*
 obtain ⟨hc,hw,hnd,hall⟩:=hI
 have hle:=Go.Sy.sidx_le C x.c
 by_cases h:sidx C x.c<n
 ·have e1:putL (sidx C x.c) x.c C=C:=by rw [put_key,if_pos (by omega)]
  rw [if_pos h,e1,lg_putLt (by omega)]
  refine ⟨hc,by simp [hw],hnd,fun c=> ?_⟩
  rw [lgC_step hk,hx]
  by_cases ec:x.c=c
  ·subst ec
   rw [if_pos h,if_pos rfl,List.getD,List.getElem?_set_self (by omega)]
   exact hv
  ·rw [if_neg ec,Int.add_zero,←hall c]
   by_cases h2:sidx C c<n
   ·rw [if_pos h2,if_pos h2]
    have hne:sidx C x.c≠sidx C c:=by
     intro e
     have g1:=sidx_get (l:=C) (s:=x.c) (by omega)
     have g2:=sidx_get (l:=C) (s:=c) (by omega)
     rw [e,g2] at g1
     exact ec (Option.some.inj g1).symm
    rw [List.getD,List.getD,List.getElem?_set_ne hne]
   ·rw [if_neg h2,if_neg h2]
 ·have hn:sidx C x.c=n:=by omega
  rw [if_neg h,hn]
  have e1:=lg_putNew hc x.c
  have e2:=lg_putNew hw v
  rw [e1,e2]
  have hni:x.c∉C:=fun hm=>h (by rw [←hc];exact sidx_lt.2 hm)
  have hnd':(C++ [x.c]).Nodup:=List.nodup_append.2 ⟨hnd,by simp,fun a ha b hb e=>by simp at hb;subst hb;subst e;exact hni ha⟩
  refine ⟨by simp [hc],by simp [hw],hnd',fun c=> ?_⟩
  rw [lgC_step hk,hx,←hall c]
  by_cases ec:x.c=c
  ·subst ec
   have e3:sidx (C++ [x.c]) x.c=n:=sidx_of_get hnd' (by rw [List.getElem?_append_right (by omega)];simp [hc])
   rw [e3,if_pos (by omega),if_neg h,if_pos rfl,List.getD,List.getElem?_append_right (by omega)]
   simp only [hw,Nat.sub_self,List.getElem?_cons_zero,Option.getD_some]
   have:=hall x.c
   rw [if_neg h] at this
   omega
  ·rw [if_neg ec,Int.add_zero]
   by_cases h2:sidx C c<n
   ·have e3:sidx (C++ [x.c]) c=sidx C c:=sidx_of_get hnd' (by rw [List.getElem?_append_left (by omega)];exact sidx_get (by omega))
    rw [e3,if_pos (by omega),if_pos h2,List.getD,List.getD,List.getElem?_append_left (by omega)]
   ·have hnm:c∉C++ [x.c]:=by
     intro hm
     rcases List.mem_append.1 hm with hm|hm
     ·exact h2 (by rw [←hc];exact sidx_lt.2 hm)
     ·simp at hm;exact ec hm.symm
    rw [if_neg h2,if_neg]
    intro h3
    exact hnm (sidx_lt.1 (by rw [List.length_append,hc];simpa using h3))
theorem lgM_row {L:List Lp} {k n:Nat} {C:List ByteArray} {W:List Int} (hI:LgM L k n C W) {i:Nat} (hi:i<n):W.getD i 0=lgC (L.take k) (C.getD i ⟨#[]⟩):=by
 have e:sidx C (C.getD i ⟨#[]⟩)=i:=sidx_of_get hI.nd (by rw [List.getD,List.getElem?_eq_getElem (by have:=hI.c;omega)];rfl)
 have:=hI.all (C.getD i ⟨#[]⟩)
 rw [e,if_pos hi] at this
 exact this
theorem lgM_nz {L:List Lp} {n:Nat} {C:List ByteArray} {W:List Int} (hI:LgM L L.length n C W) {i:Nat} (hi:i<n) (h:W.getD i 0≠0):lgBal L=false:=by
 cases hb:lgBal L with
 |false=>rfl
 |true=>
  have:=lgM_row hI hi
  rw [List.take_length,lgBal_iff.1 hb] at this
  exact absurd this h
theorem lgM_z {L:List Lp} {n:Nat} {C:List ByteArray} {W:List Int} (hI:LgM L L.length n C W) (h:∀i,i<n→W.getD i 0=0):lgBal L=true:=by
 rw [lgBal_iff]
 intro c
 have:=hI.all c
 rw [List.take_length] at this
 rw [←this]
 split
 ·rename_i h1;exact h _ h1
 ·rfl
def lgBd (L:List Lp):Prop:=∀x∈L,-4503599627370496≤x.n∧x.n≤4503599627370496
theorem lgC_bd {L:List Lp} (h:lgBd L) (c:ByteArray): -4503599627370496*(L.length:Int)≤lgC L c∧lgC L c≤4503599627370496*(L.length:Int):=by
 induction L with
 |nil=>simp [lgC]
 |cons x L ih=>
  have i1:=ih (fun y hy=>h y (by simp [hy]))
  have i2:=h x (by simp)
  simp only [lgC,List.length_cons]
  split<;>omega
theorem lgS_bd {L:List Lp} (h:lgBd L) (a c:ByteArray): -4503599627370496*(L.length:Int)≤lgS L a c∧lgS L a c≤4503599627370496*(L.length:Int):=by
 induction L with
 |nil=>simp [lgS]
 |cons x L ih=>
  have i1:=ih (fun y hy=>h y (by simp [hy]))
  have i2:=h x (by simp)
  simp only [lgS,List.length_cons]
  split<;>omega
theorem lgBd_take {L:List Lp} (h:lgBd L) (k:Nat):lgBd (L.take k):=fun x hx=>h x (List.mem_of_mem_take hx)
end Go.Proofs.YtlankgapiecloaaGreatDoor
namespace Go.Proofs.YtlankgapiecloaaGreatDoor
open Go.RowKit Go.Sy
attribute [local irreducible] vcall vloop vcallD retP
set_option maxRecDepth 100000
set_option linter.unusedVariables false
set_option linter.unusedSimpArgs false
theorem bytesOf_sizeK (l:List Int):(bytesOf l).size=l.length:=by simp [bytesOf,ByteArray.size]
theorem u64_inK {n:Int} (h:0≤n) (h':n≤18446744073709551615):IntKind.u64.wrap n=n:=IntWalk.u64_in n ⟨h,h'⟩
def fnvK (h:Int) (s:ByteArray):Nat→Int
 |0=>h
 |k+1=>IntKind.u64.wrap (ixor .u64 (fnvK h s k) (byteAt s (k:Int))*1099511628211)
theorem u64_wr (x:Int):0≤IntKind.u64.wrap x∧IntKind.u64.wrap x<18446744073709551616:=by
 have:IntKind.u64.wrap x=x%18446744073709551616:=by simp [IntKind.wrap,IntKind.bits,IntKind.signed]
 omega
theorem fnvK_bd {h:Int} (hh:0≤h∧h<18446744073709551616) (s:ByteArray):∀k,0≤fnvK h s k∧fnvK h s k<18446744073709551616
 |0=>hh
 |k+1=>u64_wr _
theorem byteAt_app1 {a b:ByteArray} {i:Nat} (h:i<a.size):byteAt (a++b) (i:Int)=byteAt a (i:Int):=by
 unfold byteAt
 rw [Int.toNat_natCast]
 congr 2
 have h':i<a.data.toList.length:=by simpa using h
 simp only [ByteArray.data_append,Array.toList_append,List.getD,List.getElem?_append_left h']
theorem byteAt_app2 {a b:ByteArray} {i:Nat}:byteAt (a++b) ((a.size+i:Nat):Int)=byteAt b (i:Int):=by
 unfold byteAt
 rw [Int.toNat_natCast,Int.toNat_natCast]
 congr 2
 have h':a.data.toList.length=a.size:=by simp
 simp only [ByteArray.data_append,Array.toList_append,List.getD]
 rw [List.getElem?_append_right (by omega),h',Nat.add_sub_cancel_left]
def beL (p:Int):Nat→List Int
 |0=> []
 |k+1=>beL p k++ [IntKind.u8.wrap (ishr .u64 p ((56-8*k:Nat):Int))]
theorem beL_length (p:Int):∀k,(beL p k).length=k
 |0=>rfl
 |k+1=>by simp [beL,beL_length p k]
def be8S (p:Int):ByteArray:=bytesOf (beL p 8)
theorem be8S_size (p:Int):(be8S p).size=8:=by unfold be8S;rw [bytesOf_sizeK,beL_length]
def beZ (p:Int) (k:Nat):List Int:=beL p k++List.replicate (8-k) 0
theorem beZ_set (p:Int) (k:Nat) (h:k<8):(beZ p k).set k (IntKind.u8.wrap (ishr .u64 p ((56-8*k:Nat):Int)))=beZ p (k+1):=by
 unfold beZ
 rw [show 8-k=(8-(k+1))+1 from by omega,List.replicate_succ,List.set_append_right _ _ (by rw [beL_length];exact Nat.le_refl _),beL_length,Nat.sub_self]
 simp [beL]
theorem beZ_all (p:Int):beZ p 8=beL p 8:=by unfold beZ;simp
def chI (p:Int) (s:ByteArray):Int:=fnvK (fnvK 14695981039346656037 (be8S p) 8) s s.size
theorem chI_bd (p:Int) (s:ByteArray):0≤chI p s∧chI p s<18446744073709551616:=fnvK_bd (fnvK_bd (by omega) _ _) _ _
theorem chk_extend (p:Int) (s:ByteArray) (hs:s.size≤9223372036854775000):Pure Tryz.prog 48 [.int .u64 p,.str s] (.int .u64 (fnvK p s s.size)):=by
 refine fc_of mixed T_ok Tryz.func48 rfl (by kernel_rfl) (by kernel_rfl) (by kernel_rfl) ?_
 (conv=>whnf)
 refine vloop_of (fun k:Nat=>⟨[(0,.int .u64 (fnvK p s k)),(1,.str s),(7,.int .i64 s.size),(8,.int .i64 k)],[],1⟩) (fun k=>k≤s.size) (fun k=>s.size-k) 0 [0] [] ⟨rfl,⟨rfl,rfl,rfl,rfl,trivial⟩,trivial⟩ (by omega) ?_
 intro k hk
 have bb:=byteAt_bd s (k:Int)
 repeat' ((conv=>whnf);first|((first|apply br_dec|apply br_ndec)<;>intro h<;>try (exfalso;(try dsimp only at h);omega))|((first|apply br_seq|apply br_nseq|apply br_not|apply br_intro)<;>intro h)|refine cond_a ?_)
 all_goals (conv=>whnf)
 ·refine ⟨k+1,[0],[],by omega,by omega,⟨rfl,⟨?_,rfl,rfl,congrArg (fun z=>some (SV.int .i64 z)) (i64_succ (by omega)),trivial⟩,trivial⟩⟩
  refine congrArg (fun z=>some (SV.int .u64 z)) ?_
  show IntKind.u64.wrap (ixor .u64 (fnvK p s k) (IntKind.u64.wrap (byteAt s (k:Int)))*1099511628211)=fnvK p s (k+1)
  have e1:IntKind.u64.wrap (byteAt s (k:Int))=byteAt s (k:Int):=u64_inK (by omega) (by omega)
  rw [e1]
  rfl
 ·have e:k=s.size:=by omega
  subst e
  exact ret_pure rfl
theorem chk_Hash (s:ByteArray) (hs:s.size≤9223372036854775000):Pure Tryz.prog 49 [.str s] (.int .u64 (fnvK 14695981039346656037 s s.size)):=by
 have c:=chk_extend 14695981039346656037 s hs
 refine fc_of mixed T_ok Tryz.func49 rfl (by kernel_rfl) (by kernel_rfl) (by kernel_rfl) ?_
 repeat' ((conv=>whnf);first|(refine vcall_pure (c) rfl rfl rfl ?_)|(refine vcallD_pure (c) rfl rfl rfl ?_)|((first|apply br_dec|apply br_ndec)<;>intro h<;>try (exfalso;(try dsimp only at h);omega))|((first|apply br_seq|apply br_nseq|apply br_not|apply br_intro)<;>intro h)|refine cond_a ?_)
 all_goals (conv=>whnf)
 exact ret_pure rfl
theorem shift_ok {k:Nat} (h:k<8):IntKind.i64.wrap (56-IntKind.i64.wrap (8*(k:Int)))=((56-8*k:Nat):Int):=by
 rw [w64_in (n:=8*(k:Int)) (by omega) (by omega),w64_in (by omega) (by omega)];omega
theorem chk_Chain (p:Int) (s:ByteArray) (hs:s.size≤9223372036854775000):Pure Tryz.prog 28 [.int .u64 p,.str s] (.int .u64 (chI p s)):=by
 have c1:=chk_Hash (be8S p) (by rw [be8S_size];omega)
 have c2:=chk_extend (fnvK 14695981039346656037 (be8S p) (be8S p).size) s hs
 rw [be8S_size] at c1 c2
 unfold chI
 refine fc_of mixed T_ok Tryz.func28 rfl (by kernel_rfl) (by kernel_rfl) (by kernel_rfl) ?_
 repeat' ((conv=>whnf);first|((first|apply br_dec|apply br_ndec)<;>intro h<;>try (exfalso;(try dsimp only at h);omega))|((first|apply br_seq|apply br_nseq|apply br_not|apply br_intro)<;>intro h)|refine cond_a ?_)
 all_goals (conv=>whnf)
 refine vloop_of (fun k:Nat=>⟨[(0,.int .u64 p),(1,.str s),(5,.sl 1 0 0 8),(9,.int .i64 8),(10,.int .i64 k)],[(1,some (.one false (.cols 8 [.sc (.ints .u8 (beZ p k))])))],2⟩) (fun k=>k≤8) (fun k=>8-k) 0 [0,1] [] ⟨rfl,⟨rfl,rfl,rfl,rfl,rfl,trivial⟩,⟨rfl,trivial⟩⟩ (by omega) ?_
 intro k hk
 by_cases hlt:k<8
 ·have e:=shift_ok hlt
  repeat' ((conv=>whnf);first|(refine cond_intro (show 0≤IntKind.i64.wrap (56-IntKind.i64.wrap (8*(k:Int))) from ?_) ?_;(rw [e];omega))|((first|apply br_dec|apply br_ndec)<;>intro h<;>try (exfalso;(try dsimp only at h);omega))|((first|apply br_seq|apply br_nseq|apply br_not|apply br_intro)<;>intro h)|refine cond_a ?_)
  all_goals (conv=>whnf)
  ·refine ⟨k+1,[0,1],[],by omega,by omega,⟨rfl,⟨rfl,rfl,rfl,rfl,congrArg (fun z=>some (SV.int .i64 z)) (i64_succ (by omega)),trivial⟩,⟨?_,trivial⟩⟩⟩
   refine congrArg (fun z=>some (HB.one false (.cols 8 [.sc (.ints .u8 z)]))) ?_
   show (beZ p k).set k (IntKind.u8.wrap (ishr .u64 p (IntKind.i64.wrap (56-IntKind.i64.wrap (8*(k:Int))))))=_
   rw [e]
   exact beZ_set p k hlt
 ·have e:k=8:=by omega
  subst e
  rw [show beZ p 8=beL p 8 from beZ_all p]
  have e8:bytesOf (seg 0 8 (beL p 8))=be8S p:=by
   unfold seg be8S;rw [List.drop_zero,List.take_of_length_le (by rw [beL_length];exact Nat.le_refl _)]
  rw [←e8] at c1 c2
  repeat' ((conv=>whnf);first|(refine vcall_pure (c1) rfl rfl rfl ?_)|(refine vcall_pure (c2) rfl rfl rfl ?_)|(refine vcallD_pure (c1) rfl rfl rfl ?_)|(refine vcallD_pure (c2) rfl rfl rfl ?_)|((first|apply br_dec|apply br_ndec)<;>intro h<;>try (exfalso;(try dsimp only at h);omega))|((first|apply br_seq|apply br_nseq|apply br_not|apply br_intro)<;>intro h)|refine cond_a ?_)
  all_goals (conv=>whnf)
  exact ret_pure (by rw [e8];rfl)
attribute [irreducible] chI
end Go.Proofs.YtlankgapiecloaaGreatDoor
namespace Go.Proofs.YtlankgapiecloaaGreatDoor
open Go.RowKit Go.Sy
set_option linter.unusedVariables false
set_option linter.unusedSimpArgs false
def labC (c:Int):Bool:=decide ((97≤c∧c≤122)∨(65≤c∧c≤90)∨(48≤c∧c≤57)∨c=95∨c=45∨c=58)
def labB (s:ByteArray):Bool:=decide (1≤s.size∧s.size≤40)&&(List.range s.size).all (fun i=>labC (byteAt s (i:Int)))
structure Le where
 id:ByteArray
 date:Int
 ps:List Lp
 np:Nat
abbrev le0:Le:=⟨⟨#[]⟩,0,[],0⟩
theorem le_id (l:List Le) (k:Nat):(l.map Le.id).getD k ⟨#[]⟩=(l.getD k le0).id:=by
 rw [List.getD,List.getD,List.getElem?_map];cases l[k]?<;>rfl
theorem le_np (l:List Le) (k:Nat):(l.map Le.np).getD k 0=(l.getD k le0).np:=by
 rw [List.getD,List.getD,List.getElem?_map];cases l[k]?<;>rfl
def poT (p:Lp):ByteArray:=⟨#[124]⟩++p.a++⟨#[47]⟩++decI p.n++⟨#[47]⟩++p.c
def leT (e:Le):Nat→ByteArray
 |0=>e.id++⟨#[124]⟩++decI e.date
 |k+1=>leT e k++poT (e.ps.getD k lp0)
structure Lg where
 na:Nat
 acc:List ByteArray
 ne:Nat
 ent:List Le
 ns:Nat
 st:List ByteArray
 bal:ByteArray→ByteArray→Int
 dig:Int
abbrev Lg.ids (s:Lg):List ByteArray:=s.ent.map Le.id
abbrev inL (a:ByteArray) (l:List ByteArray):Prop:=sidx l a<l.length
theorem in_iff {a:ByteArray} {l:List ByteArray}:inL a l↔a∈l:=sidx_lt
def poE (acc:List ByteArray):List Lp→Int
 | []=>0
 |p::L=>if inL p.a acc then (if mchk p.n p.c=0 then poE acc L else mchk p.n p.c) else 6
def rngB (bal:ByteArray→ByteArray→Int) (L:List Lp):Bool:=(chR L L.length).all (fun x=>decide (-4503599627370496≤bal x.a x.c+x.n∧bal x.a x.c+x.n≤4503599627370496))
def lgE (s:Lg) (e:Le):Int:=
 if labB e.id=false then 5 else if e.date<0∨99999<e.date then 14 else if inL e.id s.ids then 7 else if e.np<1∨16<e.np then 4
 else if poE s.acc e.ps≠0 then poE s.acc e.ps else if lgBal e.ps=false then 26 else if rngB s.bal e.ps=false then 4 else if 512≤s.ne then 12 else 0
def lgP (s:Lg) (e:Le):Lg:= { s with ne:=s.ne+1,ent:=s.ent++ [e],bal:=fun a c=>s.bal a c+lgS e.ps a c,dig:=chI s.dig (leT e e.np)}
structure EntOk (acc:List ByteArray) (e:Le):Prop where
 id:labB e.id=true
 d:0≤e.date∧e.date≤99999
 n:e.ps.length=e.np
 n1:1≤e.np
 n16:e.np≤16
 ps:poE acc e.ps=0
 b:lgBal e.ps=true
def allP (L:List Le):List Lp:=L.flatMap Le.ps
structure LgOk (s:Lg):Prop where
 na:s.acc.length=s.na
 n512:s.na≤512
 nd:s.acc.Nodup
 lab:∀a∈s.acc,labB a=true
 ne:s.ent.length=s.ne
 e512:s.ne≤512
 ids:s.ids.Nodup
 ent:∀e∈s.ent,EntOk s.acc e
 ns:s.st.length=s.ns
 n2:s.ns≤2*s.ne
 st:∀x∈s.st,x∈s.ids
 bal:∀a c,s.bal a c=lgS (allP s.ent) a c
 rng:∀a c,-4503599627370496≤s.bal a c∧s.bal a c≤4503599627370496
 dig:0≤s.dig∧s.dig<18446744073709551616
theorem lab_size {s:ByteArray} (h:labB s=true):1≤s.size∧s.size≤40:=by
 unfold labB at h
 rw [Bool.and_eq_true] at h
 exact of_decide_eq_true h.1
theorem poE_zero {acc:List ByteArray}:∀{L:List Lp},poE acc L=0↔∀p∈L,p.a∈acc∧mchk p.n p.c=0
 | []=>by simp [poE]
 |p::L=>by
  have ih:=poE_zero (acc:=acc) (L:=L)
  simp only [poE,List.mem_cons,forall_eq_or_imp]
  by_cases h1:inL p.a acc
  ·rw [if_pos h1]
   by_cases h2:mchk p.n p.c=0
   ·rw [if_pos h2,ih];exact ⟨fun h=>⟨⟨in_iff.1 h1,h2⟩,h⟩,fun h=>h.2⟩
   ·rw [if_neg h2];exact ⟨fun h=>absurd h h2,fun h=>absurd h.1.2 h2⟩
  ·rw [if_neg h1];exact ⟨fun h=>absurd h (by decide),fun h=>absurd (in_iff.2 h.1.1) h1⟩
theorem mchk_zero {a:Int} {c:ByteArray} (h:mchk a c=0):curB c=true∧-4503599627370496≤a∧a≤4503599627370496:=by
 rcases mchk_or a c with (h'|h')|h'
 ·omega
 ·omega
 ·exact h'.2
theorem mchk_neg {a:Int} {c:ByteArray} (h:mchk a c=0):mchk (-a) c=0:=by
 obtain ⟨h1,h2,h3⟩:=mchk_zero h
 unfold mchk
 rw [if_neg (by rw [h1];decide),if_pos (by omega)]
theorem poE_bd {acc:List ByteArray} {L:List Lp} (h:poE acc L=0):lgBd L:=fun x hx=>(mchk_zero (poE_zero.1 h x hx).2).2
theorem lgE_zero {s:Lg} {e:Le} (hn:e.ps.length=e.np) (h:lgE s e=0):EntOk s.acc e∧e.id∉s.ids∧rngB s.bal e.ps=true∧s.ne<512:=by
 unfold lgE at h
 split at h
 ·cases h
 rename_i h1
 split at h
 ·cases h
 rename_i h2
 split at h
 ·cases h
 rename_i h3
 split at h
 ·cases h
 rename_i h4
 split at h
 ·rename_i h5;exact absurd h h5
 rename_i h5
 split at h
 ·cases h
 rename_i h6
 split at h
 ·cases h
 rename_i h7
 split at h
 ·cases h
 rename_i h8
 exact ⟨⟨by simpa using h1,by omega,hn,by omega,by omega,Classical.not_not.1 h5,by simpa using h6⟩,fun h=>h3 (in_iff.2 h),by simpa using h7,by omega⟩
theorem lgE_ok {s:Lg} {e:Le} (h:EntOk s.acc e) (h1:e.id∉s.ids) (h2:rngB s.bal e.ps=true) (h3:s.ne<512):lgE s e=0:=by
 obtain ⟨k1,k2,k3,k4,k5,k6,k7⟩:=h
 unfold lgE
 rw [if_neg (by rw [k1];decide),if_neg (by omega),if_neg (fun h=>h1 (in_iff.1 h)),if_neg (by omega),if_neg (fun h=>h k6),if_neg (by rw [k7];decide),if_neg (by rw [h2];decide),if_neg (by omega)]
theorem lgV_out {R:List Lp} {a c:ByteArray} (h:R.length≤lgI R a c):lgV R a c=0:=by
 unfold lgV
 rw [List.getD,List.getElem?_eq_none h];rfl
theorem lgI_key {a c:ByteArray}:∀{R:List Lp},lgI R a c<R.length→(R.getD (lgI R a c) lp0).a=a∧(R.getD (lgI R a c) lp0).c=c
 | [],h=>absurd h (Nat.not_lt_zero _)
 |x::R,h=>by
  rw [lgI_cons] at h⊢
  split
  ·rename_i hk;exact hk
  ·rename_i hk
   rw [if_neg hk] at h
   rw [List.getD_cons_succ]
   exact lgI_key (by simpa using h)
theorem rng_all {bal:ByteArray→ByteArray→Int} {L:List Lp} (h:rngB bal L=true) (hb:∀a c,-4503599627370496≤bal a c∧bal a c≤4503599627370496) (a c:ByteArray): -4503599627370496≤bal a c+lgS L a c∧bal a c+lgS L a c≤4503599627370496:=by
 have hv:lgV (chR L L.length) a c=lgS L a c:=by rw [chR_val a c L.length (Nat.le_refl _),List.take_length]
 rcases Nat.lt_or_ge (lgI (chR L L.length) a c) (chR L L.length).length with hi|hi
 ·obtain ⟨e1,e2⟩:=lgI_key hi
  unfold rngB at h
  rw [List.all_eq_true] at h
  have hm:(chR L L.length).getD (lgI (chR L L.length) a c) lp0∈chR L L.length:=by rw [List.getD,List.getElem?_eq_getElem hi];exact List.getElem_mem hi
  have:=of_decide_eq_true (h _ hm)
  rw [e1,e2] at this
  unfold lgV at hv
  rw [hv] at this
  exact this
 ·rw [lgV_out hi] at hv
  rw [←hv,Int.add_zero]
  exact hb a c
theorem rng_of {bal:ByteArray→ByteArray→Int} {L:List Lp} (h:∀a c,-4503599627370496≤bal a c+lgS L a c∧bal a c+lgS L a c≤4503599627370496):rngB bal L=true:=by
 unfold rngB
 rw [List.all_eq_true]
 intro x hx
 obtain ⟨i,hi,rfl⟩:=List.getElem_of_mem hx
 have e:=lgV_row (chR_dist L L.length) hi
 rw [List.getD,List.getElem?_eq_getElem hi] at e
 dsimp only [Option.getD_some] at e
 rw [chR_val _ _ _ (Nat.le_refl _),List.take_length] at e
 have:=h (chR L L.length)[i].a (chR L L.length)[i].c
 rw [e] at this
 exact decide_eq_true this
theorem allP_app (A:List Le) (e:Le):allP (A++ [e])=allP A++e.ps:=by unfold allP;rw [List.flatMap_append];simp
theorem lgOk_post {s:Lg} {e:Le} (h:LgOk s) (hn:e.ps.length=e.np) (h0:lgE s e=0):LgOk (lgP s e):=by
 obtain ⟨k1,k2,k3,k4⟩:=lgE_zero hn h0
 refine ⟨h.na,h.n512,h.nd,h.lab,?_,?_,?_,?_,h.ns,?_,?_,?_,?_,chI_bd _ _⟩
 ·show (s.ent++ [e]).length=s.ne+1
  rw [List.length_append,h.ne];rfl
 ·show s.ne+1≤512;omega
 ·show ((s.ent++ [e]).map Le.id).Nodup
  rw [List.map_append]
  exact List.nodup_append.2 ⟨h.ids,by simp,fun a ha b hb e'=>by simp at hb;subst hb;subst e';exact k2 ha⟩
 ·intro x hx
  rcases List.mem_append.1 (show x∈s.ent++ [e] from hx) with hx|hx
  ·exact h.ent x hx
  ·rw [List.mem_singleton.1 hx];exact k1
 ·show s.ns≤2*(s.ne+1)
  have:=h.n2;omega
 ·intro x hx
  show x∈(s.ent++ [e]).map Le.id
  rw [List.map_append]
  exact List.mem_append_left _ (h.st x hx)
 ·intro a c
  show s.bal a c+lgS e.ps a c=lgS (allP (s.ent++ [e])) a c
  rw [allP_app,lgS_append,h.bal]
 ·exact rng_all k3 h.rng
theorem rev_at {s:Lg} (h:LgOk s) {id:ByteArray} (hi:id∈s.ids):s.ent.getD (sidx s.ids id) le0∈s.ent∧(s.ent.getD (sidx s.ids id) le0).id=id:=by
 have hlt:=sidx_lt.2 hi
 have h2:=sidx_get hlt
 have hl:sidx s.ids id<s.ent.length:=by simpa using hlt
 refine ⟨by rw [List.getD,List.getElem?_eq_getElem hl];exact List.getElem_mem hl,?_⟩
 rw [←le_id,List.getD,h2];rfl
attribute [irreducible] labB
end Go.Proofs.YtlankgapiecloaaGreatDoor
namespace Go.Proofs.YtlankgapiecloaaGreatDoor
open Go.RowKit Go.Sy
set_option linter.unusedVariables false
set_option linter.unusedSimpArgs false
attribute [local irreducible] sortI
abbrev sPty:ByteArray:=⟨#[112,97,114,116,121,58]⟩
def ptyS (p:ByteArray):ByteArray:=sPty++p
structure Bks where
 cur:ByteArray
 days:Int
 na:Nat
 au:List Au
 cut:Int
 hn:Nat
 hs:List Int
 np:Nat
 pr:List ByteArray
 m:Nat
 ds:List Int
 B:List Bk
 nc:Nat
 cd:List Int
 lg:Lg
 last:Int
abbrev Bks.aid (s:Bks):List ByteArray:=s.au.map Au.id
abbrev Bks.pl (s:Bks) (id:ByteArray):Nat:=sidx s.aid id
def auAt (L:List Au) (i:Nat):Au:=⟨(L.map Au.id).getD i ⟨#[]⟩,(L.map Au.cur).getD i ⟨#[]⟩,(L.map Au.app).getD i 0,(L.map Au.rev).getD i 0,(L.map Au.cle).getD i 0,(L.map Au.exp).getD i 0,(L.map Au.st).getD i 0,(L.map Au.att).getD i 0,(L.map Au.unt).getD i 0,(L.map Au.pa).getD i 0⟩
theorem auAt_eq (L:List Au) (i:Nat):auAt L i=L.getD i Au.zero:=by
 unfold auAt
 simp only [List.getD,List.getElem?_map]
 cases L[i]?<;>rfl
def auB (n:Nat) (L:List Au):Blk:= .cols n [.sc (.strs (L.map Au.id)),.sc (.strs (L.map Au.cur)),.sc (.ints .i64 (L.map Au.app)),.sc (.ints .i64 (L.map Au.rev)),.sc (.ints .i64 (L.map Au.cle)),.sc (.ints .i64 (L.map Au.exp)),.sc (.ints .i64 (L.map Au.st)),.sc (.ints .i64 (L.map Au.att)),.sc (.ints .i64 (L.map Au.unt)),.sc (.ints .i64 (L.map Au.pa))]
theorem auB_set (n:Nat) (L:List Au) (i:Nat) (a:Au):(.cols n [.sc (.strs ((L.map Au.id).set i a.id)),.sc (.strs ((L.map Au.cur).set i a.cur)),.sc (.ints .i64 ((L.map Au.app).set i a.app)),.sc (.ints .i64 ((L.map Au.rev).set i a.rev)),.sc (.ints .i64 ((L.map Au.cle).set i a.cle)),.sc (.ints .i64 ((L.map Au.exp).set i a.exp)),.sc (.ints .i64 ((L.map Au.st).set i a.st)),.sc (.ints .i64 ((L.map Au.att).set i a.att)),.sc (.ints .i64 ((L.map Au.unt).set i a.unt)),.sc (.ints .i64 ((L.map Au.pa).set i a.pa))]:Blk)=auB n (L.set i a):=by
 unfold auB;simp only [List.map_set]
theorem auB_app (n:Nat) (L:List Au) (a:Au):(.cols n [.sc (.strs (L.map Au.id++ [a.id])),.sc (.strs (L.map Au.cur++ [a.cur])),.sc (.ints .i64 (L.map Au.app++ [a.app])),.sc (.ints .i64 (L.map Au.rev++ [a.rev])),.sc (.ints .i64 (L.map Au.cle++ [a.cle])),.sc (.ints .i64 (L.map Au.exp++ [a.exp])),.sc (.ints .i64 (L.map Au.st++ [a.st])),.sc (.ints .i64 (L.map Au.att++ [a.att])),.sc (.ints .i64 (L.map Au.unt++ [a.unt])),.sc (.ints .i64 (L.map Au.pa++ [a.pa]))]:Blk)=auB n (L++ [a]):=by
 unfold auB;simp only [List.map_append,List.map_cons,List.map_nil]
def endI (s:Bks) (t:Int):Int:=t+s.days*86400
def bapE (s:Bks) (o:Bop):Int:=if s.pl o.au<s.na then 7 else if 256≤s.na then 12 else (newZ o.au s.cur o.am o.t (endI s o.t)).2
def bapS (s:Bks) (o:Bop):Bks:= { s with na:=s.na+1,au:=s.au++ [(newZ o.au s.cur o.am o.t (endI s o.t)).1]}
def bcgA (s:Bks) (o:Bop):Au×Int:=
 if o.k=2 then raiseZ (auAt s.au (s.pl o.au)) o.am (max (auAt s.au (s.pl o.au)).unt (endI s o.t))
 else if o.k=3 then ((reverseZ (auAt s.au (s.pl o.au)) o.am).1,(reverseZ (auAt s.au (s.pl o.au)) o.am).2.2)
 else ((expireZ (auAt s.au (s.pl o.au)) o.t).1,(expireZ (auAt s.au (s.pl o.au)) o.t).2.2)
def bcgE (s:Bks) (o:Bop):Int:=if s.pl o.au<s.na then (bcgA s o).2 else 6
def bcgS (s:Bks) (o:Bop):Bks:= { s with au:=s.au.set (s.pl o.au) (bcgA s o).1}
def bkD (s:Bks) (t:Int):Int:=mvD s.hs s.cd (ofI s.hs s.cut t)
def owX (s:Bks) (t:Int) (f g:ByteArray) (n:Int):Int:=mvX s.hs s.ds s.cd s.B s.pr (bkD s t) f g s.cur n
def mtF (o:Bop):ByteArray:=if o.k=5 then o.ac else if o.k=6∧¬o.am<0 then o.ac else o.is
def mtG (o:Bop):ByteArray:=if o.k=5 then o.is else if o.k=6∧¬o.am<0 then o.is else o.ac
def mtN (o:Bop):Int:=if o.k=6 then (if o.am<0 then-o.am else o.am) else o.am-o.fe
def enB (s:Bks) (o:Bop):Le:=⟨o.id,dayI o.t,[⟨ptyS (mtF o),-mtN o,s.cur⟩,⟨ptyS (mtG o),mtN o,s.cur⟩],2⟩
def clA (s:Bks) (o:Bop):Au×Int×Int×Int:=clearZ (auAt s.au (s.pl o.au)) o.am o.fi
def mmE (s:Bks) (o:Bop):Int:=
 if inL o.id s.lg.ids then 15 else if 512≤s.lg.ne then 12
 else if o.k=4 then (if s.pl o.au<s.na then (if (clA s o).2.2.2≠0 then (clA s o).2.2.2 else owX s o.t (mtF o) (mtG o) (mtN o)) else 6)
 else owX s o.t (mtF o) (mtG o) (mtN o)
def owS (s:Bks) (o:Bop):Bks:= { s with
 m:=(mvDs s.ds (bkD s o.t)).length,ds:=mvDs s.ds (bkD s o.t),
 B:=mvBs s.ds s.B (bkD s o.t) ((bkAt s.ds s.B s.pr (bkD s o.t)).mv (mtF o) (mtG o) s.cur (mtN o)),lg:=lgP s.lg (enB s o)}
def mmS (s:Bks) (o:Bop):Bks:=if o.k=4 then { owS s o with au:=s.au.set (s.pl o.au) (clA s o).1} else owS s o
def clS (s:Bks) (o:Bop):Bks:= { s with nc:=s.nc+1,cd:=s.cd++ [o.am]}
def pfE (s:Bks) (o:Bop):Int:=
 if o.k=1 then bapE s o else if o.k=8 then clE s.hs s.ds s.cd o.am else if o.k=4∨o.k=5∨o.k=6 then mmE s o else bcgE s o
def pfS (s:Bks) (o:Bop):Bks:=if o.k=1 then bapS s o else if o.k=8 then clS s o else if o.k=4∨o.k=5∨o.k=6 then mmS s o else bcgS s o
def doE (s:Bks) (o:Bop):Int:=if ckE o≠0 then ckE o else if o.t<s.last then 14 else pfE s o
def doS (s:Bks) (o:Bop):Bks:=if doE s o=0 then { pfS s o with last:=o.t} else s
structure BkOk (s:Bks):Prop where
 lg:LgOk s.lg
 acc:s.lg.acc=s.pr.map ptyS
 bd:∀a c,-(999999999999*(s.lg.ne:Int))≤s.lg.bal a c∧s.lg.bal a c≤999999999999*(s.lg.ne:Int)
 hn:s.hs.length=s.hn
 np:s.pr.length=s.np
 err:nwErr s.pr=0
 bks:BksI s.ds s.B s.m s.np (sortS s.pr)
 nc:s.cd.length=s.nc
 na:s.au.length=s.na
 n256:s.na≤256
 days:1≤s.days∧s.days≤1000
 cur:curB s.cur=true
 last:0≤s.last∧s.last≤1099511627776
 mle:s.m≤s.lg.ne
 mb:∀i,i<s.m→(s.B.getD i bk0).m≤s.lg.ne
theorem au_lab {s:ByteArray} (h:auI s=true):labB s=true:=by
 unfold auI at h
 rw [Bool.and_eq_true] at h
 obtain ⟨h1,h2⟩:=h
 have h1:=of_decide_eq_true h1
 unfold labB
 rw [Bool.and_eq_true]
 refine ⟨decide_eq_true (by omega),?_⟩
 rw [List.all_eq_true] at h2⊢
 intro i hi
 have h3:=h2 i hi
 unfold auC at h3
 have h3:=of_decide_eq_true h3
 unfold labC
 exact decide_eq_true (by omega)
theorem mt_bd {o:Bop} (h:CkOk o) (hk:o.k=4∨o.k=5∨o.k=6): -999999999999≤mtN o∧mtN o≤999999999999:=by
 have ha:=h.a
 have hf:=h.f
 unfold pmB at ha
 unfold mtN
 rcases hk with e|e|e<;>rw [e] at ha hf⊢<;>simp at ha hf⊢
 ·omega
 ·omega
 ·split<;>omega
theorem bk_mv_ok {hs ds cd:List Int} {B:List Bk} {pr:List ByteArray} {D:Int} {f g c:ByteArray} {a:Int} (h:mvX hs ds cd B pr D f g c a=0) (hp:(bkAt ds B pr D).ps=sortS pr) (hl:(bkAt ds B pr D).ps.length=(bkAt ds B pr D).n):¬D<0∧mvE (bkAt ds B pr D) f g c a=0∧f∈pr∧g∈pr∧f≠g∧mchk a c=0:=by
 unfold mvX at h
 split at h
 ·cases h
 rename_i hD
 refine ⟨hD,h,?_⟩
 unfold mvE at h
 split at h
 ·cases h
 rename_i h1
 split at h
 ·cases h
 rename_i h2
 split at h
 ·rename_i h3;exact absurd h h3
 rename_i h3
 have key:∀x,¬idI (bkAt ds B pr D).ps x (bkAt ds B pr D).n<0→x∈pr:=by
  intro x hx
  by_cases q:sidx (bkAt ds B pr D).ps x<(bkAt ds B pr D).n
  ·rw [hp] at q
   rw [←hl,hp] at q
   exact (sortS_perm pr).mem_iff.1 (sidx_lt.1 q)
  ·exact absurd (show idI (bkAt ds B pr D).ps x (bkAt ds B pr D).n<0 by rw [idI_no q];decide) hx
 exact ⟨key f (by omega),key g (by omega),fun e=>h2 (by rw [e]),Classical.not_not.1 h3⟩
theorem bkAt_I {ds:List Int} {B:List Bk} {m np:Nat} {pr:List ByteArray} (hb:BksI ds B m np (sortS pr)) (hp:pr.length=np) (he:nwErr pr=0) (d:Int):BkI (bkAt ds B pr d) 4503599627370496∧(bkAt ds B pr d).n=np∧(bkAt ds B pr d).ps=sortS pr:=by
 unfold bkAt
 split
 ·rename_i h
  have hi:=iidx_lt.2 h
  obtain ⟨h1,h2,h3,_⟩:=hb.I _ (by rw [←hb.dl];exact hi)
  exact ⟨h1,h2,h3⟩
 ·exact ⟨(nwB_I he).up (by decide),hp,rfl⟩
theorem dayI_bd {hs cd:List Int} {cut t:Int} (h:¬mvD hs cd (ofI hs cut t)<0):0≤dayI t∧dayI t≤99999:=by
 by_cases q:dayI t<0
 ·exfalso
  refine h ?_
  have e:ofI hs cut t= -1:=by unfold ofI;rw [if_pos q]
  rw [e]
  unfold mvD
  rw [mvF_neg (by decide)];decide
 ·have:=dayI_ok q
  omega
theorem enB_sum (s:Bks) (o:Bop) (h: -999999999999≤mtN o∧mtN o≤999999999999) (hne:ptyS (mtF o)≠ptyS (mtG o)) (a c:ByteArray): -999999999999≤lgS (enB s o).ps a c∧lgS (enB s o).ps a c≤999999999999:=by
 simp only [enB,lgS]
 split
 ·rename_i h1
  rw [if_neg (fun h2=>hne (h1.1.trans h2.1.symm))];omega
 ·split<;>omega
theorem ptyS_inj {p q:ByteArray} (h:ptyS p=ptyS q):p=q:=by
 have h2:=congrArg (fun b:ByteArray=>b.data.toList) h
 simp only [ptyS,ByteArray.data_append,Array.toList_append,List.append_cancel_left_eq] at h2
 cases p;cases q
 congr 1
 exact Array.toList_inj.1 h2
theorem po_ok {s:Bks} (h:BkOk s) {o:Bop} (hc:CkOk o) (hk:o.k=4∨o.k=5∨o.k=6) (hi:¬inL o.id s.lg.ids) (hf:¬512≤s.lg.ne) (hx:owX s o.t (mtF o) (mtG o) (mtN o)=0):lgE s.lg (enB s o)=0∧ptyS (mtF o)≠ptyS (mtG o):=by
 obtain ⟨b1,b2,b3⟩:=bkAt_I h.bks h.np h.err (bkD s o.t)
 obtain ⟨m1,m2,m3,m4,m5,m6⟩:=bk_mv_ok hx b3 b1.psl
 have hne:ptyS (mtF o)≠ptyS (mtG o):=fun e=>m5 (ptyS_inj e)
 refine ⟨?_,hne⟩
 have hd:=dayI_bd m1
 have hb:=mt_bd hc hk
 have hid:labB o.id=true:=by
  have hn:=hc.n
  unfold bkN at hn
  rw [Bool.and_eq_true] at hn
  have h1:=hn.1
  have hmv:bkMv o.k=true:=decide_eq_true hk
  rw [hmv] at h1
  exact au_lab h1
 refine lgE_ok ⟨hid,hd,rfl,by show 1≤2;omega,by show 2≤16;omega,?_,?_⟩ (fun q=>hi (in_iff.2 q)) ?_ (by omega)
 ·refine poE_zero.2 fun p hp=> ?_
  simp only [enB,List.mem_cons,List.not_mem_nil,or_false] at hp
  rw [h.acc]
  rcases hp with rfl|rfl
  ·exact ⟨List.mem_map.2 ⟨_,m3,rfl⟩,mchk_neg m6⟩
  ·exact ⟨List.mem_map.2 ⟨_,m4,rfl⟩,m6⟩
 ·rw [lgBal_iff]
  intro c
  simp only [enB,lgC]
  split<;>omega
 ·refine rng_of fun a c=> ?_
  have h1:=h.bd a c
  have h2:=enB_sum s o hb hne a c
  have h3:(s.lg.ne:Int)≤511:=by omega
  omega
end Go.Proofs.YtlankgapiecloaaGreatDoor
namespace Go.Proofs.YtlankgapiecloaaGreatDoor
open Go.RowKit Go.Sy
set_option linter.unusedVariables false
set_option linter.unusedSimpArgs false
attribute [local irreducible] sortI
theorem bks_step {ds:List Int} {B:List Bk} {m np:Nat} {sp:List ByteArray} (h:BksI ds B m np sp) (D:Int) {b:Bk} (hI:BkI b 4503599627370496) (hn:b.n=np) (hp:b.ps=sp) (hm:b.m≤100000):BksI (mvDs ds D) (mvBs ds B D b) (mvDs ds D).length np sp:=by
 unfold mvDs mvBs
 by_cases hd:D∈ds
 ·rw [if_pos hd,if_pos hd]
  have hi:=iidx_lt.2 hd
  refine ⟨rfl,by rw [List.length_set,h.bl,h.dl],h.nd,fun i hi2=> ?_⟩
  by_cases e:iidx ds D=i
  ·subst e
   rw [List.getD,List.getElem?_set_self (by rw [h.bl,←h.dl];exact hi)]
   exact ⟨hI,hn,hp,hm⟩
  ·rw [List.getD,List.getElem?_set_ne e]
   exact h.I i (by rw [←h.dl];exact hi2)
 ·rw [if_neg hd,if_neg hd]
  refine ⟨rfl,by rw [List.length_append,List.length_append,h.bl,h.dl];rfl,List.nodup_append.2 ⟨h.nd,by simp,fun a ha b hb e=>by simp at hb;subst hb;subst e;exact hd ha⟩,fun i hi2=> ?_⟩
  rw [List.length_append,List.length_singleton] at hi2
  by_cases e:i=B.length
  ·subst e
   rw [List.getD,List.getElem?_append_right (Nat.le_refl _),Nat.sub_self]
   exact ⟨hI,hn,hp,hm⟩
  ·have hl:i<B.length:=by rw [h.bl,←h.dl];rw [h.bl,←h.dl] at e;omega
   rw [List.getD,List.getElem?_append_left hl]
   exact h.I i (by rw [←h.bl];exact hl)
theorem mvDs_len (ds:List Int) (D:Int):(mvDs ds D).length≤ds.length+1:=by
 unfold mvDs;split
 ·omega
 ·rw [List.length_append];exact Nat.le_refl _
theorem mvBs_m {ds:List Int} {B:List Bk} {m:Nat} (hd:ds.length=m) (hB:B.length=m) {D:Int} {b:Bk} {k:Nat} (h:∀i,i<m→(B.getD i bk0).m≤k) (hb:b.m≤k):∀i,i<(mvDs ds D).length→((mvBs ds B D b).getD i bk0).m≤k:=by
 intro i hi
 unfold mvDs at hi
 unfold mvBs
 by_cases hD:D∈ds
 ·rw [if_pos hD] at hi⊢
  by_cases e:iidx ds D=i
  ·subst e
   rw [List.getD,List.getElem?_set_self (by omega)];exact hb
  ·rw [List.getD,List.getElem?_set_ne e];exact h i (by omega)
 ·rw [if_neg hD] at hi⊢
  rw [List.length_append,List.length_singleton] at hi
  by_cases e:i=B.length
  ·subst e
   rw [List.getD,List.getElem?_append_right (Nat.le_refl _),Nat.sub_self];exact hb
  ·rw [List.getD,List.getElem?_append_left (by omega)];exact h i (by omega)
theorem bkAt_m {s:Bks} (h:BkOk s) (D:Int):(bkAt s.ds s.B s.pr D).m≤s.lg.ne:=by
 unfold bkAt
 split
 ·rename_i hd
  exact h.mb _ (by rw [←h.bks.dl];exact iidx_lt.2 hd)
 ·exact Nat.zero_le _
theorem ow_ok {s:Bks} (h:BkOk s) {o:Bop} (hc:CkOk o) (hk:o.k=4∨o.k=5∨o.k=6) (hi:¬inL o.id s.lg.ids) (hf:¬512≤s.lg.ne) (hx:owX s o.t (mtF o) (mtG o) (mtN o)=0):BkOk (owS s o):=by
 obtain ⟨hp,hne⟩:=po_ok h hc hk hi hf hx
 obtain ⟨b1,b2,b3⟩:=bkAt_I h.bks h.np h.err (bkD s o.t)
 have b4:=bkAt_m h (bkD s o.t)
 obtain ⟨v1,v2⟩:=mv_ps (bkAt s.ds s.B s.pr (bkD s o.t)) (mtF o) (mtG o) s.cur (mtN o)
 have v3:=mv_m (bkAt s.ds s.B s.pr (bkD s o.t)) (mtF o) (mtG o) s.cur (mtN o)
 have v4:=mv_I b1 (mtF o) (mtG o) s.cur (mtN o)
 have hlg:=lgOk_post h.lg (e:=enB s o) rfl hp
 have hl:=mvDs_len s.ds (bkD s o.t)
 have hml:=h.mle
 have hne2:(lgP s.lg (enB s o)).ne=s.lg.ne+1:=rfl
 refine ⟨hlg,h.acc,fun a c=> ?_,h.hn,h.np,h.err,bks_step h.bks _ v4 (v2.trans b2) (v1.trans b3) (by omega),h.nc,h.na,h.n256,h.days,h.cur,h.last,?_,?_⟩
 ·have h1:=h.bd a c
  have h2:=enB_sum s o (mt_bd hc hk) hne a c
  show-(999999999999*((s.lg.ne+1:Nat):Int))≤s.lg.bal a c+lgS (enB s o).ps a c∧s.lg.bal a c+lgS (enB s o).ps a c≤999999999999*((s.lg.ne+1:Nat):Int)
  omega
 ·show (mvDs s.ds (bkD s o.t)).length≤s.lg.ne+1
  have:=h.bks.dl
  omega
 ·show∀i,i<(mvDs s.ds (bkD s o.t)).length→((mvBs s.ds s.B (bkD s o.t) ((bkAt s.ds s.B s.pr (bkD s o.t)).mv (mtF o) (mtG o) s.cur (mtN o))).getD i bk0).m≤s.lg.ne+1
  exact mvBs_m h.bks.dl h.bks.bl (fun i hi=>by have:=h.mb i hi;omega) (by omega)
theorem au_set_ok {s:Bks} (h:BkOk s) (i:Nat) (a:Au):BkOk { s with au:=s.au.set i a}:=
 ⟨h.lg,h.acc,h.bd,h.hn,h.np,h.err,h.bks,h.nc,by show (s.au.set i a).length=s.na;rw [List.length_set];exact h.na,h.n256,h.days,h.cur,h.last,h.mle,h.mb⟩
theorem last_ok {s:Bks} (h:BkOk s) {t:Int} (ht:0≤t∧t≤1099511627776):BkOk { s with last:=t}:=
 ⟨h.lg,h.acc,h.bd,h.hn,h.np,h.err,h.bks,h.nc,h.na,h.n256,h.days,h.cur,ht,h.mle,h.mb⟩
theorem mm_ok {s:Bks} {o:Bop} (h0:mmE s o=0):¬inL o.id s.lg.ids∧¬512≤s.lg.ne∧owX s o.t (mtF o) (mtG o) (mtN o)=0∧(o.k=4→s.pl o.au<s.na∧(clA s o).2.2.2=0):=by
 unfold mmE at h0
 split at h0
 ·cases h0
 rename_i h1
 split at h0
 ·cases h0
 rename_i h2
 refine ⟨h1,h2,?_⟩
 split at h0
 ·split at h0
  ·rename_i h4
   split at h0
   ·rename_i h5;exact absurd h0 h5
   ·rename_i h5;exact ⟨h0,fun _=>⟨h4,Classical.not_not.1 h5⟩⟩
  ·cases h0
 ·rename_i h3;exact ⟨h0,fun e=>absurd e h3⟩
theorem pf_ok {s:Bks} (h:BkOk s) {o:Bop} (hc:CkOk o) (h0:pfE s o=0):BkOk (pfS s o):=by
 unfold pfE at h0
 unfold pfS
 split at h0
 ·rename_i e
  rw [if_pos e]
  unfold bapE at h0
  split at h0
  ·cases h0
  split at h0
  ·cases h0
  rename_i h2
  exact ⟨h.lg,h.acc,h.bd,h.hn,h.np,h.err,h.bks,h.nc,by show (s.au++ [_]).length=s.na+1;rw [List.length_append,h.na];rfl,by show s.na+1≤256;omega,h.days,h.cur,h.last,h.mle,h.mb⟩
 rename_i e1
 rw [if_neg e1]
 split at h0
 ·rename_i e
  rw [if_pos e]
  exact ⟨h.lg,h.acc,h.bd,h.hn,h.np,h.err,h.bks,by show (s.cd++ [_]).length=s.nc+1;rw [List.length_append,h.nc];rfl,h.na,h.n256,h.days,h.cur,h.last,h.mle,h.mb⟩
 rename_i e2
 rw [if_neg e2]
 split at h0
 ·rename_i e
  rw [if_pos e]
  obtain ⟨m1,m2,m3,m4⟩:=mm_ok h0
  have:=ow_ok h hc e m1 m2 m3
  unfold mmS
  split
  ·exact au_set_ok this _ _
  ·exact this
 ·rename_i e
  rw [if_neg e]
  exact au_set_ok h _ _
theorem do_ok {s:Bks} (h:BkOk s) (o:Bop):BkOk (doS s o):=by
 unfold doS
 split
 ·rename_i h0
  unfold doE at h0
  split at h0
  ·rename_i h1;exact absurd h0 h1
  rename_i h1
  split at h0
  ·cases h0
  have hc:=ck_ok (Classical.not_not.1 h1)
  exact last_ok (pf_ok h hc h0) hc.t
 ·exact h
end Go.Proofs.YtlankgapiecloaaGreatDoor
namespace Go.Proofs.YtlankgapiecloaaGreatDoor
open Go.RowKit Go.Sy
attribute [local irreducible] vcall vloop vcallD retP
set_option maxRecDepth 100000
set_option linter.unusedVariables false
set_option linter.unusedSimpArgs false
theorem bk_isId (s:ByteArray):Pure Tryz.prog 40 [.str s] (.bool (auI s)):=by
 by_cases h:s.size<1∨16<s.size
 ·rw [auI_size h]
  refine fc_of mixed T_ok Tryz.func40 rfl (by kernel_rfl) (by kernel_rfl) (by kernel_rfl) ?_
  repeat' ((conv=>whnf);first|((first|apply br_dec|apply br_ndec)<;>intro h<;>try (exfalso;(try dsimp only at h);omega))|((first|apply br_seq|apply br_nseq|apply br_not|apply br_intro)<;>intro h)|refine cond_a ?_)
  all_goals (conv=>whnf)
  all_goals first
   |exact ret_pure rfl
   |(exfalso;omega)
 refine fc_of mixed T_ok Tryz.func40 rfl (by kernel_rfl) (by kernel_rfl) (by kernel_rfl) ?_
 repeat' ((conv=>whnf);first|((first|apply br_dec|apply br_ndec)<;>intro h<;>try (exfalso;(try dsimp only at h);omega))|((first|apply br_seq|apply br_nseq|apply br_not|apply br_intro)<;>intro h)|refine cond_a ?_)
 all_goals (conv=>whnf)
 all_goals first
  |(exfalso;omega)
  |skip
 refine vloop_of (fun k:Nat=>⟨[(0,.str s),(3,.int .i64 k)],[],1⟩) (fun k=>k≤s.size∧auTo s k) (fun k=>s.size-k) 0 [0] [] ⟨rfl,⟨rfl,rfl,trivial⟩,trivial⟩ ⟨by omega,fun i hi=>by omega⟩ ?_
 rintro k ⟨hk,hc⟩
 repeat' ((conv=>whnf);first|((first|apply br_dec|apply br_ndec)<;>intro h<;>try (exfalso;(try dsimp only at h);omega))|((first|apply br_seq|apply br_nseq|apply br_not|apply br_intro)<;>intro h)|refine cond_a ?_)
 all_goals (conv=>whnf)
 all_goals first
  |exact ret_pure (by rw [auI_no (k:=k) (by omega) (by omega)];rfl)
  |exact ⟨k+1,[0],[],⟨by omega,auTo_succ hc (by omega)⟩,by omega,⟨rfl,⟨rfl,congrArg (fun z=>some (SV.int .i64 z)) (i64_succ (by omega)),trivial⟩,trivial⟩⟩
  |skip
 have e:k=s.size:=by omega
 subst e
 exact ret_pure (by rw [auI_all (by omega) (by omega) hc];rfl)
theorem bk_isCur (s:ByteArray):Pure Tryz.prog 14 [.str s] (.bool (curB s)):=by
 refine fc_of mixed T_ok Tryz.func14 rfl (by kernel_rfl) (by kernel_rfl) (by kernel_rfl) ?_
 repeat' ((conv=>whnf);first|((first|apply br_dec|apply br_ndec)<;>intro h<;>try (exfalso;(try dsimp only at h);omega))|((first|apply br_seq|apply br_nseq|apply br_not|apply br_intro)<;>intro h)|refine cond_a ?_)
 all_goals (conv=>whnf)
 ·exact ret_pure (by rw [curB_size (by omega)];rfl)
 ·refine vloop_of (fun k:Nat=>⟨[(0,.str s),(3,.int .i64 k)],[],1⟩) (fun k=>k≤s.size∧capsTo s k=true) (fun k=>s.size-k) 0 [0] [] ⟨rfl,⟨rfl,rfl,trivial⟩,trivial⟩ ⟨by omega,rfl⟩ ?_
  rintro k ⟨hk,hc⟩
  repeat' ((conv=>whnf);first|((first|apply br_dec|apply br_ndec)<;>intro h<;>try (exfalso;(try dsimp only at h);omega))|((first|apply br_seq|apply br_nseq|apply br_not|apply br_intro)<;>intro h)|refine cond_a ?_)
  all_goals (conv=>whnf)
  ·exact ret_pure (by rw [curB_false (k:=k) (by omega) (by omega)];rfl)
  ·exact ret_pure (by rw [curB_false (k:=k) (by omega) (by omega)];rfl)
  ·exact ⟨k+1,[0],[],⟨by omega,capsTo_step hc (by omega) (by omega)⟩,by omega,⟨rfl,⟨rfl,congrArg (fun z=>some (SV.int .i64 z)) (i64_succ (by omega)),trivial⟩,trivial⟩⟩
  ·have e:k=s.size:=by omega
   subst e
   refine ret_pure ?_
   have:curB s=true:=by unfold curB;rw [hc];simp;omega
   rw [this];rfl
theorem bk_fitsI (s:ByteArray) (u:Bool):Pure Tryz.prog 39 [.str s,.bool u,.fn 40 []] (.bool (fiB s u auI)):=by
 have c:=bk_isId s
 cases u<;>unfold fiB<;>dsimp only
 all_goals
  refine fc_of mixed T_ok Tryz.func39 rfl (by kernel_rfl) (by kernel_rfl) (by kernel_rfl) ?_
  repeat' ((conv=>whnf);first|(refine vcall_pure (c) rfl rfl rfl ?_)|((first|apply br_dec|apply br_ndec)<;>intro h<;>try (exfalso;(try dsimp only at h);omega))|((first|apply br_seq|apply br_nseq|apply br_not|apply br_intro)<;>intro h)|refine cond_a ?_)
  all_goals (conv=>whnf)
  all_goals exact ret_pure rfl
theorem bk_fitsN (s:ByteArray) (u:Bool):Pure Tryz.prog 39 [.str s,.bool u,.fn 41 []] (.bool (fiB s u nmB)):=by
 have c:=lex_IsName s
 cases u<;>unfold fiB<;>dsimp only
 all_goals
  refine fc_of mixed T_ok Tryz.func39 rfl (by kernel_rfl) (by kernel_rfl) (by kernel_rfl) ?_
  repeat' ((conv=>whnf);first|(refine vcall_pure (c) rfl rfl rfl ?_)|((first|apply br_dec|apply br_ndec)<;>intro h<;>try (exfalso;(try dsimp only at h);omega))|((first|apply br_seq|apply br_nseq|apply br_not|apply br_intro)<;>intro h)|refine cond_a ?_)
  all_goals (conv=>whnf)
  all_goals exact ret_pure rfl
theorem bk_perm (k a:Int) (hk:¬(k<1∨8<k)):Pure Tryz.prog 42 [.int .i64 k,.int .i64 a] (.bool (pmB k a)):=by
 rcases kind_of8 hk with rfl|rfl|rfl|rfl|rfl|rfl|rfl|rfl
 all_goals
  unfold pmB
  simp only [Int.reduceEq,if_true,if_false]
  refine fc_of mixed T_ok Tryz.func42 rfl (by kernel_rfl) (by kernel_rfl) (by kernel_rfl) ?_
  repeat' ((conv=>whnf);first|((first|apply br_dec|apply br_ndec)<;>intro h<;>try (exfalso;(try dsimp only at h);omega))|((first|apply br_seq|apply br_nseq|apply br_not|apply br_intro)<;>intro h)|refine cond_a ?_)
  all_goals (conv=>whnf)
  all_goals refine ret_pure ?_
  all_goals
   show SV.bool _=SV.bool _
   first
    |rfl
    |congr 1
   all_goals first
    |exact decide_eq_decide.2 (by omega)
    |exact (decide_eq_false (by omega)).symm
    |(rw [←decide_not];exact decide_eq_decide.2 (by omega))
set_option maxHeartbeats 4000000 in
theorem bk_checkX (k t:Int) (id au is ac:ByteArray) (am fe:Int) (fi:Bool):Pure Tryz.prog 21 [.agg [.int .i64 k,.int .i64 t,.str id,.str au,.str is,.str ac,.int .i64 am,.int .i64 fe,.bool fi]] (.int .i64 (ckE ⟨k,t,id,au,is,ac,am,fe,fi⟩)):=by
 by_cases h1:k<1∨8<k
 ·have e:ckE ⟨k,t,id,au,is,ac,am,fe,fi⟩=4:=by unfold ckE;rw [if_pos h1]
  rw [e]
  refine fc_of mixed T_ok Tryz.func21 rfl (by kernel_rfl) (by kernel_rfl) (by kernel_rfl) ?_
  repeat' ((conv=>whnf);first|((first|apply br_dec|apply br_ndec)<;>intro h<;>try (exfalso;(try dsimp only at h);omega))|((first|apply br_seq|apply br_nseq|apply br_not|apply br_intro)<;>intro h)|refine cond_a ?_)
  all_goals (conv=>whnf)
  all_goals first
   |exact ret_pure rfl
   |(exfalso;omega)
 by_cases h2:t<0∨1099511627776<t
 ·have e:ckE ⟨k,t,id,au,is,ac,am,fe,fi⟩=14:=by unfold ckE;rw [if_neg h1,if_pos h2]
  rw [e]
  refine fc_of mixed T_ok Tryz.func21 rfl (by kernel_rfl) (by kernel_rfl) (by kernel_rfl) ?_
  repeat' ((conv=>whnf);first|((first|apply br_dec|apply br_ndec)<;>intro h<;>try (exfalso;(try dsimp only at h);omega))|((first|apply br_seq|apply br_nseq|apply br_not|apply br_intro)<;>intro h)|refine cond_a ?_)
  all_goals (conv=>whnf)
  all_goals first
   |exact ret_pure rfl
   |(exfalso;omega)
 have c1:=bk_fitsI id (bkMv k)
 have c2:=bk_fitsI au (bkCh k)
 have c3:=bk_fitsN is (bkMv k)
 have c4:=bk_fitsN ac (bkMv k)
 have c5:=bk_perm k am h1
 have e:ckE ⟨k,t,id,au,is,ac,am,fe,fi⟩=if (fiB id (bkMv k) auI&&(fiB au (bkCh k) auI&&(fiB is (bkMv k) nmB&&fiB ac (bkMv k) nmB)))=false then 5 else if pmB k am=false then 4 else if fe<0∨(if k=4∨k=5 then am else 0)<fe then 4 else if fi=true∧k≠4 then 2 else if bkMv k=true∧is=ac then 7 else 0:=by
  unfold ckE bkN;rw [if_neg h1,if_neg h2]
 generalize ckE ⟨k,t,id,au,is,ac,am,fe,fi⟩=E at*
 generalize fiB id (bkMv k) auI=b1 at*
 generalize fiB au (bkCh k) auI=b2 at*
 generalize fiB is (bkMv k) nmB=b3 at*
 generalize fiB ac (bkMv k) nmB=b4 at*
 generalize pmB k am=b5 at*
 rcases kind_of8 h1 with rfl|rfl|rfl|rfl|rfl|rfl|rfl|rfl
 all_goals
  simp only [Int.reduceEq,bkMv,bkCh,or_true,true_or,or_false,false_or,if_true,if_false,decide_true,decide_false,true_and,false_and,Bool.false_eq_true,ne_eq,not_true_eq_false,not_false_eq_true,and_true,and_false] at*
  refine fc_of mixed T_ok Tryz.func21 rfl (by kernel_rfl) (by kernel_rfl) (by kernel_rfl) ?_
  repeat' ((conv=>whnf);first|(refine vcall_pure (c1) rfl rfl rfl ?_)|(refine vcall_pure (c2) rfl rfl rfl ?_)|(refine vcall_pure (c3) rfl rfl rfl ?_)|(refine vcall_pure (c4) rfl rfl rfl ?_)|(refine vcall_pure (c5) rfl rfl rfl ?_)|((first|apply br_dec|apply br_ndec)<;>intro h<;>try (exfalso;(try dsimp only at h);omega))|((first|apply br_seq|apply br_nseq|apply br_not|apply br_intro)<;>intro h)|refine cond_a ?_)
  all_goals (conv=>whnf)
  all_goals first
   |(exfalso;omega)
   |(refine ret_pure (congrArg (SV.int .i64) (a₁:=_) ?_)
     rw [e]
     (repeat' split)<;>first|rfl|(exfalso;omega)|(exfalso;simp_all;done))
theorem bk_check (o:Bop):Pure Tryz.prog 21 [o.s] (.int .i64 (ckE o)):=bk_checkX o.k o.t o.id o.au o.is o.ac o.am o.fe o.fi
end Go.Proofs.YtlankgapiecloaaGreatDoor
namespace Go.Proofs.YtlankgapiecloaaGreatDoor
open Go.RowKit Go.Sy
attribute [local irreducible] vcall vloop vcallD retP
set_option maxRecDepth 100000
set_option linter.unusedVariables false
set_option linter.unusedSimpArgs false
theorem auth_funds (a:Au):Pure Tryz.prog 66 [a.s] (.int .i64 (fundsW a)):=by
 refine fc_of mixed T_ok Tryz.func66 rfl (by kernel_rfl) (by kernel_rfl) (by kernel_rfl) ?_
 repeat' ((conv=>whnf);first|((first|apply br_dec|apply br_ndec)<;>intro h<;>try (exfalso;(try dsimp only at h);omega))|((first|apply br_seq|apply br_nseq|apply br_not|apply br_intro)<;>intro h)|refine cond_a ?_)
 all_goals (conv=>whnf)
 exact ret_pure (by unfold fundsW;rfl)
theorem auth_isPart (n:Int):Pure Tryz.prog 65 [.int .i64 n] (.bool (amountOk n)):=by
 refine fc_of mixed T_ok Tryz.func65 rfl (by kernel_rfl) (by kernel_rfl) (by kernel_rfl) ?_
 repeat' ((conv=>whnf);first|((first|apply br_dec|apply br_ndec)<;>intro h<;>try (exfalso;(try dsimp only at h);omega))|((first|apply br_seq|apply br_nseq|apply br_not|apply br_intro)<;>intro h)|refine cond_a ?_)
 all_goals (conv=>whnf)
 all_goals refine ret_pure ?_
 ·have h':0≤n:=by assumption
  by_cases g:n≤999999999999
  ·rw [show amountOk n=true from decide_eq_true ⟨h',g⟩,show decide (n≤999999999999)=true from decide_eq_true g];rfl
  ·rw [show amountOk n=false from decide_eq_false (fun q=>g q.2),show decide (n≤999999999999)=false from decide_eq_false g];rfl
 ·rw [show amountOk n=false from decide_eq_false (fun q=>h q.1)];rfl
set_option maxHeartbeats 2000000 in
theorem auth_settled (a:Au):Pure Tryz.prog 67 [a.s] ({a with st:=stateOf a}:Au).s:=by
 have c:=auth_funds a
 have e:stateOf a=if 0<fundsW a then 1 else if 0<a.exp then 4 else if 0<a.cle then 2 else 3:=by unfold stateOf;rfl
 generalize fundsW a=F at*
 generalize stateOf a=st at*
 obtain ⟨id,cur,app,rev,cle,exp,st0,att,unt,pa⟩:=a
 dsimp only at*
 by_cases h1:0<F
 ·rw [if_pos h1] at e
  subst e
  refine fc_of mixed T_ok Tryz.func67 rfl (by kernel_rfl) (by kernel_rfl) (by kernel_rfl) ?_
  repeat' ((conv=>whnf);first|(refine vcall_pure (c) rfl rfl rfl ?_)|((first|apply br_dec|apply br_ndec)<;>intro h<;>try (exfalso;(try dsimp only at h);omega))|((first|apply br_seq|apply br_nseq|apply br_not|apply br_intro)<;>intro h)|refine cond_a ?_)
  all_goals (conv=>whnf)
  all_goals first
   |exact ret_pure rfl
   |(exfalso;omega)
 rw [if_neg h1] at e
 by_cases h2:0<exp
 ·rw [if_pos h2] at e
  subst e
  refine fc_of mixed T_ok Tryz.func67 rfl (by kernel_rfl) (by kernel_rfl) (by kernel_rfl) ?_
  repeat' ((conv=>whnf);first|(refine vcall_pure (c) rfl rfl rfl ?_)|((first|apply br_dec|apply br_ndec)<;>intro h<;>try (exfalso;(try dsimp only at h);omega))|((first|apply br_seq|apply br_nseq|apply br_not|apply br_intro)<;>intro h)|refine cond_a ?_)
  all_goals (conv=>whnf)
  all_goals first
   |exact ret_pure rfl
   |(exfalso;omega)
 rw [if_neg h2] at e
 by_cases h3:0<cle
 ·rw [if_pos h3] at e
  subst e
  refine fc_of mixed T_ok Tryz.func67 rfl (by kernel_rfl) (by kernel_rfl) (by kernel_rfl) ?_
  repeat' ((conv=>whnf);first|(refine vcall_pure (c) rfl rfl rfl ?_)|((first|apply br_dec|apply br_ndec)<;>intro h<;>try (exfalso;(try dsimp only at h);omega))|((first|apply br_seq|apply br_nseq|apply br_not|apply br_intro)<;>intro h)|refine cond_a ?_)
  all_goals (conv=>whnf)
  all_goals first
   |exact ret_pure rfl
   |(exfalso;omega)
 rw [if_neg h3] at e
 subst e
 refine fc_of mixed T_ok Tryz.func67 rfl (by kernel_rfl) (by kernel_rfl) (by kernel_rfl) ?_
 repeat' ((conv=>whnf);first|(refine vcall_pure (c) rfl rfl rfl ?_)|((first|apply br_dec|apply br_ndec)<;>intro h<;>try (exfalso;(try dsimp only at h);omega))|((first|apply br_seq|apply br_nseq|apply br_not|apply br_intro)<;>intro h)|refine cond_a ?_)
 all_goals (conv=>whnf)
 all_goals first
  |exact ret_pure rfl
  |(exfalso;omega)
theorem auth_isId (s:ByteArray):Pure Tryz.prog 63 [.str s] (.bool (auI s)):=by
 by_cases h:s.size<1∨16<s.size
 ·rw [auI_size h]
  refine fc_of mixed T_ok Tryz.func63 rfl (by kernel_rfl) (by kernel_rfl) (by kernel_rfl) ?_
  repeat' ((conv=>whnf);first|((first|apply br_dec|apply br_ndec)<;>intro h<;>try (exfalso;(try dsimp only at h);omega))|((first|apply br_seq|apply br_nseq|apply br_not|apply br_intro)<;>intro h)|refine cond_a ?_)
  all_goals (conv=>whnf)
  all_goals first
   |exact ret_pure rfl
   |(exfalso;omega)
 refine fc_of mixed T_ok Tryz.func63 rfl (by kernel_rfl) (by kernel_rfl) (by kernel_rfl) ?_
 repeat' ((conv=>whnf);first|((first|apply br_dec|apply br_ndec)<;>intro h<;>try (exfalso;(try dsimp only at h);omega))|((first|apply br_seq|apply br_nseq|apply br_not|apply br_intro)<;>intro h)|refine cond_a ?_)
 all_goals (conv=>whnf)
 all_goals first
  |(exfalso;omega)
  |skip
 refine vloop_of (fun k:Nat=>⟨[(0,.str s),(16,.int .i64 s.size),(17,.int .i64 k)],[],1⟩) (fun k=>k≤s.size∧auTo s k) (fun k=>s.size-k) 0 [0] [] ⟨rfl,⟨rfl,rfl,rfl,trivial⟩,trivial⟩ ⟨by omega,fun i hi=>by omega⟩ ?_
 rintro k ⟨hk,hc⟩
 repeat' ((conv=>whnf);first|((first|apply br_dec|apply br_ndec)<;>intro h<;>try (exfalso;(try dsimp only at h);omega))|((first|apply br_seq|apply br_nseq|apply br_not|apply br_intro)<;>intro h)|refine cond_a ?_)
 all_goals (conv=>whnf)
 all_goals first
  |exact ret_pure (by rw [auI_no (k:=k) (by omega) (by omega)];rfl)
  |exact ⟨k+1,[0],[],⟨by omega,auTo_succ hc (by omega)⟩,by omega,⟨rfl,⟨rfl,rfl,congrArg (fun z=>some (SV.int .i64 z)) (i64_succ (by omega)),trivial⟩,trivial⟩⟩
  |skip
 have e:k=s.size:=by omega
 subst e
 exact ret_pure (by rw [auI_all (by omega) (by omega) hc];rfl)
theorem auth_isCur (s:ByteArray):Pure Tryz.prog 64 [.str s] (.bool (curB s)):=by
 refine fc_of mixed T_ok Tryz.func64 rfl (by kernel_rfl) (by kernel_rfl) (by kernel_rfl) ?_
 repeat' ((conv=>whnf);first|((first|apply br_dec|apply br_ndec)<;>intro h<;>try (exfalso;(try dsimp only at h);omega))|((first|apply br_seq|apply br_nseq|apply br_not|apply br_intro)<;>intro h)|refine cond_a ?_)
 all_goals (conv=>whnf)
 ·exact ret_pure (by rw [curB_size (by omega)];rfl)
 ·refine vloop_of (fun k:Nat=>⟨[(0,.str s),(8,.int .i64 s.size),(9,.int .i64 k)],[],1⟩) (fun k=>k≤s.size∧capsTo s k=true) (fun k=>s.size-k) 0 [0] [] ⟨rfl,⟨rfl,rfl,rfl,trivial⟩,trivial⟩ ⟨by omega,rfl⟩ ?_
  rintro k ⟨hk,hc⟩
  repeat' ((conv=>whnf);first|((first|apply br_dec|apply br_ndec)<;>intro h<;>try (exfalso;(try dsimp only at h);omega))|((first|apply br_seq|apply br_nseq|apply br_not|apply br_intro)<;>intro h)|refine cond_a ?_)
  all_goals (conv=>whnf)
  ·exact ret_pure (by rw [curB_false (k:=k) (by omega) (by omega)];rfl)
  ·exact ret_pure (by rw [curB_false (k:=k) (by omega) (by omega)];rfl)
  ·exact ⟨k+1,[0],[],⟨by omega,capsTo_step hc (by omega) (by omega)⟩,by omega,⟨rfl,⟨rfl,rfl,congrArg (fun z=>some (SV.int .i64 z)) (i64_succ (by omega)),trivial⟩,trivial⟩⟩
  ·have e:k=s.size:=by omega
   subst e
   refine ret_pure ?_
   have:curB s=true:=by unfold curB;rw [hc];simp;omega
   rw [this];rfl
end Go.Proofs.YtlankgapiecloaaGreatDoor
namespace Go.Proofs.YtlankgapiecloaaGreatDoor
open Go.RowKit Go.Sy
attribute [local irreducible] vcall vloop vcallD retP
set_option maxRecDepth 100000
set_option linter.unusedVariables false
set_option linter.unusedSimpArgs false
set_option maxHeartbeats 2000000 in
theorem auth_check (a:Au):Pure Tryz.prog 47 [a.s] (.int .i64 (checkZ a)):=by
 refine fc_of mixed T_ok Tryz.func47 rfl (by kernel_rfl) (by kernel_rfl) (by kernel_rfl) ?_
 repeat' ((conv=>whnf);first|(refine vcall_pure (auth_isId _) rfl rfl rfl ?_)|(refine vcall_pure (auth_isCur _) rfl rfl rfl ?_)|(refine vcall_pure (auth_isPart _) rfl rfl rfl ?_)|(refine vcall_pure (auth_funds a) rfl rfl rfl ?_)|(refine vcallD_pure (auth_settled a) rfl rfl rfl ?_)|((first|apply br_dec|apply br_ndec)<;>intro h<;>try (exfalso;(try dsimp only at h);omega))|((first|apply br_seq|apply br_nseq|apply br_not|apply br_intro)<;>intro h)|refine cond_a ?_)
 all_goals (conv=>whnf)
 all_goals refine ret_pure ?_
 all_goals simp only [oneOr,cv,SV.int.injEq,true_and]
 all_goals (try simp only [amountOk,decide_eq_true_eq,decide_eq_false_iff_not] at*)
 all_goals (try simp [seq] at*)
 all_goals (unfold checkZ;(repeat' split)<;>first|rfl|(exfalso;omega)|(exfalso;simp_all;done))
theorem auth_usable (a:Au):Pure Tryz.prog 157 [a.s] (.int .i64 (usableZ a)):=by
 refine fc_of mixed T_ok Tryz.func157 rfl (by kernel_rfl) (by kernel_rfl) (by kernel_rfl) ?_
 repeat' ((conv=>whnf);first|(refine vcall_pure (auth_check a) rfl rfl rfl ?_)|((first|apply br_dec|apply br_ndec)<;>intro h<;>try (exfalso;(try dsimp only at h);omega))|((first|apply br_seq|apply br_nseq|apply br_not|apply br_intro)<;>intro h)|refine cond_a ?_)
 all_goals (conv=>whnf)
 all_goals refine ret_pure ?_
 all_goals simp [oneOr,cv,usableZ, *]
theorem auth_settledX (id cur:ByteArray) (app rev cle exp st att unt pa:Int):Pure Tryz.prog 67 [.agg [.str id,.str cur,.int .i64 app,.int .i64 rev,.int .i64 cle,.int .i64 exp,.int .i64 st,.int .i64 att,.int .i64 unt,.int .i64 pa]]
  (.agg [.str id,.str cur,.int .i64 app,.int .i64 rev,.int .i64 cle,.int .i64 exp,.int .i64 (stateOf ⟨id,cur,app,rev,cle,exp,st,att,unt,pa⟩),.int .i64 att,.int .i64 unt,.int .i64 pa]):=auth_settled ⟨id,cur,app,rev,cle,exp,st,att,unt,pa⟩
theorem auth_fundsX (id cur:ByteArray) (app rev cle exp st att unt pa:Int):Pure Tryz.prog 66 [.agg [.str id,.str cur,.int .i64 app,.int .i64 rev,.int .i64 cle,.int .i64 exp,.int .i64 st,.int .i64 att,.int .i64 unt,.int .i64 pa]] (.int .i64 (fundsW ⟨id,cur,app,rev,cle,exp,st,att,unt,pa⟩)):=auth_funds ⟨id,cur,app,rev,cle,exp,st,att,unt,pa⟩
theorem auth_checkX (id cur:ByteArray) (app rev cle exp st att unt pa:Int):Pure Tryz.prog 47 [.agg [.str id,.str cur,.int .i64 app,.int .i64 rev,.int .i64 cle,.int .i64 exp,.int .i64 st,.int .i64 att,.int .i64 unt,.int .i64 pa]] (.int .i64 (checkZ ⟨id,cur,app,rev,cle,exp,st,att,unt,pa⟩)):=auth_check ⟨id,cur,app,rev,cle,exp,st,att,unt,pa⟩
theorem auth_new (id cur:ByteArray) (n at_ un:Int):Pure Tryz.prog 151 [.str id,.str cur,.int .i64 n,.int .i64 at_,.int .i64 un] (t2 (newZ id cur n at_ un)):=by
 refine fc_of mixed T_ok Tryz.func151 rfl (by kernel_rfl) (by kernel_rfl) (by kernel_rfl) ?_
 repeat' ((conv=>whnf);first|(refine vcall_pure (auth_checkX _ _ _ _ _ _ _ _ _ _) rfl rfl rfl ?_)|(refine vcall_pure (auth_settledX _ _ _ _ _ _ _ _ _ _) rfl rfl rfl ?_)|((first|apply br_dec|apply br_ndec)<;>intro h<;>try (exfalso;(try dsimp only at h);omega))|((first|apply br_seq|apply br_nseq|apply br_not|apply br_intro)<;>intro h)|refine cond_a ?_)
 all_goals (conv=>whnf)
 all_goals refine ret_pure ?_
 all_goals simp only [oneOr,cv] at*
 all_goals
  have e:=new_check id cur n at_ un
  rw [e.1] at h
  unfold newZ
 ·rw [e.1];simp [h,Au.zero]
 ·simp [h,e.2 h]
theorem auth_raise (a:Au) (n u:Int):Pure Tryz.prog 154 [a.s,.int .i64 n,.int .i64 u] (t2 (raiseZ a n u)):=by
 refine fc_of mixed T_ok Tryz.func154 rfl (by kernel_rfl) (by kernel_rfl) (by kernel_rfl) ?_
 repeat' ((conv=>whnf);first|(refine vcall_pure (auth_usable a) rfl rfl rfl ?_)|(refine vcall_pure (auth_fundsX _ _ _ _ _ _ _ _ _ _) rfl rfl rfl ?_)|(refine vcall_pure (auth_settledX _ _ _ _ _ _ _ _ _ _) rfl rfl rfl ?_)|((first|apply br_dec|apply br_ndec)<;>intro h<;>try (exfalso;(try dsimp only at h);omega))|((first|apply br_seq|apply br_nseq|apply br_not|apply br_intro)<;>intro h)|refine cond_a ?_)
 all_goals (conv=>whnf)
 all_goals refine ret_pure ?_
 all_goals simp only [oneOr,cv,Au.eta] at*
 ·simp [raiseZ,Au.zero, *]
 all_goals
  obtain ⟨f,hs,hp,ho,hc,hx⟩:=usable_facts (by assumption)
  have f1:=f.app;have f2:=f.rev;have f3:=f.cle;have f4:=f.exp;have f5:=f.funds
  have ew:IntKind.i64.wrap (999999999999-a.app)=999999999999-a.app:=w64_in (by omega) (by omega)
  unfold raiseZ
 ·rw [if_neg (by simp [*]),if_pos (by omega)];simp [Au.zero]
 ·rw [if_neg (by simp [*]),if_pos (by omega)];simp [Au.zero]
 ·rw [if_neg (by simp [*]),if_neg (by omega),if_pos (by omega)];simp [Au.zero]
 ·rw [if_neg (by simp [*]),if_neg (by omega),if_pos (by omega)];simp [Au.zero]
 ·rw [if_neg (by simp [*]),if_neg (by omega),if_neg (by omega)]
  have e1:IntKind.i64.wrap (a.app+n)=a.app+n:=w64_in (by omega) (by omega)
  rw [e1]
  have e2:stateOf ⟨a.id,a.cur,a.app+n,a.rev,a.cle,a.exp,a.st,a.att,u,a.pa⟩=1:=by
   unfold stateOf
   rw [fundsW_eq _ (by simp;omega) (by simp;omega) (by simp;omega) (by simp;omega) (by simp;omega) (by simp;omega) (by simp;omega) (by simp;omega)]
   simp;omega
  rw [e2];simp [hs]
theorem auth_reverse (a:Au) (n:Int):Pure Tryz.prog 155 [a.s,.int .i64 n] (t3 (reverseZ a n)):=by
 refine fc_of mixed T_ok Tryz.func155 rfl (by kernel_rfl) (by kernel_rfl) (by kernel_rfl) ?_
 repeat' ((conv=>whnf);first|(refine vcall_pure (auth_usable a) rfl rfl rfl ?_)|(refine vcall_pure (auth_fundsX _ _ _ _ _ _ _ _ _ _) rfl rfl rfl ?_)|(refine vcall_pure (auth_settledX _ _ _ _ _ _ _ _ _ _) rfl rfl rfl ?_)|((first|apply br_dec|apply br_ndec)<;>intro h<;>try (exfalso;(try dsimp only at h);omega))|((first|apply br_seq|apply br_nseq|apply br_not|apply br_intro)<;>intro h)|refine cond_a ?_)
 all_goals (conv=>whnf)
 all_goals refine ret_pure ?_
 all_goals simp only [oneOr,cv,Au.eta] at*
 ·simp [reverseZ,Au.zero, *]
 all_goals
  obtain ⟨f,hs,hp,ho,hc,hx⟩:=usable_facts (by assumption)
  have f1:=f.app;have f2:=f.rev;have f3:=f.cle;have f4:=f.exp;have f5:=f.funds;have f6:=f.pa
  unfold reverseZ
 ·rw [if_neg (by simp [*]),if_pos (by omega)];simp [Au.zero]
 ·rw [if_neg (by simp [*]),if_pos (by omega)];simp [Au.zero]
 ·rw [if_neg (by simp [*]),if_neg (by omega)]
  have e1:IntKind.i64.wrap (a.rev+fundsW a)=a.rev+fundsW a:=w64_in (by omega) (by omega)
  rw [e1];simp [h]
 ·rw [if_neg (by simp [*]),if_neg (by omega)]
  have e1:IntKind.i64.wrap (a.rev+n)=a.rev+n:=w64_in (by omega) (by omega)
  rw [e1];simp [h]
theorem auth_clear (a:Au) (n:Int) (b:Bool):Pure Tryz.prog 181 [a.s,.int .i64 n,.bool b] (t4 (clearZ a n b)):=by
 refine fc_of mixed T_ok Tryz.func181 rfl (by kernel_rfl) (by kernel_rfl) (by kernel_rfl) ?_
 repeat' ((conv=>whnf);first|(refine vcall_pure (auth_usable a) rfl rfl rfl ?_)|(refine vcall_pure (auth_fundsX _ _ _ _ _ _ _ _ _ _) rfl rfl rfl ?_)|(refine vcall_pure (auth_settledX _ _ _ _ _ _ _ _ _ _) rfl rfl rfl ?_)|((first|apply br_dec|apply br_ndec)<;>intro h<;>try (exfalso;(try dsimp only at h);omega))|((first|apply br_seq|apply br_nseq|apply br_not|apply br_intro)<;>intro h)|refine cond_a ?_)
 all_goals (conv=>whnf)
 all_goals refine ret_pure ?_
 all_goals simp only [oneOr,cv,Au.eta] at*
 ·simp [clearZ,Au.zero, *]
 all_goals
  obtain ⟨f,hs,hp,ho,hc,hx⟩:=usable_facts (by assumption)
  have f1:=f.app;have f2:=f.rev;have f3:=f.cle;have f4:=f.exp;have f5:=f.funds;have f6:=f.pa
  unfold clearZ
 ·rw [if_neg (by simp [*]),if_pos (by omega)];simp [Au.zero]
 ·rw [if_neg (by simp [*]),if_pos (by omega)];simp [Au.zero]
 ·rw [if_neg (by simp [*]),if_neg (by omega),if_pos (by omega)];simp [Au.zero]
 ·rw [if_neg (by simp [*]),if_neg (by omega),if_neg (by omega)]
  have hm:0<min n (fundsW a)∧min n (fundsW a)≤fundsW a:=by omega
  have e1:IntKind.i64.wrap (a.cle+min n (fundsW a))=a.cle+min n (fundsW a):=w64_in (by omega) (by omega)
  have e2:IntKind.i64.wrap (a.pa+1)=a.pa+1:=w64_in (by omega) (by omega)
  rw [e1,e2]
  have e3:fundsW ⟨a.id,a.cur,a.app,a.rev,a.cle+min n (fundsW a),a.exp,a.st,a.att,a.unt,a.pa+1⟩=fundsW a-min n (fundsW a):=by
   rw [fundsW_eq _ (by simp;omega) (by simp;omega) (by simp;omega) (by simp;omega) (by simp;omega) (by simp;omega) (by simp;omega) (by simp;omega)]
   simp only;omega
  rw [e3]
  have e4:IntKind.i64.wrap (a.rev+(fundsW a-min n (fundsW a)))=a.rev+(fundsW a-min n (fundsW a)):=w64_in (by omega) (by omega)
  rw [e4]
  simp [h]
 ·rw [if_neg (by simp [*]),if_neg (by omega),if_neg (by omega)]
  have hm:0<min n (fundsW a)∧min n (fundsW a)≤fundsW a:=by omega
  have e1:IntKind.i64.wrap (a.cle+min n (fundsW a))=a.cle+min n (fundsW a):=w64_in (by omega) (by omega)
  have e2:IntKind.i64.wrap (a.pa+1)=a.pa+1:=w64_in (by omega) (by omega)
  rw [e1,e2]
  simp [h]
theorem auth_expire (a:Au) (n:Int):Pure Tryz.prog 156 [a.s,.int .i64 n] (t3 (expireZ a n)):=by
 refine fc_of mixed T_ok Tryz.func156 rfl (by kernel_rfl) (by kernel_rfl) (by kernel_rfl) ?_
 repeat' ((conv=>whnf);first|(refine vcall_pure (auth_usable a) rfl rfl rfl ?_)|(refine vcall_pure (auth_fundsX _ _ _ _ _ _ _ _ _ _) rfl rfl rfl ?_)|(refine vcall_pure (auth_settledX _ _ _ _ _ _ _ _ _ _) rfl rfl rfl ?_)|((first|apply br_dec|apply br_ndec)<;>intro h<;>try (exfalso;(try dsimp only at h);omega))|((first|apply br_seq|apply br_nseq|apply br_not|apply br_intro)<;>intro h)|refine cond_a ?_)
 all_goals (conv=>whnf)
 all_goals refine ret_pure ?_
 all_goals simp only [oneOr,cv,Au.eta] at*
 ·simp [expireZ,Au.zero, *]
 all_goals
  obtain ⟨f,hs,hp,ho,hc,hx⟩:=usable_facts (by assumption)
  have f1:=f.app;have f2:=f.rev;have f3:=f.cle;have f4:=f.exp;have f5:=f.funds;have f6:=f.pa
  unfold expireZ
 ·rw [if_neg (by simp [*]),if_pos (by omega)];simp [Au.zero]
 ·rw [if_neg (by simp [*]),if_neg (by omega)]
  have e1:IntKind.i64.wrap (a.exp+fundsW a)=a.exp+fundsW a:=w64_in (by omega) (by omega)
  rw [e1]
end Go.Proofs.YtlankgapiecloaaGreatDoor
namespace Go.Proofs.YtlankgapiecloaaGreatDoor
open Go.RowKit Go.Sy
attribute [local irreducible] vcall vloop vcallD retP
set_option maxRecDepth 100000
set_option linter.unusedVariables false
set_option linter.unusedSimpArgs false
theorem labB_no {s:ByteArray} {k:Nat} (h:k<s.size) (hc:¬((97≤byteAt s (k:Int)∧byteAt s (k:Int)≤122)∨(65≤byteAt s (k:Int)∧byteAt s (k:Int)≤90)∨(48≤byteAt s (k:Int)∧byteAt s (k:Int)≤57)∨byteAt s (k:Int)=95∨byteAt s (k:Int)=45∨byteAt s (k:Int)=58)):labB s=false:=by
 cases e:labB s with
 |false=>rfl
 |true=>
  unfold labB at e
  rw [Bool.and_eq_true,List.all_eq_true] at e
  exact absurd (of_decide_eq_true (e.2 k (by simpa using h))) hc
theorem labB_size {s:ByteArray} (h:s.size<1∨40<s.size):labB s=false:=by
 cases e:labB s with
 |false=>rfl
 |true=>have:=lab_size e;omega
def labTo (s:ByteArray) (k:Nat):Prop:=∀i,i<k→labC (byteAt s (i:Int))=true
theorem labTo_succ {s:ByteArray} {k:Nat} (h:labTo s k) (hc:(97≤byteAt s (k:Int)∧byteAt s (k:Int)≤122)∨(65≤byteAt s (k:Int)∧byteAt s (k:Int)≤90)∨(48≤byteAt s (k:Int)∧byteAt s (k:Int)≤57)∨byteAt s (k:Int)=95∨byteAt s (k:Int)=45∨byteAt s (k:Int)=58):labTo s (k+1):=by
 intro i hi
 by_cases e:i=k
 ·subst e;unfold labC;exact decide_eq_true hc
 ·exact h i (by omega)
theorem labB_all {s:ByteArray} (h1:1≤s.size) (h2:s.size≤40) (h:labTo s s.size):labB s=true:=by
 unfold labB
 rw [decide_eq_true ⟨h1,h2⟩,Bool.true_and,List.all_eq_true]
 exact fun i hi=>h i (by simpa using hi)
theorem lg_isLabel (s:ByteArray):Pure Tryz.prog 36 [.str s] (.bool (labB s)):=by
 by_cases h:s.size<1∨40<s.size
 ·rw [labB_size h]
  refine fc_of mixed T_ok Tryz.func36 rfl (by kernel_rfl) (by kernel_rfl) (by kernel_rfl) ?_
  repeat' ((conv=>whnf);first|((first|apply br_dec|apply br_ndec)<;>intro h<;>try (exfalso;(try dsimp only at h);omega))|((first|apply br_seq|apply br_nseq|apply br_not|apply br_intro)<;>intro h)|refine cond_a ?_)
  all_goals (conv=>whnf)
  all_goals first
   |exact ret_pure rfl
   |(exfalso;omega)
 refine fc_of mixed T_ok Tryz.func36 rfl (by kernel_rfl) (by kernel_rfl) (by kernel_rfl) ?_
 repeat' ((conv=>whnf);first|((first|apply br_dec|apply br_ndec)<;>intro h<;>try (exfalso;(try dsimp only at h);omega))|((first|apply br_seq|apply br_nseq|apply br_not|apply br_intro)<;>intro h)|refine cond_a ?_)
 all_goals (conv=>whnf)
 all_goals first
  |(exfalso;omega)
  |skip
 refine vloop_of (fun k:Nat=>⟨[(0,.str s),(3,.int .i64 k)],[],1⟩) (fun k=>k≤s.size∧labTo s k) (fun k=>s.size-k) 0 [0] [] ⟨rfl,⟨rfl,rfl,trivial⟩,trivial⟩ ⟨by omega,fun i hi=>by omega⟩ ?_
 rintro k ⟨hk,hc⟩
 repeat' ((conv=>whnf);first|((first|apply br_dec|apply br_ndec)<;>intro h<;>try (exfalso;(try dsimp only at h);omega))|((first|apply br_seq|apply br_nseq|apply br_not|apply br_intro)<;>intro h)|refine cond_a ?_)
 all_goals (conv=>whnf)
 all_goals first
  |exact ret_pure (by rw [labB_no (k:=k) (by omega) (by omega)];rfl)
  |exact ⟨k+1,[0],[],⟨by omega,labTo_succ hc (by omega)⟩,by omega,⟨rfl,⟨rfl,congrArg (fun z=>some (SV.int .i64 z)) (i64_succ (by omega)),trivial⟩,trivial⟩⟩
  |skip
 have e:k=s.size:=by omega
 subst e
 exact ret_pure (by rw [labB_all (by omega) (by omega) hc];rfl)
abbrev LgRL (n:Nat) (R:List Lp):Blk:= .obj (.map true false n [.strs (R.map Lp.a),.strs (R.map Lp.c)] [.sc (.ints .i64 (R.map Lp.n))] (List.range n) n)
theorem lg_putMap {α β:Type} (f:α→β) (i:Nat) (x:α) (l:List α):(putL i x l).map f=putL i (f x) (l.map f):=by
 unfold putL
 by_cases h:i<l.length
 ·rw [if_pos h,if_pos (by simpa using h),List.map_set]
 ·rw [if_neg h,if_neg (by simpa using h)];simp
theorem lgStamp {ix r:Nat} (h:ix≤r):0≤(((if ix<r then (List.range r).getD ix 0 else r:Nat)):Int)∧(((if ix<r then (List.range r).getD ix 0 else r:Nat)):Int).toNat∈(if ix<r then List.range r else List.range r++ [r]):=by
 refine ⟨Int.natCast_nonneg _,?_⟩
 rw [Int.toNat_natCast]
 by_cases e:ix<r
 ·rw [if_pos e,if_pos e]
  simp [List.getD,e]
 ·rw [if_neg e,if_neg e];simp
theorem lg_idx {i r:Nat} (h:i<r):(List.range r).idxOf i=i:=by
 have hl:(List.range r).idxOf i<(List.range r).length:=List.idxOf_lt_length_of_mem (by simpa using h)
 have h2:=List.getElem_idxOf hl
 rwa [List.getElem_range] at h2
theorem rl_val (R:List Lp) (a c:ByteArray):(R.map Lp.n).getD (sidx2 (R.map Lp.a) (R.map Lp.c) a c) 0=lgV R a c:=lp_n R _
theorem rlUpd {R:List Lp} {r:Nat} (hR:R.length=r) {a c:ByteArray} {v m:Int} (hv:v=lgV R a c+m) {ix:Nat} (hix:sidx2 (R.map Lp.a) (R.map Lp.c) a c=ix):
  (some (HB.one false (.obj (.map true false (if ix<r then r else r+1) [.strs (putL ix a (R.map Lp.a)),.strs (putL ix c (R.map Lp.c))] [.sc (.ints .i64 (putL ((if ix<r then List.range r else List.range r++ [r]).idxOf (((if ix<r then (List.range r).getD ix 0 else r:Nat)):Int).toNat) v (putL ix ((R.map Lp.n).getD ix 0) (R.map Lp.n))))] (if ix<r then List.range r else List.range r++ [r]) (if ix<r then r else r+1)))):Option HB)
   =some (.one false (LgRL (lgAdd R ⟨a,m,c⟩).length (lgAdd R ⟨a,m,c⟩))):=by
 subst hv
 have hl:ix≤r:=by rw [←hix,←hR];exact lgI_le a c R
 have e:lgAdd R ⟨a,m,c⟩=putL ix ⟨a,lgV R a c+m,c⟩ R:=by unfold lgAdd lgI;rw [hix]
 rw [e,putL_len,hR]
 have h1:(if ix<r then List.range r else List.range r++ [r])=List.range (if ix<r then r else r+1):=by
  split
  ·rfl
  ·exact List.range_succ.symm
 have h2:(List.range (if ix<r then r else r+1)).idxOf (((if ix<r then (List.range r).getD ix 0 else r:Nat)):Int).toNat=ix:=by
  rw [Int.toNat_natCast]
  by_cases hx:ix<r
  ·rw [if_pos hx,if_pos hx,show (List.range r).getD ix 0=ix by simp [List.getD,hx],lg_idx hx]
  ·have:ix=r:=by omega
   rw [if_neg hx,if_neg hx,lg_idx (by omega),this]
 have h3:putL ix (lgV R a c+m) (putL ix ((R.map Lp.n).getD ix 0) (R.map Lp.n))=putL ix (lgV R a c+m) (R.map Lp.n):=by
  have hn:(R.map Lp.n).length=r:=by rw [List.length_map,hR]
  by_cases hx:ix<r
  ·rw [lg_putLt (i:=ix) (l:=R.map Lp.n) (by omega),lg_putLt (by rw [List.length_set];omega),lg_putLt (i:=ix) (l:=R.map Lp.n) (by omega),List.set_set]
  ·have:ix=r:=by omega
   subst this
   rw [lg_putNew hn,lg_putNew hn,lg_putLt (by simp [hn]),List.set_append_right _ _ (by omega)]
   simp [hn]
 rw [h1,h2,h3]
 unfold LgRL
 rw [lg_putMap,lg_putMap,lg_putMap]
theorem lp_eta (L:List Lp) (k:Nat):L.getD k lp0=⟨(L.map Lp.a).getD k ⟨#[]⟩,(L.map Lp.n).getD k 0,(L.map Lp.c).getD k ⟨#[]⟩⟩:=by
 rw [lp_a,lp_n,lp_c]
theorem lg_bd {L:List Lp} (hb:lgBd L) (k:Nat): -4503599627370496≤(L.getD k lp0).n∧(L.getD k lp0).n≤4503599627370496:=by
 rcases Nat.lt_or_ge k L.length with h|h
 ·rw [List.getD,List.getElem?_eq_getElem h];exact hb _ (List.getElem_mem h)
 ·rw [List.getD,List.getElem?_eq_none h];exact ⟨by decide,by decide⟩
theorem lg_changes (L:List Lp) (n:Nat) (hn:L.length=n) (h16:n≤16) (hb:lgBd L):FC Tryz.prog 2 193 [.sl 1 0 0 n] [(1,some (.one true (poB n L)))] (isOut (.map 2 0) [(2,some (.one false (LgRL (chR L n).length (chR L n))))] 3):=by
 unfold poB
 refine fc_of mixed T_ok Tryz.func193 rfl (by kernel_rfl) (by kernel_rfl) (by kernel_rfl) ?_
 repeat' ((conv=>whnf);first|((first|apply br_dec|apply br_ndec)<;>intro h<;>try (exfalso;(try dsimp only at h);omega))|((first|apply br_seq|apply br_nseq|apply br_not|apply br_intro)<;>intro h)|refine cond_a ?_)
 all_goals (conv=>whnf)
 refine vloop_of (fun k:Nat=>⟨[(3,.map 2 0),(7,.sl 1 0 0 n),(8,.int .i64 n),(9,.int .i64 k)],[(1,some (.one true (poB n L))),(2,some (.one false (LgRL (chR L k).length (chR L k))))],3⟩) (fun k=>k≤n) (fun k=>n-k) 0 [0,1,2] [] ⟨rfl,⟨rfl,rfl,rfl,rfl,trivial⟩,⟨rfl,rfl,trivial⟩⟩ (Nat.zero_le _) ?_
 intro k hk
 unfold poB
 by_cases hk2:k<n
 ·have hv0:=lgS_bd (lgBd_take hb k) ((L.map Lp.a).getD k ⟨#[]⟩) ((L.map Lp.c).getD k ⟨#[]⟩)
  rw [←chR_val _ _ k (by omega),List.length_take] at hv0
  have hb1:=lg_bd hb k
  rw [←lp_n] at hb1
  have hst:chR L (k+1)=lgAdd (chR L k) ⟨(L.map Lp.a).getD k ⟨#[]⟩,(L.map Lp.n).getD k 0,(L.map Lp.c).getD k ⟨#[]⟩⟩:=by rw [←lp_eta];rfl
  have hl:=lgI_le ((L.map Lp.a).getD k ⟨#[]⟩) ((L.map Lp.c).getD k ⟨#[]⟩) (chR L k)
  have hrow:=rlUpd (R:=chR L k) rfl (a:=(L.map Lp.a).getD k ⟨#[]⟩) (c:=(L.map Lp.c).getD k ⟨#[]⟩) (m:=(L.map Lp.n).getD k 0) (v:=IntKind.i64.wrap (((chR L k).map Lp.n).getD (sidx2 ((chR L k).map Lp.a) ((chR L k).map Lp.c) ((L.map Lp.a).getD k ⟨#[]⟩) ((L.map Lp.c).getD k ⟨#[]⟩)) 0+(L.map Lp.n).getD k 0)) (by rw [rl_val];exact w64_in (by omega) (by omega)) rfl
  rw [←hst] at hrow
  repeat' ((conv=>whnf);first|(refine ⟨lgStamp hl,?_⟩)|((first|apply br_dec|apply br_ndec)<;>intro h<;>try (exfalso;(try dsimp only at h);omega))|((first|apply br_seq|apply br_nseq|apply br_not|apply br_intro)<;>intro h)|refine cond_a ?_)
  all_goals (conv=>whnf)
  all_goals first
   |exact ⟨k+1,[0,1,2],[],hk2,(show n-(k+1)<n-k by omega),⟨rfl,⟨rfl,rfl,rfl,congrArg (fun z=>some (SV.int .i64 z)) (i64_succ (by omega)),trivial⟩,⟨rfl,hrow,trivial⟩⟩⟩
   |(exfalso;omega)
 have ek:k=n:=by omega
 subst ek
 repeat' ((conv=>whnf);first|((first|apply br_dec|apply br_ndec)<;>intro h<;>try (exfalso;(try dsimp only at h);omega))|((first|apply br_seq|apply br_nseq|apply br_not|apply br_intro)<;>intro h)|refine cond_a ?_)
 all_goals (conv=>whnf)
 all_goals first
  |exact ret_out (l:= [0,1,2]) rfl rfl ⟨rfl,trivial⟩ (allRw_cons allRw_nil)
  |(exfalso;omega)
theorem lg_bal_val {L:List Lp} {k n:Nat} {C:List ByteArray} {W:List Int} (hI:LgM L k n C W) (c:ByteArray):W.getD (sidx C c) 0=lgC (L.take k) c:=by
 rw [←hI.all c]
 split
 ·rfl
 ·rename_i h
  rw [List.getD,List.getElem?_eq_none (by have:=hI.w;omega)];rfl
theorem lg_stamps (i m:Nat):(if i<m then List.range m else List.range m++ [m])=List.range (if i<m then m else m+1):=by
 split
 ·rfl
 ·exact List.range_succ.symm
theorem lg_balanced (L:List Lp) (n:Nat) (hn:L.length=n) (h16:n≤16) (hb:lgBd L):FC Tryz.prog 2 198 [.sl 1 0 0 n] [(1,some (.one true (poB n L)))] (isOut (.bool (lgBal L)) [] 2):=by
 unfold poB
 refine fc_of mixed T_ok Tryz.func198 rfl (by kernel_rfl) (by kernel_rfl) (by kernel_rfl) ?_
 repeat' ((conv=>whnf);first|((first|apply br_dec|apply br_ndec)<;>intro h<;>try (exfalso;(try dsimp only at h);omega))|((first|apply br_seq|apply br_nseq|apply br_not|apply br_intro)<;>intro h)|refine cond_a ?_)
 all_goals (conv=>whnf)
 refine vloop_of (fun x:Nat×Nat×List ByteArray×List Int=>⟨[(3,.map 2 0),(9,.sl 1 0 0 n),(10,.int .i64 n),(11,.int .i64 x.1)],[(1,some (.one true (poB n L))),(2,some (.one false (.obj (.map false false x.2.1 [.strs x.2.2.1] [.sc (.ints .i64 x.2.2.2)] (List.range x.2.1) x.2.1))))],3⟩) (fun x=>x.1≤n∧x.2.1≤x.1∧LgM L x.1 x.2.1 x.2.2.1 x.2.2.2) (fun x=>n-x.1) (0,0,[],[]) [0,1,2] [] ⟨rfl,⟨rfl,rfl,rfl,rfl,trivial⟩,⟨rfl,rfl,trivial⟩⟩ ⟨Nat.zero_le _,Nat.le_refl _,lgM_zero L⟩ ?_
 rintro ⟨k,m,C,W⟩ ⟨hk,hm,hI⟩
 dsimp only at hk hm hI⊢
 unfold poB
 by_cases hk2:k<n
 ·have hv0:=lgC_bd (lgBd_take hb k) ((L.map Lp.c).getD k ⟨#[]⟩)
  rw [List.length_take,Nat.min_eq_left (by omega)] at hv0
  have hb1:=lg_bd hb k
  have hw:=lg_bal_val hI ((L.map Lp.c).getD k ⟨#[]⟩)
  have hvv:IntKind.i64.wrap (W.getD (sidx C ((L.map Lp.c).getD k ⟨#[]⟩)) 0+(L.map Lp.n).getD k 0)=lgC (L.take k) (L.getD k lp0).c+(L.getD k lp0).n:=by
   rw [hw,lp_n,←lp_c];exact w64_in (by omega) (by omega)
  have hI2:=lgM_step hI (by omega) _ hvv
  have hc0:=lp_c L k
  rw [←hc0] at hI2
  have hst:=lg_stamps (sidx C ((L.map Lp.c).getD k ⟨#[]⟩)) m
  repeat' ((conv=>whnf);first|((first|apply br_dec|apply br_ndec)<;>intro h<;>try (exfalso;(try dsimp only at h);omega))|((first|apply br_seq|apply br_nseq|apply br_not|apply br_intro)<;>intro h)|refine cond_a ?_)
  all_goals (conv=>whnf)
  all_goals try (exfalso;omega)
  refine ⟨(k+1,(if sidx C ((L.map Lp.c).getD k ⟨#[]⟩)<m then m else m+1),putL (sidx C ((L.map Lp.c).getD k ⟨#[]⟩)) ((L.map Lp.c).getD k ⟨#[]⟩) C,putL (sidx C ((L.map Lp.c).getD k ⟨#[]⟩)) (IntKind.i64.wrap (W.getD (sidx C ((L.map Lp.c).getD k ⟨#[]⟩)) 0+(L.map Lp.n).getD k 0)) W),[0,1,2],[],⟨hk2,(by dsimp only;split<;>omega),hI2⟩,(show n-(k+1)<n-k by omega),⟨rfl,⟨rfl,rfl,rfl,congrArg (fun z=>some (SV.int .i64 z)) (i64_succ (by omega)),trivial⟩,⟨rfl,?_,trivial⟩⟩⟩
  dsimp only
  rw [←hst]
  rfl
 have ek:k=n:=by omega
 subst ek
 have hI2:LgM L L.length m C W:=by rw [hn];exact hI
 repeat' ((conv=>whnf);first|((first|apply br_dec|apply br_ndec)<;>intro h<;>try (exfalso;(try dsimp only at h);omega))|((first|apply br_seq|apply br_nseq|apply br_not|apply br_intro)<;>intro h)|refine cond_a ?_)
 all_goals (conv=>whnf)
 all_goals first
  |(exfalso;omega)
  |skip
 refine vloop_of (fun sn:List Nat=>⟨[(3,.map 2 0),(26,.ptr 3 0 0 0)],[(2,some (.one false (.obj (.map false false m [.strs C] [.sc (.ints .i64 W)] (List.range m) m)))),(3,some (.one false (.obj (.iter 2 0 (List.range m) m sn))))],4⟩) (fun sn=>sn.Nodup∧(∀i∈sn,i<m)∧∀i∈sn,W.getD i 0=0) (fun sn=>m-sn.length) [] [0,1,2,3] [] ⟨rfl,⟨rfl,rfl,trivial⟩,⟨rfl,rfl,trivial⟩⟩ ⟨List.nodup_nil,by simp,by simp⟩ ?_
 rintro sn ⟨hd,hl,hz⟩
 repeat' ((conv=>whnf);first|(refine ⟨⟨rfl,rfl⟩,fun x hx hnx=> ?_,fun hall=> ?_⟩)|((first|apply br_dec|apply br_ndec)<;>intro h<;>try (exfalso;(try dsimp only at h);omega))|((first|apply br_seq|apply br_nseq|apply br_not|apply br_intro)<;>intro h)|refine cond_a ?_)
 all_goals (conv=>whnf)
 ·refine ret_out (l:= [0,1]) rfl ?_ trivial allRw_nil
  rw [lgM_nz hI2 hx h];rfl
 ·have:=nodup_cons_lt hd hl hx hnx
  refine ⟨x::sn,[0,1,2,3],[],⟨List.nodup_cons.2 ⟨hnx,hd⟩,fun y hy=> ?_,fun y hy=> ?_⟩,by simp only [List.length_cons];omega,⟨rfl,⟨rfl,rfl,trivial⟩,⟨rfl,rfl,trivial⟩⟩⟩
  ·rcases List.mem_cons.1 hy with rfl|hy
   ·exact hx
   ·exact hl y hy
  ·rcases List.mem_cons.1 hy with rfl|hy
   ·exact h
   ·exact hz y hy
 ·refine ret_out (l:= [0,1]) rfl ?_ trivial allRw_nil
  rw [lgM_z hI2 (fun i hi=>hz i (hall i hi))];rfl
end Go.Proofs.YtlankgapiecloaaGreatDoor
namespace Go.Proofs.YtlankgapiecloaaGreatDoor
open Go.RowKit Go.Sy Go.Proofs
set_option linter.unusedVariables false
set_option linter.unusedSimpArgs false
def RowIs (w:World) (e:TypeId) (v:Value) (s:ByteArray):Prop:=
 (v= .slice none 0 0∧s=⟨#[]⟩)∨∃g cap cur,v= .slice (some ⟨g,0,none⟩) s.size cap∧w.heap[g]?=some (.cells cur e (0,0))∧cur.size=cap∧s.size≤cap∧cap≤maxLen∧cur.toList.take s.size=Lib.strCells s
def RowNew (w w':World) (e:TypeId) (v v':Value) (s:ByteArray):Prop:=
 ∃g cap cur,v'= .slice (some ⟨g,0,none⟩) s.size cap∧w'.heap[g]?=some (.cells cur e (0,0))∧cur.size=cap∧s.size≤cap∧cap≤maxLen∧cur.toList.take s.size=Lib.strCells s∧(w.heap.size≤g∨v.ownBlock=some g)
theorem strCells_append (a b:ByteArray):Lib.strCells (a++b)=Lib.strCells a++Lib.strCells b:=by
 rw [Lib.strCells_eq,Lib.strCells_eq,Lib.strCells_eq,←Lib.byteCells_append];simp
theorem app_any {P:Program} (w:World) (t u ty e:TypeId) (i:TypeInfo) (ht:P.underlying t=some (.slice e)) (hu:P.underlying u=some .string) (hi:P.info? e=some i) (hz:i.zero=some (.int .u8 0)) (hsize:i.size=1) (hby:i.bytes=1)
  (v:Value) (s0 s:ByteArray) (hv:RowIs w e v s0) (h0:0<s.size) (hb:s0.size+s.size≤1000000000):
  ∃v' w',(Builtin.append_ #[t,u] ty #[v,.string s]).run P w= .ok v' w'∧RowNew w w' e v v' (s0++s)∧w.grownBy w' v.ownBlock:=by
 have hsz:(s0++s).size=s0.size+s.size:=by simp
 have hcl:∀x:ByteArray,(Lib.strCells x).length=x.size:=Lib.strCells_length
 have mx:maxLen=maxLen:=rfl
 have grown:∀(W:World) (xs:List Value) (n old:Nat),W.heap.size=w.heap.size→xs=Lib.strCells (s0++s)→n=s0.size+s.size→∀cur:Array Value,cur=xs.toArray++Builtin.zeroCells (Value.int .u8 0).cells (grownCap w n old e-n)→
   cur.size=grownCap w n old e∧(s0++s).size≤grownCap w n old e∧grownCap w n old e≤maxLen∧cur.toList.take (s0++s).size=Lib.strCells (s0++s):=by
  intro W xs n old _ hxs hn cur hcur
  have hge:=grownCap_ge w n old e
  have hcm:grownCap w n old e≤maxLen:=grownCap_le_maxLen w n old e (by unfold maxLen;omega)
  have hz1:(Value.int IntKind.u8 0).cells.size=1:=rfl
  refine ⟨?_,by omega,hcm,?_⟩
  ·rw [hcur,hxs]
   simp only [Array.size_append,List.size_toArray,size_zeroCells,hz1,hcl,hsz]
   omega
  ·rw [hcur,hxs]
   simp only [Array.toList_append]
   rw [←hcl (s0++s)]
   exact List.take_left
 rcases hv with ⟨rfl,rfl⟩|⟨g,cap,cur,rfl,hg,hcs,hnc,hcm,htake⟩
 ·have hr:=run_append_nil_string (P:=P) w t u ty e i (.int .u8 0) ht hu hi hz s (by omega) (by omega) (by rw [hby];omega)
  have e1:(s.data.map fun b=>Value.int .u8 b.toNat)=(Lib.strCells s).toArray:=by
   apply Array.ext'
   simp [Lib.strCells]
  rw [e1] at hr
  have hs:(⟨#[]⟩:ByteArray)++s=s:=by apply ByteArray.ext;simp
  obtain ⟨k1,k2,k3,k4⟩:=grown w (Lib.strCells s) s.size 0 rfl (by rw [hs]) (by show s.size=0+s.size;omega) _ rfl
  rw [hs] at k2 k4
  refine ⟨_,_,hr,⟨w.heap.size,_,_,by rw [hs],heap_alloc_new w.drew _,k1,by rw [hs];exact k2,k3,by rw [hs];exact k4,.inl (Nat.le_refl _)⟩,⟨rfl,rfl,rfl,by simp,fun k hk _=>heap_alloc_old w.drew _ hk⟩⟩
 ·by_cases hroom:s0.size+s.size≤cap
  ·have hr:=Lib.run_append_room_string (P:=P) w t u ty e i ht hu hi hsize g s0.size cap cur hg s hroom (by omega)
   refine ⟨_,_,hr,⟨g,cap,_,by rw [hsz],setRow_heap w g cur _ e _ hg,?_,by rw [hsz];exact hroom,hcm,?_,.inr rfl⟩,⟨rfl,rfl,rfl,by simp,fun k _ hk=>setRow_other w g k _ (fun e=>hk (by simp [Value.ownBlock,e]))⟩⟩
   ·simp only [List.size_toArray,List.length_append,List.length_take,List.length_drop,Array.length_toList,hcl]
    omega
   ·rw [htake,←strCells_append,←hcl (s0++s)]
    exact List.take_left
  ·have holds:∀j u,(Lib.strCells s0)[j]?=some u→w.cell? ((⟨g,0,none⟩:Addr).add j)=some u:=by
    intro j u hj
    rw [←htake,List.getElem?_take] at hj
    split at hj
    ·have ea:((⟨g,0,none⟩:Addr).add j)=⟨g,j,none⟩:=by
      unfold Addr.add
      split
      ·rename_i e;subst e;rfl
      ·simp
     rw [ea,Lib.cell_of_heap hg]
     simpa using hj
    ·cases hj
   have hr:=Lib.run_append_grow_string (P:=P) w t u ty e i (.int .u8 0) ht hu hi hz ⟨g,0,none⟩ s0.size cap (Lib.strCells s0) (by rw [hsize,hcl];simp) holds s (by omega) (by omega) (by rw [hby];exact growslice_fits (by omega) (by omega))
   obtain ⟨k1,k2,k3,k4⟩:=grown w (Lib.strCells (s0++s)) (s0.size+s.size) cap rfl rfl rfl _ rfl
   have e2:(Lib.strCells s0).toArray++(Lib.strCells s).toArray=(Lib.strCells (s0++s)).toArray:=by rw [strCells_append];simp
   rw [e2] at hr
   exact ⟨_,_,hr,⟨w.heap.size,_,_,by rw [hsz],heap_alloc_new w.drew _,k1,k2,k3,k4,.inl (Nat.le_refl _)⟩,⟨rfl,rfl,rfl,by simp,fun k hk _=>heap_alloc_old w.drew _ hk⟩⟩
theorem wpList_bld {P:Program} {ops:Array Oper} {rest:List Oper} {o:Oper} {a:Act} {Q:Exit→Act→World→Prop} {w:World} (hgd:o.guard=none) (sl x:Operand) (t u:TypeId)
  (ho:o.op= .call { callee:= .builtin .append,args:= #[sl,x],argTypes:= #[t,u]})
  (e:TypeId) (i:TypeInfo) (ht:P.underlying t=some (.slice e)) (hu:P.underlying u=some .string) (hi:P.info? e=some i) (hz:i.zero=some (.int .u8 0))
  (hsize:i.size=1) (hby:i.bytes=1)
  (v:Value) (s0 s:ByteArray) (hs:a.eval sl=v) (hv:RowIs w e v s0) (hx:a.eval x= .string s) (h0:0<s.size) (hb:s0.size+s.size≤1000000000)
  (h:∀v' w',RowNew w w' e v v' (s0++s)→w.grownBy w' v.ownBlock→wpList P ops Q rest (a.put o.dst v') w'):wpList P ops Q (o::rest) a w:=by
 refine wpList_plain hgd fun K hK=> ?_
 obtain ⟨v',w',hr,h2,h3⟩:=app_any (P:=P) w t u o.type e i ht hu hi hz hsize hby v s0 s hv h0 hb
 unfold Oper.wp execOp
 simp only [ho,resolve,invoke,builtin,Sem.run_bind,Sem.run_pure,Result.andThen_ok,List.map_toArray,List.map_cons,List.map_nil,hs,hx,hr]
 exact hK _ _ (h v' w' h2 h3)
set_option maxRecDepth 100000
theorem b_info:(Tryz.prog.info? 77).map (·.size)=some 2:=by kernel_rfl
theorem b_lies:liesAt Tryz.prog Tryz.prog.depth 77 (2/Tryz.prog.cellsOf 77) 0 77 1=true:=by kernel_rfl
theorem b_ptr:Tryz.prog.underlying 74=some (.pointer 77):=by kernel_rfl
theorem b_uns:Tryz.prog.underlying 140=some .unsafePointer:=by kernel_rfl
theorem b_sl:Tryz.prog.underlying 75=some (.slice 5):=by kernel_rfl
theorem b_str:Tryz.prog.underlying 9=some .string:=by kernel_rfl
theorem b_u8:(Tryz.prog.info? 5).map (fun i=>(i.zero,i.size,i.bytes))=some (some (.int .u8 0),1,1):=by kernel_rfl
set_option maxHeartbeats 1000000 in
theorem k_copyCheck_used (b:Nat) (w:World) (h0:w.cell? ⟨b,0,none⟩=some (.pointer (some ⟨b,0,none⟩))):
  Calls Tryz.prog 46 #[.pointer (some ⟨b,0,none⟩)] w fun e w'=>e= .returned (.tuple #[])∧w'=w:=by
 obtain ⟨j,hj,_⟩:=Option.map_eq_some_iff.1 b_info
 go_enter Tryz.func46,Tryz.ntmps46
 go_wp2
 rw [Lib.run_neq_ptr_same w _ b_ptr hj]
 go_wp2
 go_end0
 exact ⟨rfl,rfl⟩
set_option maxHeartbeats 1000000 in
theorem k_copyCheck_fresh (b:Nat) (w:World) (h0:w.cell? ⟨b,0,none⟩=some (.pointer none)) (hsh:w.shape? b=some (77,2)) (hfz:w.frozen? ⟨b,0,none⟩=false):
  Calls Tryz.prog 46 #[.pointer (some ⟨b,0,none⟩)] w fun e w'=>e= .returned (.tuple #[])∧w'=w.setCell ⟨b,0,none⟩ (.pointer (some ⟨b,0,none⟩)):=by
 obtain ⟨j,hj,hjs⟩:=Option.map_eq_some_iff.1 b_info
 go_enter Tryz.func46,Tryz.ntmps46
 go_wp2
 rw [Lib.run_to_unsafe w ⟨b,0,none⟩ b_ptr b_uns hj (by rw [hjs];decide) hsh (Nat.zero_lt_succ 1)]
 simp only [Result.andThen]
 rw [Oper.upon_value]
 go_wp2
 rw [run_callFunc_extern Tryz.func62 (by kernel_rfl) (by kernel_rfl) (by kernel_rfl) (e:=Extern.AbiNoEscape.same) (by kernel_rfl)]
 rw [Lib.run_noEscape]
 simp only [Result.andThen]
 rw [Oper.upon_value]
 go_wp2
 rw [Lib.run_from_unsafe w ⟨b,0,none⟩ b_uns b_ptr hj hsh b_lies]
 simp only [Result.andThen]
 rw [Oper.upon_value]
 go_wp2
 go_end0
 exact ⟨rfl,rfl⟩
def KeepB (B:Nat→Prop) (w w':World):Prop:=w'.os=w.os∧w'.tape=w.tape∧w'.output=w.output∧w.heap.size≤w'.heap.size∧∀k,k<w.heap.size→¬B k→w'.heap[k]?=w.heap[k]?
set_option maxHeartbeats 2000000 in
theorem k_WriteString (b:Nat) (p v:Value) (s0 s:ByteArray) (w:World) (hb:w.heap[b]?=some (.cells #[p,v] 77 (0,0))) (hp:p= .pointer none∨p= .pointer (some ⟨b,0,none⟩)) (hv:RowIs w 5 v s0) (hne:v.ownBlock≠some b) (h0:0<s.size) (hsz:s0.size+s.size≤1000000000):
  Calls Tryz.prog 26 #[.pointer (some ⟨b,0,none⟩),.string s] w fun e w'=>e= .returned (.tuple #[.int .i64 s.size,.nilIface])∧∃v',w'.heap[b]?=some (.cells #[.pointer (some ⟨b,0,none⟩),v'] 77 (0,0))∧RowNew w w' 5 v v' (s0++s)∧KeepB (fun k=>k=b∨v.ownBlock=some k) w w':=by
 obtain ⟨i0,hi,hi3⟩:=Option.map_eq_some_iff.1 b_u8
 simp only [Prod.mk.injEq] at hi3
 obtain ⟨hz0,hz1,hz2⟩:=hi3
 have hlt:b<w.heap.size:=by
  rcases Nat.lt_or_ge b w.heap.size with h'|h'
  ·exact h'
  ·simp [Array.getElem?_eq_none h'] at hb
 have cc:Calls Tryz.prog 46 #[.pointer (some ⟨b,0,none⟩)] w fun e w'=>e= .returned (.tuple #[])∧w'.heap[b]?=some (.cells #[.pointer (some ⟨b,0,none⟩),v] 77 (0,0))∧w'.heap.size=w.heap.size∧w'.os=w.os∧w'.tape=w.tape∧w'.output=w.output∧∀k,k≠b→w'.heap[k]?=w.heap[k]?:=by
  rcases hp with rfl|rfl
  ·refine (k_copyCheck_fresh b w (by rw [Lib.cell_of_heap hb];rfl) (by simp [World.shape?,hb]) (Lib.frozen_of_heap hb 0)).mono ?_
   rintro e w' ⟨rfl,rfl⟩
   refine ⟨rfl,?_,by simp [World.setCell],rfl,rfl,rfl,fun k hk=> ?_⟩
   ·simp [World.setCell,Array.getElem?_modify,hb]
   ·simp [World.setCell,Array.getElem?_modify,Ne.symm hk]
  ·refine (k_copyCheck_used b w (by rw [Lib.cell_of_heap hb];rfl)).mono ?_
   rintro e w' ⟨rfl,rfl⟩
   exact ⟨rfl,hb,rfl,rfl,rfl,rfl,fun _ _=>rfl⟩
 go_enter Tryz.func26,Tryz.ntmps26
 go_wp2_with (go_at_call 46;refine cc.mono ?_)
 rintro e w1 ⟨rfl,hb1,hs1,ho1,ht1,hu1,hk1⟩
 have c0:w1.cell? ⟨b,0,none⟩=some (.pointer (some ⟨b,0,none⟩)):=by rw [Lib.cell_of_heap hb1];rfl
 have c1:w1.cell? ⟨b,1,none⟩=some v:=by rw [Lib.cell_of_heap hb1];rfl
 have hv1:RowIs w1 5 v s0:=by
  rcases hv with h|⟨g,cap,cur,rfl,hg,h⟩
  ·exact .inl h
  ·refine .inr ⟨g,cap,cur,rfl,?_,h⟩
   rw [hk1 g (fun e=>hne (by rw [e];rfl))]
   exact hg
 go_wp2_with (at_builtin;refine wpList_bld rfl _ _ 75 9 rfl 5 i0 b_sl b_str hi hz0 hz1 hz2 v s0 s rfl hv1 rfl h0 hsz ?_)
 intro v' w2 hrow hgrow
 have hb2:w2.heap[b]?=some (.cells #[.pointer (some ⟨b,0,none⟩),v] 77 (0,0)):=by
  rw [hgrow.block b (by omega) (fun e=>hne e.symm)]
  exact hb1
 have d0:w2.cell? ⟨b,0,none⟩=some (.pointer (some ⟨b,0,none⟩)):=by rw [Lib.cell_of_heap hb2];rfl
 have d1:w2.cell? ⟨b,1,none⟩=some v:=by rw [Lib.cell_of_heap hb2];rfl
 have f1:w2.frozen? ⟨b,1,none⟩=false:=Lib.frozen_of_heap hb2 1
 obtain ⟨g,cap,cur,rfl,r2,r3,r4,r5,r6,r7⟩:=hrow
 have hgb:g≠b:=by
  rcases r7 with r7|r7
  ·omega
  ·exact fun e=>hne (by rw [r7,e])
 go_wp2
 go_ret2
 refine ⟨rfl,_,?_,⟨g,cap,cur,rfl,?_,r3,r4,r5,r6,by rw [←hs1];exact r7⟩,?_⟩
 ·simp [World.setCell,Array.getElem?_modify,hb2]
 ·simp [World.setCell,Array.getElem?_modify,Ne.symm hgb,r2]
 ·refine ⟨?_,?_,?_,?_,fun k hk hn=> ?_⟩
  ·show w2.os=w.os;rw [hgrow.os,ho1]
  ·show w2.tape=w.tape;rw [hgrow.tape,ht1]
  ·show w2.output=w.output;rw [hgrow.output,hu1]
  ·have:=hgrow.size;simp [World.setCell];omega
  ·have k1:k≠b:=fun e=>hn (.inl e)
   have k2:some k≠v.ownBlock:=fun e=>hn (.inr e.symm)
   have:∀x,(w2.setCell ⟨b,1,none⟩ x).heap[k]?=w2.heap[k]?:=fun x=>by simp [World.setCell,Array.getElem?_modify,Ne.symm k1]
   rw [this,hgrow.block k (by omega) k2,hk1 k k1]
theorem b_p8:Tryz.prog.underlying 121=some (.pointer 5):=by kernel_rfl
theorem b_c8:Tryz.prog.cellsOf 5=1:=by kernel_rfl
set_option maxHeartbeats 2000000 in
theorem k_String (b g cap:Nat) (p:Value) (cur:Array Value) (s:ByteArray) (w:World) (hb:w.heap[b]?=some (.cells #[p,.slice (some ⟨g,0,none⟩) s.size cap] 77 (0,0))) (hg:w.heap[g]?=some (.cells cur 5 (0,0))) (hcs:cur.size=cap) (hnc:s.size≤cap) (hcm:cap≤maxLen) (htake:cur.toList.take s.size=Lib.strCells s) (h0:0<s.size):
  Calls Tryz.prog 30 #[.pointer (some ⟨b,0,none⟩)] w fun e w'=>e= .returned (.string s)∧KeepB (fun k=>k=g) w w':=by
 have hl0:s.data.toList≠[]:=by
  intro e
  have h1:s.data.toList.length=s.size:=by simp
  rw [e] at h1
  simp at h1
  omega
 have hll:s.data.toList.length=s.size:=by simp
 have c1:w.drew.cell? ⟨b,1,none⟩=some (.slice (some ⟨g,0,none⟩) s.size cap):=by
  have:w.drew.heap[b]?=some (.cells #[p,.slice (some ⟨g,0,none⟩) s.size cap] 77 (0,0)):=hb
  rw [Lib.cell_of_heap this];rfl
 have hg':w.drew.heap[g]?=some (.cells cur 5 (0,0)):=hg
 have hSD:(Builtin.unsafeSliceData_ #[75] 121 #[.slice (some ⟨g,0,none⟩) s.size cap]).run Tryz.prog w.drew= .ok (.pointer (some ⟨g,0,none⟩)) w.drew:=
  Lib.run_unsafeSliceData_row _ _ _ _ _ _ (by omega)
 have hUS:(Builtin.unsafeString_ #[121,3] 9 #[.pointer (some ⟨g,0,none⟩),.int .i64 s.size]).run Tryz.prog w.drew= .ok (.string s) (w.drew.freeze ⟨g,0,none⟩ s.size):=by
  have:=Lib.run_unsafeString_row (P:=Tryz.prog) w.drew 121 3 9 5 b_p8 b_c8 g cur.size (by simp [World.shape?,hg']) s.data.toList hl0 (by omega) (by unfold maxLen at hcm;omega) (by
   intro j x hx
   have ea:((⟨g,0,none⟩:Addr).add j)=⟨g,j,none⟩:=by
    unfold Addr.add
    split
    ·rename_i e;subst e;rfl
    ·simp
   rw [ea,Lib.cell_of_heap hg']
   have h1:(Lib.strCells s)[j]?=some (.int .u8 x.toNat):=by rw [Lib.strCells_eq];simp only [Lib.byteCells,List.getElem?_map,hx];rfl
   rw [←htake,List.getElem?_take] at h1
   split at h1
   ·simpa using h1
   ·cases h1)
  rw [hll] at this
  exact this
 have hkeep:KeepB (fun k=>k=g) w (w.drew.freeze ⟨g,0,none⟩ s.size):=by
  unfold World.freeze
  split
  ·exact ⟨rfl,rfl,rfl,Nat.le_refl _,fun _ _ _=>rfl⟩
  ·refine ⟨rfl,rfl,rfl,by simp,fun k hk hn=> ?_⟩
   simp only [Array.getElem?_modify]
   rw [if_neg (fun e=>hn e.symm)]
   rfl
 have mixed:Tryz.prog.follows .mixedOrders=true:=by kernel_rfl
 go_enter Tryz.func30,Tryz.ntmps30
 go_wp2
 go_region_o
 all_goals (go_wp2;go_ret;exact ⟨rfl,hkeep⟩)
end Go.Proofs.YtlankgapiecloaaGreatDoor
namespace Go.Proofs.YtlankgapiecloaaGreatDoor
open Go.RowKit Go.Sy Go.Proofs
set_option linter.unusedVariables false
set_option linter.unusedSimpArgs false
def bldB (h n:Nat):Option HB:=some (.one false (.obj (.bld 77 h 0 n)))
def bld0B:Option HB:=some (.one false (.obj (.bld0 77)))
def browB (s:ByteArray):Option HB:=some (.one false (.obj (.brow 5 s)))
theorem two_ent {h1 h2 h q:Nat} {ro:Bool} {b1 b2 b:Blk} (he:Ent [(h1,some (.one false b1)),(h2,some (.one false b2))] h q ro b):(h=h1∧q=0∧ro=false∧b=b1)∨(h≠h1∧h=h2∧q=0∧ro=false∧b=b2):=by
 rcases ent_cons.1 he with ⟨e,hb,k1,k2,k3⟩|⟨e,he⟩
 ·cases k1
  exact .inl ⟨e.symm,k2.1,k3.symm,k2.2⟩
 ·rcases ent_cons.1 he with ⟨e',hb,k1,k2,k3⟩|⟨_,he⟩
  ·cases k1
   exact .inr ⟨fun x=>e x.symm,e'.symm,k2.1,k3.symm,k2.2⟩
  ·obtain ⟨hb,k,_⟩:=he;simp [hget] at k
theorem holds_two {g:G} {w:World} {h1 h2:Nat} {b1 b2:Blk} {β1 β2:Base} (e1:g h1 0=some β1) (B1:BlkAt g β1 false b1 w) (e2:g h2 0=some β2) (B2:BlkAt g β2 false b2 w) (hd:β1.blk≠β2.blk):Holds g [(h1,some (.one false b1)),(h2,some (.one false b2))] w:=by
 refine ⟨?_,?_⟩
 ·intro h q ro b he
  rcases two_ent he with ⟨rfl,rfl,rfl,rfl⟩|⟨_,rfl,rfl,rfl,rfl⟩
  ·exact ⟨_,e1,B1⟩
  ·exact ⟨_,e2,B2⟩
 ·intro h q h' q' b ro' b' β β' hne he he' hg hg' hc hc'
  rcases two_ent he with ⟨rfl,rfl,_,rfl⟩|⟨hx,rfl,rfl,_,rfl⟩
  ·rcases two_ent he' with ⟨rfl,rfl,_,rfl⟩|⟨_,rfl,rfl,_,rfl⟩
   ·exact absurd ⟨rfl,rfl⟩ hne
   ·rw [e1] at hg;cases hg
    rw [e2] at hg';cases hg'
    exact hd
  ·rcases two_ent he' with ⟨rfl,rfl,_,rfl⟩|⟨_,rfl,rfl,_,rfl⟩
   ·rw [e2] at hg;cases hg
    rw [e1] at hg';cases hg'
    exact hd.symm
   ·exact absurd ⟨rfl,rfl⟩ hne
theorem bld_out {g:G} {w w':World} {n r cap m:Nat} {H:Heap} {β:Base} {cur:Array Value} {s:ByteArray} {Bk:Nat→Prop} (hg1:g 1 0=some β) (hcap:0<β.cap) (hoff:β.off=0) (hes:β.es=0) (h1n:1<n) (hu:g.upto n)
  (hb:w'.heap[β.blk]?=some (.cells #[.pointer (some ⟨β.blk,0,none⟩),.slice (some ⟨r,0,none⟩) s.size cap] 77 (0,0))) (hr:w'.heap[r]?=some (.cells cur 5 (0,0))) (hcs:cur.size=cap) (hnc:s.size≤cap) (hcm:cap≤maxLen) (htake:cur.toList.take s.size=Lib.strCells s) (h0:0<s.size)
  (hne:r≠β.blk) (hk:KeepB Bk w w') (hBk:∀k,Bk k→Wset g H k) (hW:Wset g H β.blk) (hWr:Wset g H r∨w.heap.size≤r):
  Out g w n H (isOut (.tup [.int .i64 m,.nif]) [(1,bldB n s.size),(n,browB s)] (n+1)) (.tuple #[.int .i64 m,.nilIface]) w':=by
 obtain ⟨k1,k2,k3,k4,k5⟩:=hk
 have lt:∀{k:Nat} {o:Obj},w'.heap[k]?=some o→k<w'.heap.size:=by
  intro k o h
  rcases Nat.lt_or_ge k w'.heap.size with h'|h'
  ·exact h'
  ·simp [Array.getElem?_eq_none h'] at h
 have g1:(g.add n ⟨r,0,0,cap⟩) 1 0=some β:=by simp only [G.add];rw [if_neg (by omega)];exact hg1
 have gn:(g.add n ⟨r,0,0,cap⟩) n 0=some ⟨r,0,0,cap⟩:=by simp [G.add]
 refine ⟨_,_,n+1,g.add n ⟨r,0,0,cap⟩,⟨rfl,rfl,rfl⟩,Nat.le_succ _,?_,?_,?_,?_,allRw_cons (allRw_cons allRw_nil),⟨k1,k2,k3,k4,fun k hk hn=>k5 k hk (fun hb=>hn (hBk k hb))⟩,?_⟩
 ·intro h q hh
  simp only [G.add]
  rw [if_neg (by omega)]
  exact hu h q (by omega)
 ·intro h q hh
  simp only [G.add]
  rw [if_neg (by omega)]
 ·simp only [Rv,Rvs]
  exact ⟨_,rfl,_,_,rfl,rfl,_,_,rfl,rfl,rfl⟩
 ·refine holds_two g1 (objAt hes hcap hoff (lt hb) ?_) gn (objAt rfl (by show 0<cap;omega) rfl (lt hr) ?_) hne.symm
  ·exact ⟨_,gn,hb⟩
  ·exact ⟨cur,hr,hcs,hnc,hcm,by rw [htake,Lib.strCells_eq];rfl⟩
 ·intro h q b β' he hg hc
  rcases two_ent he with ⟨rfl,rfl,_,rfl⟩|⟨_,rfl,rfl,_,rfl⟩
  ·rw [g1] at hg;cases hg;exact .inl hW
  ·rw [gn] at hg;cases hg;exact hWr
theorem bld_WS0 (s:ByteArray) (h0:0<s.size) (hs:s.size≤1000000000):FC Tryz.prog 2 26 [.ptr 1 0 0 0,.str s] [(1,bld0B)] (isOut (.tup [.int .i64 s.size,.nif]) [(1,bldB 2 s.size),(2,browB s)] 3):=by
 refine .inl ⟨bodied_of' Tryz.func26 (by kernel_rfl) (by kernel_rfl),fun g w vs hg hu hH hvs=> ?_⟩
 obtain ⟨β,hβ,hB⟩:=hH.blk 1 0 false (.obj (.bld0 77)) ⟨_,rfl,⟨rfl,rfl⟩,rfl⟩
 obtain ⟨hcap,hoff,hheap⟩:=hB.obj
 have hW:Wset g [(1,bld0B)] β.blk:=⟨1,0,_,β,⟨_,rfl,⟨rfl,rfl⟩,rfl⟩,hβ,hcap,rfl⟩
 have haddr:β.addr 0 0=⟨β.blk,0,none⟩:=by simp [Base.addr,hoff]
 simp only [Rvs,Rv] at hvs
 obtain ⟨v,r1,rfl,⟨β',e',rfl⟩,v2,r2,rfl,rfl,rfl⟩:=hvs
 rw [hβ] at e';cases e'
 rw [haddr]
 have hz:(⟨#[]⟩:ByteArray).size=0:=rfl
 have hs0:(⟨#[]⟩:ByteArray)++s=s:=by apply ByteArray.ext;simp
 have hlt:=hB.lt hcap
 refine (k_WriteString β.blk (.pointer none) (.slice none 0 0) ⟨#[]⟩ s w hheap (.inl rfl) (.inl ⟨rfl,rfl⟩) (by simp [Value.ownBlock]) h0 (by rw [hz];omega)).mono ?_
 rw [hs0]
 rintro e w' ⟨rfl,v',hb',⟨r,cap,cur,rfl,hr,hcs,hnc,hcm,htake,hr2⟩,hk⟩
 have hr3:w.heap.size≤r:=by
  rcases hr2 with h|h
  ·exact h
  ·cases h
 refine ⟨_,rfl,bld_out hβ hcap hoff hB.es (by omega) hu hb' hr hcs hnc hcm htake h0 (by omega) hk ?_ hW (.inr hr3)⟩
 rintro k (rfl|h)
 ·exact hW
 ·cases h
theorem bld_WS (s0 s:ByteArray) (h0:0<s.size) (hs:s0.size+s.size≤1000000000):FC Tryz.prog 3 26 [.ptr 1 0 0 0,.str s] [(1,bldB 2 s0.size),(2,browB s0)] (isOut (.tup [.int .i64 s.size,.nif]) [(1,bldB 3 (s0++s).size),(3,browB (s0++s))] 4):=by
 refine .inl ⟨bodied_of' Tryz.func26 (by kernel_rfl) (by kernel_rfl),fun g w vs hg hu hH hvs=> ?_⟩
 have en1:Ent [(1,bldB 2 s0.size),(2,browB s0)] 1 0 false (.obj (.bld 77 2 0 s0.size)):=⟨_,rfl,⟨rfl,rfl⟩,rfl⟩
 have en2:Ent [(1,bldB 2 s0.size),(2,browB s0)] 2 0 false (.obj (.brow 5 s0)):=⟨_,rfl,⟨rfl,rfl⟩,rfl⟩
 obtain ⟨β,hβ,hB⟩:=hH.blk _ _ _ _ en1
 obtain ⟨β2,hβ2,hB2⟩:=hH.blk _ _ _ _ en2
 obtain ⟨hcap,hoff,β2',e2,hheap⟩:=hB.obj
 rw [hβ2] at e2;cases e2
 obtain ⟨hcap2,hoff2,cur0,hheap2,j1,j2,j3,j4⟩:=hB2.obj
 have hW:Wset g [(1,bldB 2 s0.size),(2,browB s0)] β.blk:=⟨1,0,_,β,en1,hβ,hcap,rfl⟩
 have hW2:Wset g [(1,bldB 2 s0.size),(2,browB s0)] β2.blk:=⟨2,0,_,β2,en2,hβ2,hcap2,rfl⟩
 have hd:β.blk≠β2.blk:=hH.sep 1 0 2 0 _ _ _ β β2 (by omega) en1 en2 hβ hβ2 hcap hcap2
 have haddr:β.addr 0 0=⟨β.blk,0,none⟩:=by simp [Base.addr,hoff]
 simp only [Rvs,Rv] at hvs
 obtain ⟨v,r1,rfl,⟨β',e',rfl⟩,v2,r2,rfl,rfl,rfl⟩:=hvs
 rw [hβ] at e';cases e'
 rw [haddr]
 have hlt:=hB.lt hcap
 refine (k_WriteString β.blk _ _ s0 s w hheap (.inr rfl) (.inr ⟨β2.blk,β2.cap,cur0,rfl,hheap2,j1,j2,j3,by rw [j4,Lib.strCells_eq];rfl⟩) (by simp [Value.ownBlock];exact fun e=>hd e.symm) h0 hs).mono ?_
 rintro e w' ⟨rfl,v',hb',⟨r,cap,cur,rfl,hr,hcs,hnc,hcm,htake,hr2⟩,hk⟩
 have hr3:Wset g [(1,bldB 2 s0.size),(2,browB s0)] r∨w.heap.size≤r:=by
  rcases hr2 with h|h
  ·exact .inr h
  ·simp only [Value.ownBlock,Option.some.injEq] at h
   subst h;exact .inl hW2
 refine ⟨_,rfl,bld_out hβ hcap hoff hB.es (by omega) hu hb' hr hcs hnc hcm htake (by simp;omega) ?_ hk ?_ hW hr3⟩
 ·rcases hr2 with h|h
  ·omega
  ·simp only [Value.ownBlock,Option.some.injEq] at h
   subst h;exact hd.symm
 ·rintro k (rfl|h)
  ·exact hW
  ·simp only [Value.ownBlock,Option.some.injEq] at h
   subst h;exact hW2
theorem bld_String (s:ByteArray) (h0:0<s.size):FC Tryz.prog 3 30 [.ptr 1 0 0 0] [(1,bldB 2 s.size),(2,browB s)] (isOut (.str s) [] 3):=by
 refine .inl ⟨bodied_of' Tryz.func30 (by kernel_rfl) (by kernel_rfl),fun g w vs hg hu hH hvs=> ?_⟩
 have en1:Ent [(1,bldB 2 s.size),(2,browB s)] 1 0 false (.obj (.bld 77 2 0 s.size)):=⟨_,rfl,⟨rfl,rfl⟩,rfl⟩
 have en2:Ent [(1,bldB 2 s.size),(2,browB s)] 2 0 false (.obj (.brow 5 s)):=⟨_,rfl,⟨rfl,rfl⟩,rfl⟩
 obtain ⟨β,hβ,hB⟩:=hH.blk _ _ _ _ en1
 obtain ⟨β2,hβ2,hB2⟩:=hH.blk _ _ _ _ en2
 obtain ⟨hcap,hoff,β2',e2,hheap⟩:=hB.obj
 rw [hβ2] at e2;cases e2
 obtain ⟨hcap2,hoff2,cur0,hheap2,j1,j2,j3,j4⟩:=hB2.obj
 have hW2:Wset g [(1,bldB 2 s.size),(2,browB s)] β2.blk:=⟨2,0,_,β2,en2,hβ2,hcap2,rfl⟩
 have haddr:β.addr 0 0=⟨β.blk,0,none⟩:=by simp [Base.addr,hoff]
 simp only [Rvs,Rv] at hvs
 obtain ⟨v,r1,rfl,⟨β',e',rfl⟩,rfl⟩:=hvs
 rw [hβ] at e';cases e'
 rw [haddr]
 refine (k_String β.blk β2.blk β2.cap _ cur0 s w hheap hheap2 j1 j2 j3 (by rw [j4,Lib.strCells_eq];rfl) h0).mono ?_
 rintro e w' ⟨rfl,k1,k2,k3,k4,k5⟩
 refine ⟨_,rfl,.str s,[],3,g,⟨rfl,rfl,rfl⟩,Nat.le_refl _,hu,fun _ _ _=>rfl,by simp only [Rv],⟨?_,?_⟩,allRw_nil,⟨k1,k2,k3,k4,fun k hk hn=>k5 k hk (fun e=>hn (e▸hW2))⟩,?_⟩
 ·intro h q ro b he;obtain ⟨hb,e,_⟩:=he;simp [hget] at e
 ·intro h q h' q' b ro' b' β β' _ he;obtain ⟨hb,e,_⟩:=he;simp [hget] at e
 ·intro h q b β he;obtain ⟨hb,e,_⟩:=he;simp [hget] at e
end Go.Proofs.YtlankgapiecloaaGreatDoor
namespace Go.Proofs.YtlankgapiecloaaGreatDoor
open Go.RowKit Go.Sy
attribute [local irreducible] vcall vloop vcallD retP
set_option maxRecDepth 100000
set_option linter.unusedVariables false
set_option linter.unusedSimpArgs false
theorem lseg_all {α:Type} {l:List α} {n:Nat} (h:l.length=n):seg 0 n l=l:=by
 unfold seg;rw [List.drop_zero,List.take_of_length_le (by omega)]
theorem lp_Clone (L:List Lp) (n:Nat) (hn:L.length=n) (h1:1≤n) (h2:n≤1000000):FC Tryz.prog 2 187 [.sl 1 0 0 n] [(1,some (.one true (poB n L)))] (isOut (.sl 2 0 0 n) [(2,some (.one false (poB n L)))] 3):=by
 unfold poB
 have k1:(L.map Lp.a).length=n:=by rw [List.length_map,hn]
 have k2:(L.map Lp.n).length=n:=by rw [List.length_map,hn]
 have k3:(L.map Lp.c).length=n:=by rw [List.length_map,hn]
 generalize L.map Lp.a=A at*
 generalize L.map Lp.n=B at*
 generalize L.map Lp.c=C at*
 obtain ⟨m,rfl⟩:∃m,n=m+1:=⟨n-1,by omega⟩
 refine fc_of mixed T_ok Tryz.func187 rfl (by kernel_rfl) (by kernel_rfl) (by kernel_rfl) ?_
 repeat' ((conv=>whnf);first|((first|apply br_dec|apply br_ndec)<;>intro h<;>try (exfalso;(try dsimp only at h);omega))|((first|apply br_seq|apply br_nseq|apply br_not|apply br_intro)<;>intro h)|refine cond_a ?_)
 all_goals (conv=>whnf)
 all_goals (rw [Nat.zero_add (m+1),lseg_all k1,lseg_all k2,lseg_all k3];exact ret_out (l:= [0,1,3]) rfl rfl ⟨rfl,trivial⟩ (allRw_cons allRw_nil))
theorem lg_copyEntry (id:ByteArray) (d:Int) (L:List Lp) (n:Nat) (hn:L.length=n) (h1:1≤n) (h2:n≤1000000):FC Tryz.prog 2 182 [.agg [.str id,.int .i64 d,.sl 1 0 0 n]] [(1,some (.one true (poB n L)))] (isOut (.agg [.str id,.int .i64 d,.sl 2 0 0 n]) [(2,some (.one false (poB n L)))] 3):=by
 have c:=lp_Clone L n hn h1 h2
 refine fc_of mixed T_ok Tryz.func182 rfl (by kernel_rfl) (by kernel_rfl) (by kernel_rfl) ?_
 repeat' ((conv=>whnf);first|refine vcall_o (l:= [0,1]) (c) ?_|refine vcallD_o (l:= [0,1]) (c) ?_|((first|apply br_dec|apply br_ndec)<;>intro h<;>try (exfalso;(try dsimp only at h);omega))|((first|apply br_seq|apply br_nseq|apply br_not|apply br_intro)<;>intro h)|refine cond_a ?_)
 all_goals (conv=>whnf)
 all_goals exact ret_out (l:= [0,1,4]) rfl rfl ⟨rfl,trivial⟩ (allRw_cons allRw_nil)
theorem conv_Itoa (i:Int) (h1: -9223372036854775808≤i) (h2:i≤9223372036854775807):Glob Tryz.prog glT 24 [.int .i64 i] (.str (decI i)):=by
 have c:=iconv_FormatInt i h1 h2
 have c2:Glob Tryz.prog glT 44 [.int .i64 i] (.str (decI i)):=by
  refine fc_of mixed T_ok Tryz.func44 rfl (by kernel_rfl) (by kernel_rfl) (by kernel_rfl) ?_
  repeat' ((conv=>whnf);first|(refine vcall_glob (c) rfl rfl rfl rfl ?_)|(refine vcallD_glob (c) rfl rfl rfl rfl ?_)|((first|apply br_dec|apply br_ndec)<;>intro h<;>try (exfalso;(try dsimp only at h);omega))|((first|apply br_seq|apply br_nseq|apply br_not|apply br_intro)<;>intro h)|refine cond_a ?_)
  all_goals (conv=>whnf)
  exact ret_pure rfl
 refine fc_of mixed T_ok Tryz.func24 rfl (by kernel_rfl) (by kernel_rfl) (by kernel_rfl) ?_
 repeat' ((conv=>whnf);first|(refine vcall_glob (c2) rfl rfl rfl rfl ?_)|(refine vcallD_glob (c2) rfl rfl rfl rfl ?_)|((first|apply br_dec|apply br_ndec)<;>intro h<;>try (exfalso;(try dsimp only at h);omega))|((first|apply br_seq|apply br_nseq|apply br_not|apply br_intro)<;>intro h)|refine cond_a ?_)
 all_goals (conv=>whnf)
 exact ret_pure rfl
theorem lgz (x:UInt8):(ByteArray.mk #[x]).size=1:=rfl
theorem lgz1:(⟨#[124]⟩:ByteArray).size=1:=rfl
theorem lgz2:(⟨#[47]⟩:ByteArray).size=1:=rfl
def lgSz (L:List Lp):Prop:=∀x∈L,x.a.size≤40∧x.c.size≤3
theorem lgSz_at {L:List Lp} (h:lgSz L) (k:Nat):(L.getD k lp0).a.size≤40∧(L.getD k lp0).c.size≤3:=by
 rcases Nat.lt_or_ge k L.length with hk|hk
 ·rw [List.getD,List.getElem?_eq_getElem hk];exact h _ (List.getElem_mem hk)
 ·rw [List.getD,List.getElem?_eq_none hk];exact ⟨by decide,by decide⟩
theorem poT_size {p:Lp} (h1:p.a.size≤40) (h2:p.c.size≤3) (h3: -4503599627370496≤p.n∧p.n≤4503599627370496):(poT p).size≤70∧0<(poT p).size:=by
 have:=decI_size p.n (by omega) (by omega)
 unfold poT
 simp only [ByteArray.size_append,lgz1,lgz2]
 omega
theorem poS_size {a c:ByteArray} {n:Int} (h1:a.size≤40) (h2:c.size≤3) (h3: -4503599627370496≤n∧n≤4503599627370496):((⟨#[124]⟩:ByteArray)++a++⟨#[47]⟩++decI n++⟨#[47]⟩++c).size≤70∧0<((⟨#[124]⟩:ByteArray)++a++⟨#[47]⟩++decI n++⟨#[47]⟩++c).size:=by
 have:=decI_size n (by omega) (by omega)
 simp only [ByteArray.size_append,lgz1,lgz2]
 omega
theorem poT_mk (a c:ByteArray) (n:Int):poT ⟨a,n,c⟩=(⟨#[124]⟩:ByteArray)++a++⟨#[47]⟩++decI n++⟨#[47]⟩++c:=rfl
theorem leT_size {e:Le} (hi:e.id.size≤40) (hd:0≤e.date∧e.date≤99999) (hz:lgSz e.ps) (hb:lgBd e.ps):∀k,(leT e k).size≤70+70*k∧0<(leT e k).size
 |0=>by
  have:=decI_size e.date (by omega) (by omega)
  simp only [leT,ByteArray.size_append,lgz1]
  omega
 |k+1=>by
  have ih:=leT_size hi hd hz hb k
  have h1:=lgSz_at hz k
  have h2:=poT_size h1.1 h1.2 (lg_bd hb k)
  simp only [leT,ByteArray.size_append]
  omega
attribute [local irreducible] seq ByteArray.extract
set_option maxHeartbeats 1000000 in
theorem lg_entryText (id:ByteArray) (d:Int) (L:List Lp) (n:Nat) (hn:L.length=n) (h16:n≤16) (hi:id.size≤40) (hd:0≤d∧d≤99999) (hz:lgSz L) (hb:lgBd L):
  FC Tryz.prog 2 194 [.agg [.str id,.int .i64 d,.sl 1 0 0 n]] [(0,some (GB glT)),(1,some (.one true (poB n L)))] (isOut (.str (leT ⟨id,d,L,n⟩ n)) [] 2):=by
 have c1:=conv_Itoa d (by omega) (by omega)
 have hds:=decI_size d (by omega) (by omega)
 have hT:=leT_size (e:=⟨id,d,L,n⟩) hi hd hz hb
 have c2:=bld_WS0 (id++⟨#[124]⟩++decI d) (hT 0).2 (Nat.le_trans (hT 0).1 (by decide))
 unfold poB
 refine fc_of mixed T_ok Tryz.func194 rfl (by kernel_rfl) (by kernel_rfl) (by kernel_rfl) ?_
 repeat' ((conv=>whnf);first|(refine vcall_glob (c1) rfl rfl rfl rfl ?_)|(refine vcallD_glob (c1) rfl rfl rfl rfl ?_)|refine vcall_o (l:= [0,3]) (c2) ?_|refine vcallD_o (l:= [0,3]) (c2) ?_|(refine cond_intro ?_ ?_;(simp only [ByteArray.size_append,lgz,Int.toNat_natCast,Nat.add_zero];omega))|((first|apply br_dec|apply br_ndec)<;>intro h<;>try (exfalso;(try dsimp only at h);omega))|((first|apply br_seq|apply br_nseq|apply br_not|apply br_intro)<;>intro h)|refine cond_a ?_)
 all_goals (conv=>whnf)
 refine vloop_of (fun k:Nat=>⟨[(1,.ptr 2 0 0 0),(3,.ptr 3 0 0 0),(15,.sl 1 0 0 n),(16,.int .i64 n),(17,.int .i64 k)],[(0,some (GB glT)),(1,some (.one true (poB n L))),(2,some (.one false (.cells [.str id,.int .i64 d,.sl 1 0 0 n]))),(3,bldB 4 (leT ⟨id,d,L,n⟩ k).size),(4,browB (leT ⟨id,d,L,n⟩ k))],5⟩) (fun k=>k≤n) (fun k=>n-k) 0 [0,1,2,3,4] [] ⟨rfl,⟨rfl,rfl,rfl,rfl,rfl,trivial⟩,⟨gwk rfl,rfl,rfl,rfl,rfl,trivial⟩⟩ (Nat.zero_le _) ?_
 intro k hk
 unfold poB
 have hTk:=hT k
 have hTe:leT ⟨id,d,L,n⟩ (k+1)=leT ⟨id,d,L,n⟩ k++poT ⟨(L.map Lp.a).getD k ⟨#[]⟩,(L.map Lp.n).getD k 0,(L.map Lp.c).getD k ⟨#[]⟩⟩:=by rw [←lp_eta];rfl
 have hTk1:=hT (k+1)
 by_cases hk2:k<n
 ·have h1:=lgSz_at hz k
  have h2:=lg_bd hb k
  rw [lp_eta] at h1 h2
  dsimp only at h1 h2
  have h3:=poS_size h1.1 h1.2 h2
  rw [poT_mk] at hTe
  have c3:=conv_FormatInt ((L.map Lp.n).getD k 0) (by omega) (by omega)
  have h4:=decI_size ((L.map Lp.n).getD k 0) (by omega) (by omega)
  generalize hT1:leT ⟨id,d,L,n⟩ (k+1)=T1 at*
  generalize hT0:leT ⟨id,d,L,n⟩ k=T at*
  have c4:=bld_WS T _ h3.2 (Nat.le_trans (Nat.add_le_add hTk.1 h3.1) (by omega))
  rw [←hTe] at c4
  repeat' ((conv=>whnf);first|(refine vcall_glob (c3) rfl rfl rfl rfl ?_)|(refine vcallD_glob (c3) rfl rfl rfl rfl ?_)|refine vcall_o (l:= [0,3,4]) (c4) ?_|refine vcallD_o (l:= [0,3,4]) (c4) ?_|(refine cond_intro ?_ ?_;(simp only [ByteArray.size_append,lgz,Int.toNat_natCast,Nat.add_zero];omega))|((first|apply br_dec|apply br_ndec)<;>intro h<;>try (exfalso;(try dsimp only at h);omega))|((first|apply br_seq|apply br_nseq|apply br_not|apply br_intro)<;>intro h)|refine cond_a ?_)
  all_goals (conv=>whnf)
  all_goals first
   |(subst hT1;exact ⟨k+1,[0,1,2,3,6],[],hk2,(show n-(k+1)<n-k by omega),⟨rfl,⟨rfl,rfl,rfl,rfl,congrArg (fun z=>some (SV.int .i64 z)) (i64_succ (by omega)),trivial⟩,⟨gwk rfl,rfl,rfl,rfl,rfl,trivial⟩⟩⟩)
   |(exfalso;omega)
 have ek:k=n:=by omega
 subst ek
 have c5:=bld_String (leT ⟨id,d,L,k⟩ k) hTk.2
 generalize leT ⟨id,d,L,k⟩ k=T at*
 repeat' ((conv=>whnf);first|refine vcall_o (l:= [0,3,4]) (c5) ?_|refine vcallD_o (l:= [0,3,4]) (c5) ?_|((first|apply br_dec|apply br_ndec)<;>intro h<;>try (exfalso;(try dsimp only at h);omega))|((first|apply br_seq|apply br_nseq|apply br_not|apply br_intro)<;>intro h)|refine cond_a ?_)
 all_goals (conv=>whnf)
 all_goals first
  |exact ret_out (l:= [0,1]) rfl rfl trivial allRw_nil
  |(exfalso;omega)
end Go.Proofs.YtlankgapiecloaaGreatDoor
namespace Go.Proofs.YtlankgapiecloaaGreatDoor
open Go.RowKit Go.Sy
attribute [local irreducible] vcall vloop vcallD retP
set_option maxRecDepth 100000
set_option linter.unusedVariables false
set_option linter.unusedSimpArgs false
abbrev lgF (a e p t b:Nat) (s:Lg):List SV:= [.map a 0,.sl e 0 0 s.ne,.map p 0,.map t 0,.map b 0,.int .u64 s.dig]
abbrev lgAcc (s:Lg):Blk:= .obj (.map false false s.na [.strs s.acc] [.sc (.bools (List.replicate s.na true))] (List.range s.na) s.na)
abbrev lgPl (s:Lg):Blk:= .obj (.map false false s.ne [.strs (s.ent.map Le.id)] [.sc (.ints .i64 ((List.range s.ne).map Int.ofNat))] (List.range s.ne) s.ne)
theorem lg_tn (k:Nat):(k:Int).toNat+0=k:=rfl
theorem lg_rep (n i:Nat):(List.replicate n true).getD i false=decide (i<n):=by
 rw [List.getD,List.getElem?_replicate]
 split
 ·rename_i h;rw [decide_eq_true h];rfl
 ·rename_i h;rw [decide_eq_false h];rfl
theorem poE_cons (acc:List ByteArray) (p:Lp) (L:List Lp):poE acc (p::L)=if inL p.a acc then (if mchk p.n p.c=0 then poE acc L else mchk p.n p.c) else 6:=rfl
theorem poE_app {acc:List ByteArray} (B:List Lp):∀A:List Lp,poE acc (A++B)=if poE acc A=0 then poE acc B else poE acc A
 | []=>by simp [poE]
 |p::A=>by
  rw [List.cons_append,poE_cons,poE_cons]
  by_cases h:inL p.a acc
  ·rw [if_pos h,if_pos h]
   by_cases h2:mchk p.n p.c=0
   ·rw [if_pos h2,if_pos h2];exact poE_app B A
   ·rw [if_neg h2,if_neg h2,if_neg h2]
  ·rw [if_neg h,if_neg h,if_neg (by decide)]
theorem poE_next {acc:List ByteArray} {L:List Lp} {k:Nat} (hk:k<L.length) (h:poE acc (L.take k)=0):poE acc (L.take (k+1))=if inL (L.getD k lp0).a acc then mchk (L.getD k lp0).n (L.getD k lp0).c else 6:=by
 rw [lg_take hk,poE_app,if_pos h]
 simp only [poE]
 split
 ·split
  ·rename_i h2;exact h2.symm
  ·rfl
 ·rfl
theorem poE_stop {acc:List ByteArray} {L:List Lp} (k:Nat) (h:poE acc (L.take k)≠0):poE acc L=poE acc (L.take k):=by
 have:=poE_app (acc:=acc) (L.drop k) (L.take k)
 rw [List.take_append_drop,if_neg h] at this
 exact this
def rngK (bal:ByteArray→ByteArray→Int) (x:Lp):Prop:= -4503599627370496≤bal x.a x.c+x.n∧bal x.a x.c+x.n≤4503599627370496
theorem rng_no {bal:ByteArray→ByteArray→Int} {L:List Lp} {i:Nat} (hi:i<(chR L L.length).length) (h:¬rngK bal ((chR L L.length).getD i lp0)):rngB bal L=false:=by
 cases e:rngB bal L with
 |false=>rfl
 |true=>
  unfold rngB at e
  rw [List.all_eq_true] at e
  refine absurd (of_decide_eq_true (e ((chR L L.length).getD i lp0) ?_)) h
  rw [List.getD,List.getElem?_eq_getElem hi]
  exact List.getElem_mem hi
theorem rng_yes {bal:ByteArray→ByteArray→Int} {L:List Lp} (h:∀i,i<(chR L L.length).length→rngK bal ((chR L L.length).getD i lp0)):rngB bal L=true:=by
 unfold rngB
 rw [List.all_eq_true]
 intro x hx
 obtain ⟨i,hi,rfl⟩:=List.getElem_of_mem hx
 have:=h i hi
 rw [List.getD,List.getElem?_eq_getElem hi] at this
 exact decide_eq_true this
attribute [local irreducible] seq ByteArray.extract poE rngB lgBal lgE
abbrev ckH (s:Lg) (r:Nat) (R:List Lp) (n:Nat) (L:List Lp):Heap:= [(1,some (.one true (.cells (lgF 2 3 4 5 6 s)))),(2,some (.one true (lgAcc s))),(4,some (.one true (lgPl s))),(6,some (.one true (LgRL r R))),(8,some (.one true (poB n L)))]
theorem lg_check (s:Lg) (id:ByteArray) (d:Int) (L:List Lp) (n:Nat) (r:Nat) (R:List Lp) (hs:LgOk s) (hr:R.length=r) (hRv:∀a c,lgV R a c=s.bal a c) (hn:L.length=n):
  FC Tryz.prog 9 192 [.ptr 1 0 0 0,.agg [.str id,.int .i64 d,.sl 8 0 0 n]] (ckH s r R n L) (isOut (.int .i64 (lgE s ⟨id,d,L,n⟩)) [] 9):=by
 have c1:=lg_isLabel id
 have hne:=hs.ne
 have hna:=hs.na
 have hidl:(s.ent.map Le.id).length=s.ne:=by rw [List.length_map,hne]
 unfold ckH lgF lgAcc lgPl poB
 by_cases g1:labB id=false
 ·have he:lgE s ⟨id,d,L,n⟩=5:=by unfold lgE;rw [if_pos g1]
  rw [he]
  rw [g1] at c1
  refine fc_of mixed T_ok Tryz.func192 rfl (by kernel_rfl) (by kernel_rfl) (by kernel_rfl) ?_
  repeat' ((conv=>whnf);first|(refine vcall_pure (c1) rfl rfl rfl ?_)|(refine vcallD_pure (c1) rfl rfl rfl ?_)|((first|apply br_dec|apply br_ndec)<;>intro h<;>try (exfalso;(try dsimp only at h);omega))|((first|apply br_seq|apply br_nseq|apply br_not|apply br_intro)<;>intro h)|refine cond_a ?_)
  all_goals (conv=>whnf)
  all_goals first
   |exact ret_out (l:= [0,1,2,3,4,5,6,7,8]) rfl rfl trivial allRw_nil
   |(exfalso;omega)
 have g1':labB id=true:=by simpa using g1
 rw [g1'] at c1
 by_cases g2:d<0∨99999<d
 ·have he:lgE s ⟨id,d,L,n⟩=14:=by unfold lgE;rw [if_neg g1,if_pos g2]
  rw [he]
  refine fc_of mixed T_ok Tryz.func192 rfl (by kernel_rfl) (by kernel_rfl) (by kernel_rfl) ?_
  repeat' ((conv=>whnf);first|(refine vcall_pure (c1) rfl rfl rfl ?_)|(refine vcallD_pure (c1) rfl rfl rfl ?_)|((first|apply br_dec|apply br_ndec)<;>intro h<;>try (exfalso;(try dsimp only at h);omega))|((first|apply br_seq|apply br_nseq|apply br_not|apply br_intro)<;>intro h)|refine cond_a ?_)
  all_goals (conv=>whnf)
  all_goals first
   |exact ret_out (l:= [0,1,2,3,4,5,6,7,8]) rfl rfl trivial allRw_nil
   |(exfalso;omega)
 by_cases g3:inL id s.ids
 ·have he:lgE s ⟨id,d,L,n⟩=7:=by unfold lgE;rw [if_neg g1,if_neg g2,if_pos g3]
  rw [he]
  have g3':sidx (s.ent.map Le.id) id<s.ne:=by rw [←hidl];exact g3
  refine fc_of mixed T_ok Tryz.func192 rfl (by kernel_rfl) (by kernel_rfl) (by kernel_rfl) ?_
  repeat' ((conv=>whnf);first|(refine vcall_pure (c1) rfl rfl rfl ?_)|(refine vcallD_pure (c1) rfl rfl rfl ?_)|((first|apply br_dec|apply br_ndec)<;>intro h<;>try (exfalso;(try dsimp only at h);omega))|((first|apply br_seq|apply br_nseq|apply br_not|apply br_intro)<;>intro h)|refine cond_a ?_)
  all_goals (conv=>whnf)
  all_goals first
   |exact ret_out (l:= [0,1,2,3,4,5,6,7,8]) rfl rfl trivial allRw_nil
   |(exfalso;omega)
 have g3':¬sidx (s.ent.map Le.id) id<s.ne:=by rw [←hidl];exact g3
 by_cases g4:n<1∨16<n
 ·have he:lgE s ⟨id,d,L,n⟩=4:=by unfold lgE;rw [if_neg g1,if_neg g2,if_neg g3,if_pos g4]
  rw [he]
  refine fc_of mixed T_ok Tryz.func192 rfl (by kernel_rfl) (by kernel_rfl) (by kernel_rfl) ?_
  repeat' ((conv=>whnf);first|(refine vcall_pure (c1) rfl rfl rfl ?_)|(refine vcallD_pure (c1) rfl rfl rfl ?_)|((first|apply br_dec|apply br_ndec)<;>intro h<;>try (exfalso;(try dsimp only at h);omega))|((first|apply br_seq|apply br_nseq|apply br_not|apply br_intro)<;>intro h)|refine cond_a ?_)
  all_goals (conv=>whnf)
  all_goals first
   |exact ret_out (l:= [0,1,2,3,4,5,6,7,8]) rfl rfl trivial allRw_nil
   |(exfalso;omega)
 have g5:poE s.acc L≠0→lgE s ⟨id,d,L,n⟩=poE s.acc L:=fun h=>by unfold lgE;rw [if_neg g1,if_neg g2,if_neg g3,if_neg g4,if_pos h]
 have g6:poE s.acc L=0→lgE s ⟨id,d,L,n⟩=if lgBal L=false then 26 else if rngB s.bal L=false then 4 else if 512≤s.ne then 12 else 0:=fun h=>by unfold lgE;rw [if_neg g1,if_neg g2,if_neg g3,if_neg g4,if_neg (fun h'=>h' h)]
 generalize lgE s ⟨id,d,L,n⟩=E at*
 refine fc_of mixed T_ok Tryz.func192 rfl (by kernel_rfl) (by kernel_rfl) (by kernel_rfl) ?_
 repeat' ((conv=>whnf);first|(refine vcall_pure (c1) rfl rfl rfl ?_)|(refine vcallD_pure (c1) rfl rfl rfl ?_)|((first|apply br_dec|apply br_ndec)<;>intro h<;>try (exfalso;(try dsimp only at h);omega))|((first|apply br_seq|apply br_nseq|apply br_not|apply br_intro)<;>intro h)|refine cond_a ?_)
 all_goals (conv=>whnf)
 all_goals first
  |(exfalso;omega)
  |skip
 refine vloop_of (fun k:Nat=>⟨[(0,.ptr 1 0 0 0),(3,.ptr 9 0 0 0),(47,.sl 8 0 0 n),(48,.int .i64 n),(49,.int .i64 k)],[(1,some (.one true (.cells (lgF 2 3 4 5 6 s)))),(2,some (.one true (lgAcc s))),(4,some (.one true (lgPl s))),(6,some (.one true (LgRL r R))),(8,some (.one true (poB n L))),(9,some (.one false (.cells [.str id,.int .i64 d,.sl 8 0 0 n])))],10⟩) (fun k=>k≤n∧poE s.acc (L.take k)=0) (fun k=>n-k) 0 [0,1,2,3,4,5,6,7,8,9] [] ⟨rfl,⟨rfl,rfl,rfl,rfl,rfl,trivial⟩,⟨rfl,rfl,rfl,rfl,rfl,rfl,trivial⟩⟩ ⟨Nat.zero_le _,by unfold poE;rfl⟩ ?_
 rintro k ⟨hk,hz⟩
 unfold lgF lgAcc lgPl poB
 by_cases hk2:k<n
 ·have hnx:=poE_next (acc:=s.acc) (L:=L) (k:=k) (by omega) hz
  have hst:=poE_stop (acc:=s.acc) (L:=L) (k+1)
  rw [lp_eta] at hnx
  dsimp only at hnx
  by_cases hin:inL ((L.map Lp.a).getD k ⟨#[]⟩) s.acc
  ·have hin':sidx s.acc ((L.map Lp.a).getD k ⟨#[]⟩)<s.na:=by rw [←hna];exact hin
   have hrep:=lg_rep s.na (sidx s.acc ((L.map Lp.a).getD k ⟨#[]⟩))
   rw [decide_eq_true hin'] at hrep
   rw [if_pos hin] at hnx
   have c2:=money_Check ((L.map Lp.n).getD k 0) ((L.map Lp.c).getD k ⟨#[]⟩)
   by_cases hm:mchk ((L.map Lp.n).getD k 0) ((L.map Lp.c).getD k ⟨#[]⟩)=0
   ·rw [hm] at c2 hnx
    repeat' ((conv=>whnf);first|(refine vcall_pure (c2) rfl rfl rfl ?_)|(refine vcallD_pure (c2) rfl rfl rfl ?_)|(simp only [lg_tn,hrep])|((first|apply br_dec|apply br_ndec)<;>intro h<;>try (exfalso;(try dsimp only at h);omega))|((first|apply br_seq|apply br_nseq|apply br_not|apply br_intro)<;>intro h)|refine cond_a ?_)
    all_goals (conv=>whnf)
    all_goals first
     |exact ⟨k+1,[0,1,2,3,4,5,6,7,8,9],[],⟨hk2,hnx⟩,(show n-(k+1)<n-k by omega),⟨rfl,⟨rfl,rfl,rfl,rfl,congrArg (fun z=>some (SV.int .i64 z)) (i64_succ (by omega)),trivial⟩,⟨rfl,rfl,rfl,rfl,rfl,rfl,trivial⟩⟩⟩
     |(exfalso;omega)
   ·have hE:=g5 (by rw [hst (by rw [hnx];exact hm),hnx];exact hm)
    rw [hst (by rw [hnx];exact hm),hnx] at hE
    rw [hE]
    generalize mchk ((L.map Lp.n).getD k 0) ((L.map Lp.c).getD k ⟨#[]⟩)=M at*
    repeat' ((conv=>whnf);first|(refine vcall_pure (c2) rfl rfl rfl ?_)|(refine vcallD_pure (c2) rfl rfl rfl ?_)|(simp only [lg_tn,hrep])|((first|apply br_dec|apply br_ndec)<;>intro h<;>try (exfalso;(try dsimp only at h);omega))|((first|apply br_seq|apply br_nseq|apply br_not|apply br_intro)<;>intro h)|refine cond_a ?_)
    all_goals (conv=>whnf)
    all_goals first
     |exact ret_out (l:= [0,1,2,3,4,5,6,7,8]) rfl rfl trivial allRw_nil
     |(exfalso;omega)
  ·have hin':¬sidx s.acc ((L.map Lp.a).getD k ⟨#[]⟩)<s.na:=by rw [←hna];exact hin
   have hrep:=lg_rep s.na (sidx s.acc ((L.map Lp.a).getD k ⟨#[]⟩))
   rw [decide_eq_false hin'] at hrep
   rw [if_neg hin] at hnx
   have hE:=g5 (by rw [hst (by rw [hnx];decide),hnx];decide)
   rw [hst (by rw [hnx];decide),hnx] at hE
   rw [hE]
   repeat' ((conv=>whnf);first|(simp only [lg_tn,hrep])|((first|apply br_dec|apply br_ndec)<;>intro h<;>try (exfalso;(try dsimp only at h);omega))|((first|apply br_seq|apply br_nseq|apply br_not|apply br_intro)<;>intro h)|refine cond_a ?_)
   all_goals (conv=>whnf)
   all_goals first
    |exact ret_out (l:= [0,1,2,3,4,5,6,7,8]) rfl rfl trivial allRw_nil
    |(exfalso;omega)
 have ek:k=n:=by omega
 subst ek
 rw [show L.take k=L by rw [←hn,List.take_length]] at hz
 have hE:=g6 hz
 have hbd:=poE_bd hz
 have c3:=lg_balanced L k hn (by omega) hbd
 have c4:=lg_changes L k hn (by omega) hbd
 unfold poB at c3 c4
 by_cases g7:lgBal L=false
 ·rw [if_pos g7] at hE
  rw [hE]
  rw [g7] at c3
  repeat' ((conv=>whnf);first|refine vcall_o (l:= [0,8]) (c3) ?_|refine vcallD_o (l:= [0,8]) (c3) ?_|((first|apply br_dec|apply br_ndec)<;>intro h<;>try (exfalso;(try dsimp only at h);omega))|((first|apply br_seq|apply br_nseq|apply br_not|apply br_intro)<;>intro h)|refine cond_a ?_)
  all_goals (conv=>whnf)
  all_goals first
   |exact ret_out (l:= [0,1,2,3,4,5,6,7,8]) rfl rfl trivial allRw_nil
   |(exfalso;omega)
 have g7':lgBal L=true:=by simpa using g7
 rw [if_neg g7] at hE
 rw [g7'] at c3
 have hno:=fun i hi h=>rng_no (bal:=s.bal) (L:=L) (i:=i) hi h
 have hyes:=rng_yes (bal:=s.bal) (L:=L)
 have hcb:∀i,-4503599627370496*16≤((chR L L.length).getD i lp0).n∧((chR L L.length).getD i lp0).n≤4503599627370496*16:=by
  intro i
  rcases Nat.lt_or_ge i (chR L L.length).length with hi|hi
  ·have h1:=lgV_row (chR_dist L L.length) hi
   rw [chR_val _ _ _ (Nat.le_refl _),List.take_length] at h1
   have h2:=lgS_bd hbd ((chR L L.length).getD i lp0).a ((chR L L.length).getD i lp0).c
   rw [h1] at h2
   omega
  ·rw [List.getD,List.getElem?_eq_none hi];exact ⟨by decide,by decide⟩
 rw [hn] at hno hyes hcb
 generalize chR L k=C at*
 generalize hm:C.length=m at*
 repeat' ((conv=>whnf);first|refine vcall_o (l:= [0,8]) (c3) ?_|refine vcallD_o (l:= [0,8]) (c3) ?_|refine vcall_o (l:= [0,8]) (c4) ?_|refine vcallD_o (l:= [0,8]) (c4) ?_|((first|apply br_dec|apply br_ndec)<;>intro h<;>try (exfalso;(try dsimp only at h);omega))|((first|apply br_seq|apply br_nseq|apply br_not|apply br_intro)<;>intro h)|refine cond_a ?_)
 all_goals (conv=>whnf)
 all_goals first
  |(exfalso;omega)
  |skip
 refine vloop_of (fun sn:List Nat=>⟨[(0,.ptr 1 0 0 0),(75,.ptr 11 0 0 0)],[(1,some (.one true (.cells (lgF 2 3 4 5 6 s)))),(6,some (.one true (LgRL r R))),(10,some (.one false (LgRL m C))),(11,some (.one false (.obj (.iter 10 0 (List.range m) m sn))))],12⟩) (fun sn=>sn.Nodup∧(∀i∈sn,i<m)∧∀i∈sn,rngK s.bal (C.getD i lp0)) (fun sn=>m-sn.length) [] [0,1,2,3,4,5,6,7,8,9,10,11] [] ⟨rfl,⟨rfl,rfl,trivial⟩,⟨rfl,rfl,rfl,rfl,trivial⟩⟩ ⟨List.nodup_nil,by simp,by simp⟩ ?_
 rintro sn ⟨hd,hl,hz2⟩
 unfold lgF
 have key:∀x,IntKind.i64.wrap ((R.map Lp.n).getD (sidx2 (R.map Lp.a) (R.map Lp.c) ((C.map Lp.a).getD x ⟨#[]⟩) ((C.map Lp.c).getD x ⟨#[]⟩)) 0+(C.map Lp.n).getD x 0)=s.bal (C.getD x lp0).a (C.getD x lp0).c+(C.getD x lp0).n:=by
  intro x
  have h1:=hs.rng (C.getD x lp0).a (C.getD x lp0).c
  have h2:=hcb x
  rw [rl_val,hRv,lp_a,lp_c,lp_n]
  exact w64_in (by omega) (by omega)
 repeat' ((conv=>whnf);first|(refine ⟨⟨rfl,rfl⟩,fun x hx hnx=> ?_,fun hall=> ?_⟩)|(rw [key])|((first|apply br_dec|apply br_ndec)<;>intro h<;>try (exfalso;(try dsimp only at h);omega))|((first|apply br_seq|apply br_nseq|apply br_not|apply br_intro)<;>intro h)|refine cond_a ?_)
 all_goals (conv=>whnf)
 ·have hB:=hno x hx (fun hk=>by unfold rngK at hk;omega)
  rw [if_pos hB] at hE
  rw [hE]
  exact ret_out (l:= [0,1,2,3,4,5,6,7,8]) rfl rfl trivial allRw_nil
 ·have hB:=hno x hx (fun hk=>by unfold rngK at hk;omega)
  rw [if_pos hB] at hE
  rw [hE]
  exact ret_out (l:= [0,1,2,3,4,5,6,7,8]) rfl rfl trivial allRw_nil
 ·have:=nodup_cons_lt hd hl hx hnx
  refine ⟨x::sn,[0,1,2,3,4,5,6,7,8,9,10,11],[],⟨List.nodup_cons.2 ⟨hnx,hd⟩,fun y hy=> ?_,fun y hy=> ?_⟩,by simp only [List.length_cons];omega,⟨rfl,⟨rfl,rfl,trivial⟩,⟨rfl,rfl,rfl,rfl,trivial⟩⟩⟩
  ·rcases List.mem_cons.1 hy with rfl|hy
   ·exact hx
   ·exact hl y hy
  ·rcases List.mem_cons.1 hy with rfl|hy
   ·unfold rngK;omega
   ·exact hz2 y hy
 ·have hB:=hyes fun i hi=>hz2 i (hall i hi)
  rw [if_neg (by rw [hB];decide),if_pos (by omega)] at hE
  rw [hE]
  exact ret_out (l:= [0,1,2,3,4,5,6,7,8]) rfl rfl trivial allRw_nil
 ·have hB:=hyes fun i hi=>hz2 i (hall i hi)
  rw [if_neg (by rw [hB];decide),if_neg (by omega)] at hE
  rw [hE]
  exact ret_out (l:= [0,1,2,3,4,5,6,7,8]) rfl rfl trivial allRw_nil
end Go.Proofs.YtlankgapiecloaaGreatDoor
namespace Go.Proofs.YtlankgapiecloaaGreatDoor
open Go.RowKit Go.Sy
attribute [local irreducible] vcall vloop vcallD retP
set_option maxRecDepth 100000
set_option linter.unusedVariables false
set_option linter.unusedSimpArgs false
abbrev lgEnt (f:Nat) (s:Lg):Blk:= .cols s.ne [.sc (.strs (s.ent.map Le.id)),.sc (.ints .i64 (s.ent.map Le.date)),.own f (s.ent.map Le.np)]
def enF (E:List Le) (q:Nat):Blk:=poB (E.getD q le0).np (E.getD q le0).ps
abbrev lgFam (ro:Bool) (s:Lg):Option HB:=some (.fam ro (fun x=>x<s.ne) (enF s.ent))
def LgB (bal:ByteArray→ByteArray→Int) (m:Nat):BagQ:=fun a c v=>∃R:List Lp,a=R.map Lp.a∧c=R.map Lp.c∧v=R.map Lp.n∧lgD R∧(∀a c,lgV R a c=bal a c)∧R.length≤16*m
theorem enF_old {E:List Le} {e:Le}:∀q,q<E.length→enF (E++ [e]) q=enF E q:=by
 intro q hq
 unfold enF
 rw [List.getD,List.getElem?_append_left hq];rfl
theorem enF_new {E:List Le} {e:Le}:enF (E++ [e]) E.length=poB e.np e.ps:=by
 unfold enF
 rw [List.getD,List.getElem?_append_right (Nat.le_refl _),Nat.sub_self];rfl
theorem relab_ent_put {H:Heap} {n a b g m k:Nat} {ns:List Nat} {c1 c2:Col} {dom:Nat→Prop} {f F:Nat→Blk} {bg:Blk} (hl:ns.length=m) (h1:c1.len=m+1) (h2:c2.len=m+1) (ha:a<n) (hta:hget H a=some (.one false (.cols (m+1) [.sc c1,.sc c2,.svs (ownL b ns++ [.sl g 0 0 k])]))) (hb:hget H b=some (.fam false dom f)) (hdom:∀q,q<m→dom q)
  (hg:hget H g=some (.one false bg)) (hba:b≠a) (hga:g≠a) (hbg:b≠g) (hF:∀q,q<m→F q=f q) (hFm:F m=bg):
  Relab H n (gdR n m [⟨b,g,F⟩]) (fun _=>0) [(a,some (.one false (.cols (m+1) [.sc c1,.sc c2,.own n (ns++ [k])]))),(n+0,some (.fam false (fun x=>x<m+1) F))] [b,g] 1:=by
 have r0:∀q,q<m→gdR n m [⟨b,g,F⟩] n q=some (b,q):=fun q hq=>gdR_old (i:=0) (D:= [⟨b,g,F⟩]) rfl hq
 have s0:gdR n m [⟨b,g,F⟩] n m=some (g,0):=gdR_new (i:=0) (D:= [⟨b,g,F⟩]) rfl
 refine relab_fams (n:=n) (m:=m) (th:=a) [⟨b,g,F⟩] ha hta (ble_cols ?_) ?_ ?_
 ·refine ⟨⟨fun _=>h1,fun i hi=>sle_refl _⟩,⟨fun _=>h2,fun i hi=>sle_refl _⟩,⟨fun _=> ?_,own_put hl (Nat.le_refl _) r0 s0⟩,trivial⟩
  show (ns++ [k]).length=m+1
  rw [List.length_append,List.length_singleton];omega
 ·refine ⟨⟨hba,hga,⟨dom,f,hb,fun q hq=>⟨hdom q hq,.inl (hF q hq)⟩⟩,bg,hg,.inl hFm⟩,trivial⟩
 ·show (!(Nat.beq g b||false)&&(!false&&true))=true
  have:Nat.beq g b=false:=by
   cases e:Nat.beq g b with
   |false=>rfl
   |true=>exact absurd (Nat.eq_of_beq_eq_true e).symm hbg
  rw [this];rfl
theorem lgEnt_put (f:Nat) (s:Lg) (e:Le):lgEnt f (lgP s e)= .cols (s.ne+1) [.sc (.strs (s.ent.map Le.id++ [e.id])),.sc (.ints .i64 (s.ent.map Le.date++ [e.date])),.own f (s.ent.map Le.np++ [e.np])]:=by
 unfold lgEnt lgP
 simp
theorem lgPl_put {s:Lg} {e:Le} {ix:Nat} (hix:ix=s.ne) (hl:s.ent.length=s.ne):
  (some (HB.one false (.obj (.map false false (if ix<s.ne then s.ne else s.ne+1) [.strs (putL ix e.id (s.ent.map Le.id))] [.sc (.ints .i64 (putL ix (s.ne:Int) ((List.range s.ne).map Int.ofNat)))] (if ix<s.ne then List.range s.ne else List.range s.ne++ [s.ne]) (if ix<s.ne then s.ne else s.ne+1)))):Option HB)=some (.one false (lgPl (lgP s e))):=by
 subst hix
 unfold lgPl lgP
 rw [if_neg (by omega),if_neg (by omega),lg_putNew (by rw [List.length_map,hl]),lg_putNew (by rw [List.length_map,List.length_range])]
 simp only [List.map_append,List.map_cons,List.map_nil,List.range_succ]
 rfl
theorem curB_len {c:ByteArray} (h:curB c=true):c.size≤3:=by
 by_cases e:c.size=3
 ·omega
 ·rw [curB_size e] at h;cases h
theorem lgS_bdM {M:Int} (a c:ByteArray):∀{L:List Lp},(∀x∈L,-M≤x.n∧x.n≤M)→0≤M→-(M*(L.length:Int))≤lgS L a c∧lgS L a c≤M*(L.length:Int)
 | [],_,h0=>by simp [lgS]
 |x::L,h,h0=>by
  have i1:=lgS_bdM a c (L:=L) (fun y hy=>h y (by simp [hy])) h0
  have i2:=h x (by simp)
  simp only [lgS,List.length_cons]
  have e:M*((L.length+1:Nat):Int)=M*(L.length:Int)+M:=by rw [Int.natCast_add,Int.mul_add];simp
  rw [e]
  split<;>omega
attribute [local irreducible] seq ByteArray.extract poE rngB lgBal lgE
abbrev psH (s:Lg) (n:Nat) (L:List Lp):Heap:= [(0,some (GB glT)),(1,some (.one false (.cells (lgF 2 3 4 5 6 s)))),(2,some (.one true (lgAcc s))),(3,some (.one false (lgEnt 7 s))),(4,some (.one false (lgPl s))),(7,lgFam false s),(8,some (.one true (poB n L)))]
abbrev psO (s:Lg):Heap:= [(1,some (.one false (.cells (lgF 2 9 4 5 6 s)))),(9,some (.one false (lgEnt 10 s))),(4,some (.one false (lgPl s))),(10,lgFam false s)]
set_option maxHeartbeats 2000000 in
theorem lg_Post_rows (s:Lg) (id:ByteArray) (d:Int) (L:List Lp) (n:Nat) (r:Nat) (R:List Lp) (hs:LgOk s) (hr:R.length=r) (hRv:∀a c,lgV R a c=s.bal a c) (hRd:lgD R) (hRn:r≤16*s.ne) (hn:L.length=n) (h0:lgE s ⟨id,d,L,n⟩=0):
  FC Tryz.prog 9 186 [.ptr 1 0 0 0,.agg [.str id,.int .i64 d,.sl 8 0 0 n]] ((6,some (.one false (LgRL r R)))::psH s n L)
   (fun sv H1 n1=>∃x:BagX,LgB (lgP s ⟨id,d,L,n⟩).bal (s.ne+1) x.a x.c x.v∧isOut (.int .i64 0) ((6,some (.one false x.blk))::psO (lgP s ⟨id,d,L,n⟩)) 11 sv H1 n1):=by
 have c1:=lg_check s id d L n r R hs hr hRv hn
 obtain ⟨hok,hni,hrg,hfu⟩:=lgE_zero hn h0
 rw [h0] at c1
 have hid:=hok.id
 have hdt:=hok.d
 have hn1:=hok.n1
 have hn16:=hok.n16
 have hps:=hok.ps
 dsimp only at hid hdt hn1 hn16 hps
 have hbd:=poE_bd hps
 have hsz:lgSz L:=fun x hx=>by
  obtain ⟨h1,h2⟩:=poE_zero.1 hps x hx
  exact ⟨(lab_size (hs.lab _ h1)).2,(curB_len (mchk_zero h2).1)⟩
 have c2:=lg_changes L n hn hn16 hbd
 have c3:=lg_copyEntry id d L n hn hn1 (by omega)
 have c4:=lg_entryText id d L n hn hn16 (lab_size hid).2 hdt hsz hbd
 have hTz:=(leT_size (e:=⟨id,d,L,n⟩) (lab_size hid).2 hdt hsz hbd n).1
 have c5:=chk_Chain s.dig (leT ⟨id,d,L,n⟩ n) (by omega)
 have hidl:(s.ent.map Le.id).length=s.ne:=by rw [List.length_map,hs.ne]
 have hix:sidx (s.ent.map Le.id) id=s.ne:=by
  have h1:=Go.Sy.sidx_le (s.ent.map Le.id) id
  have h2:¬sidx (s.ent.map Le.id) id<s.ne:=fun h=>hni (sidx_lt.1 (by rw [hidl];exact h))
  omega
 have hpl:=lgPl_put (s:=s) (e:=⟨id,d,L,n⟩) hix hs.ne
 have hcb:∀i,-72057594037927936≤((chR L n).getD i lp0).n∧((chR L n).getD i lp0).n≤72057594037927936:=by
  intro i
  rcases Nat.lt_or_ge i (chR L n).length with hi|hi
  ·have h1:=lgV_row (chR_dist L n) hi
   rw [chR_val _ _ _ (by omega)] at h1
   have h2:=lgS_bd (lgBd_take hbd n) ((chR L n).getD i lp0).a ((chR L n).getD i lp0).c
   rw [h1,List.length_take,Nat.min_eq_left (by omega)] at h2
   omega
  ·rw [List.getD,List.getElem?_eq_none hi];exact ⟨by decide,by decide⟩
 have hCd:=chR_dist L n
 have hCn:=chR_len L n
 have hCv:∀a c,lgV (chR L n) a c=lgS L a c:=fun a c=>by rw [chR_val a c n (by omega),←hn,List.take_length]
 unfold psO
 rw [lgEnt_put]
 generalize chR L n=C at*
 generalize hm:C.length=m at*
 refine fc_of mixed T_ok Tryz.func186 rfl (by kernel_rfl) (by kernel_rfl) (by kernel_rfl) ?_
 repeat' ((conv=>whnf);first|refine vcall_o (l:= [0,1,2,3,4,5,6,7,8]) (c1) ?_|refine vcallD_o (l:= [0,1,2,3,4,5,6,7,8]) (c1) ?_|refine vcall_o (l:= [0,8]) (c2) ?_|refine vcallD_o (l:= [0,8]) (c2) ?_|((first|apply br_dec|apply br_ndec)<;>intro h<;>try (exfalso;(try dsimp only at h);omega))|((first|apply br_seq|apply br_nseq|apply br_not|apply br_intro)<;>intro h)|refine cond_a ?_)
 all_goals (conv=>whnf)
 all_goals first
  |(exfalso;omega)
  |skip
 refine vloop_of (fun sn:List Nat=>⟨[(0,.ptr 1 0 0 0),(3,.ptr 9 0 0 0),(19,.ptr 11 0 0 0)],[(0,some (GB glT)),(1,some (.one false (.cells (lgF 2 3 4 5 6 s)))),(3,some (.one false (lgEnt 7 s))),(4,some (.one false (lgPl s))),(6,some (.one false (LgRL (vsR R C sn).length (vsR R C sn)))),(7,lgFam false s),(8,some (.one true (poB n L))),(9,some (.one false (.cells [.str id,.int .i64 d,.sl 8 0 0 n]))),(10,some (.one false (LgRL m C))),(11,some (.one false (.obj (.iter 10 0 (List.range m) m sn))))],12⟩) (fun sn=>sn.Nodup∧(∀i∈sn,i<m)) (fun sn=>m-sn.length) [] [0,1,2,3,4,5,6,7,8,9,10,11] [] ⟨rfl,⟨rfl,rfl,rfl,trivial⟩,⟨gwk rfl,rfl,rfl,rfl,by rw [←hr];rfl,rfl,rfl,rfl,rfl,rfl,trivial⟩⟩ ⟨List.nodup_nil,by simp⟩ ?_
 rintro sn ⟨hd,hl⟩
 have hsl:=nodup_len m sn hd hl
 have key:∀x,IntKind.i64.wrap (((vsR R C sn).map Lp.n).getD (sidx2 ((vsR R C sn).map Lp.a) ((vsR R C sn).map Lp.c) ((C.map Lp.a).getD x ⟨#[]⟩) ((C.map Lp.c).getD x ⟨#[]⟩)) 0+(C.map Lp.n).getD x 0)=lgV (vsR R C sn) ((C.map Lp.a).getD x ⟨#[]⟩) ((C.map Lp.c).getD x ⟨#[]⟩)+(C.map Lp.n).getD x 0:=by
  intro x
  have h1:=hs.rng ((C.map Lp.a).getD x ⟨#[]⟩) ((C.map Lp.c).getD x ⟨#[]⟩)
  have h2:=hcb x
  have h3:=lgS_bdM (M:=72057594037927936) ((C.map Lp.a).getD x ⟨#[]⟩) ((C.map Lp.c).getD x ⟨#[]⟩) (L:=sn.map (fun i=>C.getD i lp0)) (fun y hy=>by obtain ⟨i,_,rfl⟩:=List.mem_map.1 hy;exact hcb i) (by decide)
  rw [List.length_map] at h3
  rw [rl_val,vsR_val,hRv,lp_n]
  exact w64_in (by omega) (by omega)
 have hrow:∀x,_:=fun x=>rlUpd (R:=vsR R C sn) rfl (key x) rfl
 have hli:∀x,sidx2 ((vsR R C sn).map Lp.a) ((vsR R C sn).map Lp.c) ((C.map Lp.a).getD x ⟨#[]⟩) ((C.map Lp.c).getD x ⟨#[]⟩)≤(vsR R C sn).length:=fun x=>lgI_le _ _ _
 have hnxt:∀x,vsR R C (x::sn)=lgAdd (vsR R C sn) ⟨(C.map Lp.a).getD x ⟨#[]⟩,(C.map Lp.n).getD x 0,(C.map Lp.c).getD x ⟨#[]⟩⟩:=fun x=>by rw [←lp_eta];rfl
 have hfin:(∀i,i<m→i∈sn)→LgB (lgP s ⟨id,d,L,n⟩).bal (s.ne+1) ((vsR R C sn).map Lp.a) ((vsR R C sn).map Lp.c) ((vsR R C sn).map Lp.n):=fun hall=>by
  have h3:=vsR_len R C sn
  refine ⟨vsR R C sn,rfl,rfl,rfl,vsR_dist hRd sn,fun a c=> ?_,by omega⟩
  rw [vsR_all hCd hd (by rw [hm];exact hl) (by rw [hm];exact hall),hRv,hCv]
  rfl
 generalize hV:vsR R C sn=V at*
 repeat' ((conv=>whnf);first|(refine ⟨⟨rfl,rfl⟩,fun x hx hnx=> ?_,fun hall=> ?_⟩)|refine vcall_o (l:= [0,8]) (c3) ?_|refine vcallD_o (l:= [0,8]) (c3) ?_|refine vcall_o (l:= [0,12]) (c4) ?_|refine vcallD_o (l:= [0,12]) (c4) ?_|(refine vcall_pure (c5) rfl rfl rfl ?_)|(refine vcallD_pure (c5) rfl rfl rfl ?_)|(refine ⟨lgStamp (hli _),?_⟩)|((first|apply br_dec|apply br_ndec)<;>intro h<;>try (exfalso;(try dsimp only at h);omega))|((first|apply br_seq|apply br_nseq|apply br_not|apply br_intro)<;>intro h)|refine cond_a ?_)
 all_goals (conv=>whnf)
 ·have:=nodup_cons_lt hd hl hx hnx
  refine ⟨x::sn,[0,1,2,3,4,5,6,7,8,9,10,11],[],⟨List.nodup_cons.2 ⟨hnx,hd⟩,fun y hy=> ?_⟩,by simp only [List.length_cons];omega,⟨rfl,⟨rfl,rfl,rfl,trivial⟩,⟨gwk rfl,rfl,rfl,rfl,?_,rfl,rfl,rfl,rfl,rfl,trivial⟩⟩⟩
  ·rcases List.mem_cons.1 hy with rfl|hy
   ·exact hx
   ·exact hl y hy
  ·rw [hnxt x];exact hrow x
 ·have hb:=hfin hall
  refine retP_mono (fun _ _ _ h=>⟨⟨V.map Lp.a,V.map Lp.c,V.map Lp.n,V.length⟩,hb,h⟩) (ret_up (l:= [0,1,2,3,4,5,6,7,8,14,15]) [.relab (gdR 15 s.ne [⟨7,12,enF (s.ent++ [⟨id,d,L,n⟩])⟩]) (fun _=>0) [(14,some (.one false (.cols (s.ne+1) [.sc (.strs (s.ent.map Le.id++ [id])),.sc (.ints .i64 (s.ent.map Le.date++ [d])),.own 15 (s.ent.map Le.np++ [n])]))),(15+0,some (.fam false (fun x=>x<s.ne+1) (enF (s.ent++ [⟨id,d,L,n⟩]))))] [7,12] 1] ?_ (allRw_cons (allRw_cons (allRw_cons (allRw_cons (allRw_fam allRw_nil))))))
  exact ⟨relab_ent_put (by rw [List.length_map];exact hs.ne) (by show (s.ent.map Le.id++ [id]).length=s.ne+1;simp [hs.ne]) (by show (s.ent.map Le.date++ [d]).length=s.ne+1;simp [hs.ne]) (by omega) rfl rfl (fun q hq=>hq) rfl (by decide) (by decide) (by decide) (fun q hq=>enF_old q (by rw [hs.ne];exact hq)) (by rw [←hs.ne];exact enF_new),rfl,rfl,rfl,rfl,rfl,hpl,rfl,trivial⟩
end Go.Proofs.YtlankgapiecloaaGreatDoor
namespace Go.Proofs.YtlankgapiecloaaGreatDoor
open Go.RowKit Go.Sy
attribute [local irreducible] vcall vloop vcallD retP
set_option maxRecDepth 100000
set_option linter.unusedVariables false
set_option linter.unusedSimpArgs false
abbrev lgBg (ro:Bool) (s:Lg):Option HB:=some (.one ro (.obj (.bag (LgB s.bal s.ne))))
theorem lgB_rows {s:Lg} {x:BagX} (h:x.ok (LgB s.bal s.ne)):∃R:List Lp,R.length=x.n∧x.blk=LgRL x.n R∧lgD R∧(∀a c,lgV R a c=s.bal a c)∧R.length≤16*s.ne:=by
 obtain ⟨a,c,v,n⟩:=x
 obtain ⟨⟨R,e1,e2,e3,h1,h2,h3⟩,k1,k2,k3⟩:=h
 dsimp only at e1 e2 e3 k1 k2 k3
 subst e1;subst e2;subst e3
 rw [List.length_map] at k1
 exact ⟨R,k1,rfl,h1,h2,h3⟩
theorem lg_Post_ok (s:Lg) (id:ByteArray) (d:Int) (L:List Lp) (n:Nat) (hs:LgOk s) (hn:L.length=n) (h0:lgE s ⟨id,d,L,n⟩=0):
  FC Tryz.prog 9 186 [.ptr 1 0 0 0,.agg [.str id,.int .i64 d,.sl 8 0 0 n]] ((6,lgBg false s)::psH s n L) (isOut (.int .i64 0) ((6,lgBg false (lgP s ⟨id,d,L,n⟩))::psO (lgP s ⟨id,d,L,n⟩)) 11):=by
 refine fc_bag fun x hx=> ?_
 obtain ⟨R,h1,h2,h3,h4,h5⟩:=lgB_rows hx
 rw [h2]
 exact lg_Post_rows s id d L n x.n R hs h1 h4 h3 (by omega) hn h0
theorem lg_Balance_rows (s:Lg) (a c:ByteArray) (r:Nat) (R:List Lp) (hR:R.length=r) (h:∀a c,lgV R a c=s.bal a c):FC Tryz.prog 7 31 [.ptr 1 0 0 0,.str a,.str c] [(6,some (.one true (LgRL r R))),(1,some (.one true (.cells (lgF 2 3 4 5 6 s))))] (isOut (.int .i64 (s.bal a c)) [] 7):=by
 have hv:(R.map Lp.n).getD (sidx2 (R.map Lp.a) (R.map Lp.c) a c) 0=s.bal a c:=(rl_val R a c).trans (h a c)
 rw [←hv]
 refine fc_of mixed T_ok Tryz.func31 rfl (by kernel_rfl) (by kernel_rfl) (by kernel_rfl) ?_
 repeat' ((conv=>whnf);first|((first|apply br_dec|apply br_ndec)<;>intro h<;>try (exfalso;(try dsimp only at h);omega))|((first|apply br_seq|apply br_nseq|apply br_not|apply br_intro)<;>intro h)|refine cond_a ?_)
 all_goals (conv=>whnf)
 all_goals exact ret_out (l:= [0,1,2,3,4,5,6]) rfl rfl trivial allRw_nil
theorem lg_Balance (s:Lg) (a c:ByteArray):FC Tryz.prog 7 31 [.ptr 1 0 0 0,.str a,.str c] [(6,lgBg true s),(1,some (.one true (.cells (lgF 2 3 4 5 6 s))))] (isOut (.int .i64 (s.bal a c)) [] 7):=by
 refine fc_bag_ro fun x hx=> ?_
 obtain ⟨R,h1,h2,h3,h4,h5⟩:=lgB_rows hx
 rw [h2]
 exact lg_Balance_rows s a c x.n R h1 h4
theorem lg_Digest (s:Lg):FC Tryz.prog 7 29 [.ptr 1 0 0 0] [(1,some (.one true (.cells (lgF 2 3 4 5 6 s))))] (isOut (.int .u64 s.dig) [] 7):=by
 refine fc_of mixed T_ok Tryz.func29 rfl (by kernel_rfl) (by kernel_rfl) (by kernel_rfl) ?_
 repeat' ((conv=>whnf);first|((first|apply br_dec|apply br_ndec)<;>intro h<;>try (exfalso;(try dsimp only at h);omega))|((first|apply br_seq|apply br_nseq|apply br_not|apply br_intro)<;>intro h)|refine cond_a ?_)
 all_goals (conv=>whnf)
 all_goals exact ret_out (l:= [0,1,2,3,4,5,6]) rfl rfl trivial allRw_nil
end Go.Proofs.YtlankgapiecloaaGreatDoor
namespace Go.Proofs.YtlankgapiecloaaGreatDoor
open Go.RowKit Go.Sy
attribute [local irreducible] vcall vloop vcallD retP
set_option maxRecDepth 100000
set_option linter.unusedVariables false
set_option linter.unusedSimpArgs false
theorem lg_copyF (dom:Nat→Prop) (F:Nat→Blk) (i:Nat) (id:ByteArray) (d:Int) (L:List Lp) (n:Nat) (hi:dom i) (hF:F i=poB n L) (hn:L.length=n) (h1:1≤n) (h2:n≤1000000):
  FC Tryz.prog 2 182 [.agg [.str id,.int .i64 d,.sl 1 i 0 n]] [(1,some (.fam true dom F))] (isOut (.agg [.str id,.int .i64 d,.sl 2 0 0 n]) [(2,some (.one false (poB n L)))] 3):=by
 have c0:=fc_fam [(1,⟨i,dom,F⟩)] (by exact ⟨⟨by decide,by decide,_,_,rfl,hi,hF,.inl rfl⟩,trivial⟩) (by exact ⟨rfl,trivial⟩) (by exact ⟨rfl,trivial⟩) (allRw_cons allRw_nil) (lg_copyEntry id d L n hn h1 h2)
 have e:SV.mems (fmu [(1,⟨i,dom,F⟩)]) [.agg [.str id,.int .i64 d,.sl 1 0 0 n]]= [.agg [.str id,.int .i64 d,.sl 1 i 0 n]]:=by
  show [SV.agg [.str id,.int .i64 d,.sl 1 (0+i) 0 n]]=_
  rw [Nat.zero_add]
 rw [e] at c0
 exact c0
abbrev lgSt (s:Lg):Blk:= .obj (.map false false s.ns [.strs s.st] [.sc (.bools (List.replicate s.ns true))] (List.range s.ns) s.ns)
attribute [local irreducible] seq ByteArray.extract lgE
theorem lg_pl {n ix:Nat} (h:ix<n):((List.range n).map Int.ofNat).getD ix 0=(ix:Int):=by
 rw [List.getD,List.getElem?_map,List.getElem?_range h];rfl
end Go.Proofs.YtlankgapiecloaaGreatDoor
namespace Go.Proofs.YtlankgapiecloaaGreatDoor
open Go.RowKit Go.Sy
attribute [local irreducible] vcall vloop vcallD retP sortI
set_option maxRecDepth 100000
set_option linter.unusedVariables false
set_option linter.unusedSimpArgs false
abbrev bkC1 (ro:Bool) (a:Nat) (s:Bks):Option HB:=some (.one ro (.cells [.str s.cur,.int .i64 s.days,.sl a 0 0 s.na,.map 3 0,.ptr 4 0 0 0,.int .i64 s.lg.ne,.ptr 11 0 0 0,.int .i64 s.last]))
abbrev bkPl (n:Nat) (ids:List ByteArray):Option HB:=some (.one false (.obj (.map false false n [.strs ids] [.sc (.ints .i64 ((List.range n).map Int.ofNat))] (List.range n) n)))
abbrev bkRw (a e f h7 h8 h9:Nat) (s:Bks):Heap:=
 (1,bkC1 false a s)::(a,some (.one false (auB s.na s.au)))::(3,bkPl s.na s.aid)::
 (9,lgBg false s.lg)::(4,some (.one false (.cells (lgF 5 e 7 8 9 s.lg))))::(5,some (.one false (lgAcc s.lg)))::(e,some (.one false (lgEnt f s.lg)))::(7,some (.one false (lgPl s.lg)))::(8,some (.one false (lgSt s.lg)))::(f,lgFam false s.lg)::
 (11,cyC false 12 14 15 16 s.np s.cut)::(12,calC false 13)::(13,tmM false s.hn s.hs)::(14,cyP false s.np s.pr)::(16,tmM false s.nc s.cd)::bksH 15 h7 h8 h9 s.np s.m s.ds s.B (sortS s.pr)
abbrev bkHp (s:Bks):Heap:=(0,some (GB glT))::bkRw 2 6 10 17 18 19 s
abbrev bkOt (s:Bks):Heap:=bkRw 20 21 22 23 24 25 s
theorem bkRw_rw {a e f h7 h8 h9:Nat} {s:Bks}:allRw (bkRw a e f h7 h8 h9 s):=
 allRw_cons (allRw_cons (allRw_cons (allRw_cons (allRw_cons (allRw_cons (allRw_cons (allRw_cons (allRw_cons (allRw_fam (allRw_cons (allRw_cons (allRw_cons (allRw_cons (allRw_cons bks_rw))))))))))))))
theorem bk_actionOf (k:Int) (hk:¬(k<1∨8<k)):Pure Tryz.prog 22 [.int .i64 k] (.iface (if k=1 then 113 else if k=8 then 115 else if k=4∨k=5∨k=6 then 116 else 114) (.agg [])):=by
 rcases kind_of8 hk with rfl|rfl|rfl|rfl|rfl|rfl|rfl|rfl
 all_goals
  simp only [Int.reduceEq,if_true,if_false,or_true,true_or,or_false,false_or]
  refine fc_of mixed T_ok Tryz.func22 rfl (by kernel_rfl) (by kernel_rfl) (by kernel_rfl) ?_
  repeat' ((conv=>whnf);first|((first|apply br_dec|apply br_ndec)<;>intro h<;>try (exfalso;(try dsimp only at h);omega))|((first|apply br_seq|apply br_nseq|apply br_not|apply br_intro)<;>intro h)|refine cond_a ?_)
  all_goals (conv=>whnf)
  all_goals exact ret_pure rfl
theorem bk_accountOf (p:ByteArray) (h:p.size≤1000):Pure Tryz.prog 17 [.str p] (.str (ptyS p)):=by
 have hz:sPty.size+p.size≤9223372036854775807:=by have:sPty.size=6:=rfl;omega
 refine fc_of mixed T_ok Tryz.func17 rfl (by kernel_rfl) (by kernel_rfl) (by kernel_rfl) ?_
 repeat' ((conv=>whnf);first|(refine cond_intro hz ?_)|((first|apply br_dec|apply br_ndec)<;>intro h<;>try (exfalso;(try dsimp only at h);omega))|((first|apply br_seq|apply br_nseq|apply br_not|apply br_intro)<;>intro h)|refine cond_a ?_)
 all_goals (conv=>whnf)
 exact ret_pure rfl
theorem bk_money (s:Bks) (n:Int):FC Tryz.prog 20 184 [.ptr 1 0 0 0,.int .i64 n] [(1,bkC1 true 2 s)] (isOut (.agg [.int .i64 n,.str s.cur]) [] 20):=by
 refine fc_of mixed T_ok Tryz.func184 rfl (by kernel_rfl) (by kernel_rfl) (by kernel_rfl) ?_
 repeat' ((conv=>whnf);first|((first|apply br_dec|apply br_ndec)<;>intro h<;>try (exfalso;(try dsimp only at h);omega))|((first|apply br_seq|apply br_nseq|apply br_not|apply br_intro)<;>intro h)|refine cond_a ?_)
 all_goals (conv=>whnf)
 exact ret_out (l:= [0,1,2,3,4,5,6,7,8,9,10,11,12,13,14,15,16,17,18,19]) rfl rfl trivial allRw_nil
theorem bk_end (s:Bks) (t:Int) (hd:1≤s.days∧s.days≤1000) (ht:0≤t∧t≤1099511627776):FC Tryz.prog 20 152 [.ptr 1 0 0 0,.int .i64 t] [(1,bkC1 true 2 s)] (isOut (.int .i64 (endI s t)) [] 20):=by
 have e:IntKind.i64.wrap (t+IntKind.i64.wrap (s.days*86400))=endI s t:=by
  unfold endI
  rw [w64_in (n:=s.days*86400) (by omega) (by omega),w64_in (by omega) (by omega)]
 rw [←e]
 refine fc_of mixed T_ok Tryz.func152 rfl (by kernel_rfl) (by kernel_rfl) (by kernel_rfl) ?_
 repeat' ((conv=>whnf);first|((first|apply br_dec|apply br_ndec)<;>intro h<;>try (exfalso;(try dsimp only at h);omega))|((first|apply br_seq|apply br_nseq|apply br_not|apply br_intro)<;>intro h)|refine cond_a ?_)
 all_goals (conv=>whnf)
 exact ret_out (l:= [0,1,2,3,4,5,6,7,8,9,10,11,12,13,14,15,16,17,18,19]) rfl rfl trivial allRw_nil
theorem lg_Entry (s:Lg) (id:ByteArray) (hs:LgOk s):FC Tryz.prog 8 179 [.ptr 1 0 0 0,.str id] [(1,some (.one true (.cells (lgF 2 3 4 5 6 s)))),(3,some (.one true (lgEnt 7 s))),(4,some (.one true (lgPl s))),(7,lgFam true s)]
  (if inL id s.ids then isOut (.tup [.agg [.str ((s.ent.map Le.id).getD (sidx s.ids id) ⟨#[]⟩),.int .i64 ((s.ent.map Le.date).getD (sidx s.ids id) 0),.sl 8 0 0 ((s.ent.map Le.np).getD (sidx s.ids id) 0)],.bool true]) [(8,some (.one false (poB ((s.ent.map Le.np).getD (sidx s.ids id) 0) (s.ent.getD (sidx s.ids id) le0).ps)))] 9
   else isOut (.tup [.agg [.str ⟨#[]⟩,.int .i64 0,.nsl],.bool false]) [] 8):=by
 have hidl:(s.ent.map Le.id).length=s.ne:=by rw [List.length_map,hs.ne]
 by_cases h:inL id s.ids
 ·rw [if_pos h]
  have h':sidx (s.ent.map Le.id) id<s.ne:=by rw [←hidl];exact h
  have hm:=(rev_at hs (in_iff.1 h)).1
  have hok:=hs.ent _ hm
  have hNP:=le_np s.ent (sidx s.ids id)
  have c1:=lg_copyF (fun x=>x<s.ne) (enF s.ent) (sidx s.ids id) ((s.ent.map Le.id).getD (sidx s.ids id) ⟨#[]⟩) ((s.ent.map Le.date).getD (sidx s.ids id) 0) (s.ent.getD (sidx s.ids id) le0).ps ((s.ent.map Le.np).getD (sidx s.ids id) 0) h' (by rw [hNP];rfl) (by rw [hNP];exact hok.n) (by rw [hNP];exact hok.n1) (by rw [hNP];have:=hok.n16;omega)
  have hpl:=lg_pl h'
  have hb:decide (sidx (s.ent.map Le.id) id<s.ne)=true:=decide_eq_true h'
  have hc:0≤((List.range s.ne).map Int.ofNat).getD (sidx (s.ent.map Le.id) id) 0∧((List.range s.ne).map Int.ofNat).getD (sidx (s.ent.map Le.id) id) 0<(s.ne:Int):=by rw [hpl];omega
  refine fc_of mixed T_ok Tryz.func179 rfl (by kernel_rfl) (by kernel_rfl) (by kernel_rfl) ?_
  repeat' ((conv=>whnf);first|(rw [hb])|(simp only [hpl,lg_tn])|refine vcall_o (l:= [0,7]) (c1) ?_|refine vcallD_o (l:= [0,7]) (c1) ?_|((first|apply br_dec|apply br_ndec)<;>intro h<;>try (exfalso;(try dsimp only at h);omega))|((first|apply br_seq|apply br_nseq|apply br_not|apply br_intro)<;>intro h)|refine cond_a ?_)
  all_goals (conv=>whnf)
  all_goals first
   |exact ret_out (l:= [0,1,2,3,4,5,6,7,9]) rfl rfl ⟨rfl,trivial⟩ (allRw_cons allRw_nil)
   |exact ret_out (l:= [0,1,2,3,4,5,6,7,10]) rfl rfl ⟨rfl,trivial⟩ (allRw_cons allRw_nil)
   |(exfalso;omega)
   |trace_state
 ·rw [if_neg h]
  have h':¬sidx (s.ent.map Le.id) id<s.ne:=by rw [←hidl];exact h
  have hb:decide (sidx (s.ent.map Le.id) id<s.ne)=false:=decide_eq_false h'
  refine fc_of mixed T_ok Tryz.func179 rfl (by kernel_rfl) (by kernel_rfl) (by kernel_rfl) ?_
  repeat' ((conv=>whnf);first|(rw [hb])|((first|apply br_dec|apply br_ndec)<;>intro h<;>try (exfalso;(try dsimp only at h);omega))|((first|apply br_seq|apply br_nseq|apply br_not|apply br_intro)<;>intro h)|refine cond_a ?_)
  all_goals (conv=>whnf)
  all_goals first
   |exact ret_out (l:= [0,1,2,3,4,5,6,7]) rfl rfl trivial allRw_nil
   |(exfalso;omega)
   |trace_state
end Go.Proofs.YtlankgapiecloaaGreatDoor
