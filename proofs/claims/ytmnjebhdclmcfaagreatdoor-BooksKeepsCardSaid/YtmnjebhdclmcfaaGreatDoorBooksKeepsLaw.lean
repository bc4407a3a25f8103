/- 'cardnet law BooksKeeps' returns true at every input: the statement, from the contract of the law's function. The frame was written by mklaw.py. -/
import Derived.Test.YtmnjebhdclmcfaaGreatDoorP3
import Derived.Test.YtmnjebhdclmcfaaGreatDoorP10
import Derived.Test.YtmnjebhdclmcfaaGreatDoorRows
import Derived.Test.YtmnjebhdclmcfaaGreatDoorTie
import Derived.Test.YtmnjebhdclmcfaaGreatDoorCards
import Derived.ProofKit
import Derived.OpenShut
import Derived.ShutString
import Derived.ChangeOld
import Derived.Below
import Derived.Carry
import Derived.Lay
import Derived.LaidOnce
import Derived.LaidMore
import Derived.LaidLaws
import Derived.Stop.Joined
import Derived.SevenTiedAt
open Go.Proofs.Tryz
namespace Go.Proofs.YtmnjebhdclmcfaaGreatDoor.booksKeepsLaw
open Go.ChangeShapes Go.WideShapes Go.ChangeAt Go.RowKit Go.Sy
set_option linter.unusedVariables false
set_option linter.unusedSimpArgs false
theorem own:ownKnob prog.godebug=none:=by kernel_rfl
theorem v0L:laidOutB prog=true:=by kernel_rfl
theorem j1G:"*"++"errors.errorString"="*errors.errorString":=by decide
theorem r1a (u:TypeId) (h:prog.typeName? 3 u=some "*errors.errorString"):u=380:=
 typeName_ptr_named (nm:="errors.errorString") (by rw [j1G];kernel_rfl) (by kernel_rfl) (by decide) u (by rw [j1G];exact h)
theorem j1H:"*"++"errors.errorString"="*errors.errorString":=by decide
theorem r1b (u:TypeId) (h:prog.typeName? 3 u=some "*errors.errorString"):u=380:=
 typeName_ptr_named (nm:="errors.errorString") (by rw [j1H];kernel_rfl) (by kernel_rfl) (by decide) u (by rw [j1H];exact h)
set_option maxRecDepth 100000 in
theorem p1K (os:Os) (started:os.Started) (H:Type) (enc:TypeId×Value->H):
  ReturnsInHanded {} Tryz.checked os 3 .any (fun w args=>(Rows.booksKeepsSpec.pre enc prog Tryz.f3 [] false w args/\laidMetH prog Rows.booksKeepsRow.laid w)/\sizedMet enc prog Tryz.f3 (OpenSpec.ofChange Rows.booksKeepsSpec) false w args) (Rows.booksKeepsSpec.post enc prog Tryz.f3 false true false false):=by
 refine returnsInHanded_of_change_and (C:=Tryz.checked) (X:=fun w _=>laidMetH prog Rows.booksKeepsRow.laid w) (fun _ _ _ hh h=>h.of_heap hh) own started (by kernel_rfl) func3
  (ChangeSpec.witness_shaped (enc:=enc) (C:=Tryz.checked) (os:=os) (X:=fun w _=>laidMetH prog Rows.booksKeepsRow.laid w) false (World.laidAll prog os Rows.booksKeepsRow.laid) #[.agg #[.slice none 0 0,.string ⟨#[]⟩,.slice none 0 0,.int .i64 0,.int .i64 0],.int .i64 0,.slice none 0 0] 8 (World.laidAll_os _ _ _) (World.shaped_of_ZipB (by kernel_rfl) (by kernel_rfl)) (by kernel_rfl) (by kernel_rfl) (by kernel_rfl) (by rw [MakeChecks.laidMetH_plain _ _ _ (by kernel_rfl)];exact laidMet_laidAll _ (by kernel_rfl) (by kernel_rfl))) ?_
 intro W base args ds gs before hval0 hW _ _ hL _
 have hval:∀(j:Nat) t v,Tryz.f3.params[j]? =some t->args[j]? =some v->Value.okWide prog W .any base t v:=hval0
 have hW':=hW
 obtain ⟨p,q,hA0,hV,rfl,hfz,hnd⟩:=hW
 have hA:DataW.TrodAll enc prog W 0 (fun _=>true) true Tryz.f3.params.toList args.toList ds p:=hA0
 rw [Tryz.params3] at hA hval
 obtain ⟨v0,vs0,d0,ds0,p0,q0,hargs,rfl,rfl,h0,r0⟩:=trodAll_cons hA
 obtain ⟨v1,vs1,d1,ds1,p1,q1,rfl,rfl,rfl,h1,r1⟩:=trodAll_cons r0
 obtain ⟨v2,vs2,d2,ds2,p2,q2,rfl,rfl,rfl,h2,r2⟩:=trodAll_cons r1
 obtain ⟨rfl,rfl,rfl⟩:=trodAll_nil r2
 obtain rfl:args= #[v0,v1,v2]:=by cases args;simp_all
 obtain ⟨rfl,rfl⟩:=trodVars_none hV
 have lt0:∀x∈p0,x.block<W.heap.size:=by obtain ⟨m,hm⟩:=h0;exact DataW.trod_lt m _ _ _ hm
 have lt1:∀x∈p1,x.block<W.heap.size:=by obtain ⟨m,hm⟩:=h1;exact DataW.trod_lt m _ _ _ hm
 have lt2:∀x∈p2,x.block<W.heap.size:=by obtain ⟨m,hm⟩:=h2;exact DataW.trod_lt m _ _ _ hm
 obtain ⟨cs0,rfl,_⟩:=okWide_struct Tryz.underlying25 (hval 0 25 v0 rfl rfl)
 obtain ⟨fuel0,hf0⟩:=id h0
 obtain ⟨xs0,m0,_,_,hlen0,hxl0,hfs0⟩:=DataW.trod_struct Tryz.underlying25 hf0
 obtain ⟨l0⟩:=cs0
 rw [show prog.cellsOf 25=5 from by kernel_rfl] at hlen0
 simp only [Value.cells] at hlen0 hfs0
 obtain ⟨c0_0,t0_0,rfl,hlq0_0⟩:=i0A hlen0
 obtain ⟨c0_1,t0_1,rfl,hlq0_1⟩:=i0A hlq0_0
 obtain ⟨c0_2,t0_2,rfl,hlq0_2⟩:=i0A hlq0_1
 obtain ⟨c0_3,t0_3,rfl,hlq0_3⟩:=i0A hlq0_2
 obtain ⟨c0_4,t0_4,rfl,hlq0_4⟩:=i0A hlq0_3
 obtain rfl:=k1r hlq0_4
 obtain ⟨y0_0,hy0_0⟩:∃x,xs0[0]? =some x:=⟨_,List.getElem?_eq_getElem (by rw [hxl0];decide)⟩
 have g0_0:DataW.trod enc prog W 0 (fun _=>true) true m0 22 (List.take (prog.cellsOf 22) (List.drop 0 [c0_0,c0_1,c0_2,c0_3,c0_4]))=xs0[0]?:=hfs0 0 _ rfl
 rw [hy0_0,show prog.cellsOf 22=1 from by kernel_rfl] at g0_0
 simp only [List.drop_zero,List.drop_succ_cons,List.take_succ_cons,List.take_zero] at g0_0
 obtain ⟨y0_1,hy0_1⟩:∃x,xs0[1]? =some x:=⟨_,List.getElem?_eq_getElem (by rw [hxl0];decide)⟩
 have g0_1:DataW.trod enc prog W 0 (fun _=>true) true m0 9 (List.take (prog.cellsOf 9) (List.drop 1 [c0_0,c0_1,c0_2,c0_3,c0_4]))=xs0[1]?:=hfs0 1 _ rfl
 rw [hy0_1,show prog.cellsOf 9=1 from by kernel_rfl] at g0_1
 simp only [List.drop_zero,List.drop_succ_cons,List.take_succ_cons,List.take_zero] at g0_1
 obtain ⟨y0_2,hy0_2⟩:∃x,xs0[2]? =some x:=⟨_,List.getElem?_eq_getElem (by rw [hxl0];decide)⟩
 have g0_2:DataW.trod enc prog W 0 (fun _=>true) true m0 23 (List.take (prog.cellsOf 23) (List.drop 2 [c0_0,c0_1,c0_2,c0_3,c0_4]))=xs0[2]?:=hfs0 2 _ rfl
 rw [hy0_2,show prog.cellsOf 23=1 from by kernel_rfl] at g0_2
 simp only [List.drop_zero,List.drop_succ_cons,List.take_succ_cons,List.take_zero] at g0_2
 obtain ⟨y0_3,hy0_3⟩:∃x,xs0[3]? =some x:=⟨_,List.getElem?_eq_getElem (by rw [hxl0];decide)⟩
 have g0_3:DataW.trod enc prog W 0 (fun _=>true) true m0 3 (List.take (prog.cellsOf 3) (List.drop 3 [c0_0,c0_1,c0_2,c0_3,c0_4]))=xs0[3]?:=hfs0 3 _ rfl
 rw [hy0_3,show prog.cellsOf 3=1 from by kernel_rfl] at g0_3
 simp only [List.drop_zero,List.drop_succ_cons,List.take_succ_cons,List.take_zero] at g0_3
 obtain ⟨y0_4,hy0_4⟩:∃x,xs0[4]? =some x:=⟨_,List.getElem?_eq_getElem (by rw [hxl0];decide)⟩
 have g0_4:DataW.trod enc prog W 0 (fun _=>true) true m0 3 (List.take (prog.cellsOf 3) (List.drop 4 [c0_0,c0_1,c0_2,c0_3,c0_4]))=xs0[4]?:=hfs0 4 _ rfl
 rw [hy0_4,show prog.cellsOf 3=1 from by kernel_rfl] at g0_4
 simp only [List.drop_zero,List.drop_succ_cons,List.take_succ_cons,List.take_zero] at g0_4
 obtain ⟨l0_0,β0_0,cols0_0,hl0_0,hcol0_0,hR0_0,hB0_0⟩:=q0f (m:=20) (ks:= [.str]) Tryz.underlying22 (by kernel_rfl) (by kernel_rfl) (by decide) g0_0
 simp only [b0d,d0w] at hcol0_0
 obtain ⟨_,_,rfl,⟨q0_0_0,rfl,eq0_0_0,wq0_0_0⟩,rfl⟩:=hcol0_0
 obtain ⟨x0_1,e0_1,_,hx0_1⟩:=DataW.trod_string Tryz.underlying9 g0_1
 simp only [List.cons.injEq,and_true] at e0_1;subst e0_1
 obtain ⟨l0_2,β0_2,cols0_2,hl0_2,hcol0_2,hR0_2,hB0_2⟩:=q0f (m:=20) (ks:= [.int .i64]) Tryz.underlying23 (by kernel_rfl) (by kernel_rfl) (by decide) g0_2
 simp only [b0d,d0w] at hcol0_2
 obtain ⟨_,_,rfl,⟨q0_2_0,rfl,eq0_2_0,wq0_2_0⟩,rfl⟩:=hcol0_2
 obtain ⟨x0_3,e0_3,_,hx0_3⟩:=DataW.trod_int Tryz.underlying3 g0_3
 simp only [List.cons.injEq,and_true] at e0_3;subst e0_3
 obtain ⟨x0_4,e0_4,_,hx0_4⟩:=DataW.trod_int Tryz.underlying3 g0_4
 simp only [List.cons.injEq,and_true] at e0_4;subst e0_4
 obtain ⟨n1,rfl⟩:=okWide_int Tryz.underlying3 (hval 1 3 v1 rfl rfl)
 have hw1:(Lit.int .i64 n1).wf=true:=by
  obtain ⟨fuel,hf⟩:=h1
  obtain ⟨m,e,_,hw⟩:=DataW.trod_int Tryz.underlying3 hf
  simp [Value.cells] at e;subst e;exact hw
 obtain ⟨fuel2,hf2⟩:=id h2
 obtain ⟨a2,len2,cap2,rfl⟩:=okWide_slice Tryz.underlying26 (hval 2 26 v2 rfl rfl)
 obtain ⟨l2,β2,ns2,rows2,bs2,g0A,hl2,ens2,hcol2,hrow2,hR2,hB2⟩:=d1Z (m:=20) (ks:= [.sl [.int .i64,.int .i64,.str,.str,.str,.str,.int .i64,.int .i64,.bool],.sc (.bool),.sc (.int .i64),.sc (.int .u64)]) 4 0 [.int .i64,.int .i64,.str,.str,.str,.str,.int .i64,.int .i64,.bool] rfl rfl Tryz.underlying26 (by kernel_rfl) (by kernel_rfl) hf2
 simp only [k0J,d0w] at hcol2
 obtain ⟨_,rfl,⟨_,_,rfl,⟨q2_1,rfl,eq2_1⟩,⟨_,_,rfl,⟨q2_2,rfl,eq2_2,wq2_2⟩,⟨_,_,rfl,⟨q2_3,rfl,eq2_3,wq2_3⟩,rfl⟩⟩⟩⟩:=hcol2
 have ez2_0:∀i,i<l2->(gI 0 (rows2 i)).length=ns2.getD i 0:=by
  intro i hi
  have hc:=(hrow2 i hi).2.1
  generalize rows2 i=R at hc⊢
  simp only [b0d,d0w] at hc
  obtain ⟨_,_,rfl,⟨y0,rfl,ey0,wy0⟩,⟨_,_,rfl,⟨y1,rfl,ey1,wy1⟩,⟨_,_,rfl,⟨y2,rfl,ey2,wy2⟩,⟨_,_,rfl,⟨y3,rfl,ey3,wy3⟩,⟨_,_,rfl,⟨y4,rfl,ey4,wy4⟩,⟨_,_,rfl,⟨y5,rfl,ey5,wy5⟩,⟨_,_,rfl,⟨y6,rfl,ey6,wy6⟩,⟨_,_,rfl,⟨y7,rfl,ey7,wy7⟩,⟨_,_,rfl,⟨y8,rfl,ey8⟩,rfl⟩⟩⟩⟩⟩⟩⟩⟩⟩:=hc
  exact ey0
 have wz2_0:∀i,i<l2->∀x∈(gI 0 (rows2 i)),(Lit.int .i64 x).wf=true:=by
  intro i hi
  have hc:=(hrow2 i hi).2.1
  generalize rows2 i=R at hc⊢
  simp only [b0d,d0w] at hc
  obtain ⟨_,_,rfl,⟨y0,rfl,ey0,wy0⟩,⟨_,_,rfl,⟨y1,rfl,ey1,wy1⟩,⟨_,_,rfl,⟨y2,rfl,ey2,wy2⟩,⟨_,_,rfl,⟨y3,rfl,ey3,wy3⟩,⟨_,_,rfl,⟨y4,rfl,ey4,wy4⟩,⟨_,_,rfl,⟨y5,rfl,ey5,wy5⟩,⟨_,_,rfl,⟨y6,rfl,ey6,wy6⟩,⟨_,_,rfl,⟨y7,rfl,ey7,wy7⟩,⟨_,_,rfl,⟨y8,rfl,ey8⟩,rfl⟩⟩⟩⟩⟩⟩⟩⟩⟩:=hc
  exact wy0
 have ez2_1:∀i,i<l2->(gI 1 (rows2 i)).length=ns2.getD i 0:=by
  intro i hi
  have hc:=(hrow2 i hi).2.1
  generalize rows2 i=R at hc⊢
  simp only [b0d,d0w] at hc
  obtain ⟨_,_,rfl,⟨y0,rfl,ey0,wy0⟩,⟨_,_,rfl,⟨y1,rfl,ey1,wy1⟩,⟨_,_,rfl,⟨y2,rfl,ey2,wy2⟩,⟨_,_,rfl,⟨y3,rfl,ey3,wy3⟩,⟨_,_,rfl,⟨y4,rfl,ey4,wy4⟩,⟨_,_,rfl,⟨y5,rfl,ey5,wy5⟩,⟨_,_,rfl,⟨y6,rfl,ey6,wy6⟩,⟨_,_,rfl,⟨y7,rfl,ey7,wy7⟩,⟨_,_,rfl,⟨y8,rfl,ey8⟩,rfl⟩⟩⟩⟩⟩⟩⟩⟩⟩:=hc
  exact ey1
 have wz2_1:∀i,i<l2->∀x∈(gI 1 (rows2 i)),(Lit.int .i64 x).wf=true:=by
  intro i hi
  have hc:=(hrow2 i hi).2.1
  generalize rows2 i=R at hc⊢
  simp only [b0d,d0w] at hc
  obtain ⟨_,_,rfl,⟨y0,rfl,ey0,wy0⟩,⟨_,_,rfl,⟨y1,rfl,ey1,wy1⟩,⟨_,_,rfl,⟨y2,rfl,ey2,wy2⟩,⟨_,_,rfl,⟨y3,rfl,ey3,wy3⟩,⟨_,_,rfl,⟨y4,rfl,ey4,wy4⟩,⟨_,_,rfl,⟨y5,rfl,ey5,wy5⟩,⟨_,_,rfl,⟨y6,rfl,ey6,wy6⟩,⟨_,_,rfl,⟨y7,rfl,ey7,wy7⟩,⟨_,_,rfl,⟨y8,rfl,ey8⟩,rfl⟩⟩⟩⟩⟩⟩⟩⟩⟩:=hc
  exact wy1
 have ez2_2:∀i,i<l2->(gS 2 (rows2 i)).length=ns2.getD i 0:=by
  intro i hi
  have hc:=(hrow2 i hi).2.1
  generalize rows2 i=R at hc⊢
  simp only [b0d,d0w] at hc
  obtain ⟨_,_,rfl,⟨y0,rfl,ey0,wy0⟩,⟨_,_,rfl,⟨y1,rfl,ey1,wy1⟩,⟨_,_,rfl,⟨y2,rfl,ey2,wy2⟩,⟨_,_,rfl,⟨y3,rfl,ey3,wy3⟩,⟨_,_,rfl,⟨y4,rfl,ey4,wy4⟩,⟨_,_,rfl,⟨y5,rfl,ey5,wy5⟩,⟨_,_,rfl,⟨y6,rfl,ey6,wy6⟩,⟨_,_,rfl,⟨y7,rfl,ey7,wy7⟩,⟨_,_,rfl,⟨y8,rfl,ey8⟩,rfl⟩⟩⟩⟩⟩⟩⟩⟩⟩:=hc
  exact ey2
 have wz2_2:∀i,i<l2->∀x∈(gS 2 (rows2 i)),x.size<=maxLen:=by
  intro i hi
  have hc:=(hrow2 i hi).2.1
  generalize rows2 i=R at hc⊢
  simp only [b0d,d0w] at hc
  obtain ⟨_,_,rfl,⟨y0,rfl,ey0,wy0⟩,⟨_,_,rfl,⟨y1,rfl,ey1,wy1⟩,⟨_,_,rfl,⟨y2,rfl,ey2,wy2⟩,⟨_,_,rfl,⟨y3,rfl,ey3,wy3⟩,⟨_,_,rfl,⟨y4,rfl,ey4,wy4⟩,⟨_,_,rfl,⟨y5,rfl,ey5,wy5⟩,⟨_,_,rfl,⟨y6,rfl,ey6,wy6⟩,⟨_,_,rfl,⟨y7,rfl,ey7,wy7⟩,⟨_,_,rfl,⟨y8,rfl,ey8⟩,rfl⟩⟩⟩⟩⟩⟩⟩⟩⟩:=hc
  exact wy2
 have ez2_3:∀i,i<l2->(gS 3 (rows2 i)).length=ns2.getD i 0:=by
  intro i hi
  have hc:=(hrow2 i hi).2.1
  generalize rows2 i=R at hc⊢
  simp only [b0d,d0w] at hc
  obtain ⟨_,_,rfl,⟨y0,rfl,ey0,wy0⟩,⟨_,_,rfl,⟨y1,rfl,ey1,wy1⟩,⟨_,_,rfl,⟨y2,rfl,ey2,wy2⟩,⟨_,_,rfl,⟨y3,rfl,ey3,wy3⟩,⟨_,_,rfl,⟨y4,rfl,ey4,wy4⟩,⟨_,_,rfl,⟨y5,rfl,ey5,wy5⟩,⟨_,_,rfl,⟨y6,rfl,ey6,wy6⟩,⟨_,_,rfl,⟨y7,rfl,ey7,wy7⟩,⟨_,_,rfl,⟨y8,rfl,ey8⟩,rfl⟩⟩⟩⟩⟩⟩⟩⟩⟩:=hc
  exact ey3
 have wz2_3:∀i,i<l2->∀x∈(gS 3 (rows2 i)),x.size<=maxLen:=by
  intro i hi
  have hc:=(hrow2 i hi).2.1
  generalize rows2 i=R at hc⊢
  simp only [b0d,d0w] at hc
  obtain ⟨_,_,rfl,⟨y0,rfl,ey0,wy0⟩,⟨_,_,rfl,⟨y1,rfl,ey1,wy1⟩,⟨_,_,rfl,⟨y2,rfl,ey2,wy2⟩,⟨_,_,rfl,⟨y3,rfl,ey3,wy3⟩,⟨_,_,rfl,⟨y4,rfl,ey4,wy4⟩,⟨_,_,rfl,⟨y5,rfl,ey5,wy5⟩,⟨_,_,rfl,⟨y6,rfl,ey6,wy6⟩,⟨_,_,rfl,⟨y7,rfl,ey7,wy7⟩,⟨_,_,rfl,⟨y8,rfl,ey8⟩,rfl⟩⟩⟩⟩⟩⟩⟩⟩⟩:=hc
  exact wy3
 have ez2_4:∀i,i<l2->(gS 4 (rows2 i)).length=ns2.getD i 0:=by
  intro i hi
  have hc:=(hrow2 i hi).2.1
  generalize rows2 i=R at hc⊢
  simp only [b0d,d0w] at hc
  obtain ⟨_,_,rfl,⟨y0,rfl,ey0,wy0⟩,⟨_,_,rfl,⟨y1,rfl,ey1,wy1⟩,⟨_,_,rfl,⟨y2,rfl,ey2,wy2⟩,⟨_,_,rfl,⟨y3,rfl,ey3,wy3⟩,⟨_,_,rfl,⟨y4,rfl,ey4,wy4⟩,⟨_,_,rfl,⟨y5,rfl,ey5,wy5⟩,⟨_,_,rfl,⟨y6,rfl,ey6,wy6⟩,⟨_,_,rfl,⟨y7,rfl,ey7,wy7⟩,⟨_,_,rfl,⟨y8,rfl,ey8⟩,rfl⟩⟩⟩⟩⟩⟩⟩⟩⟩:=hc
  exact ey4
 have wz2_4:∀i,i<l2->∀x∈(gS 4 (rows2 i)),x.size<=maxLen:=by
  intro i hi
  have hc:=(hrow2 i hi).2.1
  generalize rows2 i=R at hc⊢
  simp only [b0d,d0w] at hc
  obtain ⟨_,_,rfl,⟨y0,rfl,ey0,wy0⟩,⟨_,_,rfl,⟨y1,rfl,ey1,wy1⟩,⟨_,_,rfl,⟨y2,rfl,ey2,wy2⟩,⟨_,_,rfl,⟨y3,rfl,ey3,wy3⟩,⟨_,_,rfl,⟨y4,rfl,ey4,wy4⟩,⟨_,_,rfl,⟨y5,rfl,ey5,wy5⟩,⟨_,_,rfl,⟨y6,rfl,ey6,wy6⟩,⟨_,_,rfl,⟨y7,rfl,ey7,wy7⟩,⟨_,_,rfl,⟨y8,rfl,ey8⟩,rfl⟩⟩⟩⟩⟩⟩⟩⟩⟩:=hc
  exact wy4
 have ez2_5:∀i,i<l2->(gS 5 (rows2 i)).length=ns2.getD i 0:=by
  intro i hi
  have hc:=(hrow2 i hi).2.1
  generalize rows2 i=R at hc⊢
  simp only [b0d,d0w] at hc
  obtain ⟨_,_,rfl,⟨y0,rfl,ey0,wy0⟩,⟨_,_,rfl,⟨y1,rfl,ey1,wy1⟩,⟨_,_,rfl,⟨y2,rfl,ey2,wy2⟩,⟨_,_,rfl,⟨y3,rfl,ey3,wy3⟩,⟨_,_,rfl,⟨y4,rfl,ey4,wy4⟩,⟨_,_,rfl,⟨y5,rfl,ey5,wy5⟩,⟨_,_,rfl,⟨y6,rfl,ey6,wy6⟩,⟨_,_,rfl,⟨y7,rfl,ey7,wy7⟩,⟨_,_,rfl,⟨y8,rfl,ey8⟩,rfl⟩⟩⟩⟩⟩⟩⟩⟩⟩:=hc
  exact ey5
 have wz2_5:∀i,i<l2->∀x∈(gS 5 (rows2 i)),x.size<=maxLen:=by
  intro i hi
  have hc:=(hrow2 i hi).2.1
  generalize rows2 i=R at hc⊢
  simp only [b0d,d0w] at hc
  obtain ⟨_,_,rfl,⟨y0,rfl,ey0,wy0⟩,⟨_,_,rfl,⟨y1,rfl,ey1,wy1⟩,⟨_,_,rfl,⟨y2,rfl,ey2,wy2⟩,⟨_,_,rfl,⟨y3,rfl,ey3,wy3⟩,⟨_,_,rfl,⟨y4,rfl,ey4,wy4⟩,⟨_,_,rfl,⟨y5,rfl,ey5,wy5⟩,⟨_,_,rfl,⟨y6,rfl,ey6,wy6⟩,⟨_,_,rfl,⟨y7,rfl,ey7,wy7⟩,⟨_,_,rfl,⟨y8,rfl,ey8⟩,rfl⟩⟩⟩⟩⟩⟩⟩⟩⟩:=hc
  exact wy5
 have ez2_6:∀i,i<l2->(gI 6 (rows2 i)).length=ns2.getD i 0:=by
  intro i hi
  have hc:=(hrow2 i hi).2.1
  generalize rows2 i=R at hc⊢
  simp only [b0d,d0w] at hc
  obtain ⟨_,_,rfl,⟨y0,rfl,ey0,wy0⟩,⟨_,_,rfl,⟨y1,rfl,ey1,wy1⟩,⟨_,_,rfl,⟨y2,rfl,ey2,wy2⟩,⟨_,_,rfl,⟨y3,rfl,ey3,wy3⟩,⟨_,_,rfl,⟨y4,rfl,ey4,wy4⟩,⟨_,_,rfl,⟨y5,rfl,ey5,wy5⟩,⟨_,_,rfl,⟨y6,rfl,ey6,wy6⟩,⟨_,_,rfl,⟨y7,rfl,ey7,wy7⟩,⟨_,_,rfl,⟨y8,rfl,ey8⟩,rfl⟩⟩⟩⟩⟩⟩⟩⟩⟩:=hc
  exact ey6
 have wz2_6:∀i,i<l2->∀x∈(gI 6 (rows2 i)),(Lit.int .i64 x).wf=true:=by
  intro i hi
  have hc:=(hrow2 i hi).2.1
  generalize rows2 i=R at hc⊢
  simp only [b0d,d0w] at hc
  obtain ⟨_,_,rfl,⟨y0,rfl,ey0,wy0⟩,⟨_,_,rfl,⟨y1,rfl,ey1,wy1⟩,⟨_,_,rfl,⟨y2,rfl,ey2,wy2⟩,⟨_,_,rfl,⟨y3,rfl,ey3,wy3⟩,⟨_,_,rfl,⟨y4,rfl,ey4,wy4⟩,⟨_,_,rfl,⟨y5,rfl,ey5,wy5⟩,⟨_,_,rfl,⟨y6,rfl,ey6,wy6⟩,⟨_,_,rfl,⟨y7,rfl,ey7,wy7⟩,⟨_,_,rfl,⟨y8,rfl,ey8⟩,rfl⟩⟩⟩⟩⟩⟩⟩⟩⟩:=hc
  exact wy6
 have ez2_7:∀i,i<l2->(gI 7 (rows2 i)).length=ns2.getD i 0:=by
  intro i hi
  have hc:=(hrow2 i hi).2.1
  generalize rows2 i=R at hc⊢
  simp only [b0d,d0w] at hc
  obtain ⟨_,_,rfl,⟨y0,rfl,ey0,wy0⟩,⟨_,_,rfl,⟨y1,rfl,ey1,wy1⟩,⟨_,_,rfl,⟨y2,rfl,ey2,wy2⟩,⟨_,_,rfl,⟨y3,rfl,ey3,wy3⟩,⟨_,_,rfl,⟨y4,rfl,ey4,wy4⟩,⟨_,_,rfl,⟨y5,rfl,ey5,wy5⟩,⟨_,_,rfl,⟨y6,rfl,ey6,wy6⟩,⟨_,_,rfl,⟨y7,rfl,ey7,wy7⟩,⟨_,_,rfl,⟨y8,rfl,ey8⟩,rfl⟩⟩⟩⟩⟩⟩⟩⟩⟩:=hc
  exact ey7
 have wz2_7:∀i,i<l2->∀x∈(gI 7 (rows2 i)),(Lit.int .i64 x).wf=true:=by
  intro i hi
  have hc:=(hrow2 i hi).2.1
  generalize rows2 i=R at hc⊢
  simp only [b0d,d0w] at hc
  obtain ⟨_,_,rfl,⟨y0,rfl,ey0,wy0⟩,⟨_,_,rfl,⟨y1,rfl,ey1,wy1⟩,⟨_,_,rfl,⟨y2,rfl,ey2,wy2⟩,⟨_,_,rfl,⟨y3,rfl,ey3,wy3⟩,⟨_,_,rfl,⟨y4,rfl,ey4,wy4⟩,⟨_,_,rfl,⟨y5,rfl,ey5,wy5⟩,⟨_,_,rfl,⟨y6,rfl,ey6,wy6⟩,⟨_,_,rfl,⟨y7,rfl,ey7,wy7⟩,⟨_,_,rfl,⟨y8,rfl,ey8⟩,rfl⟩⟩⟩⟩⟩⟩⟩⟩⟩:=hc
  exact wy7
 have ez2_8:∀i,i<l2->(gB 8 (rows2 i)).length=ns2.getD i 0:=by
  intro i hi
  have hc:=(hrow2 i hi).2.1
  generalize rows2 i=R at hc⊢
  simp only [b0d,d0w] at hc
  obtain ⟨_,_,rfl,⟨y0,rfl,ey0,wy0⟩,⟨_,_,rfl,⟨y1,rfl,ey1,wy1⟩,⟨_,_,rfl,⟨y2,rfl,ey2,wy2⟩,⟨_,_,rfl,⟨y3,rfl,ey3,wy3⟩,⟨_,_,rfl,⟨y4,rfl,ey4,wy4⟩,⟨_,_,rfl,⟨y5,rfl,ey5,wy5⟩,⟨_,_,rfl,⟨y6,rfl,ey6,wy6⟩,⟨_,_,rfl,⟨y7,rfl,ey7,wy7⟩,⟨_,_,rfl,⟨y8,rfl,ey8⟩,rfl⟩⟩⟩⟩⟩⟩⟩⟩⟩:=hc
  exact ey8
 have hfam2:∀i,i<l2->∀g:G,BlkAt g (bs2 i) true (.cols (ns2.getD i 0) [.sc (.ints .i64 (gI 0 (rows2 i))),.sc (.ints .i64 (gI 1 (rows2 i))),.sc (.strs (gS 2 (rows2 i))),.sc (.strs (gS 3 (rows2 i))),.sc (.strs (gS 4 (rows2 i))),.sc (.strs (gS 5 (rows2 i))),.sc (.ints .i64 (gI 6 (rows2 i))),.sc (.ints .i64 (gI 7 (rows2 i))),.sc (.bools (gB 8 (rows2 i)))]) W:=by
  intro i hi g
  have hc:=(hrow2 i hi).2.1
  have hb:=(hrow2 i hi).2.2 g
  generalize rows2 i=R at hc hb⊢
  simp only [b0d,d0w] at hc
  obtain ⟨_,_,rfl,⟨y0,rfl,ey0,wy0⟩,⟨_,_,rfl,⟨y1,rfl,ey1,wy1⟩,⟨_,_,rfl,⟨y2,rfl,ey2,wy2⟩,⟨_,_,rfl,⟨y3,rfl,ey3,wy3⟩,⟨_,_,rfl,⟨y4,rfl,ey4,wy4⟩,⟨_,_,rfl,⟨y5,rfl,ey5,wy5⟩,⟨_,_,rfl,⟨y6,rfl,ey6,wy6⟩,⟨_,_,rfl,⟨y7,rfl,ey7,wy7⟩,⟨_,_,rfl,⟨y8,rfl,ey8⟩,rfl⟩⟩⟩⟩⟩⟩⟩⟩⟩:=hc
  exact hb
 obtain ⟨z2_0,z2_1,z2_2,z2_3,z2_4,z2_5,z2_6,z2_7,z2_8,ez2_0,wz2_0,ez2_1,wz2_1,ez2_2,wz2_2,ez2_3,wz2_3,ez2_4,wz2_4,ez2_5,wz2_5,ez2_6,wz2_6,ez2_7,wz2_7,ez2_8,hfam2⟩:∃(z2_0:Nat->List Int) (z2_1:Nat->List Int) (z2_2:Nat->List BA) (z2_3:Nat->List BA) (z2_4:Nat->List BA) (z2_5:Nat->List BA) (z2_6:Nat->List Int) (z2_7:Nat->List Int) (z2_8:Nat->List Bool),(∀i,i<l2->(z2_0 i).length=ns2.getD i 0)/\(∀i,i<l2->∀x∈z2_0 i,(Lit.int .i64 x).wf=true)/\(∀i,i<l2->(z2_1 i).length=ns2.getD i 0)/\(∀i,i<l2->∀x∈z2_1 i,(Lit.int .i64 x).wf=true)/\(∀i,i<l2->(z2_2 i).length=ns2.getD i 0)/\(∀i,i<l2->∀x∈z2_2 i,x.size<=maxLen)/\(∀i,i<l2->(z2_3 i).length=ns2.getD i 0)/\(∀i,i<l2->∀x∈z2_3 i,x.size<=maxLen)/\(∀i,i<l2->(z2_4 i).length=ns2.getD i 0)/\(∀i,i<l2->∀x∈z2_4 i,x.size<=maxLen)/\(∀i,i<l2->(z2_5 i).length=ns2.getD i 0)/\(∀i,i<l2->∀x∈z2_5 i,x.size<=maxLen)/\(∀i,i<l2->(z2_6 i).length=ns2.getD i 0)/\(∀i,i<l2->∀x∈z2_6 i,(Lit.int .i64 x).wf=true)/\(∀i,i<l2->(z2_7 i).length=ns2.getD i 0)/\(∀i,i<l2->∀x∈z2_7 i,(Lit.int .i64 x).wf=true)/\(∀i,i<l2->(z2_8 i).length=ns2.getD i 0)/\∀i,i<l2->∀g:G,BlkAt g (bs2 i) true (.cols (ns2.getD i 0) [.sc (.ints .i64 (z2_0 i)),.sc (.ints .i64 (z2_1 i)),.sc (.strs (z2_2 i)),.sc (.strs (z2_3 i)),.sc (.strs (z2_4 i)),.sc (.strs (z2_5 i)),.sc (.ints .i64 (z2_6 i)),.sc (.ints .i64 (z2_7 i)),.sc (.bools (z2_8 i))]) W:=⟨fun i=>gI 0 (rows2 i),fun i=>gI 1 (rows2 i),fun i=>gS 2 (rows2 i),fun i=>gS 3 (rows2 i),fun i=>gS 4 (rows2 i),fun i=>gS 5 (rows2 i),fun i=>gI 6 (rows2 i),fun i=>gI 7 (rows2 i),fun i=>gB 8 (rows2 i),ez2_0,wz2_0,ez2_1,wz2_1,ez2_2,wz2_2,ez2_3,wz2_3,ez2_4,wz2_4,ez2_5,wz2_5,ez2_6,wz2_6,ez2_7,wz2_7,ez2_8,hfam2⟩
 clear hA0 hval0
 rw [MakeChecks.laidMetH_plain _ _ _ (by kernel_rfl)] at hL
 obtain ⟨ps,⟨gv0,gt0,gc0,gf0,gp0,gq0,hgv0,hgt0,hgc0,hgd0,⟨gv1,gt1,gc1,gf1,gp1,gq1,hgv1,hgt1,hgc1,hgd1,⟨gv2,gt2,gc2,gf2,gp2,gq2,hgv2,hgt2,hgc2,hgd2,⟨gv3,gt3,gc3,gf3,gp3,gq3,hgv3,hgt3,hgc3,hgd3,⟨gv4,gt4,gc4,gf4,gp4,gq4,hgv4,hgt4,hgc4,hgd4,⟨gv5,gt5,gc5,gf5,gp5,gq5,hgv5,hgt5,hgc5,hgd5,⟨gv6,gt6,gc6,gf6,gp6,gq6,hgv6,hgt6,hgc6,hgd6,_,_⟩,_⟩,_⟩,_⟩,_⟩,_⟩,_⟩,_,_⟩:=hL
 obtain rfl:gv0=2:=Option.some.inj (hgv0.symm.trans (by kernel_rfl))
 obtain rfl:gt0=352:=Option.some.inj (hgt0.symm.trans (by kernel_rfl))
 obtain rfl:gv1=3:=Option.some.inj (hgv1.symm.trans (by kernel_rfl))
 obtain rfl:gt1=353:=Option.some.inj (hgt1.symm.trans (by kernel_rfl))
 obtain rfl:gv2=0:=Option.some.inj (hgv2.symm.trans (by kernel_rfl))
 obtain rfl:gt2=306:=Option.some.inj (hgt2.symm.trans (by kernel_rfl))
 obtain rfl:gv3=7:=Option.some.inj (hgv3.symm.trans (by kernel_rfl))
 obtain rfl:gt3=378:=Option.some.inj (hgt3.symm.trans (by kernel_rfl))
 obtain rfl:gv4=5:=Option.some.inj (hgv4.symm.trans (by kernel_rfl))
 obtain rfl:gt4=109:=Option.some.inj (hgt4.symm.trans (by kernel_rfl))
 obtain rfl:gv5=4:=Option.some.inj (hgv5.symm.trans (by kernel_rfl))
 obtain rfl:gt5=109:=Option.some.inj (hgt5.symm.trans (by kernel_rfl))
 obtain rfl:gv6=6:=Option.some.inj (hgv6.symm.trans (by kernel_rfl))
 obtain rfl:gt6=375:=Option.some.inj (hgt6.symm.trans (by kernel_rfl))
 let g:G:=fun h q=>match h,q with|0,q=>some (k1i [(2,1,32),(3,1,64),(0,1,20),(7,2,16),(5,1,1),(4,1,1),(6,1,256)] q)|1,0=>some β0_0|2,0=>some β0_2|3,0=>some β2|4,q=>some (bs2 q)|_,_=>none
 have hgl:g.glob:=fun q=>y0F _ q
 have hup:g.upto 5:=by
  intro h q hh
  simp only [g]
  split<;>first|rfl|(exfalso;omega)
 have hT:∀q,(a0M glT q).isSome=true->∃β,g 0 q=some β/\BlkAt g β true (r0g glT q) W:=by
  intro q hq
  have hq':q=0\/q=2\/q=3\/q=4\/q=5\/q=7:=k1m hq
  rcases hq' with rfl|rfl|rfl|rfl|rfl|rfl
  . exact ⟨_,rfl,g0N (m:=20) (ks:= [.int .u64]) hgv2 hgc2 Tryz.underlying306 (by kernel_rfl) (by kernel_rfl) (by kernel_rfl) (by decide) hgd2 (by kernel_rfl) g⟩
  . exact ⟨_,rfl,g0N (m:=20) (ks:= [.int .u8]) hgv0 hgc0 Tryz.underlying352 (by kernel_rfl) (by kernel_rfl) (by kernel_rfl) (by decide) hgd0 (by kernel_rfl) g⟩
  . exact ⟨_,rfl,g0N (m:=20) (ks:= [.int .u8]) hgv1 hgc1 Tryz.underlying353 (by kernel_rfl) (by kernel_rfl) (by kernel_rfl) (by decide) hgd1 (by kernel_rfl) g⟩
  . exact ⟨_,rfl,s0e (name:="*errors.errorString") hgv5 hgc5 Tryz.underlying109 r1b hgd5 g⟩
  . exact ⟨_,rfl,s0e (name:="*errors.errorString") hgv4 hgc4 Tryz.underlying109 r1a hgd4 g⟩
  . exact ⟨_,rfl,g0N (m:=20) (ks:= [.int .u8,.int .u8]) hgv3 hgc3 Tryz.underlying378 (by kernel_rfl) (by kernel_rfl) (by kernel_rfl) (by decide) hgd3 (by kernel_rfl) g⟩
 obtain ⟨hH,hro⟩:Holds g [(0,some (GB glT)),(1,some (.one true (.cols l0_0 [.sc (.strs q0_0_0)]))),(2,some (.one true (.cols l0_2 [.sc (.ints .i64 q0_2_0)]))),(3,some (.one true (.cols l2 [.own 4 ns2,.sc (.bools q2_1),.sc (.ints .i64 q2_2),.sc (.ints .u64 q2_3)]))),(4,some (.fam true (fun x=>x<l2) (fun x=> .cols (ns2.getD x 0) [.sc (.ints .i64 (z2_0 x)),.sc (.ints .i64 (z2_1 x)),.sc (.strs (z2_2 x)),.sc (.strs (z2_3 x)),.sc (.strs (z2_4 x)),.sc (.strs (z2_5 x)),.sc (.ints .i64 (z2_6 x)),.sc (.ints .i64 (z2_7 x)),.sc (.bools (z2_8 x))])))] W/\∀h q ro b,Ent [(0,some (GB glT)),(1,some (.one true (.cols l0_0 [.sc (.strs q0_0_0)]))),(2,some (.one true (.cols l0_2 [.sc (.ints .i64 q0_2_0)]))),(3,some (.one true (.cols l2 [.own 4 ns2,.sc (.bools q2_1),.sc (.ints .i64 q2_2),.sc (.ints .u64 q2_3)]))),(4,some (.fam true (fun x=>x<l2) (fun x=> .cols (ns2.getD x 0) [.sc (.ints .i64 (z2_0 x)),.sc (.ints .i64 (z2_1 x)),.sc (.strs (z2_2 x)),.sc (.strs (z2_3 x)),.sc (.strs (z2_4 x)),.sc (.strs (z2_5 x)),.sc (.ints .i64 (z2_6 x)),.sc (.ints .i64 (z2_7 x)),.sc (.bools (z2_8 x))])))] h q ro b->ro=true:=e1b hT (by
  intro p hp
  simp only [List.mem_cons,List.not_mem_nil,or_false] at hp
  rcases hp with rfl|rfl|rfl|rfl
  . exact .inl ⟨_,_,rfl,rfl,hB0_0 g⟩
  . exact .inl ⟨_,_,rfl,rfl,hB0_2 g⟩
  . exact .inl ⟨_,_,rfl,rfl,hB2 g (fun i hi=>rfl)⟩
  . exact .inr ⟨_,_,rfl,fun q hq=>⟨_,rfl,hfam2 q hq g⟩⟩)
 have hv:Rvs g [.agg [.sl 1 0 0 l0_0,.str x0_1,.sl 2 0 0 l0_2,.int .i64 x0_3,.int .i64 x0_4],.int .i64 n1,.sl 3 0 0 l2] [.agg #[c0_0,.string x0_1,c0_2,.int .i64 x0_3,.int .i64 x0_4],.int .i64 n1,.slice a2 len2 cap2]:=by
  simp only [Rvs]
  exact ⟨_,_,rfl,(b1k (d0W (hR0_0 _ 1 rfl) (d0W rvt (d0W (hR0_2 _ 2 rfl) (d0W rvi (d0W rvi y0H)))))),⟨_,_,rfl,rvi,⟨_,_,rfl,(hR2 _ 3 0 rfl),rfl⟩⟩⟩
 refine ((booksKeeps_fc l0_0 hl0_0 q0_0_0 eq0_0_0 wq0_0_0 x0_1 hx0_1 l0_2 hl0_2 q0_2_0 eq0_2_0 wq0_2_0 x0_3 hx0_3 x0_4 hx0_4 n1 hw1 l2 hl2 ns2 ens2 (fun i hi=>(hrow2 i hi).1) q2_1 eq2_1 q2_2 eq2_2 wq2_2 q2_3 eq2_3 wq2_3 z2_0 ez2_0 wz2_0 z2_1 ez2_1 wz2_1 z2_2 ez2_2 wz2_2 z2_3 ez2_3 wz2_3 z2_4 ez2_4 wz2_4 z2_5 ez2_5 wz2_5 z2_6 ez2_6 wz2_6 z2_7 ez2_7 wz2_7 z2_8 ez2_8).law ⟨_,_,func3,rfl,by kernel_rfl⟩ hro hgl hup hH hv).mono fun e W' ⟨he,bel⟩=> ?_
 subst he
 exact ⟨_,rfl,_,_,_,[],_,[],hW',trodAll_mk1 (shut_bool Tryz.underlying4 _),(trodAll_cons_mk (Below.trod v0L (by kernel_rfl) (of_decide_eq_true (by kernel_rfl)) h0 bel lt0) (trodAll_cons_mk (Below.trod v0L (by kernel_rfl) (of_decide_eq_true (by kernel_rfl)) h1 bel lt1) (trodAll_cons_mk (Below.trod v0L (by kernel_rfl) (of_decide_eq_true (by kernel_rfl)) h2 bel lt2) trodAll_mk0))),rfl,bel.frame _,fun h=>by cases h⟩
theorem r1R {a b:Bool} (h1:a=true) (h2:b=true):(a&&b)=true:=by rw [h1,h2];rfl
set_option maxHeartbeats 0 in
set_option maxRecDepth 100000 in
theorem p1L:joinedFacts Tryz.pinned.checked.prog 3 Tryz.f3 Rows.booksKeepsSpec Rows.booksKeepsRow=true:=by
 unfold joinedFacts
 repeat' (with_reducible refine r1R ?_ ?_)
 all_goals (as_aux_lemma=>kernel_rfl)
theorem over:Rows.booksKeepsRow.holds Tryz.pinned (OpenSpec.ofChange Rows.booksKeepsSpec):=
 OpenClaim.holds_of_wide 3 Tryz.f3 rfl rfl rfl rfl rfl rfl rfl ⟨rfl,rfl,rfl,rfl,rfl⟩ rfl rfl rfl rfl rfl (by kernel_rfl) func3 p1L
  (of_decide_eq_true (by kernel_rfl)) (by unfold Func.isWrapper;first|(rw [if_pos (by decide+kernel)];kernel_rfl)|(rw [if_neg (by decide+kernel)];exact ⟨rfl,rfl⟩))
  (fun os started H enc _=>p1K os started H enc)
end Go.Proofs.YtmnjebhdclmcfaaGreatDoor.booksKeepsLaw
namespace Go.Proofs.YtmnjebhdclmcfaaGreatDoor
open Go in
theorem booksKeeps_holds:Rows.BooksKeepsCardSaid:=
 Claim7.holds_tied_plain_at .later [] [.data,.data,.data,.data,.sentinel,.sentinel,.pinned] true (true,"025829474b80113d7cf4db423affa9d6cb0fc17a4cff58a9aeecbdaca65f6110") true
  booksKeepsLaw.over (fun _ h=>by cases h) (by as_aux_lemma=>kernel_rfl) (fun _ h=>by cases h) booksKeeps_row_tie rfl ⟨rfl,rfl⟩ (by as_aux_lemma=>kernel_rfl) rfl
  (fun f fn hf hfn=>by
   obtain rfl:f=3:=Option.some.inj ((show prog.funcNamed "cardnet/cardnetlaw50.BooksKeeps"=some 3 by as_aux_lemma=>kernel_rfl).symm.trans hf)|>.symm
   obtain rfl:fn=Tryz.f3:=(Option.some.inj (func3.symm.trans hfn)).symm
   exact ⟨by as_aux_lemma=>kernel_rfl,fun j t ht=>by
    rw [Tryz.params3] at ht
    have hm:t∈[25,3,26]:=by simpa using Array.mem_of_getElem? ht
    have hall:([25,3,26].all fun u=> !prog.wantsStandIn u)=true:=by as_aux_lemma=>kernel_rfl
    exact (show prog.wantsStandIn t=false by simpa using List.all_eq_true.1 hall t hm)⟩)
  (by as_aux_lemma=>kernel_rfl)
end Go.Proofs.YtmnjebhdclmcfaaGreatDoor
