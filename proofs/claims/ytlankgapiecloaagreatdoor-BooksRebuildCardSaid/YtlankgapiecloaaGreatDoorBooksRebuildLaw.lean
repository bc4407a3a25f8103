/- 'cardnet law BooksRebuild' returns true at every input: the statement, from the contract of the law's function. The frame was written by mklaw.py. -/
import Derived.Test.YtlankgapiecloaaGreatDoorRows
import Derived.Test.YtlankgapiecloaaGreatDoorBooksRebuildC
import Derived.Test.YtlankgapiecloaaGreatDoorYLaid
import Derived.Test.YtlankgapiecloaaGreatDoorTie
import Derived.Test.YtlankgapiecloaaGreatDoorCards
import Derived.Test.YtlankgapiecloaaGreatDoorYSize
import Derived.Test.YtlankgapiecloaaGreatDoorYLaid
import Derived.ProofKit
import Derived.OpenShut
import Derived.ShutString
import Derived.ChangeOld
import Derived.Below
import Derived.Carry
import Derived.Lay
import Derived.LaidOnce
import Derived.LaidMore
import Derived.LaidLaws
import Derived.Stop.Joined
import Derived.SevenTiedAt
namespace Go.Proofs.YtlankgapiecloaaGreatDoor.booksRebuildLaw
open Go.ChangeShapes Go.WideShapes Go.ChangeAt Go.RowKit Go.Sy
set_option linter.unusedVariables false
set_option linter.unusedSimpArgs false

theorem own : ownKnob Tryz.prog.godebug = none := by kernel_rfl
theorem laidOut : laidOutB Tryz.prog = true := by kernel_rfl

theorem star_4 : "*" ++ "errors.errorString" = "*errors.errorString" := by decide
theorem row_4 (u : TypeId) (h : Tryz.prog.typeName? 3 u = some "*errors.errorString") : u = 209 :=
  typeName_ptr_named (nm := "errors.errorString") (by rw [star_4]; kernel_rfl) (by kernel_rfl) (by decide) u (by rw [star_4]; exact h)

theorem star_5 : "*" ++ "errors.errorString" = "*errors.errorString" := by decide
theorem row_5 (u : TypeId) (h : Tryz.prog.typeName? 3 u = some "*errors.errorString") : u = 209 :=
  typeName_ptr_named (nm := "errors.errorString") (by rw [star_5]; kernel_rfl) (by kernel_rfl) (by decide) u (by rw [star_5]; exact h)

set_option maxRecDepth 100000 in
theorem lifted (os : Os) (started : os.Started) (H : Type) (enc : TypeId × Value → H) :
    ReturnsInHanded {} Tryz.checked os 3 .any (fun w args => (Rows.booksRebuildSpec.pre enc Tryz.prog Tryz.f3 [] false w args ∧ laidMetH Tryz.prog Rows.booksRebuildRow.laid w) ∧ sizedMet enc Tryz.prog Tryz.f3 (OpenSpec.ofChange Rows.booksRebuildSpec) false w args) (Rows.booksRebuildSpec.post enc Tryz.prog Tryz.f3 false true false false) := by
  refine returnsInHanded_of_change_and (C := Tryz.checked) (X := fun w _ => laidMetH Tryz.prog Rows.booksRebuildRow.laid w) (fun _ _ _ hh h => h.of_heap hh) own started (by kernel_rfl) Tryz.func3
    (ChangeSpec.witness_shaped (enc := enc) (C := Tryz.checked) (os := os) (X := fun w _ => laidMetH Tryz.prog Rows.booksRebuildRow.laid w) false (World.laidAll Tryz.prog os Rows.booksRebuildRow.laid) #[.agg #[.slice none 0 0, .string ⟨#[]⟩, .slice none 0 0, .int .i64 0, .int .i64 0], .slice none 0 0] 8 (World.laidAll_os _ _ _) (World.shaped_of_ZipB (by kernel_rfl) (by kernel_rfl)) (by kernel_rfl) (by kernel_rfl) (by kernel_rfl) (by rw [MakeChecks.laidMetH_plain _ _ _ (by kernel_rfl)]; exact laidMet_laidAll _ (by kernel_rfl) (by kernel_rfl))) ?_
  intro W base args ds gs before hval0 hW _ hsz0 hL _
  have hval : ∀ (j : Nat) t v, Tryz.f3.params[j]? = some t → args[j]? = some v → Value.okWide Tryz.prog W .any base t v := hval0
  have hW' := hW
  obtain ⟨p, q, hA0, hV, rfl, hfz, hnd⟩ := hW
  have hA : DataW.TrodAll enc Tryz.prog W 0 (fun _ => true) true Tryz.f3.params.toList args.toList ds p := hA0
  rw [Tryz.params3] at hA hval
  obtain ⟨v0, vs0, d0, ds0, p0, q0, hargs, rfl, rfl, h0, r0⟩ := trodAll_cons hA
  obtain ⟨v1, vs1, d1, ds1, p1, q1, rfl, rfl, rfl, h1, r1⟩ := trodAll_cons r0
  obtain ⟨rfl, rfl, rfl⟩ := trodAll_nil r1
  obtain rfl : args = #[v0, v1] := by cases args; simp_all
  obtain ⟨rfl, rfl⟩ := trodVars_none hV
  have hsz : (DataW.weightsEach Tryz.prog ((Tryz.f3.params.toList) ++ Rows.booksRebuildSpec.plain.varTypes Tryz.prog) ([d0, d1] ++ [])).all (· ≤ reachBytes) = true := hsz0
  rw [Tryz.params3] at hsz
  have hw0_ : ∀ n ∈ d0.weights Tryz.prog 25, n ≤ reachBytes := fun n hn => by have := List.all_eq_true.1 hsz n (DataW.weights_mem_each (j := 0) (t := 25) (d := d0) rfl rfl n hn); simpa using this
  have hw1_ : ∀ n ∈ d1.weights Tryz.prog 26, n ≤ reachBytes := fun n hn => by have := List.all_eq_true.1 hsz n (DataW.weights_mem_each (j := 1) (t := 26) (d := d1) rfl rfl n hn); simpa using this
  have lt0 : ∀ x ∈ p0, x.block < W.heap.size := by obtain ⟨m, hm⟩ := h0; exact DataW.trod_lt m _ _ _ hm
  have lt1 : ∀ x ∈ p1, x.block < W.heap.size := by obtain ⟨m, hm⟩ := h1; exact DataW.trod_lt m _ _ _ hm
  obtain ⟨cs0, rfl, _⟩ := okWide_struct Tryz.underlying25 (hval 0 25 v0 rfl rfl)
  obtain ⟨fuel0, hf0⟩ := id h0
  obtain ⟨xs0, m0, _, _, hlen0, hxl0, hfs0⟩ := DataW.trod_struct Tryz.underlying25 hf0
  obtain ⟨l0⟩ := cs0
  rw [show Tryz.prog.cellsOf 25 = 5 from by kernel_rfl] at hlen0
  simp only [Value.cells] at hlen0 hfs0
  obtain ⟨c0_0, t0_0, rfl, hlq0_0⟩ := len_cons hlen0
  obtain ⟨c0_1, t0_1, rfl, hlq0_1⟩ := len_cons hlq0_0
  obtain ⟨c0_2, t0_2, rfl, hlq0_2⟩ := len_cons hlq0_1
  obtain ⟨c0_3, t0_3, rfl, hlq0_3⟩ := len_cons hlq0_2
  obtain ⟨c0_4, t0_4, rfl, hlq0_4⟩ := len_cons hlq0_3
  obtain rfl := len_nil hlq0_4
  obtain ⟨y0_0, hy0_0⟩ : ∃ x, xs0[0]? = some x := ⟨_, List.getElem?_eq_getElem (by rw [hxl0]; decide)⟩
  have g0_0 : DataW.trod enc Tryz.prog W 0 (fun _ => true) true m0 22 (List.take (Tryz.prog.cellsOf 22) (List.drop 0 [c0_0, c0_1, c0_2, c0_3, c0_4])) = xs0[0]? := hfs0 0 _ rfl
  rw [hy0_0, show Tryz.prog.cellsOf 22 = 1 from by kernel_rfl] at g0_0
  simp only [List.drop_zero, List.drop_succ_cons, List.take_succ_cons, List.take_zero] at g0_0
  obtain ⟨y0_1, hy0_1⟩ : ∃ x, xs0[1]? = some x := ⟨_, List.getElem?_eq_getElem (by rw [hxl0]; decide)⟩
  have g0_1 : DataW.trod enc Tryz.prog W 0 (fun _ => true) true m0 9 (List.take (Tryz.prog.cellsOf 9) (List.drop 1 [c0_0, c0_1, c0_2, c0_3, c0_4])) = xs0[1]? := hfs0 1 _ rfl
  rw [hy0_1, show Tryz.prog.cellsOf 9 = 1 from by kernel_rfl] at g0_1
  simp only [List.drop_zero, List.drop_succ_cons, List.take_succ_cons, List.take_zero] at g0_1
  obtain ⟨y0_2, hy0_2⟩ : ∃ x, xs0[2]? = some x := ⟨_, List.getElem?_eq_getElem (by rw [hxl0]; decide)⟩
  have g0_2 : DataW.trod enc Tryz.prog W 0 (fun _ => true) true m0 23 (List.take (Tryz.prog.cellsOf 23) (List.drop 2 [c0_0, c0_1, c0_2, c0_3, c0_4])) = xs0[2]? := hfs0 2 _ rfl
  rw [hy0_2, show Tryz.prog.cellsOf 23 = 1 from by kernel_rfl] at g0_2
  simp only [List.drop_zero, List.drop_succ_cons, List.take_succ_cons, List.take_zero] at g0_2
  obtain ⟨y0_3, hy0_3⟩ : ∃ x, xs0[3]? = some x := ⟨_, List.getElem?_eq_getElem (by rw [hxl0]; decide)⟩
  have g0_3 : DataW.trod enc Tryz.prog W 0 (fun _ => true) true m0 3 (List.take (Tryz.prog.cellsOf 3) (List.drop 3 [c0_0, c0_1, c0_2, c0_3, c0_4])) = xs0[3]? := hfs0 3 _ rfl
  rw [hy0_3, show Tryz.prog.cellsOf 3 = 1 from by kernel_rfl] at g0_3
  simp only [List.drop_zero, List.drop_succ_cons, List.take_succ_cons, List.take_zero] at g0_3
  obtain ⟨y0_4, hy0_4⟩ : ∃ x, xs0[4]? = some x := ⟨_, List.getElem?_eq_getElem (by rw [hxl0]; decide)⟩
  have g0_4 : DataW.trod enc Tryz.prog W 0 (fun _ => true) true m0 3 (List.take (Tryz.prog.cellsOf 3) (List.drop 4 [c0_0, c0_1, c0_2, c0_3, c0_4])) = xs0[4]? := hfs0 4 _ rfl
  rw [hy0_4, show Tryz.prog.cellsOf 3 = 1 from by kernel_rfl] at g0_4
  simp only [List.drop_zero, List.drop_succ_cons, List.take_succ_cons, List.take_zero] at g0_4
  obtain ⟨l0_0, β0_0, cols0_0, hl0_0, hcol0_0, hR0_0, hB0_0⟩ := slice_in (m := 20) (ks := [.str]) Tryz.underlying22 (by kernel_rfl) (by kernel_rfl) (by decide) g0_0
  simp only [ColsOk, ColOk] at hcol0_0
  obtain ⟨_, _, rfl, ⟨q0_0_0, rfl, eq0_0_0, wq0_0_0⟩, rfl⟩ := hcol0_0
  obtain ⟨x0_1, e0_1, _, hx0_1⟩ := DataW.trod_string Tryz.underlying9 g0_1
  simp only [List.cons.injEq, and_true] at e0_1; subst e0_1
  obtain ⟨l0_2, β0_2, cols0_2, hl0_2, hcol0_2, hR0_2, hB0_2⟩ := slice_in (m := 20) (ks := [.int .i64]) Tryz.underlying23 (by kernel_rfl) (by kernel_rfl) (by decide) g0_2
  simp only [ColsOk, ColOk] at hcol0_2
  obtain ⟨_, _, rfl, ⟨q0_2_0, rfl, eq0_2_0, wq0_2_0⟩, rfl⟩ := hcol0_2
  obtain ⟨x0_3, e0_3, _, hx0_3⟩ := DataW.trod_int Tryz.underlying3 g0_3
  simp only [List.cons.injEq, and_true] at e0_3; subst e0_3
  obtain ⟨x0_4, e0_4, _, hx0_4⟩ := DataW.trod_int Tryz.underlying3 g0_4
  simp only [List.cons.injEq, and_true] at e0_4; subst e0_4
  obtain ⟨fuel1, hf1⟩ := id h1
  obtain ⟨a1, len1, cap1, rfl⟩ := okWide_slice Tryz.underlying26 (hval 1 26 v1 rfl rfl)
  obtain ⟨l1, β1, cols1, hl1, hcol1, hR1, hB1⟩ := slice_in (m := 20) (ks := [.int .i64, .int .i64, .str, .str, .str, .str, .int .i64, .int .i64, .bool]) Tryz.underlying26 (by kernel_rfl) (by kernel_rfl) (by decide) hf1
  have hok1 := hcol1
  simp only [ColsOk, ColOk] at hcol1
  obtain ⟨_, _, rfl, ⟨q1_0, rfl, eq1_0, wq1_0⟩, _, _, rfl, ⟨q1_1, rfl, eq1_1, wq1_1⟩, _, _, rfl, ⟨q1_2, rfl, eq1_2, wq1_2⟩, _, _, rfl, ⟨q1_3, rfl, eq1_3, wq1_3⟩, _, _, rfl, ⟨q1_4, rfl, eq1_4, wq1_4⟩, _, _, rfl, ⟨q1_5, rfl, eq1_5, wq1_5⟩, _, _, rfl, ⟨q1_6, rfl, eq1_6, wq1_6⟩, _, _, rfl, ⟨q1_7, rfl, eq1_7, wq1_7⟩, _, _, rfl, ⟨q1_8, rfl, eq1_8⟩, rfl⟩ := hcol1
  have vq1_2 : ∀ x ∈ q1_2, x.size ≤ reachBytes := slice_sized (m := 20) (ks := [.int .i64, .int .i64, .str, .str, .str, .str, .int .i64, .int .i64, .bool]) Tryz.underlying26 (by kernel_rfl) (by kernel_rfl) (by decide) hf1 hw1_ hok1 hR1 hB1 2 q1_2 rfl eq1_2
  have vq1_3 : ∀ x ∈ q1_3, x.size ≤ reachBytes := slice_sized (m := 20) (ks := [.int .i64, .int .i64, .str, .str, .str, .str, .int .i64, .int .i64, .bool]) Tryz.underlying26 (by kernel_rfl) (by kernel_rfl) (by decide) hf1 hw1_ hok1 hR1 hB1 3 q1_3 rfl eq1_3
  have vq1_4 : ∀ x ∈ q1_4, x.size ≤ reachBytes := slice_sized (m := 20) (ks := [.int .i64, .int .i64, .str, .str, .str, .str, .int .i64, .int .i64, .bool]) Tryz.underlying26 (by kernel_rfl) (by kernel_rfl) (by decide) hf1 hw1_ hok1 hR1 hB1 4 q1_4 rfl eq1_4
  have vq1_5 : ∀ x ∈ q1_5, x.size ≤ reachBytes := slice_sized (m := 20) (ks := [.int .i64, .int .i64, .str, .str, .str, .str, .int .i64, .int .i64, .bool]) Tryz.underlying26 (by kernel_rfl) (by kernel_rfl) (by decide) hf1 hw1_ hok1 hR1 hB1 5 q1_5 rfl eq1_5
  clear hA0 hval0
  rw [MakeChecks.laidMetH_plain _ _ _ (by kernel_rfl)] at hL
  obtain ⟨ps, ⟨gv0, gt0, gc0, gf0, gp0, gq0, hgv0, hgt0, hgc0, hgd0, ⟨gv1, gt1, gc1, gf1, gp1, gq1, hgv1, hgt1, hgc1, hgd1, ⟨gv2, gt2, gc2, gf2, gp2, gq2, hgv2, hgt2, hgc2, hgd2, ⟨gv3, gt3, gc3, gf3, gp3, gq3, hgv3, hgt3, hgc3, hgd3, ⟨gv4, gt4, gc4, gf4, gp4, gq4, hgv4, hgt4, hgc4, hgd4, ⟨gv5, gt5, gc5, gf5, gp5, gq5, hgv5, hgt5, hgc5, hgd5, ⟨gv6, gt6, gc6, gf6, gp6, gq6, hgv6, hgt6, hgc6, hgd6, _, _⟩, _⟩, _⟩, _⟩, _⟩, _⟩, _⟩, _, _⟩ := hL
  obtain rfl : gv0 = 4 := Option.some.inj (hgv0.symm.trans (by kernel_rfl))
  obtain rfl : gt0 = 197 := Option.some.inj (hgt0.symm.trans (by kernel_rfl))
  obtain rfl : gv1 = 5 := Option.some.inj (hgv1.symm.trans (by kernel_rfl))
  obtain rfl : gt1 = 198 := Option.some.inj (hgt1.symm.trans (by kernel_rfl))
  obtain rfl : gv2 = 0 := Option.some.inj (hgv2.symm.trans (by kernel_rfl))
  obtain rfl : gt2 = 160 := Option.some.inj (hgt2.symm.trans (by kernel_rfl))
  obtain rfl : gv3 = 7 := Option.some.inj (hgv3.symm.trans (by kernel_rfl))
  obtain rfl : gt3 = 206 := Option.some.inj (hgt3.symm.trans (by kernel_rfl))
  obtain rfl : gv4 = 3 := Option.some.inj (hgv4.symm.trans (by kernel_rfl))
  obtain rfl : gt4 = 79 := Option.some.inj (hgt4.symm.trans (by kernel_rfl))
  obtain rfl : gv5 = 2 := Option.some.inj (hgv5.symm.trans (by kernel_rfl))
  obtain rfl : gt5 = 79 := Option.some.inj (hgt5.symm.trans (by kernel_rfl))
  obtain rfl : gv6 = 6 := Option.some.inj (hgv6.symm.trans (by kernel_rfl))
  obtain rfl : gt6 = 203 := Option.some.inj (hgt6.symm.trans (by kernel_rfl))
  let g : G := fun h q => match h, q with | 0, q => some (gbase [(4, 1, 32), (5, 1, 64), (0, 1, 20), (7, 2, 16), (3, 1, 1), (2, 1, 1), (6, 1, 256)] q) | 1, 0 => some β0_0 | 2, 0 => some β0_2 | 3, 0 => some β1 | _, _ => none
  have hgl : g.glob := fun q => gbase_glob _ q
  have hup : g.upto 4 := by
    intro h q hh
    simp only [g]
    split <;> first | rfl | (exfalso; omega)
  have hT : ∀ q, (aget glT q).isSome = true → ∃ β, g 0 q = some β ∧ BlkAt g β true (gblk glT q) W := by
    intro q hq
    have hq' : q = 0 ∨ q = 2 ∨ q = 3 ∨ q = 4 ∨ q = 5 ∨ q = 7 := gl_keys hq
    rcases hq' with rfl | rfl | rfl | rfl | rfl | rfl
    · exact ⟨_, rfl, laid_table (m := 20) (ks := [.int .u64]) hgv2 hgc2 Tryz.underlying160 (by kernel_rfl) (by kernel_rfl) (by kernel_rfl) (by decide) hgd2 (by kernel_rfl) g⟩
    · exact ⟨_, rfl, laid_sent (name := "*errors.errorString") hgv5 hgc5 Tryz.underlying79 row_5 hgd5 g⟩
    · exact ⟨_, rfl, laid_sent (name := "*errors.errorString") hgv4 hgc4 Tryz.underlying79 row_4 hgd4 g⟩
    · exact ⟨_, rfl, laid_table (m := 20) (ks := [.int .u8]) hgv0 hgc0 Tryz.underlying197 (by kernel_rfl) (by kernel_rfl) (by kernel_rfl) (by decide) hgd0 (by kernel_rfl) g⟩
    · exact ⟨_, rfl, laid_table (m := 20) (ks := [.int .u8]) hgv1 hgc1 Tryz.underlying198 (by kernel_rfl) (by kernel_rfl) (by kernel_rfl) (by decide) hgd1 (by kernel_rfl) g⟩
    · exact ⟨_, rfl, laid_table (m := 20) (ks := [.int .u8, .int .u8]) hgv3 hgc3 Tryz.underlying206 (by kernel_rfl) (by kernel_rfl) (by kernel_rfl) (by decide) hgd3 (by kernel_rfl) g⟩
  obtain ⟨hH, hro⟩ : Holds g [(0, some (GB glT)), (1, some (.one true (.cols l0_0 [.sc (.strs q0_0_0)]))), (2, some (.one true (.cols l0_2 [.sc (.ints .i64 q0_2_0)]))), (3, some (.one true (.cols l1 [.sc (.ints .i64 q1_0), .sc (.ints .i64 q1_1), .sc (.strs q1_2), .sc (.strs q1_3), .sc (.strs q1_4), .sc (.strs q1_5), .sc (.ints .i64 q1_6), .sc (.ints .i64 q1_7), .sc (.bools q1_8)])))] W ∧ ∀ h q ro b, Ent [(0, some (GB glT)), (1, some (.one true (.cols l0_0 [.sc (.strs q0_0_0)]))), (2, some (.one true (.cols l0_2 [.sc (.ints .i64 q0_2_0)]))), (3, some (.one true (.cols l1 [.sc (.ints .i64 q1_0), .sc (.ints .i64 q1_1), .sc (.strs q1_2), .sc (.strs q1_3), .sc (.strs q1_4), .sc (.strs q1_5), .sc (.ints .i64 q1_6), .sc (.ints .i64 q1_7), .sc (.bools q1_8)])))] h q ro b → ro = true := holds_gl hT (by
    intro p hp
    simp only [List.mem_cons, List.not_mem_nil, or_false] at hp
    rcases hp with rfl | rfl | rfl
    · exact ⟨Nat.succ_ne_zero _, _, _, rfl, rfl, hB0_0 g⟩
    · exact ⟨Nat.succ_ne_zero _, _, _, rfl, rfl, hB0_2 g⟩
    · exact ⟨Nat.succ_ne_zero _, _, _, rfl, rfl, hB1 g⟩)
  have hv : Rvs g [.agg [.sl 1 0 0 l0_0, .str x0_1, .sl 2 0 0 l0_2, .int .i64 x0_3, .int .i64 x0_4], .sl 3 0 0 l1] [.agg #[c0_0, .string x0_1, c0_2, .int .i64 x0_3, .int .i64 x0_4], .slice a1 len1 cap1] := by
    simp only [Rvs]
    exact ⟨_, _, rfl, (rv_agg_mk (rvs_cons_mk (hR0_0 _ 1 rfl) (rvs_cons_mk rvt (rvs_cons_mk (hR0_2 _ 2 rfl) (rvs_cons_mk rvi (rvs_cons_mk rvi rvs_nil_mk)))))), ⟨_, _, rfl, (hR1 _ 3 rfl), rfl⟩⟩
  refine ((booksRebuild_fc l0_0 hl0_0 q0_0_0 eq0_0_0 wq0_0_0 x0_1 hx0_1 l0_2 hl0_2 q0_2_0 eq0_2_0 wq0_2_0 x0_3 hx0_3 x0_4 hx0_4 l1 hl1 q1_0 eq1_0 wq1_0 q1_1 eq1_1 wq1_1 q1_2 eq1_2 vq1_2 q1_3 eq1_3 vq1_3 q1_4 eq1_4 vq1_4 q1_5 eq1_5 vq1_5 q1_6 eq1_6 wq1_6 q1_7 eq1_7 wq1_7 q1_8 eq1_8).law ⟨_, _, Tryz.func3, rfl, by kernel_rfl⟩ hro hgl hup hH hv).mono fun e W' ⟨he, bel⟩ => ?_
  subst he
  exact ⟨_, rfl, _, _, _, [], _, [], hW', trodAll_mk1 (shut_bool Tryz.underlying4 _), (trodAll_cons_mk (Below.trod laidOut (by kernel_rfl) (of_decide_eq_true (by kernel_rfl)) h0 bel lt0) (trodAll_cons_mk (Below.trod laidOut (by kernel_rfl) (of_decide_eq_true (by kernel_rfl)) h1 bel lt1) trodAll_mk0)), rfl, bel.frame _, fun h => by cases h⟩

theorem andI {a b : Bool} (h1 : a = true) (h2 : b = true) : (a && b) = true := by rw [h1, h2]; rfl
set_option maxHeartbeats 0 in
set_option maxRecDepth 100000 in
theorem closed : joinedFacts Tryz.pinned.checked.prog 3 Tryz.f3 Rows.booksRebuildSpec Rows.booksRebuildRow = true := by
  unfold joinedFacts
  repeat' (with_reducible refine andI ?_ ?_)
  all_goals (as_aux_lemma => kernel_rfl)
theorem over : Rows.booksRebuildRow.holds Tryz.pinned (OpenSpec.ofChange Rows.booksRebuildSpec) :=
  OpenClaim.holds_of_wide 3 Tryz.f3 rfl rfl rfl rfl rfl rfl rfl ⟨rfl, rfl, rfl, rfl, rfl⟩ rfl rfl rfl rfl rfl (by kernel_rfl) Tryz.func3 closed
    (of_decide_eq_true (by kernel_rfl)) (by unfold Func.isWrapper; first | (rw [if_pos (by decide +kernel)]; kernel_rfl) | (rw [if_neg (by decide +kernel)]; exact ⟨rfl, rfl⟩))
    (fun os started H enc _ => lifted os started H enc)
end Go.Proofs.YtlankgapiecloaaGreatDoor.booksRebuildLaw
namespace Go.Proofs.YtlankgapiecloaaGreatDoor
open Go in
theorem booksRebuild_holds : Rows.BooksRebuildCardSaid :=
  Claim7.holds_tied_plain_at .later [] [.data, .data, .data, .data, .sentinel, .sentinel, .pinned] true (true, "dfe748f39d0d85d54516f7fd6320b7660e38bb31944988fcd8ebdcbfc94054b1") true
    booksRebuildLaw.over (fun _ h => by cases h) (by kernel_rfl) (fun _ h => by cases h) booksRebuild_row_tie rfl ⟨rfl, rfl⟩ (by kernel_rfl) rfl
    (fun f fn hf hfn => by
      obtain rfl : f = 3 := Option.some.inj ((show Tryz.prog.funcNamed "cardnet/cardnetlaw50.BooksRebuild" = some 3 by kernel_rfl).symm.trans hf) |>.symm
      obtain rfl : fn = Tryz.f3 := (Option.some.inj (Tryz.func3.symm.trans hfn)).symm
      exact ⟨by kernel_rfl, fun j t ht => by
        rw [Tryz.params3] at ht
        have hm : t ∈ [25, 26] := by simpa using Array.mem_of_getElem? ht
        have hall : ([25, 26].all fun u => !Tryz.prog.wantsStandIn u) = true := by kernel_rfl
        exact (show Tryz.prog.wantsStandIn t = false by simpa using List.all_eq_true.1 hall t hm)⟩)
    (by kernel_rfl)
end Go.Proofs.YtlankgapiecloaaGreatDoor
