/- 'cardnet law LedgerReverses' returns true at every input: the statement, from the contract of the law's function. The frame was written by mklaw.py. -/
import Derived.Test.YtjjnbhbendlnhaaDoorRows
import Derived.Test.YtjjnbhbendlnhaaDoorLedgerReversesC
import Derived.Test.YtjjnbhbendlnhaaDoorYLaid2
import Derived.Test.YtjjnbhbendlnhaaDoorYLaid
import Derived.Test.YtjjnbhbendlnhaaDoorTie
import Derived.Test.YtjjnbhbendlnhaaDoorCards
import Derived.Test.YtjjnbhbendlnhaaDoorYLaid
import Derived.ProofKit
import Derived.OpenShut
import Derived.ShutString
import Derived.ChangeOld
import Derived.Below
import Derived.Carry
import Derived.LaidMore
import Derived.LaidLaws
import Derived.Stop.Joined
import Derived.SevenTiedAt
namespace Go.Proofs.YtjjnbhbendlnhaaDoor.ledgerReversesLaw
open Go.ChangeShapes Go.WideShapes Go.ChangeAt Go.RowKit Go.Sy
set_option linter.unusedVariables false
set_option linter.unusedSimpArgs false

theorem own : ownKnob Tryd.prog.godebug = none := by kernel_rfl
theorem laidOut : laidOutB Tryd.prog = true := by kernel_rfl

theorem door_met (os : Os) (args : Array Value) : laidMetH Tryd.prog Rows.ledgerReversesRow.laid ((World.doorLaid Tryd.prog 400 os).forCall (fun _ _ => 0) ⟨#[], args, []⟩).memory :=
  laidMetH_of_parts3 (fuel := 8) (laidMet_of_run' 8 (by kernel_rfl) (by kernel_rfl)) (by kernel_rfl) (by kernel_rfl)

set_option maxRecDepth 100000 in
theorem lifted (os : Os) (started : os.Started) (H : Type) (enc : TypeId × Value → H) :
    ReturnsInHanded {} Tryd.checked os 5 .any (fun w args => (Rows.ledgerReversesSpec.pre enc Tryd.prog Tryd.f5 [] false w args ∧ laidMetH Tryd.prog Rows.ledgerReversesRow.laid w) ∧ sizedMet enc Tryd.prog Tryd.f5 (OpenSpec.ofChange Rows.ledgerReversesSpec) false w args) (Rows.ledgerReversesSpec.post enc Tryd.prog Tryd.f5 false true false false) := by
  refine returnsInHanded_of_change_and (C := Tryd.checked) (X := fun w _ => laidMetH Tryd.prog Rows.ledgerReversesRow.laid w) (fun _ _ _ hh h => h.of_heap hh) own started (by kernel_rfl) Tryd.func5
    (ChangeSpec.witness_shaped (enc := enc) (C := Tryd.checked) (os := os) (X := fun w _ => laidMetH Tryd.prog Rows.ledgerReversesRow.laid w) false (World.doorLaid Tryd.prog 400 os) #[.slice none 0 0, .slice none 0 0, .agg #[.string ⟨#[]⟩, .int .i64 0, .slice none 0 0]] 8 rfl (World.shaped_of_RefB (by kernel_rfl) (by kernel_rfl)) (by kernel_rfl) (by kernel_rfl) (by kernel_rfl) (door_met os _)) ?_
  intro W base args ds gs before hval0 hW _ _ hL _
  have hval : ∀ (j : Nat) t v, Tryd.f5.params[j]? = some t → args[j]? = some v → Value.okWide Tryd.prog W .any base t v := hval0
  have hW' := hW
  obtain ⟨p, q, hA0, hV, rfl, hfz, hnd⟩ := hW
  have hA : DataW.TrodAll enc Tryd.prog W 0 (fun _ => true) true Tryd.f5.params.toList args.toList ds p := hA0
  rw [Tryd.params5] at hA hval
  obtain ⟨v0, vs0, d0, ds0, p0, q0, hargs, rfl, rfl, h0, r0⟩ := trodAll_cons hA
  obtain ⟨v1, vs1, d1, ds1, p1, q1, rfl, rfl, rfl, h1, r1⟩ := trodAll_cons r0
  obtain ⟨v2, vs2, d2, ds2, p2, q2, rfl, rfl, rfl, h2, r2⟩ := trodAll_cons r1
  obtain ⟨rfl, rfl, rfl⟩ := trodAll_nil r2
  obtain rfl : args = #[v0, v1, v2] := by cases args; simp_all
  obtain ⟨rfl, rfl⟩ := trodVars_none hV
  have lt0 : ∀ x ∈ p0, x.block < W.heap.size := by obtain ⟨m, hm⟩ := h0; exact DataW.trod_lt m _ _ _ hm
  have lt1 : ∀ x ∈ p1, x.block < W.heap.size := by obtain ⟨m, hm⟩ := h1; exact DataW.trod_lt m _ _ _ hm
  have lt2 : ∀ x ∈ p2, x.block < W.heap.size := by obtain ⟨m, hm⟩ := h2; exact DataW.trod_lt m _ _ _ hm
  obtain ⟨fuel0, hf0⟩ := id h0
  obtain ⟨a0, len0, cap0, rfl⟩ := okWide_slice Tryd.underlying22 (hval 0 22 v0 rfl rfl)
  obtain ⟨l0, β0, cols0, hl0, hcol0, hR0, hB0⟩ := slice_in (m := 20) (ks := [.str]) Tryd.underlying22 (by kernel_rfl) (by kernel_rfl) (by decide) hf0
  simp only [ColsOk, ColOk] at hcol0
  obtain ⟨_, _, rfl, ⟨q0_0, rfl, eq0_0, wq0_0⟩, rfl⟩ := hcol0
  obtain ⟨fuel1, hf1⟩ := id h1
  obtain ⟨a1, len1, cap1, rfl⟩ := okWide_slice Tryd.underlying42 (hval 1 42 v1 rfl rfl)
  obtain ⟨l1, β1, ns1, rows1, bs1, cols1, hl1, ens1, hcol1, hrow1, hR1, hB1⟩ := slice2_in (m := 20) (ks := [.sc (.str), .sc (.int .i64), .sl [.str, .int .i64, .str], .sc (.str)]) 3 2 [.str, .int .i64, .str] rfl rfl Tryd.underlying42 (by kernel_rfl) (by kernel_rfl) hf1
  simp only [Bc2Ok, ColOk] at hcol1
  obtain ⟨_, _, rfl, ⟨q1_0, rfl, eq1_0, wq1_0⟩, ⟨_, _, rfl, ⟨q1_1, rfl, eq1_1, wq1_1⟩, ⟨_, rfl, ⟨_, _, rfl, ⟨q1_3, rfl, eq1_3, wq1_3⟩, rfl⟩⟩⟩⟩ := hcol1
  have ez1_0 : ∀ i, i < l1 → (gS 0 (rows1 i)).length = ns1.getD i 0 := by
    intro i hi
    have hc := (hrow1 i hi).2.1
    generalize rows1 i = R at hc ⊢
    simp only [ColsOk, ColOk] at hc
    obtain ⟨_, _, rfl, ⟨y0, rfl, ey0, wy0⟩, ⟨_, _, rfl, ⟨y1, rfl, ey1, wy1⟩, ⟨_, _, rfl, ⟨y2, rfl, ey2, wy2⟩, rfl⟩⟩⟩ := hc
    exact ey0
  have wz1_0 : ∀ i, i < l1 → ∀ x ∈ (gS 0 (rows1 i)), x.size ≤ maxLen := by
    intro i hi
    have hc := (hrow1 i hi).2.1
    generalize rows1 i = R at hc ⊢
    simp only [ColsOk, ColOk] at hc
    obtain ⟨_, _, rfl, ⟨y0, rfl, ey0, wy0⟩, ⟨_, _, rfl, ⟨y1, rfl, ey1, wy1⟩, ⟨_, _, rfl, ⟨y2, rfl, ey2, wy2⟩, rfl⟩⟩⟩ := hc
    exact wy0
  have ez1_1 : ∀ i, i < l1 → (gI 1 (rows1 i)).length = ns1.getD i 0 := by
    intro i hi
    have hc := (hrow1 i hi).2.1
    generalize rows1 i = R at hc ⊢
    simp only [ColsOk, ColOk] at hc
    obtain ⟨_, _, rfl, ⟨y0, rfl, ey0, wy0⟩, ⟨_, _, rfl, ⟨y1, rfl, ey1, wy1⟩, ⟨_, _, rfl, ⟨y2, rfl, ey2, wy2⟩, rfl⟩⟩⟩ := hc
    exact ey1
  have wz1_1 : ∀ i, i < l1 → ∀ x ∈ (gI 1 (rows1 i)), (Lit.int .i64 x).wf = true := by
    intro i hi
    have hc := (hrow1 i hi).2.1
    generalize rows1 i = R at hc ⊢
    simp only [ColsOk, ColOk] at hc
    obtain ⟨_, _, rfl, ⟨y0, rfl, ey0, wy0⟩, ⟨_, _, rfl, ⟨y1, rfl, ey1, wy1⟩, ⟨_, _, rfl, ⟨y2, rfl, ey2, wy2⟩, rfl⟩⟩⟩ := hc
    exact wy1
  have ez1_2 : ∀ i, i < l1 → (gS 2 (rows1 i)).length = ns1.getD i 0 := by
    intro i hi
    have hc := (hrow1 i hi).2.1
    generalize rows1 i = R at hc ⊢
    simp only [ColsOk, ColOk] at hc
    obtain ⟨_, _, rfl, ⟨y0, rfl, ey0, wy0⟩, ⟨_, _, rfl, ⟨y1, rfl, ey1, wy1⟩, ⟨_, _, rfl, ⟨y2, rfl, ey2, wy2⟩, rfl⟩⟩⟩ := hc
    exact ey2
  have wz1_2 : ∀ i, i < l1 → ∀ x ∈ (gS 2 (rows1 i)), x.size ≤ maxLen := by
    intro i hi
    have hc := (hrow1 i hi).2.1
    generalize rows1 i = R at hc ⊢
    simp only [ColsOk, ColOk] at hc
    obtain ⟨_, _, rfl, ⟨y0, rfl, ey0, wy0⟩, ⟨_, _, rfl, ⟨y1, rfl, ey1, wy1⟩, ⟨_, _, rfl, ⟨y2, rfl, ey2, wy2⟩, rfl⟩⟩⟩ := hc
    exact wy2
  have hfam1 : ∀ i, i < l1 → ∀ g : G, BlkAt g (bs1 i) true (.cols (ns1.getD i 0) [.sc (.strs (gS 0 (rows1 i))), .sc (.ints .i64 (gI 1 (rows1 i))), .sc (.strs (gS 2 (rows1 i)))]) W := by
    intro i hi g
    have hc := (hrow1 i hi).2.1
    have hb := (hrow1 i hi).2.2 g
    generalize rows1 i = R at hc hb ⊢
    simp only [ColsOk, ColOk] at hc
    obtain ⟨_, _, rfl, ⟨y0, rfl, ey0, wy0⟩, ⟨_, _, rfl, ⟨y1, rfl, ey1, wy1⟩, ⟨_, _, rfl, ⟨y2, rfl, ey2, wy2⟩, rfl⟩⟩⟩ := hc
    exact hb
  obtain ⟨z1_0, z1_1, z1_2, ez1_0, wz1_0, ez1_1, wz1_1, ez1_2, wz1_2, hfam1⟩ : ∃ (z1_0 : Nat → List ByteArray) (z1_1 : Nat → List Int) (z1_2 : Nat → List ByteArray), (∀ i, i < l1 → (z1_0 i).length = ns1.getD i 0) ∧ (∀ i, i < l1 → ∀ x ∈ z1_0 i, x.size ≤ maxLen) ∧ (∀ i, i < l1 → (z1_1 i).length = ns1.getD i 0) ∧ (∀ i, i < l1 → ∀ x ∈ z1_1 i, (Lit.int .i64 x).wf = true) ∧ (∀ i, i < l1 → (z1_2 i).length = ns1.getD i 0) ∧ (∀ i, i < l1 → ∀ x ∈ z1_2 i, x.size ≤ maxLen) ∧ ∀ i, i < l1 → ∀ g : G, BlkAt g (bs1 i) true (.cols (ns1.getD i 0) [.sc (.strs (z1_0 i)), .sc (.ints .i64 (z1_1 i)), .sc (.strs (z1_2 i))]) W := ⟨fun i => gS 0 (rows1 i), fun i => gI 1 (rows1 i), fun i => gS 2 (rows1 i), ez1_0, wz1_0, ez1_1, wz1_1, ez1_2, wz1_2, hfam1⟩
  obtain ⟨cs2, rfl, _⟩ := okWide_struct Tryd.underlying36 (hval 2 36 v2 rfl rfl)
  obtain ⟨fuel2, hf2⟩ := id h2
  obtain ⟨xs2, m2, _, _, hlen2, hxl2, hfs2⟩ := DataW.trod_struct Tryd.underlying36 hf2
  obtain ⟨l2⟩ := cs2
  rw [show Tryd.prog.cellsOf 36 = 3 from by kernel_rfl] at hlen2
  simp only [Value.cells] at hlen2 hfs2
  obtain ⟨c2_0, t2_0, rfl, hlq2_0⟩ := len_cons hlen2
  obtain ⟨c2_1, t2_1, rfl, hlq2_1⟩ := len_cons hlq2_0
  obtain ⟨c2_2, t2_2, rfl, hlq2_2⟩ := len_cons hlq2_1
  obtain rfl := len_nil hlq2_2
  obtain ⟨y2_0, hy2_0⟩ : ∃ x, xs2[0]? = some x := ⟨_, List.getElem?_eq_getElem (by rw [hxl2]; decide)⟩
  have g2_0 : DataW.trod enc Tryd.prog W 0 (fun _ => true) true m2 9 (List.take (Tryd.prog.cellsOf 9) (List.drop 0 [c2_0, c2_1, c2_2])) = xs2[0]? := hfs2 0 _ rfl
  rw [hy2_0, show Tryd.prog.cellsOf 9 = 1 from by kernel_rfl] at g2_0
  simp only [List.drop_zero, List.drop_succ_cons, List.take_succ_cons, List.take_zero] at g2_0
  obtain ⟨y2_1, hy2_1⟩ : ∃ x, xs2[1]? = some x := ⟨_, List.getElem?_eq_getElem (by rw [hxl2]; decide)⟩
  have g2_1 : DataW.trod enc Tryd.prog W 0 (fun _ => true) true m2 3 (List.take (Tryd.prog.cellsOf 3) (List.drop 1 [c2_0, c2_1, c2_2])) = xs2[1]? := hfs2 1 _ rfl
  rw [hy2_1, show Tryd.prog.cellsOf 3 = 1 from by kernel_rfl] at g2_1
  simp only [List.drop_zero, List.drop_succ_cons, List.take_succ_cons, List.take_zero] at g2_1
  obtain ⟨y2_2, hy2_2⟩ : ∃ x, xs2[2]? = some x := ⟨_, List.getElem?_eq_getElem (by rw [hxl2]; decide)⟩
  have g2_2 : DataW.trod enc Tryd.prog W 0 (fun _ => true) true m2 34 (List.take (Tryd.prog.cellsOf 34) (List.drop 2 [c2_0, c2_1, c2_2])) = xs2[2]? := hfs2 2 _ rfl
  rw [hy2_2, show Tryd.prog.cellsOf 34 = 1 from by kernel_rfl] at g2_2
  simp only [List.drop_zero, List.drop_succ_cons, List.take_succ_cons, List.take_zero] at g2_2
  obtain ⟨x2_0, e2_0, _, hx2_0⟩ := DataW.trod_string Tryd.underlying9 g2_0
  simp only [List.cons.injEq, and_true] at e2_0; subst e2_0
  obtain ⟨x2_1, e2_1, _, hx2_1⟩ := DataW.trod_int Tryd.underlying3 g2_1
  simp only [List.cons.injEq, and_true] at e2_1; subst e2_1
  obtain ⟨l2_2, β2_2, cols2_2, hl2_2, hcol2_2, hR2_2, hB2_2⟩ := slice_in (m := 20) (ks := [.str, .int .i64, .str]) Tryd.underlying34 (by kernel_rfl) (by kernel_rfl) (by decide) g2_2
  simp only [ColsOk, ColOk] at hcol2_2
  obtain ⟨_, _, rfl, ⟨q2_2_0, rfl, eq2_2_0, wq2_2_0⟩, _, _, rfl, ⟨q2_2_1, rfl, eq2_2_1, wq2_2_1⟩, _, _, rfl, ⟨q2_2_2, rfl, eq2_2_2, wq2_2_2⟩, rfl⟩ := hcol2_2
  clear hA0 hval0
  rw [MakeChecks.laidMetH_plain _ _ _ (by kernel_rfl)] at hL
  obtain ⟨ps, ⟨gv0, gt0, gc0, gf0, gp0, gq0, hgv0, hgt0, hgc0, hgd0, ⟨gv1, gt1, gc1, gf1, gp1, gq1, hgv1, hgt1, hgc1, hgd1, ⟨gv2, gt2, gc2, gf2, gp2, gq2, hgv2, hgt2, hgc2, hgd2, _, _⟩, _⟩, _⟩, _, _⟩ := hL
  obtain rfl : gv0 = 1 := Option.some.inj (hgv0.symm.trans (by kernel_rfl))
  obtain rfl : gt0 = 127 := Option.some.inj (hgt0.symm.trans (by kernel_rfl))
  obtain rfl : gv1 = 2 := Option.some.inj (hgv1.symm.trans (by kernel_rfl))
  obtain rfl : gt1 = 128 := Option.some.inj (hgt1.symm.trans (by kernel_rfl))
  obtain rfl : gv2 = 0 := Option.some.inj (hgv2.symm.trans (by kernel_rfl))
  obtain rfl : gt2 = 116 := Option.some.inj (hgt2.symm.trans (by kernel_rfl))
  let g : G := fun h q => match h, q with | 0, q => some (gbase [(1, 1, 32), (2, 1, 64), (0, 1, 20)] q) | 1, 0 => some β0 | 2, 0 => some β1 | 3, q => some (bs1 q) | 4, 0 => some β2_2 | _, _ => none
  have hgl : g.glob := fun q => gbase_glob _ q
  have hup : g.upto 5 := by
    intro h q hh
    simp only [g]
    split <;> first | rfl | (exfalso; omega)
  have hT : ∀ q, (aget glT q).isSome = true → ∃ β, g 0 q = some β ∧ BlkAt g β true (gblk glT q) W := by
    intro q hq
    have hq' : q = 0 ∨ q = 1 ∨ q = 2 := gl_keys hq
    rcases hq' with rfl | rfl | rfl
    · exact ⟨_, rfl, laid_table (m := 20) (ks := [.int .u64]) hgv2 hgc2 Tryd.underlying116 (by kernel_rfl) (by kernel_rfl) (by kernel_rfl) (by decide) hgd2 (by kernel_rfl) g⟩
    · exact ⟨_, rfl, laid_table (m := 20) (ks := [.int .u8]) hgv0 hgc0 Tryd.underlying127 (by kernel_rfl) (by kernel_rfl) (by kernel_rfl) (by decide) hgd0 (by kernel_rfl) g⟩
    · exact ⟨_, rfl, laid_table (m := 20) (ks := [.int .u8]) hgv1 hgc1 Tryd.underlying128 (by kernel_rfl) (by kernel_rfl) (by kernel_rfl) (by decide) hgd1 (by kernel_rfl) g⟩
  obtain ⟨hH, hro⟩ : Holds g [(0, some (GB glT)), (1, some (.one true (.cols l0 [.sc (.strs q0_0)]))), (2, some (.one true (.cols l1 [.sc (.strs q1_0), .sc (.ints .i64 q1_1), .own 3 ns1, .sc (.strs q1_3)]))), (3, some (.fam true (fun x => x < l1) (fun x => .cols (ns1.getD x 0) [.sc (.strs (z1_0 x)), .sc (.ints .i64 (z1_1 x)), .sc (.strs (z1_2 x))]))), (4, some (.one true (.cols l2_2 [.sc (.strs q2_2_0), .sc (.ints .i64 q2_2_1), .sc (.strs q2_2_2)])))] W ∧ ∀ h q ro b, Ent [(0, some (GB glT)), (1, some (.one true (.cols l0 [.sc (.strs q0_0)]))), (2, some (.one true (.cols l1 [.sc (.strs q1_0), .sc (.ints .i64 q1_1), .own 3 ns1, .sc (.strs q1_3)]))), (3, some (.fam true (fun x => x < l1) (fun x => .cols (ns1.getD x 0) [.sc (.strs (z1_0 x)), .sc (.ints .i64 (z1_1 x)), .sc (.strs (z1_2 x))]))), (4, some (.one true (.cols l2_2 [.sc (.strs q2_2_0), .sc (.ints .i64 q2_2_1), .sc (.strs q2_2_2)])))] h q ro b → ro = true := holds_gl2 hT (by
    intro p hp
    simp only [List.mem_cons, List.not_mem_nil, or_false] at hp
    rcases hp with rfl | rfl | rfl | rfl
    · exact .inl ⟨_, _, rfl, rfl, hB0 g⟩
    · exact .inl ⟨_, _, rfl, rfl, hB1 g (fun i hi => rfl)⟩
    · exact .inr ⟨_, _, rfl, fun q hq => ⟨_, rfl, hfam1 q hq g⟩⟩
    · exact .inl ⟨_, _, rfl, rfl, hB2_2 g⟩)
  have hv : Rvs g [.sl 1 0 0 l0, .sl 2 0 0 l1, .agg [.str x2_0, .int .i64 x2_1, .sl 4 0 0 l2_2]] [.slice a0 len0 cap0, .slice a1 len1 cap1, .agg #[.string x2_0, .int .i64 x2_1, c2_2]] := by
    simp only [Rvs]
    exact ⟨_, _, rfl, (hR0 _ 1 rfl), ⟨_, _, rfl, (hR1 _ 2 0 rfl), ⟨_, _, rfl, (rv_agg_mk (rvs_cons_mk rvt (rvs_cons_mk rvi (rvs_cons_mk (hR2_2 _ 4 rfl) rvs_nil_mk)))), rfl⟩⟩⟩
  refine ((ledgerReverses_fc l0 hl0 q0_0 eq0_0 wq0_0 l1 hl1 ns1 ens1 (fun i hi => (hrow1 i hi).1) q1_0 eq1_0 wq1_0 q1_1 eq1_1 wq1_1 q1_3 eq1_3 wq1_3 z1_0 ez1_0 wz1_0 z1_1 ez1_1 wz1_1 z1_2 ez1_2 wz1_2 x2_0 hx2_0 x2_1 hx2_1 l2_2 hl2_2 q2_2_0 eq2_2_0 wq2_2_0 q2_2_1 eq2_2_1 wq2_2_1 q2_2_2 eq2_2_2 wq2_2_2).law ⟨_, _, Tryd.func5, rfl, by kernel_rfl⟩ hro hgl hup hH hv).mono fun e W' ⟨he, bel⟩ => ?_
  subst he
  exact ⟨_, rfl, _, _, _, [], _, [], hW', trodAll_mk1 (shut_bool Tryd.underlying4 _), (trodAll_cons_mk (Below.trod laidOut (by kernel_rfl) (of_decide_eq_true (by kernel_rfl)) h0 bel lt0) (trodAll_cons_mk (Below.trod laidOut (by kernel_rfl) (of_decide_eq_true (by kernel_rfl)) h1 bel lt1) (trodAll_cons_mk (Below.trod laidOut (by kernel_rfl) (of_decide_eq_true (by kernel_rfl)) h2 bel lt2) trodAll_mk0))), rfl, bel.frame _, fun h => by cases h⟩

theorem over : Rows.ledgerReversesRow.holds Tryd.pinned (OpenSpec.ofChange Rows.ledgerReversesSpec) :=
  OpenClaim.holds_of_wide 5 Tryd.f5 rfl rfl rfl rfl rfl rfl rfl ⟨rfl, rfl, rfl, rfl, rfl⟩ rfl rfl rfl rfl rfl (by kernel_rfl) Tryd.func5 (by kernel_rfl)
    (of_decide_eq_true (by kernel_rfl)) (by unfold Func.isWrapper; first | (rw [if_pos (by decide +kernel)]; kernel_rfl) | (rw [if_neg (by decide +kernel)]; exact ⟨rfl, rfl⟩))
    (fun os started H enc _ => lifted os started H enc)
end Go.Proofs.YtjjnbhbendlnhaaDoor.ledgerReversesLaw
namespace Go.Proofs.YtjjnbhbendlnhaaDoor
open Go in
theorem ledgerReverses_holds : Rows.LedgerReversesCardSaid :=
  Claim7.holds_tied_plain_at .later [] [.data, .data, .data] true (true, "c3b82e9435d39a67a74d46dab5d89e75acff5ca92d87acb06b9b8be682f31213") false
    ledgerReversesLaw.over (fun _ h => by cases h) (by kernel_rfl) (fun _ h => by cases h) ledgerReverses_row_tie rfl ⟨rfl, rfl⟩ (by kernel_rfl) rfl
    (fun f fn hf hfn => by
      obtain rfl : f = 5 := Option.some.inj ((show Tryd.prog.funcNamed "cardnet/cardnetlaw43.LedgerReverses" = some 5 by kernel_rfl).symm.trans hf) |>.symm
      obtain rfl : fn = Tryd.f5 := (Option.some.inj (Tryd.func5.symm.trans hfn)).symm
      exact ⟨by kernel_rfl, fun j t ht => by
        rw [Tryd.params5] at ht
        have hm : t ∈ [22, 42, 36] := by simpa using Array.mem_of_getElem? ht
        have hall : ([22, 42, 36].all fun u => !Tryd.prog.wantsStandIn u) = true := by kernel_rfl
        exact (show Tryd.prog.wantsStandIn t = false by simpa using List.all_eq_true.1 hall t hm)⟩)
    (by kernel_rfl)
end Go.Proofs.YtjjnbhbendlnhaaDoor
