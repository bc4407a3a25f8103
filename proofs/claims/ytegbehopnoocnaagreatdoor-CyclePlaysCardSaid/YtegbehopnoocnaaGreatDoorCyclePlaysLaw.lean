/- 'cardnet law CyclePlays' returns true at every input: the statement, from the contract of the law's function. The frame was written by mklaw.py. -/
import Derived.Test.YtegbehopnoocnaaGreatDoorP3
import Derived.Test.YtegbehopnoocnaaGreatDoorP8
import Derived.Test.YtegbehopnoocnaaGreatDoorRows
import Derived.Test.YtegbehopnoocnaaGreatDoorTie
import Derived.Test.YtegbehopnoocnaaGreatDoorCards
import Derived.ProofKit
import Derived.OpenShut
import Derived.ShutString
import Derived.ChangeOld
import Derived.Below
import Derived.Carry
import Derived.LaidMore
import Derived.LaidLaws
import Derived.Stop.Joined
import Derived.SevenTiedAt
namespace Go.Proofs.YtegbehopnoocnaaGreatDoor.cyclePlaysLaw
open Go.ChangeShapes Go.WideShapes Go.ChangeAt Go.RowKit Go.Sy
set_option linter.unusedVariables false
set_option linter.unusedSimpArgs false

theorem own : ownKnob Tryz.prog.godebug = none := by kernel_rfl
theorem z0y : laidOutB Tryz.prog = true := by kernel_rfl

theorem b1X (os : Os) (args : Array Value) : laidMetH Tryz.prog Rows.cyclePlaysRow.laid ((World.doorLaid Tryz.prog 400 os).forCall (fun _ _ => 0) ⟨#[], args, []⟩).memory :=
  laidMetH_of_parts3 (fuel := 8) (laidMet_of_run' 8 (by kernel_rfl) (by kernel_rfl)) (by kernel_rfl) (by kernel_rfl)

set_option maxRecDepth 100000 in
theorem h1O (os : Os) (started : os.Started) (H : Type) (enc : TypeId × Value -> H) :
    ReturnsInHanded {} Tryz.checked os 3 .any (fun w args => (Rows.cyclePlaysSpec.pre enc Tryz.prog Tryz.f3 [] false w args /\ laidMetH Tryz.prog Rows.cyclePlaysRow.laid w) /\ sizedMet enc Tryz.prog Tryz.f3 (OpenSpec.ofChange Rows.cyclePlaysSpec) false w args) (Rows.cyclePlaysSpec.post enc Tryz.prog Tryz.f3 false true false false) := by
  refine returnsInHanded_of_change_and (C := Tryz.checked) (X := fun w _ => laidMetH Tryz.prog Rows.cyclePlaysRow.laid w) (fun _ _ _ hh h => h.of_heap hh) own started (by kernel_rfl) Tryz.func3
    (ChangeSpec.witness_shaped (enc := enc) (C := Tryz.checked) (os := os) (X := fun w _ => laidMetH Tryz.prog Rows.cyclePlaysRow.laid w) false (World.doorLaid Tryz.prog 400 os) #[.agg #[.slice none 0 0, .int .i64 0, .slice none 0 0], .slice none 0 0] 8 rfl (World.shaped_of_RefB (by kernel_rfl) (by kernel_rfl)) (by kernel_rfl) (by kernel_rfl) (by kernel_rfl) (b1X os _)) ?_
  intro W base args ds gs before hval0 hW _ _ hL _
  have hval : ∀ (j : Nat) t v, Tryz.f3.params[j]? = some t -> args[j]? = some v -> Value.okWide Tryz.prog W .any base t v := hval0
  have hW' := hW
  obtain ⟨p, q, hA0, hV, rfl, hfz, hnd⟩ := hW
  have hA : DataW.TrodAll enc Tryz.prog W 0 (fun _ => true) true Tryz.f3.params.toList args.toList ds p := hA0
  rw [Tryz.params3] at hA hval
  obtain ⟨v0, vs0, d0, ds0, p0, q0, hargs, rfl, rfl, h0, r0⟩ := trodAll_cons hA
  obtain ⟨v1, vs1, d1, ds1, p1, q1, rfl, rfl, rfl, h1, r1⟩ := trodAll_cons r0
  obtain ⟨rfl, rfl, rfl⟩ := trodAll_nil r1
  obtain rfl : args = #[v0, v1] := by cases args; simp_all
  obtain ⟨rfl, rfl⟩ := trodVars_none hV
  have lt0 : ∀ x ∈ p0, x.block < W.heap.size := by obtain ⟨m, hm⟩ := h0; exact DataW.trod_lt m _ _ _ hm
  have lt1 : ∀ x ∈ p1, x.block < W.heap.size := by obtain ⟨m, hm⟩ := h1; exact DataW.trod_lt m _ _ _ hm
  obtain ⟨cs0, rfl, _⟩ := okWide_struct Tryz.underlying25 (hval 0 25 v0 rfl rfl)
  obtain ⟨fuel0, hf0⟩ := id h0
  obtain ⟨xs0, m0, _, _, hlen0, hxl0, hfs0⟩ := DataW.trod_struct Tryz.underlying25 hf0
  obtain ⟨l0⟩ := cs0
  rw [show Tryz.prog.cellsOf 25 = 3 from by kernel_rfl] at hlen0
  simp only [Value.cells] at hlen0 hfs0
  obtain ⟨c0_0, t0_0, rfl, hlq0_0⟩ := n0I hlen0
  obtain ⟨c0_1, t0_1, rfl, hlq0_1⟩ := n0I hlq0_0
  obtain ⟨c0_2, t0_2, rfl, hlq0_2⟩ := n0I hlq0_1
  obtain rfl := e1g hlq0_2
  obtain ⟨y0_0, hy0_0⟩ : ∃ x, xs0[0]? = some x := ⟨_, List.getElem?_eq_getElem (by rw [hxl0]; decide)⟩
  have g0_0 : DataW.trod enc Tryz.prog W 0 (fun _ => true) true m0 22 (List.take (Tryz.prog.cellsOf 22) (List.drop 0 [c0_0, c0_1, c0_2])) = xs0[0]? := hfs0 0 _ rfl
  rw [hy0_0, show Tryz.prog.cellsOf 22 = 1 from by kernel_rfl] at g0_0
  simp only [List.drop_zero, List.drop_succ_cons, List.take_succ_cons, List.take_zero] at g0_0
  obtain ⟨y0_1, hy0_1⟩ : ∃ x, xs0[1]? = some x := ⟨_, List.getElem?_eq_getElem (by rw [hxl0]; decide)⟩
  have g0_1 : DataW.trod enc Tryz.prog W 0 (fun _ => true) true m0 3 (List.take (Tryz.prog.cellsOf 3) (List.drop 1 [c0_0, c0_1, c0_2])) = xs0[1]? := hfs0 1 _ rfl
  rw [hy0_1, show Tryz.prog.cellsOf 3 = 1 from by kernel_rfl] at g0_1
  simp only [List.drop_zero, List.drop_succ_cons, List.take_succ_cons, List.take_zero] at g0_1
  obtain ⟨y0_2, hy0_2⟩ : ∃ x, xs0[2]? = some x := ⟨_, List.getElem?_eq_getElem (by rw [hxl0]; decide)⟩
  have g0_2 : DataW.trod enc Tryz.prog W 0 (fun _ => true) true m0 23 (List.take (Tryz.prog.cellsOf 23) (List.drop 2 [c0_0, c0_1, c0_2])) = xs0[2]? := hfs0 2 _ rfl
  rw [hy0_2, show Tryz.prog.cellsOf 23 = 1 from by kernel_rfl] at g0_2
  simp only [List.drop_zero, List.drop_succ_cons, List.take_succ_cons, List.take_zero] at g0_2
  obtain ⟨l0_0, β0_0, cols0_0, hl0_0, hcol0_0, hR0_0, hB0_0⟩ := n0H (m := 20) (ks := [.int .i64]) Tryz.underlying22 (by kernel_rfl) (by kernel_rfl) (by decide) g0_0
  simp only [b0q, f0W] at hcol0_0
  obtain ⟨_, _, rfl, ⟨q0_0_0, rfl, eq0_0_0, wq0_0_0⟩, rfl⟩ := hcol0_0
  obtain ⟨x0_1, e0_1, _, hx0_1⟩ := DataW.trod_int Tryz.underlying3 g0_1
  simp only [List.cons.injEq, and_true] at e0_1; subst e0_1
  obtain ⟨l0_2, β0_2, cols0_2, hl0_2, hcol0_2, hR0_2, hB0_2⟩ := n0H (m := 20) (ks := [.str]) Tryz.underlying23 (by kernel_rfl) (by kernel_rfl) (by decide) g0_2
  simp only [b0q, f0W] at hcol0_2
  obtain ⟨_, _, rfl, ⟨q0_2_0, rfl, eq0_2_0, wq0_2_0⟩, rfl⟩ := hcol0_2
  obtain ⟨fuel1, hf1⟩ := id h1
  obtain ⟨a1, len1, cap1, rfl⟩ := okWide_slice Tryz.underlying26 (hval 1 26 v1 rfl rfl)
  obtain ⟨l1, β1, ns1, rows1, bs1, cols1, hl1, ens1, hcol1, hrow1, hR1, hB1⟩ := z0v (m := 20) (ks := [.sc (.int .u8), .sc (.int .i64), .sc (.int .i64), .sc (.str), .sc (.str), .sc (.int .i64), .sc (.str), .sl [.str, .str, .int .i64, .int .i64], .sc (.str)]) 4 7 [.str, .str, .int .i64, .int .i64] rfl rfl Tryz.underlying26 (by kernel_rfl) (by kernel_rfl) hf1
  simp only [i0Z, f0W] at hcol1
  obtain ⟨_, _, rfl, ⟨q1_0, rfl, eq1_0, wq1_0⟩, ⟨_, _, rfl, ⟨q1_1, rfl, eq1_1, wq1_1⟩, ⟨_, _, rfl, ⟨q1_2, rfl, eq1_2, wq1_2⟩, ⟨_, _, rfl, ⟨q1_3, rfl, eq1_3, wq1_3⟩, ⟨_, _, rfl, ⟨q1_4, rfl, eq1_4, wq1_4⟩, ⟨_, _, rfl, ⟨q1_5, rfl, eq1_5, wq1_5⟩, ⟨_, _, rfl, ⟨q1_6, rfl, eq1_6, wq1_6⟩, ⟨_, rfl, ⟨_, _, rfl, ⟨q1_8, rfl, eq1_8, wq1_8⟩, rfl⟩⟩⟩⟩⟩⟩⟩⟩⟩ := hcol1
  have ez1_0 : ∀ i, i < l1 -> (gS 0 (rows1 i)).length = ns1.getD i 0 := by
    intro i hi
    have hc := (hrow1 i hi).2.1
    generalize rows1 i = R at hc ⊢
    simp only [b0q, f0W] at hc
    obtain ⟨_, _, rfl, ⟨y0, rfl, ey0, wy0⟩, ⟨_, _, rfl, ⟨y1, rfl, ey1, wy1⟩, ⟨_, _, rfl, ⟨y2, rfl, ey2, wy2⟩, ⟨_, _, rfl, ⟨y3, rfl, ey3, wy3⟩, rfl⟩⟩⟩⟩ := hc
    exact ey0
  have wz1_0 : ∀ i, i < l1 -> ∀ x ∈ (gS 0 (rows1 i)), x.size <= maxLen := by
    intro i hi
    have hc := (hrow1 i hi).2.1
    generalize rows1 i = R at hc ⊢
    simp only [b0q, f0W] at hc
    obtain ⟨_, _, rfl, ⟨y0, rfl, ey0, wy0⟩, ⟨_, _, rfl, ⟨y1, rfl, ey1, wy1⟩, ⟨_, _, rfl, ⟨y2, rfl, ey2, wy2⟩, ⟨_, _, rfl, ⟨y3, rfl, ey3, wy3⟩, rfl⟩⟩⟩⟩ := hc
    exact wy0
  have ez1_1 : ∀ i, i < l1 -> (gS 1 (rows1 i)).length = ns1.getD i 0 := by
    intro i hi
    have hc := (hrow1 i hi).2.1
    generalize rows1 i = R at hc ⊢
    simp only [b0q, f0W] at hc
    obtain ⟨_, _, rfl, ⟨y0, rfl, ey0, wy0⟩, ⟨_, _, rfl, ⟨y1, rfl, ey1, wy1⟩, ⟨_, _, rfl, ⟨y2, rfl, ey2, wy2⟩, ⟨_, _, rfl, ⟨y3, rfl, ey3, wy3⟩, rfl⟩⟩⟩⟩ := hc
    exact ey1
  have wz1_1 : ∀ i, i < l1 -> ∀ x ∈ (gS 1 (rows1 i)), x.size <= maxLen := by
    intro i hi
    have hc := (hrow1 i hi).2.1
    generalize rows1 i = R at hc ⊢
    simp only [b0q, f0W] at hc
    obtain ⟨_, _, rfl, ⟨y0, rfl, ey0, wy0⟩, ⟨_, _, rfl, ⟨y1, rfl, ey1, wy1⟩, ⟨_, _, rfl, ⟨y2, rfl, ey2, wy2⟩, ⟨_, _, rfl, ⟨y3, rfl, ey3, wy3⟩, rfl⟩⟩⟩⟩ := hc
    exact wy1
  have ez1_2 : ∀ i, i < l1 -> (gI 2 (rows1 i)).length = ns1.getD i 0 := by
    intro i hi
    have hc := (hrow1 i hi).2.1
    generalize rows1 i = R at hc ⊢
    simp only [b0q, f0W] at hc
    obtain ⟨_, _, rfl, ⟨y0, rfl, ey0, wy0⟩, ⟨_, _, rfl, ⟨y1, rfl, ey1, wy1⟩, ⟨_, _, rfl, ⟨y2, rfl, ey2, wy2⟩, ⟨_, _, rfl, ⟨y3, rfl, ey3, wy3⟩, rfl⟩⟩⟩⟩ := hc
    exact ey2
  have wz1_2 : ∀ i, i < l1 -> ∀ x ∈ (gI 2 (rows1 i)), (Lit.int .i64 x).wf = true := by
    intro i hi
    have hc := (hrow1 i hi).2.1
    generalize rows1 i = R at hc ⊢
    simp only [b0q, f0W] at hc
    obtain ⟨_, _, rfl, ⟨y0, rfl, ey0, wy0⟩, ⟨_, _, rfl, ⟨y1, rfl, ey1, wy1⟩, ⟨_, _, rfl, ⟨y2, rfl, ey2, wy2⟩, ⟨_, _, rfl, ⟨y3, rfl, ey3, wy3⟩, rfl⟩⟩⟩⟩ := hc
    exact wy2
  have ez1_3 : ∀ i, i < l1 -> (gI 3 (rows1 i)).length = ns1.getD i 0 := by
    intro i hi
    have hc := (hrow1 i hi).2.1
    generalize rows1 i = R at hc ⊢
    simp only [b0q, f0W] at hc
    obtain ⟨_, _, rfl, ⟨y0, rfl, ey0, wy0⟩, ⟨_, _, rfl, ⟨y1, rfl, ey1, wy1⟩, ⟨_, _, rfl, ⟨y2, rfl, ey2, wy2⟩, ⟨_, _, rfl, ⟨y3, rfl, ey3, wy3⟩, rfl⟩⟩⟩⟩ := hc
    exact ey3
  have wz1_3 : ∀ i, i < l1 -> ∀ x ∈ (gI 3 (rows1 i)), (Lit.int .i64 x).wf = true := by
    intro i hi
    have hc := (hrow1 i hi).2.1
    generalize rows1 i = R at hc ⊢
    simp only [b0q, f0W] at hc
    obtain ⟨_, _, rfl, ⟨y0, rfl, ey0, wy0⟩, ⟨_, _, rfl, ⟨y1, rfl, ey1, wy1⟩, ⟨_, _, rfl, ⟨y2, rfl, ey2, wy2⟩, ⟨_, _, rfl, ⟨y3, rfl, ey3, wy3⟩, rfl⟩⟩⟩⟩ := hc
    exact wy3
  have hfam1 : ∀ i, i < l1 -> ∀ g : G, BlkAt g (bs1 i) true (.cols (ns1.getD i 0) [.sc (.strs (gS 0 (rows1 i))), .sc (.strs (gS 1 (rows1 i))), .sc (.ints .i64 (gI 2 (rows1 i))), .sc (.ints .i64 (gI 3 (rows1 i)))]) W := by
    intro i hi g
    have hc := (hrow1 i hi).2.1
    have hb := (hrow1 i hi).2.2 g
    generalize rows1 i = R at hc hb ⊢
    simp only [b0q, f0W] at hc
    obtain ⟨_, _, rfl, ⟨y0, rfl, ey0, wy0⟩, ⟨_, _, rfl, ⟨y1, rfl, ey1, wy1⟩, ⟨_, _, rfl, ⟨y2, rfl, ey2, wy2⟩, ⟨_, _, rfl, ⟨y3, rfl, ey3, wy3⟩, rfl⟩⟩⟩⟩ := hc
    exact hb
  obtain ⟨z1_0, z1_1, z1_2, z1_3, ez1_0, wz1_0, ez1_1, wz1_1, ez1_2, wz1_2, ez1_3, wz1_3, hfam1⟩ : ∃ (z1_0 : Nat -> List ByteArray) (z1_1 : Nat -> List ByteArray) (z1_2 : Nat -> List Int) (z1_3 : Nat -> List Int), (∀ i, i < l1 -> (z1_0 i).length = ns1.getD i 0) /\ (∀ i, i < l1 -> ∀ x ∈ z1_0 i, x.size <= maxLen) /\ (∀ i, i < l1 -> (z1_1 i).length = ns1.getD i 0) /\ (∀ i, i < l1 -> ∀ x ∈ z1_1 i, x.size <= maxLen) /\ (∀ i, i < l1 -> (z1_2 i).length = ns1.getD i 0) /\ (∀ i, i < l1 -> ∀ x ∈ z1_2 i, (Lit.int .i64 x).wf = true) /\ (∀ i, i < l1 -> (z1_3 i).length = ns1.getD i 0) /\ (∀ i, i < l1 -> ∀ x ∈ z1_3 i, (Lit.int .i64 x).wf = true) /\ ∀ i, i < l1 -> ∀ g : G, BlkAt g (bs1 i) true (.cols (ns1.getD i 0) [.sc (.strs (z1_0 i)), .sc (.strs (z1_1 i)), .sc (.ints .i64 (z1_2 i)), .sc (.ints .i64 (z1_3 i))]) W := ⟨fun i => gS 0 (rows1 i), fun i => gS 1 (rows1 i), fun i => gI 2 (rows1 i), fun i => gI 3 (rows1 i), ez1_0, wz1_0, ez1_1, wz1_1, ez1_2, wz1_2, ez1_3, wz1_3, hfam1⟩
  clear hA0 hval0
  rw [MakeChecks.laidMetH_plain _ _ _ (by kernel_rfl)] at hL
  obtain ⟨ps, ⟨gv0, gt0, gc0, gf0, gp0, gq0, hgv0, hgt0, hgc0, hgd0, _, _⟩, _, _⟩ := hL
  obtain rfl : gv0 = 3 := Option.some.inj (hgv0.symm.trans (by kernel_rfl))
  obtain rfl : gt0 = 248 := Option.some.inj (hgt0.symm.trans (by kernel_rfl))
  let g : G := fun h q => match h, q with | 0, q => some (d1H [(3, 2, 10)] q) | 1, 0 => some β0_0 | 2, 0 => some β0_2 | 3, 0 => some β1 | 4, q => some (bs1 q) | _, _ => none
  have hgl : g.glob := fun q => u0O _ q
  have hup : g.upto 5 := by
    intro h q hh
    simp only [g]
    split <;> first | rfl | (exfalso; omega)
  have hT : ∀ q, (a0B glT q).isSome = true -> ∃ β, g 0 q = some β /\ BlkAt g β true (q0Z glT q) W := by
    intro q hq
    have hq' : q = 3 := d1L hq
    rcases hq' with rfl
    . exact ⟨_, rfl, v0d (m := 20) (ks := [.str, .int .i64]) hgv0 hgc0 Tryz.underlying248 (by kernel_rfl) (by kernel_rfl) (by kernel_rfl) (by decide) hgd0 (by kernel_rfl) g⟩
  obtain ⟨hH, hro⟩ : Holds g [(0, some (GB glT)), (1, some (.one true (.cols l0_0 [.sc (.ints .i64 q0_0_0)]))), (2, some (.one true (.cols l0_2 [.sc (.strs q0_2_0)]))), (3, some (.one true (.cols l1 [.sc (.ints .u8 q1_0), .sc (.ints .i64 q1_1), .sc (.ints .i64 q1_2), .sc (.strs q1_3), .sc (.strs q1_4), .sc (.ints .i64 q1_5), .sc (.strs q1_6), .own 4 ns1, .sc (.strs q1_8)]))), (4, some (.fam true (fun x => x < l1) (fun x => .cols (ns1.getD x 0) [.sc (.strs (z1_0 x)), .sc (.strs (z1_1 x)), .sc (.ints .i64 (z1_2 x)), .sc (.ints .i64 (z1_3 x))])))] W /\ ∀ h q ro b, Ent [(0, some (GB glT)), (1, some (.one true (.cols l0_0 [.sc (.ints .i64 q0_0_0)]))), (2, some (.one true (.cols l0_2 [.sc (.strs q0_2_0)]))), (3, some (.one true (.cols l1 [.sc (.ints .u8 q1_0), .sc (.ints .i64 q1_1), .sc (.ints .i64 q1_2), .sc (.strs q1_3), .sc (.strs q1_4), .sc (.ints .i64 q1_5), .sc (.strs q1_6), .own 4 ns1, .sc (.strs q1_8)]))), (4, some (.fam true (fun x => x < l1) (fun x => .cols (ns1.getD x 0) [.sc (.strs (z1_0 x)), .sc (.strs (z1_1 x)), .sc (.ints .i64 (z1_2 x)), .sc (.ints .i64 (z1_3 x))])))] h q ro b -> ro = true := z0x hT (by
    intro p hp
    simp only [List.mem_cons, List.not_mem_nil, or_false] at hp
    rcases hp with rfl | rfl | rfl | rfl
    . exact .inl ⟨_, _, rfl, rfl, hB0_0 g⟩
    . exact .inl ⟨_, _, rfl, rfl, hB0_2 g⟩
    . exact .inl ⟨_, _, rfl, rfl, hB1 g (fun i hi => rfl)⟩
    . exact .inr ⟨_, _, rfl, fun q hq => ⟨_, rfl, hfam1 q hq g⟩⟩)
  have hv : Rvs g [.agg [.sl 1 0 0 l0_0, .int .i64 x0_1, .sl 2 0 0 l0_2], .sl 3 0 0 l1] [.agg #[c0_0, .int .i64 x0_1, c0_2], .slice a1 len1 cap1] := by
    simp only [Rvs]
    exact ⟨_, _, rfl, (x0f (g0u (hR0_0 _ 1 rfl) (g0u rvi (g0u (hR0_2 _ 2 rfl) v0c)))), ⟨_, _, rfl, (hR1 _ 3 0 rfl), rfl⟩⟩
  refine ((cyclePlays_fc l0_0 hl0_0 q0_0_0 eq0_0_0 wq0_0_0 x0_1 hx0_1 l0_2 hl0_2 q0_2_0 eq0_2_0 wq0_2_0 l1 hl1 ns1 ens1 (fun i hi => (hrow1 i hi).1) q1_0 eq1_0 wq1_0 q1_1 eq1_1 wq1_1 q1_2 eq1_2 wq1_2 q1_3 eq1_3 wq1_3 q1_4 eq1_4 wq1_4 q1_5 eq1_5 wq1_5 q1_6 eq1_6 wq1_6 q1_8 eq1_8 wq1_8 z1_0 ez1_0 wz1_0 z1_1 ez1_1 wz1_1 z1_2 ez1_2 wz1_2 z1_3 ez1_3 wz1_3).law ⟨_, _, Tryz.func3, rfl, by kernel_rfl⟩ hro hgl hup hH hv).mono fun e W' ⟨he, bel⟩ => ?_
  subst he
  exact ⟨_, rfl, _, _, _, [], _, [], hW', trodAll_mk1 (shut_bool Tryz.underlying4 _), (trodAll_cons_mk (Below.trod z0y (by kernel_rfl) (of_decide_eq_true (by kernel_rfl)) h0 bel lt0) (trodAll_cons_mk (Below.trod z0y (by kernel_rfl) (of_decide_eq_true (by kernel_rfl)) h1 bel lt1) trodAll_mk0)), rfl, bel.frame _, fun h => by cases h⟩

theorem j1h {a b : Bool} (h1 : a = true) (h2 : b = true) : (a && b) = true := by rw [h1, h2]; rfl
set_option maxHeartbeats 0 in
set_option maxRecDepth 100000 in
theorem h1P : joinedFacts Tryz.pinned.checked.prog 3 Tryz.f3 Rows.cyclePlaysSpec Rows.cyclePlaysRow = true := by
  unfold joinedFacts
  repeat' (with_reducible refine j1h ?_ ?_)
  all_goals (as_aux_lemma => kernel_rfl)
theorem over : Rows.cyclePlaysRow.holds Tryz.pinned (OpenSpec.ofChange Rows.cyclePlaysSpec) :=
  OpenClaim.holds_of_wide 3 Tryz.f3 rfl rfl rfl rfl rfl rfl rfl ⟨rfl, rfl, rfl, rfl, rfl⟩ rfl rfl rfl rfl rfl (by kernel_rfl) Tryz.func3 h1P
    (of_decide_eq_true (by kernel_rfl)) (by unfold Func.isWrapper; first | (rw [if_pos (by decide +kernel)]; kernel_rfl) | (rw [if_neg (by decide +kernel)]; exact ⟨rfl, rfl⟩))
    (fun os started H enc _ => h1O os started H enc)
end Go.Proofs.YtegbehopnoocnaaGreatDoor.cyclePlaysLaw
namespace Go.Proofs.YtegbehopnoocnaaGreatDoor
open Go in
theorem cyclePlays_holds : Rows.CyclePlaysCardSaid :=
  Claim7.holds_tied_plain_at .later [] [.data] true (true, "af032dbdf9c61ac8b35521f23c152faa186b81d8f4ed149143db0ab7b50143d8") false
    cyclePlaysLaw.over (fun _ h => by cases h) (by kernel_rfl) (fun _ h => by cases h) cyclePlays_row_tie rfl ⟨rfl, rfl⟩ (by kernel_rfl) rfl
    (fun f fn hf hfn => by
      obtain rfl : f = 3 := Option.some.inj ((show Tryz.prog.funcNamed "cardnet/cardnetlaw42.CyclePlays" = some 3 by kernel_rfl).symm.trans hf) |>.symm
      obtain rfl : fn = Tryz.f3 := (Option.some.inj (Tryz.func3.symm.trans hfn)).symm
      exact ⟨by kernel_rfl, fun j t ht => by
        rw [Tryz.params3] at ht
        have hm : t ∈ [25, 26] := by simpa using Array.mem_of_getElem? ht
        have hall : ([25, 26].all fun u => !Tryz.prog.wantsStandIn u) = true := by kernel_rfl
        exact (show Tryz.prog.wantsStandIn t = false by simpa using List.all_eq_true.1 hall t hm)⟩)
    (by kernel_rfl)
end Go.Proofs.YtegbehopnoocnaaGreatDoor
