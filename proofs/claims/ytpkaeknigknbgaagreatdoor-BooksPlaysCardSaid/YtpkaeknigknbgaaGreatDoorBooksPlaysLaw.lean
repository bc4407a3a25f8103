/- 'cardnet law BooksPlays' returns true at every input: the statement, from the contract of the law's function. The frame was written by mklaw.py. -/
import Derived.Test.YtpkaeknigknbgaaGreatDoorP3
import Derived.Test.YtpkaeknigknbgaaGreatDoorP8
import Derived.Test.YtpkaeknigknbgaaGreatDoorRows
import Derived.Test.YtpkaeknigknbgaaGreatDoorTie
import Derived.Test.YtpkaeknigknbgaaGreatDoorCards
import Derived.ProofKit
import Derived.OpenShut
import Derived.ShutString
import Derived.ChangeOld
import Derived.Below
import Derived.Carry
import Derived.LaidMore
import Derived.LaidLaws
import Derived.Stop.Joined
import Derived.SevenTiedAt
namespace Go.Proofs.YtpkaeknigknbgaaGreatDoor.booksPlaysLaw
open Go.ChangeShapes Go.WideShapes Go.ChangeAt Go.RowKit Go.Sy
set_option linter.unusedVariables false
set_option linter.unusedSimpArgs false

theorem own : ownKnob Tryz.prog.godebug = none := by kernel_rfl
theorem n0j : laidOutB Tryz.prog = true := by kernel_rfl

theorem a1v (os : Os) (args : Array Value) : laidMetH Tryz.prog Rows.booksPlaysRow.laid ((World.doorLaid Tryz.prog 400 os).forCall (fun _ _ => 0) ⟨#[], args, []⟩).memory :=
  laidMetH_of_parts3 (fuel := 8) (laidMet_of_run' 8 (by kernel_rfl) (by kernel_rfl)) (by kernel_rfl) (by kernel_rfl)

set_option maxRecDepth 100000 in
theorem f1x (os : Os) (started : os.Started) (H : Type) (enc : TypeId × Value -> H) :
    ReturnsInHanded {} Tryz.checked os 3 .any (fun w args => (Rows.booksPlaysSpec.pre enc Tryz.prog Tryz.f3 [] false w args /\ laidMetH Tryz.prog Rows.booksPlaysRow.laid w) /\ sizedMet enc Tryz.prog Tryz.f3 (OpenSpec.ofChange Rows.booksPlaysSpec) false w args) (Rows.booksPlaysSpec.post enc Tryz.prog Tryz.f3 false true false false) := by
  refine returnsInHanded_of_change_and (C := Tryz.checked) (X := fun w _ => laidMetH Tryz.prog Rows.booksPlaysRow.laid w) (fun _ _ _ hh h => h.of_heap hh) own started (by kernel_rfl) Tryz.func3
    (ChangeSpec.witness_shaped (enc := enc) (C := Tryz.checked) (os := os) (X := fun w _ => laidMetH Tryz.prog Rows.booksPlaysRow.laid w) false (World.doorLaid Tryz.prog 400 os) #[.agg #[.slice none 0 0, .string ⟨#[]⟩, .slice none 0 0, .int .i64 0, .int .i64 0], .slice none 0 0, .string ⟨#[]⟩, .int .i64 0] 8 rfl (World.shaped_of_RefB (by kernel_rfl) (by kernel_rfl)) (by kernel_rfl) (by kernel_rfl) (by kernel_rfl) (a1v os _)) ?_
  intro W base args ds gs before hval0 hW _ hsz0 hL _
  have hval : ∀ (j : Nat) t v, Tryz.f3.params[j]? = some t -> args[j]? = some v -> Value.okWide Tryz.prog W .any base t v := hval0
  have hW' := hW
  obtain ⟨p, q, hA0, hV, rfl, hfz, hnd⟩ := hW
  have hA : DataW.TrodAll enc Tryz.prog W 0 (fun _ => true) true Tryz.f3.params.toList args.toList ds p := hA0
  rw [Tryz.params3] at hA hval
  obtain ⟨v0, vs0, d0, ds0, p0, q0, hargs, rfl, rfl, h0, r0⟩ := trodAll_cons hA
  obtain ⟨v1, vs1, d1, ds1, p1, q1, rfl, rfl, rfl, h1, r1⟩ := trodAll_cons r0
  obtain ⟨v2, vs2, d2, ds2, p2, q2, rfl, rfl, rfl, h2, r2⟩ := trodAll_cons r1
  obtain ⟨v3, vs3, d3, ds3, p3, q3, rfl, rfl, rfl, h3, r3⟩ := trodAll_cons r2
  obtain ⟨rfl, rfl, rfl⟩ := trodAll_nil r3
  obtain rfl : args = #[v0, v1, v2, v3] := by cases args; simp_all
  obtain ⟨rfl, rfl⟩ := trodVars_none hV
  have hsz : (DataW.weightsEach Tryz.prog ((Tryz.f3.params.toList) ++ Rows.booksPlaysSpec.plain.varTypes Tryz.prog) ([d0, d1, d2, d3] ++ [])).all (· <= reachBytes) = true := hsz0
  rw [Tryz.params3] at hsz
  have hw0_ : ∀ n ∈ d0.weights Tryz.prog 25, n <= reachBytes := fun n hn => by have := List.all_eq_true.1 hsz n (DataW.weights_mem_each (j := 0) (t := 25) (d := d0) rfl rfl n hn); simpa using this
  have hw1_ : ∀ n ∈ d1.weights Tryz.prog 26, n <= reachBytes := fun n hn => by have := List.all_eq_true.1 hsz n (DataW.weights_mem_each (j := 1) (t := 26) (d := d1) rfl rfl n hn); simpa using this
  have hw2_ : ∀ n ∈ d2.weights Tryz.prog 9, n <= reachBytes := fun n hn => by have := List.all_eq_true.1 hsz n (DataW.weights_mem_each (j := 2) (t := 9) (d := d2) rfl rfl n hn); simpa using this
  have hw3_ : ∀ n ∈ d3.weights Tryz.prog 3, n <= reachBytes := fun n hn => by have := List.all_eq_true.1 hsz n (DataW.weights_mem_each (j := 3) (t := 3) (d := d3) rfl rfl n hn); simpa using this
  have lt0 : ∀ x ∈ p0, x.block < W.heap.size := by obtain ⟨m, hm⟩ := h0; exact DataW.trod_lt m _ _ _ hm
  have lt1 : ∀ x ∈ p1, x.block < W.heap.size := by obtain ⟨m, hm⟩ := h1; exact DataW.trod_lt m _ _ _ hm
  have lt2 : ∀ x ∈ p2, x.block < W.heap.size := by obtain ⟨m, hm⟩ := h2; exact DataW.trod_lt m _ _ _ hm
  have lt3 : ∀ x ∈ p3, x.block < W.heap.size := by obtain ⟨m, hm⟩ := h3; exact DataW.trod_lt m _ _ _ hm
  obtain ⟨cs0, rfl, _⟩ := okWide_struct Tryz.underlying25 (hval 0 25 v0 rfl rfl)
  obtain ⟨fuel0, hf0⟩ := id h0
  obtain ⟨xs0, m0, _, _, hlen0, hxl0, hfs0⟩ := DataW.trod_struct Tryz.underlying25 hf0
  obtain ⟨l0⟩ := cs0
  rw [show Tryz.prog.cellsOf 25 = 5 from by kernel_rfl] at hlen0
  simp only [Value.cells] at hlen0 hfs0
  obtain ⟨c0_0, t0_0, rfl, hlq0_0⟩ := h0g hlen0
  obtain ⟨c0_1, t0_1, rfl, hlq0_1⟩ := h0g hlq0_0
  obtain ⟨c0_2, t0_2, rfl, hlq0_2⟩ := h0g hlq0_1
  obtain ⟨c0_3, t0_3, rfl, hlq0_3⟩ := h0g hlq0_2
  obtain ⟨c0_4, t0_4, rfl, hlq0_4⟩ := h0g hlq0_3
  obtain rfl := c1t hlq0_4
  obtain ⟨y0_0, hy0_0⟩ : ∃ x, xs0[0]? = some x := ⟨_, List.getElem?_eq_getElem (by rw [hxl0]; decide)⟩
  have g0_0 : DataW.trod enc Tryz.prog W 0 (fun _ => true) true m0 22 (List.take (Tryz.prog.cellsOf 22) (List.drop 0 [c0_0, c0_1, c0_2, c0_3, c0_4])) = xs0[0]? := hfs0 0 _ rfl
  rw [hy0_0, show Tryz.prog.cellsOf 22 = 1 from by kernel_rfl] at g0_0
  simp only [List.drop_zero, List.drop_succ_cons, List.take_succ_cons, List.take_zero] at g0_0
  obtain ⟨y0_1, hy0_1⟩ : ∃ x, xs0[1]? = some x := ⟨_, List.getElem?_eq_getElem (by rw [hxl0]; decide)⟩
  have g0_1 : DataW.trod enc Tryz.prog W 0 (fun _ => true) true m0 9 (List.take (Tryz.prog.cellsOf 9) (List.drop 1 [c0_0, c0_1, c0_2, c0_3, c0_4])) = xs0[1]? := hfs0 1 _ rfl
  rw [hy0_1, show Tryz.prog.cellsOf 9 = 1 from by kernel_rfl] at g0_1
  simp only [List.drop_zero, List.drop_succ_cons, List.take_succ_cons, List.take_zero] at g0_1
  obtain ⟨y0_2, hy0_2⟩ : ∃ x, xs0[2]? = some x := ⟨_, List.getElem?_eq_getElem (by rw [hxl0]; decide)⟩
  have g0_2 : DataW.trod enc Tryz.prog W 0 (fun _ => true) true m0 23 (List.take (Tryz.prog.cellsOf 23) (List.drop 2 [c0_0, c0_1, c0_2, c0_3, c0_4])) = xs0[2]? := hfs0 2 _ rfl
  rw [hy0_2, show Tryz.prog.cellsOf 23 = 1 from by kernel_rfl] at g0_2
  simp only [List.drop_zero, List.drop_succ_cons, List.take_succ_cons, List.take_zero] at g0_2
  obtain ⟨y0_3, hy0_3⟩ : ∃ x, xs0[3]? = some x := ⟨_, List.getElem?_eq_getElem (by rw [hxl0]; decide)⟩
  have g0_3 : DataW.trod enc Tryz.prog W 0 (fun _ => true) true m0 3 (List.take (Tryz.prog.cellsOf 3) (List.drop 3 [c0_0, c0_1, c0_2, c0_3, c0_4])) = xs0[3]? := hfs0 3 _ rfl
  rw [hy0_3, show Tryz.prog.cellsOf 3 = 1 from by kernel_rfl] at g0_3
  simp only [List.drop_zero, List.drop_succ_cons, List.take_succ_cons, List.take_zero] at g0_3
  obtain ⟨y0_4, hy0_4⟩ : ∃ x, xs0[4]? = some x := ⟨_, List.getElem?_eq_getElem (by rw [hxl0]; decide)⟩
  have g0_4 : DataW.trod enc Tryz.prog W 0 (fun _ => true) true m0 3 (List.take (Tryz.prog.cellsOf 3) (List.drop 4 [c0_0, c0_1, c0_2, c0_3, c0_4])) = xs0[4]? := hfs0 4 _ rfl
  rw [hy0_4, show Tryz.prog.cellsOf 3 = 1 from by kernel_rfl] at g0_4
  simp only [List.drop_zero, List.drop_succ_cons, List.take_succ_cons, List.take_zero] at g0_4
  obtain ⟨l0_0, β0_0, cols0_0, hl0_0, hcol0_0, hR0_0, hB0_0⟩ := m0S (m := 20) (ks := [.str]) Tryz.underlying22 (by kernel_rfl) (by kernel_rfl) (by decide) g0_0
  simp only [c0K, z0i] at hcol0_0
  obtain ⟨_, _, rfl, ⟨q0_0_0, rfl, eq0_0_0, wq0_0_0⟩, rfl⟩ := hcol0_0
  obtain ⟨x0_1, e0_1, _, hx0_1⟩ := DataW.trod_string Tryz.underlying9 g0_1
  simp only [List.cons.injEq, and_true] at e0_1; subst e0_1
  obtain ⟨l0_2, β0_2, cols0_2, hl0_2, hcol0_2, hR0_2, hB0_2⟩ := m0S (m := 20) (ks := [.int .i64]) Tryz.underlying23 (by kernel_rfl) (by kernel_rfl) (by decide) g0_2
  simp only [c0K, z0i] at hcol0_2
  obtain ⟨_, _, rfl, ⟨q0_2_0, rfl, eq0_2_0, wq0_2_0⟩, rfl⟩ := hcol0_2
  obtain ⟨x0_3, e0_3, _, hx0_3⟩ := DataW.trod_int Tryz.underlying3 g0_3
  simp only [List.cons.injEq, and_true] at e0_3; subst e0_3
  obtain ⟨x0_4, e0_4, _, hx0_4⟩ := DataW.trod_int Tryz.underlying3 g0_4
  simp only [List.cons.injEq, and_true] at e0_4; subst e0_4
  obtain ⟨fuel1, hf1⟩ := id h1
  obtain ⟨a1, len1, cap1, rfl⟩ := okWide_slice Tryz.underlying26 (hval 1 26 v1 rfl rfl)
  obtain ⟨l1, β1, cols1, hl1, hcol1, hR1, hB1⟩ := m0S (m := 20) (ks := [.int .i64, .int .i64, .str, .str, .str, .str, .int .i64, .int .i64, .bool]) Tryz.underlying26 (by kernel_rfl) (by kernel_rfl) (by decide) hf1
  have hok1 := hcol1
  simp only [c0K, z0i] at hcol1
  obtain ⟨_, _, rfl, ⟨q1_0, rfl, eq1_0, wq1_0⟩, _, _, rfl, ⟨q1_1, rfl, eq1_1, wq1_1⟩, _, _, rfl, ⟨q1_2, rfl, eq1_2, wq1_2⟩, _, _, rfl, ⟨q1_3, rfl, eq1_3, wq1_3⟩, _, _, rfl, ⟨q1_4, rfl, eq1_4, wq1_4⟩, _, _, rfl, ⟨q1_5, rfl, eq1_5, wq1_5⟩, _, _, rfl, ⟨q1_6, rfl, eq1_6, wq1_6⟩, _, _, rfl, ⟨q1_7, rfl, eq1_7, wq1_7⟩, _, _, rfl, ⟨q1_8, rfl, eq1_8⟩, rfl⟩ := hcol1
  have vq1_2 : ∀ x ∈ q1_2, x.size <= reachBytes := e0x (m := 20) (ks := [.int .i64, .int .i64, .str, .str, .str, .str, .int .i64, .int .i64, .bool]) Tryz.underlying26 (by kernel_rfl) (by kernel_rfl) (by decide) hf1 hw1_ hok1 hR1 hB1 2 q1_2 rfl eq1_2
  have vq1_3 : ∀ x ∈ q1_3, x.size <= reachBytes := e0x (m := 20) (ks := [.int .i64, .int .i64, .str, .str, .str, .str, .int .i64, .int .i64, .bool]) Tryz.underlying26 (by kernel_rfl) (by kernel_rfl) (by decide) hf1 hw1_ hok1 hR1 hB1 3 q1_3 rfl eq1_3
  have vq1_4 : ∀ x ∈ q1_4, x.size <= reachBytes := e0x (m := 20) (ks := [.int .i64, .int .i64, .str, .str, .str, .str, .int .i64, .int .i64, .bool]) Tryz.underlying26 (by kernel_rfl) (by kernel_rfl) (by decide) hf1 hw1_ hok1 hR1 hB1 4 q1_4 rfl eq1_4
  have vq1_5 : ∀ x ∈ q1_5, x.size <= reachBytes := e0x (m := 20) (ks := [.int .i64, .int .i64, .str, .str, .str, .str, .int .i64, .int .i64, .bool]) Tryz.underlying26 (by kernel_rfl) (by kernel_rfl) (by decide) hf1 hw1_ hok1 hR1 hB1 5 q1_5 rfl eq1_5
  obtain ⟨s2, rfl⟩ := okWide_string Tryz.underlying9 (hval 2 9 v2 rfl rfl)
  have hs2 : s2.size <= maxLen := by
    obtain ⟨fuel, hf⟩ := h2
    obtain ⟨m, e, _, hw⟩ := DataW.trod_string Tryz.underlying9 hf
    simp [Value.cells] at e; subst e; exact hw
  obtain ⟨n3, rfl⟩ := okWide_int Tryz.underlying3 (hval 3 3 v3 rfl rfl)
  have hw3 : (Lit.int .i64 n3).wf = true := by
    obtain ⟨fuel, hf⟩ := h3
    obtain ⟨m, e, _, hw⟩ := DataW.trod_int Tryz.underlying3 hf
    simp [Value.cells] at e; subst e; exact hw
  clear hA0 hval0
  rw [MakeChecks.laidMetH_plain _ _ _ (by kernel_rfl)] at hL
  obtain ⟨ps, ⟨gv0, gt0, gc0, gf0, gp0, gq0, hgv0, hgt0, hgc0, hgd0, ⟨gv1, gt1, gc1, gf1, gp1, gq1, hgv1, hgt1, hgc1, hgd1, ⟨gv2, gt2, gc2, gf2, gp2, gq2, hgv2, hgt2, hgc2, hgd2, _, _⟩, _⟩, _⟩, _, _⟩ := hL
  obtain rfl : gv0 = 2 := Option.some.inj (hgv0.symm.trans (by kernel_rfl))
  obtain rfl : gt0 = 254 := Option.some.inj (hgt0.symm.trans (by kernel_rfl))
  obtain rfl : gv1 = 3 := Option.some.inj (hgv1.symm.trans (by kernel_rfl))
  obtain rfl : gt1 = 255 := Option.some.inj (hgt1.symm.trans (by kernel_rfl))
  obtain rfl : gv2 = 0 := Option.some.inj (hgv2.symm.trans (by kernel_rfl))
  obtain rfl : gt2 = 238 := Option.some.inj (hgt2.symm.trans (by kernel_rfl))
  let g : G := fun h q => match h, q with | 0, q => some (b1O [(2, 1, 32), (3, 1, 64), (0, 1, 20)] q) | 1, 0 => some β0_0 | 2, 0 => some β0_2 | 3, 0 => some β1 | _, _ => none
  have hgl : g.glob := fun q => t0g _ q
  have hup : g.upto 4 := by
    intro h q hh
    simp only [g]
    split <;> first | rfl | (exfalso; omega)
  have hT : ∀ q, (a0F glT q).isSome = true -> ∃ β, g 0 q = some β /\ BlkAt g β true (b1N glT q) W := by
    intro q hq
    have hq' : q = 0 \/ q = 2 \/ q = 3 := b1S hq
    rcases hq' with rfl | rfl | rfl
    . exact ⟨_, rfl, h0T (m := 20) (ks := [.int .u64]) hgv2 hgc2 Tryz.underlying238 (by kernel_rfl) (by kernel_rfl) (by kernel_rfl) (by decide) hgd2 (by kernel_rfl) g⟩
    . exact ⟨_, rfl, h0T (m := 20) (ks := [.int .u8]) hgv0 hgc0 Tryz.underlying254 (by kernel_rfl) (by kernel_rfl) (by kernel_rfl) (by decide) hgd0 (by kernel_rfl) g⟩
    . exact ⟨_, rfl, h0T (m := 20) (ks := [.int .u8]) hgv1 hgc1 Tryz.underlying255 (by kernel_rfl) (by kernel_rfl) (by kernel_rfl) (by decide) hgd1 (by kernel_rfl) g⟩
  obtain ⟨hH, hro⟩ : Holds g [(0, some (GB glT)), (1, some (.one true (.cols l0_0 [.sc (.strs q0_0_0)]))), (2, some (.one true (.cols l0_2 [.sc (.ints .i64 q0_2_0)]))), (3, some (.one true (.cols l1 [.sc (.ints .i64 q1_0), .sc (.ints .i64 q1_1), .sc (.strs q1_2), .sc (.strs q1_3), .sc (.strs q1_4), .sc (.strs q1_5), .sc (.ints .i64 q1_6), .sc (.ints .i64 q1_7), .sc (.bools q1_8)])))] W /\ ∀ h q ro b, Ent [(0, some (GB glT)), (1, some (.one true (.cols l0_0 [.sc (.strs q0_0_0)]))), (2, some (.one true (.cols l0_2 [.sc (.ints .i64 q0_2_0)]))), (3, some (.one true (.cols l1 [.sc (.ints .i64 q1_0), .sc (.ints .i64 q1_1), .sc (.strs q1_2), .sc (.strs q1_3), .sc (.strs q1_4), .sc (.strs q1_5), .sc (.ints .i64 q1_6), .sc (.ints .i64 q1_7), .sc (.bools q1_8)])))] h q ro b -> ro = true := z0l hT (by
    intro p hp
    simp only [List.mem_cons, List.not_mem_nil, or_false] at hp
    rcases hp with rfl | rfl | rfl
    . exact ⟨Nat.succ_ne_zero _, _, _, rfl, rfl, hB0_0 g⟩
    . exact ⟨Nat.succ_ne_zero _, _, _, rfl, rfl, hB0_2 g⟩
    . exact ⟨Nat.succ_ne_zero _, _, _, rfl, rfl, hB1 g⟩)
  have hv : Rvs g [.agg [.sl 1 0 0 l0_0, .str x0_1, .sl 2 0 0 l0_2, .int .i64 x0_3, .int .i64 x0_4], .sl 3 0 0 l1, .str s2, .int .i64 n3] [.agg #[c0_0, .string x0_1, c0_2, .int .i64 x0_3, .int .i64 x0_4], .slice a1 len1 cap1, .string s2, .int .i64 n3] := by
    simp only [Rvs]
    exact ⟨_, _, rfl, (w0e (d0e (hR0_0 _ 1 rfl) (d0e rvt (d0e (hR0_2 _ 2 rfl) (d0e rvi (d0e rvi t0H)))))), ⟨_, _, rfl, (hR1 _ 3 rfl), ⟨_, _, rfl, rvt, ⟨_, _, rfl, rvi, rfl⟩⟩⟩⟩
  refine ((booksPlays_fc l0_0 hl0_0 q0_0_0 eq0_0_0 wq0_0_0 x0_1 hx0_1 l0_2 hl0_2 q0_2_0 eq0_2_0 wq0_2_0 x0_3 hx0_3 x0_4 hx0_4 l1 hl1 q1_0 eq1_0 wq1_0 q1_1 eq1_1 wq1_1 q1_2 eq1_2 vq1_2 q1_3 eq1_3 vq1_3 q1_4 eq1_4 vq1_4 q1_5 eq1_5 vq1_5 q1_6 eq1_6 wq1_6 q1_7 eq1_7 wq1_7 q1_8 eq1_8 s2 hs2 n3 hw3).law ⟨_, _, Tryz.func3, rfl, by kernel_rfl⟩ hro hgl hup hH hv).mono fun e W' ⟨he, bel⟩ => ?_
  subst he
  exact ⟨_, rfl, _, _, _, [], _, [], hW', trodAll_mk1 (shut_bool Tryz.underlying4 _), (trodAll_cons_mk (Below.trod n0j (by kernel_rfl) (of_decide_eq_true (by kernel_rfl)) h0 bel lt0) (trodAll_cons_mk (Below.trod n0j (by kernel_rfl) (of_decide_eq_true (by kernel_rfl)) h1 bel lt1) (trodAll_cons_mk (Below.trod n0j (by kernel_rfl) (of_decide_eq_true (by kernel_rfl)) h2 bel lt2) (trodAll_cons_mk (Below.trod n0j (by kernel_rfl) (of_decide_eq_true (by kernel_rfl)) h3 bel lt3) trodAll_mk0)))), rfl, bel.frame _, fun h => by cases h⟩

theorem h1h {a b : Bool} (h1 : a = true) (h2 : b = true) : (a && b) = true := by rw [h1, h2]; rfl
set_option maxHeartbeats 0 in
set_option maxRecDepth 100000 in
theorem f1y : joinedFacts Tryz.pinned.checked.prog 3 Tryz.f3 Rows.booksPlaysSpec Rows.booksPlaysRow = true := by
  unfold joinedFacts
  repeat' (with_reducible refine h1h ?_ ?_)
  all_goals (as_aux_lemma => kernel_rfl)
theorem over : Rows.booksPlaysRow.holds Tryz.pinned (OpenSpec.ofChange Rows.booksPlaysSpec) :=
  OpenClaim.holds_of_wide 3 Tryz.f3 rfl rfl rfl rfl rfl rfl rfl ⟨rfl, rfl, rfl, rfl, rfl⟩ rfl rfl rfl rfl rfl (by kernel_rfl) Tryz.func3 f1y
    (of_decide_eq_true (by kernel_rfl)) (by unfold Func.isWrapper; first | (rw [if_pos (by decide +kernel)]; kernel_rfl) | (rw [if_neg (by decide +kernel)]; exact ⟨rfl, rfl⟩))
    (fun os started H enc _ => f1x os started H enc)
end Go.Proofs.YtpkaeknigknbgaaGreatDoor.booksPlaysLaw
namespace Go.Proofs.YtpkaeknigknbgaaGreatDoor
open Go in
theorem booksPlays_holds : Rows.BooksPlaysCardSaid :=
  Claim7.holds_tied_plain_at .later [] [.data, .data, .data] true (true, "964be816b15f1f298226e901a6af4c71831835a07742aecf7b0482062ae52892") false
    booksPlaysLaw.over (fun _ h => by cases h) (by kernel_rfl) (fun _ h => by cases h) booksPlays_row_tie rfl ⟨rfl, rfl⟩ (by kernel_rfl) rfl
    (fun f fn hf hfn => by
      obtain rfl : f = 3 := Option.some.inj ((show Tryz.prog.funcNamed "cardnet/cardnetlaw50.BooksPlays" = some 3 by kernel_rfl).symm.trans hf) |>.symm
      obtain rfl : fn = Tryz.f3 := (Option.some.inj (Tryz.func3.symm.trans hfn)).symm
      exact ⟨by kernel_rfl, fun j t ht => by
        rw [Tryz.params3] at ht
        have hm : t ∈ [25, 26, 9, 3] := by simpa using Array.mem_of_getElem? ht
        have hall : ([25, 26, 9, 3].all fun u => !Tryz.prog.wantsStandIn u) = true := by kernel_rfl
        exact (show Tryz.prog.wantsStandIn t = false by simpa using List.all_eq_true.1 hall t hm)⟩)
    (by kernel_rfl)
end Go.Proofs.YtpkaeknigknbgaaGreatDoor
