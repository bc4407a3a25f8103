/- 'cardnet law RateFinds' returns true at every input: the statement, from the contract of the law's function. The frame was written by mklaw.py. -/
import Derived.Test.YtpmgaanpbbplbaaDoorRows
import Derived.Test.YtpmgaanpbbplbaaDoorRateF2
import Derived.Test.YtpmgaanpbbplbaaDoorYLaid
import Derived.Test.YtpmgaanpbbplbaaDoorTie
import Derived.Test.YtpmgaanpbbplbaaDoorCards
import Derived.ProofKit
import Derived.OpenShut
import Derived.ShutString
import Derived.ChangeOld
import Derived.Below
import Derived.Carry
import Derived.LaidMore
import Derived.LaidLaws
import Derived.Stop.Joined
import Derived.SevenTiedAt
namespace Go.Proofs.YtpmgaanpbbplbaaDoor.rateFindsLaw
open Go.ChangeShapes Go.WideShapes Go.ChangeAt Go.RowKit Go.Sy
set_option linter.unusedVariables false
set_option linter.unusedSimpArgs false

theorem own : ownKnob Tryd.prog.godebug = none := by kernel_rfl
theorem laidOut : laidOutB Tryd.prog = true := by kernel_rfl

theorem door_met (os : Os) (args : Array Value) : laidMetH Tryd.prog Rows.rateFindsRow.laid ((World.doorLaid Tryd.prog 400 os).forCall (fun _ _ => 0) ⟨#[], args, []⟩).memory :=
  laidMetH_of_parts3 (fuel := 8) (laidMet_of_run' 8 (by kernel_rfl) (by kernel_rfl)) (by kernel_rfl) (by kernel_rfl)

set_option maxRecDepth 100000 in
theorem lifted (os : Os) (started : os.Started) (H : Type) (enc : TypeId × Value → H) :
    ReturnsInHanded {} Tryd.checked os 7 .any (fun w args => (Rows.rateFindsSpec.pre enc Tryd.prog Tryd.f7 [] false w args ∧ laidMetH Tryd.prog Rows.rateFindsRow.laid w) ∧ sizedMet enc Tryd.prog Tryd.f7 (OpenSpec.ofChange Rows.rateFindsSpec) false w args) (Rows.rateFindsSpec.post enc Tryd.prog Tryd.f7 false true false false) := by
  refine returnsInHanded_of_change_and (C := Tryd.checked) (X := fun w _ => laidMetH Tryd.prog Rows.rateFindsRow.laid w) (fun _ _ _ hh h => h.of_heap hh) own started (by kernel_rfl) Tryd.func7
    (ChangeSpec.witness_shaped (enc := enc) (C := Tryd.checked) (os := os) (X := fun w _ => laidMetH Tryd.prog Rows.rateFindsRow.laid w) false (World.doorLaid Tryd.prog 400 os) #[.agg #[.slice none 0 0, .string ⟨#[]⟩, .string ⟨#[]⟩, .string ⟨#[]⟩]] 8 rfl (World.shaped_of_RefB (by kernel_rfl) (by kernel_rfl)) (by kernel_rfl) (by kernel_rfl) (by kernel_rfl) (door_met os _)) ?_
  intro W base args ds gs before hval0 hW _ _ hL _
  have hval : ∀ (j : Nat) t v, Tryd.f7.params[j]? = some t → args[j]? = some v → Value.okWide Tryd.prog W .any base t v := hval0
  have hW' := hW
  obtain ⟨p, q, hA0, hV, rfl, hfz, hnd⟩ := hW
  have hA : DataW.TrodAll enc Tryd.prog W 0 (fun _ => true) true Tryd.f7.params.toList args.toList ds p := hA0
  rw [Tryd.params7] at hA hval
  obtain ⟨v0, vs0, d0, ds0, p0, q0, hargs, rfl, rfl, h0, r0⟩ := trodAll_cons hA
  obtain ⟨rfl, rfl, rfl⟩ := trodAll_nil r0
  obtain rfl : args = #[v0] := by cases args; simp_all
  obtain ⟨rfl, rfl⟩ := trodVars_none hV
  have lt0 : ∀ x ∈ p0, x.block < W.heap.size := by obtain ⟨m, hm⟩ := h0; exact DataW.trod_lt m _ _ _ hm
  obtain ⟨cs0, rfl, _⟩ := okWide_struct Tryd.underlying45 (hval 0 45 v0 rfl rfl)
  obtain ⟨fuel0, hf0⟩ := id h0
  obtain ⟨xs0, m0, _, _, hlen0, hxl0, hfs0⟩ := DataW.trod_struct Tryd.underlying45 hf0
  obtain ⟨l0⟩ := cs0
  rw [show Tryd.prog.cellsOf 45 = 4 from by kernel_rfl] at hlen0
  simp only [Value.cells] at hlen0 hfs0
  obtain ⟨c0_0, t0_0, rfl, hlq0_0⟩ := len_cons hlen0
  obtain ⟨c0_1, t0_1, rfl, hlq0_1⟩ := len_cons hlq0_0
  obtain ⟨c0_2, t0_2, rfl, hlq0_2⟩ := len_cons hlq0_1
  obtain ⟨c0_3, t0_3, rfl, hlq0_3⟩ := len_cons hlq0_2
  obtain rfl := len_nil hlq0_3
  obtain ⟨y0_0, hy0_0⟩ : ∃ x, xs0[0]? = some x := ⟨_, List.getElem?_eq_getElem (by rw [hxl0]; decide)⟩
  have g0_0 : DataW.trod enc Tryd.prog W 0 (fun _ => true) true m0 43 (List.take (Tryd.prog.cellsOf 43) (List.drop 0 [c0_0, c0_1, c0_2, c0_3])) = xs0[0]? := hfs0 0 _ rfl
  rw [hy0_0, show Tryd.prog.cellsOf 43 = 1 from by kernel_rfl] at g0_0
  simp only [List.drop_zero, List.drop_succ_cons, List.take_succ_cons, List.take_zero] at g0_0
  obtain ⟨y0_1, hy0_1⟩ : ∃ x, xs0[1]? = some x := ⟨_, List.getElem?_eq_getElem (by rw [hxl0]; decide)⟩
  have g0_1 : DataW.trod enc Tryd.prog W 0 (fun _ => true) true m0 9 (List.take (Tryd.prog.cellsOf 9) (List.drop 1 [c0_0, c0_1, c0_2, c0_3])) = xs0[1]? := hfs0 1 _ rfl
  rw [hy0_1, show Tryd.prog.cellsOf 9 = 1 from by kernel_rfl] at g0_1
  simp only [List.drop_zero, List.drop_succ_cons, List.take_succ_cons, List.take_zero] at g0_1
  obtain ⟨y0_2, hy0_2⟩ : ∃ x, xs0[2]? = some x := ⟨_, List.getElem?_eq_getElem (by rw [hxl0]; decide)⟩
  have g0_2 : DataW.trod enc Tryd.prog W 0 (fun _ => true) true m0 9 (List.take (Tryd.prog.cellsOf 9) (List.drop 2 [c0_0, c0_1, c0_2, c0_3])) = xs0[2]? := hfs0 2 _ rfl
  rw [hy0_2, show Tryd.prog.cellsOf 9 = 1 from by kernel_rfl] at g0_2
  simp only [List.drop_zero, List.drop_succ_cons, List.take_succ_cons, List.take_zero] at g0_2
  obtain ⟨y0_3, hy0_3⟩ : ∃ x, xs0[3]? = some x := ⟨_, List.getElem?_eq_getElem (by rw [hxl0]; decide)⟩
  have g0_3 : DataW.trod enc Tryd.prog W 0 (fun _ => true) true m0 9 (List.take (Tryd.prog.cellsOf 9) (List.drop 3 [c0_0, c0_1, c0_2, c0_3])) = xs0[3]? := hfs0 3 _ rfl
  rw [hy0_3, show Tryd.prog.cellsOf 9 = 1 from by kernel_rfl] at g0_3
  simp only [List.drop_zero, List.drop_succ_cons, List.take_succ_cons, List.take_zero] at g0_3
  obtain ⟨l0_0, β0_0, cols0_0, hl0_0, hcol0_0, hR0_0, hB0_0⟩ := slice_in (m := 20) (ks := [.str, .str, .int .i64, .int .i64]) Tryd.underlying43 (by kernel_rfl) (by kernel_rfl) (by decide) g0_0
  simp only [ColsOk, ColOk] at hcol0_0
  obtain ⟨_, _, rfl, ⟨q0_0_0, rfl, eq0_0_0, wq0_0_0⟩, _, _, rfl, ⟨q0_0_1, rfl, eq0_0_1, wq0_0_1⟩, _, _, rfl, ⟨q0_0_2, rfl, eq0_0_2, wq0_0_2⟩, _, _, rfl, ⟨q0_0_3, rfl, eq0_0_3, wq0_0_3⟩, rfl⟩ := hcol0_0
  obtain ⟨x0_1, e0_1, _, hx0_1⟩ := DataW.trod_string Tryd.underlying9 g0_1
  simp only [List.cons.injEq, and_true] at e0_1; subst e0_1
  obtain ⟨x0_2, e0_2, _, hx0_2⟩ := DataW.trod_string Tryd.underlying9 g0_2
  simp only [List.cons.injEq, and_true] at e0_2; subst e0_2
  obtain ⟨x0_3, e0_3, _, hx0_3⟩ := DataW.trod_string Tryd.underlying9 g0_3
  simp only [List.cons.injEq, and_true] at e0_3; subst e0_3
  clear hA0 hval0
  rw [MakeChecks.laidMetH_plain _ _ _ (by kernel_rfl)] at hL
  obtain ⟨ps, ⟨gv0, gt0, gc0, gf0, gp0, gq0, hgv0, hgt0, hgc0, hgd0, ⟨gv1, gt1, gc1, gf1, gp1, gq1, hgv1, hgt1, hgc1, hgd1, ⟨gv2, gt2, gc2, gf2, gp2, gq2, hgv2, hgt2, hgc2, hgd2, ⟨gv3, gt3, gc3, gf3, gp3, gq3, hgv3, hgt3, hgc3, hgd3, _, _⟩, _⟩, _⟩, _⟩, _, _⟩ := hL
  obtain rfl : gv0 = 7 := Option.some.inj (hgv0.symm.trans (by kernel_rfl))
  obtain rfl : gt0 = 115 := Option.some.inj (hgt0.symm.trans (by kernel_rfl))
  obtain rfl : gv1 = 8 := Option.some.inj (hgv1.symm.trans (by kernel_rfl))
  obtain rfl : gt1 = 116 := Option.some.inj (hgt1.symm.trans (by kernel_rfl))
  obtain rfl : gv2 = 3 := Option.some.inj (hgv2.symm.trans (by kernel_rfl))
  obtain rfl : gt2 = 96 := Option.some.inj (hgt2.symm.trans (by kernel_rfl))
  obtain rfl : gv3 = 0 := Option.some.inj (hgv3.symm.trans (by kernel_rfl))
  obtain rfl : gt3 = 82 := Option.some.inj (hgt3.symm.trans (by kernel_rfl))
  let g : G := fun h q => match h, q with | 0, q => some (gbase [(7, 1, 32), (8, 1, 64), (3, 1, 20), (0, 2, 10)] q) | 1, 0 => some β0_0 | _, _ => none
  have hgl : g.glob := fun q => gbase_glob _ q
  have hup : g.upto 2 := by
    intro h q hh
    simp only [g]
    split <;> first | rfl | (exfalso; omega)
  have hT : ∀ q, (aget glT q).isSome = true → ∃ β, g 0 q = some β ∧ BlkAt g β true (gblk glT q) W := by
    intro q hq
    have hq' : q = 0 ∨ q = 3 ∨ q = 7 ∨ q = 8 := gl_keys hq
    rcases hq' with rfl | rfl | rfl | rfl
    · exact ⟨_, rfl, laid_table (m := 20) (ks := [.str, .int .i64]) hgv3 hgc3 Tryd.underlying82 (by kernel_rfl) (by kernel_rfl) (by kernel_rfl) (by decide) hgd3 (by kernel_rfl) g⟩
    · exact ⟨_, rfl, laid_table (m := 20) (ks := [.int .u64]) hgv2 hgc2 Tryd.underlying96 (by kernel_rfl) (by kernel_rfl) (by kernel_rfl) (by decide) hgd2 (by kernel_rfl) g⟩
    · exact ⟨_, rfl, laid_table (m := 20) (ks := [.int .u8]) hgv0 hgc0 Tryd.underlying115 (by kernel_rfl) (by kernel_rfl) (by kernel_rfl) (by decide) hgd0 (by kernel_rfl) g⟩
    · exact ⟨_, rfl, laid_table (m := 20) (ks := [.int .u8]) hgv1 hgc1 Tryd.underlying116 (by kernel_rfl) (by kernel_rfl) (by kernel_rfl) (by decide) hgd1 (by kernel_rfl) g⟩
  obtain ⟨hH, hro⟩ : Holds g [(0, some (GB glT)), (1, some (.one true (.cols l0_0 [.sc (.strs q0_0_0), .sc (.strs q0_0_1), .sc (.ints .i64 q0_0_2), .sc (.ints .i64 q0_0_3)])))] W ∧ ∀ h q ro b, Ent [(0, some (GB glT)), (1, some (.one true (.cols l0_0 [.sc (.strs q0_0_0), .sc (.strs q0_0_1), .sc (.ints .i64 q0_0_2), .sc (.ints .i64 q0_0_3)])))] h q ro b → ro = true := holds_gl hT (by
    intro p hp
    simp only [List.mem_cons, List.not_mem_nil, or_false] at hp
    rcases hp with rfl
    · exact ⟨Nat.succ_ne_zero _, _, _, rfl, rfl, hB0_0 g⟩)
  have hv : Rvs g [.agg [.sl 1 0 0 l0_0, .str x0_1, .str x0_2, .str x0_3]] [.agg #[c0_0, .string x0_1, .string x0_2, .string x0_3]] := by
    simp only [Rvs]
    exact ⟨_, _, rfl, (rv_agg_mk (rvs_cons_mk (hR0_0 _ 1 rfl) (rvs_cons_mk rvt (rvs_cons_mk rvt (rvs_cons_mk rvt rvs_nil_mk))))), rfl⟩
  refine ((rateFinds_fc l0_0 hl0_0 q0_0_0 eq0_0_0 wq0_0_0 q0_0_1 eq0_0_1 wq0_0_1 q0_0_2 eq0_0_2 wq0_0_2 q0_0_3 eq0_0_3 wq0_0_3 x0_1 hx0_1 x0_2 hx0_2 x0_3 hx0_3).law hro hgl hup hH hv).mono fun e W' ⟨he, bel⟩ => ?_
  subst he
  exact ⟨_, rfl, _, _, _, [], _, [], hW', trodAll_mk1 (shut_bool Tryd.underlying4 _), (trodAll_cons_mk (Below.trod laidOut (by kernel_rfl) (of_decide_eq_true (by kernel_rfl)) h0 bel lt0) trodAll_mk0), rfl, bel.frame _, fun h => by cases h⟩

theorem over : Rows.rateFindsRow.holds Tryd.pinned (OpenSpec.ofChange Rows.rateFindsSpec) :=
  OpenClaim.holds_of_wide 7 Tryd.f7 rfl rfl rfl rfl rfl rfl rfl ⟨rfl, rfl, rfl, rfl, rfl⟩ rfl rfl rfl rfl rfl (by kernel_rfl) Tryd.func7 (by kernel_rfl)
    (of_decide_eq_true (by kernel_rfl)) (by unfold Func.isWrapper; first | (rw [if_pos (by decide +kernel)]; kernel_rfl) | (rw [if_neg (by decide +kernel)]; exact ⟨rfl, rfl⟩))
    (fun os started H enc _ => lifted os started H enc)
end Go.Proofs.YtpmgaanpbbplbaaDoor.rateFindsLaw
namespace Go.Proofs.YtpmgaanpbbplbaaDoor
open Go in
theorem rateFinds_holds : Rows.RateFindsCardSaid :=
  Claim7.holds_tied_plain_at .later [] [.data, .data, .data, .data] true (true, "f8b548e134130e5ed713d73920aac330f8cae19d22554389e3a1785216c4d200") true
    rateFindsLaw.over (fun _ h => by cases h) (by kernel_rfl) (fun _ h => by cases h) rateFinds_row_tie rfl ⟨rfl, rfl⟩ (by kernel_rfl) rfl
    (fun f fn hf hfn => by
      obtain rfl : f = 7 := Option.some.inj ((show Tryd.prog.funcNamed "cardnet/cardnetlaw02.RateFinds" = some 7 by kernel_rfl).symm.trans hf) |>.symm
      obtain rfl : fn = Tryd.f7 := (Option.some.inj (Tryd.func7.symm.trans hfn)).symm
      exact ⟨by kernel_rfl, fun j t ht => by
        rw [Tryd.params7] at ht
        have hm : t ∈ [45] := by simpa using Array.mem_of_getElem? ht
        have hall : ([45].all fun u => !Tryd.prog.wantsStandIn u) = true := by kernel_rfl
        exact (show Tryd.prog.wantsStandIn t = false by simpa using List.all_eq_true.1 hall t hm)⟩)
    (by kernel_rfl)
end Go.Proofs.YtpmgaanpbbplbaaDoor
