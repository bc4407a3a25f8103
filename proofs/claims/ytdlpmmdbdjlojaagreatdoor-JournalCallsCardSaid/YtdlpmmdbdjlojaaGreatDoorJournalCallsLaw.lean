/- 'cardnet law JournalCalls' returns true at every input: the statement, from the contract of the law's function. The frame was written by mklaw.py. -/
import Derived.Test.YtdlpmmdbdjlojaaGreatDoorRows
import Derived.Test.YtdlpmmdbdjlojaaGreatDoorJournalCallsC
import Derived.Test.YtdlpmmdbdjlojaaGreatDoorYLaid
import Derived.Test.YtdlpmmdbdjlojaaGreatDoorTie
import Derived.Test.YtdlpmmdbdjlojaaGreatDoorCards
import Derived.Test.YtdlpmmdbdjlojaaGreatDoorYLaid
import Derived.ProofKit
import Derived.OpenShut
import Derived.ShutString
import Derived.ChangeOld
import Derived.Below
import Derived.Carry
import Derived.LaidMore
import Derived.LaidLaws
import Derived.Stop.Joined
import Derived.SevenTiedAt
namespace Go.Proofs.YtdlpmmdbdjlojaaGreatDoor.journalCallsLaw
open Go.ChangeShapes Go.WideShapes Go.ChangeAt Go.RowKit Go.Sy
set_option linter.unusedVariables false
set_option linter.unusedSimpArgs false

theorem own : ownKnob Tryz.prog.godebug = none := by kernel_rfl
theorem laidOut : laidOutB Tryz.prog = true := by kernel_rfl

theorem door_met (os : Os) (args : Array Value) : laidMetH Tryz.prog Rows.journalCallsRow.laid ((World.doorLaid Tryz.prog 400 os).forCall (fun _ _ => 0) ⟨#[], args, []⟩).memory :=
  laidMetH_of_parts3 (fuel := 8) (laidMet_of_run' 8 (by kernel_rfl) (by kernel_rfl)) (by kernel_rfl) (by kernel_rfl)

set_option maxRecDepth 100000 in
theorem lifted (os : Os) (started : os.Started) (H : Type) (enc : TypeId × Value → H) :
    ReturnsInHanded {} Tryz.checked os 3 .any (fun w args => (Rows.journalCallsSpec.pre enc Tryz.prog Tryz.f3 [] false w args ∧ laidMetH Tryz.prog Rows.journalCallsRow.laid w) ∧ sizedMet enc Tryz.prog Tryz.f3 (OpenSpec.ofChange Rows.journalCallsSpec) false w args) (Rows.journalCallsSpec.post enc Tryz.prog Tryz.f3 false true false false) := by
  refine returnsInHanded_of_change_and (C := Tryz.checked) (X := fun w _ => laidMetH Tryz.prog Rows.journalCallsRow.laid w) (fun _ _ _ hh h => h.of_heap hh) own started (by kernel_rfl) Tryz.func3
    (ChangeSpec.witness_shaped (enc := enc) (C := Tryz.checked) (os := os) (X := fun w _ => laidMetH Tryz.prog Rows.journalCallsRow.laid w) false (World.doorLaid Tryz.prog 400 os) #[.int .i64 0, .slice none 0 0] 8 rfl (World.shaped_of_RefB (by kernel_rfl) (by kernel_rfl)) (by kernel_rfl) (by kernel_rfl) (by kernel_rfl) (door_met os _)) ?_
  intro W base args ds gs before hval0 hW _ _ hL _
  have hval : ∀ (j : Nat) t v, Tryz.f3.params[j]? = some t → args[j]? = some v → Value.okWide Tryz.prog W .any base t v := hval0
  have hW' := hW
  obtain ⟨p, q, hA0, hV, rfl, hfz, hnd⟩ := hW
  have hA : DataW.TrodAll enc Tryz.prog W 0 (fun _ => true) true Tryz.f3.params.toList args.toList ds p := hA0
  rw [Tryz.params3] at hA hval
  obtain ⟨v0, vs0, d0, ds0, p0, q0, hargs, rfl, rfl, h0, r0⟩ := trodAll_cons hA
  obtain ⟨v1, vs1, d1, ds1, p1, q1, rfl, rfl, rfl, h1, r1⟩ := trodAll_cons r0
  obtain ⟨rfl, rfl, rfl⟩ := trodAll_nil r1
  obtain rfl : args = #[v0, v1] := by cases args; simp_all
  obtain ⟨rfl, rfl⟩ := trodVars_none hV
  have lt0 : ∀ x ∈ p0, x.block < W.heap.size := by obtain ⟨m, hm⟩ := h0; exact DataW.trod_lt m _ _ _ hm
  have lt1 : ∀ x ∈ p1, x.block < W.heap.size := by obtain ⟨m, hm⟩ := h1; exact DataW.trod_lt m _ _ _ hm
  obtain ⟨n0, rfl⟩ := okWide_int Tryz.underlying3 (hval 0 3 v0 rfl rfl)
  have hw0 : (Lit.int .i64 n0).wf = true := by
    obtain ⟨fuel, hf⟩ := h0
    obtain ⟨m, e, _, hw⟩ := DataW.trod_int Tryz.underlying3 hf
    simp [Value.cells] at e; subst e; exact hw
  obtain ⟨fuel1, hf1⟩ := id h1
  obtain ⟨a1, len1, cap1, rfl⟩ := okWide_slice Tryz.underlying22 (hval 1 22 v1 rfl rfl)
  obtain ⟨l1, β1, cols1, hl1, hcol1, hR1, hB1⟩ := slice_in (m := 20) (ks := [.int .u8, .str, .int .i64, .int .u64]) Tryz.underlying22 (by kernel_rfl) (by kernel_rfl) (by decide) hf1
  simp only [ColsOk, ColOk] at hcol1
  obtain ⟨_, _, rfl, ⟨q1_0, rfl, eq1_0, wq1_0⟩, _, _, rfl, ⟨q1_1, rfl, eq1_1, wq1_1⟩, _, _, rfl, ⟨q1_2, rfl, eq1_2, wq1_2⟩, _, _, rfl, ⟨q1_3, rfl, eq1_3, wq1_3⟩, rfl⟩ := hcol1
  clear hA0 hval0
  rw [MakeChecks.laidMetH_plain _ _ _ (by kernel_rfl)] at hL
  obtain ⟨ps, ⟨gv0, gt0, gc0, gf0, gp0, gq0, hgv0, hgt0, hgc0, hgd0, ⟨gv1, gt1, gc1, gf1, gp1, gq1, hgv1, hgt1, hgc1, hgd1, ⟨gv2, gt2, gc2, gf2, gp2, gq2, hgv2, hgt2, hgc2, hgd2, _, _⟩, _⟩, _⟩, _, _⟩ := hL
  obtain rfl : gv0 = 2 := Option.some.inj (hgv0.symm.trans (by kernel_rfl))
  obtain rfl : gt0 = 148 := Option.some.inj (hgt0.symm.trans (by kernel_rfl))
  obtain rfl : gv1 = 3 := Option.some.inj (hgv1.symm.trans (by kernel_rfl))
  obtain rfl : gt1 = 149 := Option.some.inj (hgt1.symm.trans (by kernel_rfl))
  obtain rfl : gv2 = 0 := Option.some.inj (hgv2.symm.trans (by kernel_rfl))
  obtain rfl : gt2 = 142 := Option.some.inj (hgt2.symm.trans (by kernel_rfl))
  let g : G := fun h q => match h, q with | 0, q => some (gbase [(2, 1, 32), (3, 1, 64), (0, 1, 20)] q) | 1, 0 => some β1 | _, _ => none
  have hgl : g.glob := fun q => gbase_glob _ q
  have hup : g.upto 2 := by
    intro h q hh
    simp only [g]
    split <;> first | rfl | (exfalso; omega)
  have hT : ∀ q, (aget glT q).isSome = true → ∃ β, g 0 q = some β ∧ BlkAt g β true (gblk glT q) W := by
    intro q hq
    have hq' : q = 0 ∨ q = 2 ∨ q = 3 := gl_keys hq
    rcases hq' with rfl | rfl | rfl
    · exact ⟨_, rfl, laid_table (m := 20) (ks := [.int .u64]) hgv2 hgc2 Tryz.underlying142 (by kernel_rfl) (by kernel_rfl) (by kernel_rfl) (by decide) hgd2 (by kernel_rfl) g⟩
    · exact ⟨_, rfl, laid_table (m := 20) (ks := [.int .u8]) hgv0 hgc0 Tryz.underlying148 (by kernel_rfl) (by kernel_rfl) (by kernel_rfl) (by decide) hgd0 (by kernel_rfl) g⟩
    · exact ⟨_, rfl, laid_table (m := 20) (ks := [.int .u8]) hgv1 hgc1 Tryz.underlying149 (by kernel_rfl) (by kernel_rfl) (by kernel_rfl) (by decide) hgd1 (by kernel_rfl) g⟩
  obtain ⟨hH, hro⟩ : Holds g [(0, some (GB glT)), (1, some (.one true (.cols l1 [.sc (.ints .u8 q1_0), .sc (.strs q1_1), .sc (.ints .i64 q1_2), .sc (.ints .u64 q1_3)])))] W ∧ ∀ h q ro b, Ent [(0, some (GB glT)), (1, some (.one true (.cols l1 [.sc (.ints .u8 q1_0), .sc (.strs q1_1), .sc (.ints .i64 q1_2), .sc (.ints .u64 q1_3)])))] h q ro b → ro = true := holds_gl hT (by
    intro p hp
    simp only [List.mem_cons, List.not_mem_nil, or_false] at hp
    rcases hp with rfl
    · exact ⟨Nat.succ_ne_zero _, _, _, rfl, rfl, hB1 g⟩)
  have hv : Rvs g [.int .i64 n0, .sl 1 0 0 l1] [.int .i64 n0, .slice a1 len1 cap1] := by
    simp only [Rvs]
    exact ⟨_, _, rfl, rvi, ⟨_, _, rfl, (hR1 _ 1 rfl), rfl⟩⟩
  refine ((journalCalls_fc n0 hw0 l1 hl1 q1_0 eq1_0 wq1_0 q1_1 eq1_1 wq1_1 q1_2 eq1_2 wq1_2 q1_3 eq1_3 wq1_3).law ⟨_, _, Tryz.func3, rfl, by kernel_rfl⟩ hro hgl hup hH hv).mono fun e W' ⟨he, bel⟩ => ?_
  subst he
  exact ⟨_, rfl, _, _, _, [], _, [], hW', trodAll_mk1 (shut_bool Tryz.underlying4 _), (trodAll_cons_mk (Below.trod laidOut (by kernel_rfl) (of_decide_eq_true (by kernel_rfl)) h0 bel lt0) (trodAll_cons_mk (Below.trod laidOut (by kernel_rfl) (of_decide_eq_true (by kernel_rfl)) h1 bel lt1) trodAll_mk0)), rfl, bel.frame _, fun h => by cases h⟩

theorem over : Rows.journalCallsRow.holds Tryz.pinned (OpenSpec.ofChange Rows.journalCallsSpec) :=
  OpenClaim.holds_of_wide 3 Tryz.f3 rfl rfl rfl rfl rfl rfl rfl ⟨rfl, rfl, rfl, rfl, rfl⟩ rfl rfl rfl rfl rfl (by kernel_rfl) Tryz.func3 (by kernel_rfl)
    (of_decide_eq_true (by kernel_rfl)) (by unfold Func.isWrapper; first | (rw [if_pos (by decide +kernel)]; kernel_rfl) | (rw [if_neg (by decide +kernel)]; exact ⟨rfl, rfl⟩))
    (fun os started H enc _ => lifted os started H enc)
end Go.Proofs.YtdlpmmdbdjlojaaGreatDoor.journalCallsLaw
namespace Go.Proofs.YtdlpmmdbdjlojaaGreatDoor
open Go in
theorem journalCalls_holds : Rows.JournalCallsCardSaid :=
  Claim7.holds_tied_plain_at .later [] [.data, .data, .data] true (true, "15e0296f69814b4d725b34ce6ae6f5de2394f82d56a80f9c782499c09b019e52") false
    journalCallsLaw.over (fun _ h => by cases h) (by kernel_rfl) (fun _ h => by cases h) journalCalls_row_tie rfl ⟨rfl, rfl⟩ (by kernel_rfl) rfl
    (fun f fn hf hfn => by
      obtain rfl : f = 3 := Option.some.inj ((show Tryz.prog.funcNamed "cardnet/cardnetlaw49.JournalCalls" = some 3 by kernel_rfl).symm.trans hf) |>.symm
      obtain rfl : fn = Tryz.f3 := (Option.some.inj (Tryz.func3.symm.trans hfn)).symm
      exact ⟨by kernel_rfl, fun j t ht => by
        rw [Tryz.params3] at ht
        have hm : t ∈ [3, 22] := by simpa using Array.mem_of_getElem? ht
        have hall : ([3, 22].all fun u => !Tryz.prog.wantsStandIn u) = true := by kernel_rfl
        exact (show Tryz.prog.wantsStandIn t = false by simpa using List.all_eq_true.1 hall t hm)⟩)
    (by kernel_rfl)
end Go.Proofs.YtdlpmmdbdjlojaaGreatDoor
