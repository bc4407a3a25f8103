/- 'cardnet law PositionConverts' returns true at every input: the statement, from the contract of the law's function. The frame was written by mklaw.py. -/
import Derived.Test.YtkbidlijinclcaaGreatDoorRows
import Derived.Test.YtkbidlijinclcaaGreatDoorPositionConvertsC
import Derived.Test.YtkbidlijinclcaaGreatDoorYLaid
import Derived.Test.YtkbidlijinclcaaGreatDoorTie
import Derived.Test.YtkbidlijinclcaaGreatDoorCards
import Derived.Test.YtkbidlijinclcaaGreatDoorYLaid
import Derived.ProofKit
import Derived.OpenShut
import Derived.ShutString
import Derived.ChangeOld
import Derived.Below
import Derived.Carry
import Derived.LaidMore
import Derived.LaidLaws
import Derived.Stop.Joined
import Derived.SevenTiedAt
namespace Go.Proofs.YtkbidlijinclcaaGreatDoor.positionConvertsLaw
open Go.ChangeShapes Go.WideShapes Go.ChangeAt Go.RowKit Go.Sy
set_option linter.unusedVariables false
set_option linter.unusedSimpArgs false

theorem own : ownKnob Tryz.prog.godebug = none := by kernel_rfl
theorem laidOut : laidOutB Tryz.prog = true := by kernel_rfl

theorem door_met (os : Os) (args : Array Value) : laidMetH Tryz.prog Rows.positionConvertsRow.laid ((World.doorLaid Tryz.prog 400 os).forCall (fun _ _ => 0) ⟨#[], args, []⟩).memory :=
  laidMetH_of_parts3 (fuel := 8) (laidMet_of_run' 8 (by kernel_rfl) (by kernel_rfl)) (by kernel_rfl) (by kernel_rfl)

set_option maxRecDepth 100000 in
theorem lifted (os : Os) (started : os.Started) (H : Type) (enc : TypeId × Value → H) :
    ReturnsInHanded {} Tryz.checked os 4 .any (fun w args => (Rows.positionConvertsSpec.pre enc Tryz.prog Tryz.f4 [] false w args ∧ laidMetH Tryz.prog Rows.positionConvertsRow.laid w) ∧ sizedMet enc Tryz.prog Tryz.f4 (OpenSpec.ofChange Rows.positionConvertsSpec) false w args) (Rows.positionConvertsSpec.post enc Tryz.prog Tryz.f4 false true false false) := by
  refine returnsInHanded_of_change_and (C := Tryz.checked) (X := fun w _ => laidMetH Tryz.prog Rows.positionConvertsRow.laid w) (fun _ _ _ hh h => h.of_heap hh) own started (by kernel_rfl) Tryz.func4
    (ChangeSpec.witness_shaped (enc := enc) (C := Tryz.checked) (os := os) (X := fun w _ => laidMetH Tryz.prog Rows.positionConvertsRow.laid w) false (World.doorLaid Tryz.prog 400 os) #[.slice none 0 0, .slice none 0 0, .slice none 0 0, .string ⟨#[]⟩, .string ⟨#[]⟩] 8 rfl (World.shaped_of_RefB (by kernel_rfl) (by kernel_rfl)) (by kernel_rfl) (by kernel_rfl) (by kernel_rfl) (door_met os _)) ?_
  intro W base args ds gs before hval0 hW _ _ hL _
  have hval : ∀ (j : Nat) t v, Tryz.f4.params[j]? = some t → args[j]? = some v → Value.okWide Tryz.prog W .any base t v := hval0
  have hW' := hW
  obtain ⟨p, q, hA0, hV, rfl, hfz, hnd⟩ := hW
  have hA : DataW.TrodAll enc Tryz.prog W 0 (fun _ => true) true Tryz.f4.params.toList args.toList ds p := hA0
  rw [Tryz.params4] at hA hval
  obtain ⟨v0, vs0, d0, ds0, p0, q0, hargs, rfl, rfl, h0, r0⟩ := trodAll_cons hA
  obtain ⟨v1, vs1, d1, ds1, p1, q1, rfl, rfl, rfl, h1, r1⟩ := trodAll_cons r0
  obtain ⟨v2, vs2, d2, ds2, p2, q2, rfl, rfl, rfl, h2, r2⟩ := trodAll_cons r1
  obtain ⟨v3, vs3, d3, ds3, p3, q3, rfl, rfl, rfl, h3, r3⟩ := trodAll_cons r2
  obtain ⟨v4, vs4, d4, ds4, p4, q4, rfl, rfl, rfl, h4, r4⟩ := trodAll_cons r3
  obtain ⟨rfl, rfl, rfl⟩ := trodAll_nil r4
  obtain rfl : args = #[v0, v1, v2, v3, v4] := by cases args; simp_all
  obtain ⟨rfl, rfl⟩ := trodVars_none hV
  have lt0 : ∀ x ∈ p0, x.block < W.heap.size := by obtain ⟨m, hm⟩ := h0; exact DataW.trod_lt m _ _ _ hm
  have lt1 : ∀ x ∈ p1, x.block < W.heap.size := by obtain ⟨m, hm⟩ := h1; exact DataW.trod_lt m _ _ _ hm
  have lt2 : ∀ x ∈ p2, x.block < W.heap.size := by obtain ⟨m, hm⟩ := h2; exact DataW.trod_lt m _ _ _ hm
  have lt3 : ∀ x ∈ p3, x.block < W.heap.size := by obtain ⟨m, hm⟩ := h3; exact DataW.trod_lt m _ _ _ hm
  have lt4 : ∀ x ∈ p4, x.block < W.heap.size := by obtain ⟨m, hm⟩ := h4; exact DataW.trod_lt m _ _ _ hm
  obtain ⟨fuel0, hf0⟩ := id h0
  obtain ⟨a0, len0, cap0, rfl⟩ := okWide_slice Tryz.underlying22 (hval 0 22 v0 rfl rfl)
  obtain ⟨l0, β0, cols0, hl0, hcol0, hR0, hB0⟩ := slice_in (m := 20) (ks := [.str]) Tryz.underlying22 (by kernel_rfl) (by kernel_rfl) (by decide) hf0
  simp only [ColsOk, ColOk] at hcol0
  obtain ⟨_, _, rfl, ⟨q0_0, rfl, eq0_0, wq0_0⟩, rfl⟩ := hcol0
  obtain ⟨fuel1, hf1⟩ := id h1
  obtain ⟨a1, len1, cap1, rfl⟩ := okWide_slice Tryz.underlying23 (hval 1 23 v1 rfl rfl)
  obtain ⟨l1, β1, cols1, hl1, hcol1, hR1, hB1⟩ := slice_in (m := 20) (ks := [.str, .str, .int .i64, .str]) Tryz.underlying23 (by kernel_rfl) (by kernel_rfl) (by decide) hf1
  simp only [ColsOk, ColOk] at hcol1
  obtain ⟨_, _, rfl, ⟨q1_0, rfl, eq1_0, wq1_0⟩, _, _, rfl, ⟨q1_1, rfl, eq1_1, wq1_1⟩, _, _, rfl, ⟨q1_2, rfl, eq1_2, wq1_2⟩, _, _, rfl, ⟨q1_3, rfl, eq1_3, wq1_3⟩, rfl⟩ := hcol1
  obtain ⟨fuel2, hf2⟩ := id h2
  obtain ⟨a2, len2, cap2, rfl⟩ := okWide_slice Tryz.underlying48 (hval 2 48 v2 rfl rfl)
  obtain ⟨l2, β2, cols2, hl2, hcol2, hR2, hB2⟩ := slice_in (m := 20) (ks := [.str, .str, .int .i64, .int .i64]) Tryz.underlying48 (by kernel_rfl) (by kernel_rfl) (by decide) hf2
  simp only [ColsOk, ColOk] at hcol2
  obtain ⟨_, _, rfl, ⟨q2_0, rfl, eq2_0, wq2_0⟩, _, _, rfl, ⟨q2_1, rfl, eq2_1, wq2_1⟩, _, _, rfl, ⟨q2_2, rfl, eq2_2, wq2_2⟩, _, _, rfl, ⟨q2_3, rfl, eq2_3, wq2_3⟩, rfl⟩ := hcol2
  obtain ⟨s3, rfl⟩ := okWide_string Tryz.underlying9 (hval 3 9 v3 rfl rfl)
  have hs3 : s3.size ≤ maxLen := by
    obtain ⟨fuel, hf⟩ := h3
    obtain ⟨m, e, _, hw⟩ := DataW.trod_string Tryz.underlying9 hf
    simp [Value.cells] at e; subst e; exact hw
  obtain ⟨s4, rfl⟩ := okWide_string Tryz.underlying9 (hval 4 9 v4 rfl rfl)
  have hs4 : s4.size ≤ maxLen := by
    obtain ⟨fuel, hf⟩ := h4
    obtain ⟨m, e, _, hw⟩ := DataW.trod_string Tryz.underlying9 hf
    simp [Value.cells] at e; subst e; exact hw
  clear hA0 hval0
  rw [MakeChecks.laidMetH_plain _ _ _ (by kernel_rfl)] at hL
  obtain ⟨ps, ⟨gv0, gt0, gc0, gf0, gp0, gq0, hgv0, hgt0, hgc0, hgd0, _, _⟩, _, _⟩ := hL
  obtain rfl : gv0 = 3 := Option.some.inj (hgv0.symm.trans (by kernel_rfl))
  obtain rfl : gt0 = 165 := Option.some.inj (hgt0.symm.trans (by kernel_rfl))
  let g : G := fun h q => match h, q with | 0, q => some (gbase [(3, 2, 10)] q) | 1, 0 => some β0 | 2, 0 => some β1 | 3, 0 => some β2 | _, _ => none
  have hgl : g.glob := fun q => gbase_glob _ q
  have hup : g.upto 4 := by
    intro h q hh
    simp only [g]
    split <;> first | rfl | (exfalso; omega)
  have hT : ∀ q, (aget glT q).isSome = true → ∃ β, g 0 q = some β ∧ BlkAt g β true (gblk glT q) W := by
    intro q hq
    have hq' : q = 3 := gl_keys hq
    rcases hq' with rfl
    · exact ⟨_, rfl, laid_table (m := 20) (ks := [.str, .int .i64]) hgv0 hgc0 Tryz.underlying165 (by kernel_rfl) (by kernel_rfl) (by kernel_rfl) (by decide) hgd0 (by kernel_rfl) g⟩
  obtain ⟨hH, hro⟩ : Holds g [(0, some (GB glT)), (1, some (.one true (.cols l0 [.sc (.strs q0_0)]))), (2, some (.one true (.cols l1 [.sc (.strs q1_0), .sc (.strs q1_1), .sc (.ints .i64 q1_2), .sc (.strs q1_3)]))), (3, some (.one true (.cols l2 [.sc (.strs q2_0), .sc (.strs q2_1), .sc (.ints .i64 q2_2), .sc (.ints .i64 q2_3)])))] W ∧ ∀ h q ro b, Ent [(0, some (GB glT)), (1, some (.one true (.cols l0 [.sc (.strs q0_0)]))), (2, some (.one true (.cols l1 [.sc (.strs q1_0), .sc (.strs q1_1), .sc (.ints .i64 q1_2), .sc (.strs q1_3)]))), (3, some (.one true (.cols l2 [.sc (.strs q2_0), .sc (.strs q2_1), .sc (.ints .i64 q2_2), .sc (.ints .i64 q2_3)])))] h q ro b → ro = true := holds_gl hT (by
    intro p hp
    simp only [List.mem_cons, List.not_mem_nil, or_false] at hp
    rcases hp with rfl | rfl | rfl
    · exact ⟨Nat.succ_ne_zero _, _, _, rfl, rfl, hB0 g⟩
    · exact ⟨Nat.succ_ne_zero _, _, _, rfl, rfl, hB1 g⟩
    · exact ⟨Nat.succ_ne_zero _, _, _, rfl, rfl, hB2 g⟩)
  have hv : Rvs g [.sl 1 0 0 l0, .sl 2 0 0 l1, .sl 3 0 0 l2, .str s3, .str s4] [.slice a0 len0 cap0, .slice a1 len1 cap1, .slice a2 len2 cap2, .string s3, .string s4] := by
    simp only [Rvs]
    exact ⟨_, _, rfl, (hR0 _ 1 rfl), ⟨_, _, rfl, (hR1 _ 2 rfl), ⟨_, _, rfl, (hR2 _ 3 rfl), ⟨_, _, rfl, rvt, ⟨_, _, rfl, rvt, rfl⟩⟩⟩⟩⟩
  refine ((positionConverts_fc l0 hl0 q0_0 eq0_0 wq0_0 l1 hl1 q1_0 eq1_0 wq1_0 q1_1 eq1_1 wq1_1 q1_2 eq1_2 wq1_2 q1_3 eq1_3 wq1_3 l2 hl2 q2_0 eq2_0 wq2_0 q2_1 eq2_1 wq2_1 q2_2 eq2_2 wq2_2 q2_3 eq2_3 wq2_3 s3 hs3 s4 hs4).law ⟨_, _, Tryz.func4, rfl, by kernel_rfl⟩ hro hgl hup hH hv).mono fun e W' ⟨he, bel⟩ => ?_
  subst he
  exact ⟨_, rfl, _, _, _, [], _, [], hW', trodAll_mk1 (shut_bool Tryz.underlying4 _), (trodAll_cons_mk (Below.trod laidOut (by kernel_rfl) (of_decide_eq_true (by kernel_rfl)) h0 bel lt0) (trodAll_cons_mk (Below.trod laidOut (by kernel_rfl) (of_decide_eq_true (by kernel_rfl)) h1 bel lt1) (trodAll_cons_mk (Below.trod laidOut (by kernel_rfl) (of_decide_eq_true (by kernel_rfl)) h2 bel lt2) (trodAll_cons_mk (Below.trod laidOut (by kernel_rfl) (of_decide_eq_true (by kernel_rfl)) h3 bel lt3) (trodAll_cons_mk (Below.trod laidOut (by kernel_rfl) (of_decide_eq_true (by kernel_rfl)) h4 bel lt4) trodAll_mk0))))), rfl, bel.frame _, fun h => by cases h⟩

theorem over : Rows.positionConvertsRow.holds Tryz.pinned (OpenSpec.ofChange Rows.positionConvertsSpec) :=
  OpenClaim.holds_of_wide 4 Tryz.f4 rfl rfl rfl rfl rfl rfl rfl ⟨rfl, rfl, rfl, rfl, rfl⟩ rfl rfl rfl rfl rfl (by kernel_rfl) Tryz.func4 (by kernel_rfl)
    (of_decide_eq_true (by kernel_rfl)) (by unfold Func.isWrapper; first | (rw [if_pos (by decide +kernel)]; kernel_rfl) | (rw [if_neg (by decide +kernel)]; exact ⟨rfl, rfl⟩))
    (fun os started H enc _ => lifted os started H enc)
end Go.Proofs.YtkbidlijinclcaaGreatDoor.positionConvertsLaw
namespace Go.Proofs.YtkbidlijinclcaaGreatDoor
open Go in
theorem positionConverts_holds : Rows.PositionConvertsCardSaid :=
  Claim7.holds_tied_plain_at .later [] [.data] true (true, "2c209f8a386ff96ce70d504cc301978830ce6fbd8191c87c70da1cd6fb8cf28f") false
    positionConvertsLaw.over (fun _ h => by cases h) (by kernel_rfl) (fun _ h => by cases h) positionConverts_row_tie rfl ⟨rfl, rfl⟩ (by kernel_rfl) rfl
    (fun f fn hf hfn => by
      obtain rfl : f = 4 := Option.some.inj ((show Tryz.prog.funcNamed "cardnet/cardnetlaw40.PositionConverts" = some 4 by kernel_rfl).symm.trans hf) |>.symm
      obtain rfl : fn = Tryz.f4 := (Option.some.inj (Tryz.func4.symm.trans hfn)).symm
      exact ⟨by kernel_rfl, fun j t ht => by
        rw [Tryz.params4] at ht
        have hm : t ∈ [22, 23, 48, 9, 9] := by simpa using Array.mem_of_getElem? ht
        have hall : ([22, 23, 48, 9, 9].all fun u => !Tryz.prog.wantsStandIn u) = true := by kernel_rfl
        exact (show Tryz.prog.wantsStandIn t = false by simpa using List.all_eq_true.1 hall t hm)⟩)
    (by kernel_rfl)
end Go.Proofs.YtkbidlijinclcaaGreatDoor
