/- 'cardnet law TopHolds' returns true at every input: the statement, from the contract of the law's function. The frame was written by mklaw.py. -/
import Derived.Test.YtedoefigabpmpaaGreatDoorP3
import Derived.Test.YtedoefigabpmpaaGreatDoorP6
import Derived.Test.YtedoefigabpmpaaGreatDoorRows
import Derived.Test.YtedoefigabpmpaaGreatDoorTie
import Derived.Test.YtedoefigabpmpaaGreatDoorCards
import Derived.ProofKit
import Derived.OpenShut
import Derived.ShutString
import Derived.ChangeOld
import Derived.Below
import Derived.Carry
import Derived.Lay
import Derived.LaidOnce
import Derived.LaidMore
import Derived.LaidLaws
import Derived.Stop.Joined
import Derived.SevenTiedAt
namespace Go.Proofs.YtedoefigabpmpaaGreatDoor.topHoldsLaw
open Go.ChangeShapes Go.WideShapes Go.ChangeAt Go.RowKit Go.Sy
set_option linter.unusedVariables false
set_option linter.unusedSimpArgs false

theorem own : ownKnob Tryz.prog.godebug = none := by kernel_rfl
theorem r0g : laidOutB Tryz.prog = true := by kernel_rfl

set_option maxRecDepth 100000 in
theorem x0C (os : Os) (started : os.Started) (H : Type) (enc : TypeId × Value -> H) :
    ReturnsInHanded {} Tryz.checked os 3 .any (fun w args => (Rows.topHoldsSpec.pre enc Tryz.prog Tryz.f3 [] false w args /\ laidMetH Tryz.prog Rows.topHoldsRow.laid w) /\ sizedMet enc Tryz.prog Tryz.f3 (OpenSpec.ofChange Rows.topHoldsSpec) false w args) (Rows.topHoldsSpec.post enc Tryz.prog Tryz.f3 false true false false) := by
  refine returnsInHanded_of_change_and (C := Tryz.checked) (X := fun w _ => laidMetH Tryz.prog Rows.topHoldsRow.laid w) (fun _ _ _ hh h => h.of_heap hh) own started (by kernel_rfl) Tryz.func3
    (ChangeSpec.witness_shaped (enc := enc) (C := Tryz.checked) (os := os) (X := fun w _ => laidMetH Tryz.prog Rows.topHoldsRow.laid w) false (World.laidAll Tryz.prog os Rows.topHoldsRow.laid) #[.int .i64 0, .slice none 0 0] 8 (World.laidAll_os _ _ _) (World.shaped_of_ZipB (by kernel_rfl) (by kernel_rfl)) (by kernel_rfl) (by kernel_rfl) (by kernel_rfl) (by rw [MakeChecks.laidMetH_plain _ _ _ (by kernel_rfl)]; exact laidMet_laidAll _ (by kernel_rfl) (by kernel_rfl))) ?_
  intro W base args ds gs before hval0 hW _ _ hL _
  have hval : ∀ (j : Nat) t v, Tryz.f3.params[j]? = some t -> args[j]? = some v -> Value.okWide Tryz.prog W .any base t v := hval0
  have hW' := hW
  obtain ⟨p, q, hA0, hV, rfl, hfz, hnd⟩ := hW
  have hA : DataW.TrodAll enc Tryz.prog W 0 (fun _ => true) true Tryz.f3.params.toList args.toList ds p := hA0
  rw [Tryz.params3] at hA hval
  obtain ⟨v0, vs0, d0, ds0, p0, q0, hargs, rfl, rfl, h0, r0⟩ := trodAll_cons hA
  obtain ⟨v1, vs1, d1, ds1, p1, q1, rfl, rfl, rfl, h1, r1⟩ := trodAll_cons r0
  obtain ⟨rfl, rfl, rfl⟩ := trodAll_nil r1
  obtain rfl : args = #[v0, v1] := by cases args; simp_all
  obtain ⟨rfl, rfl⟩ := trodVars_none hV
  have lt0 : ∀ x ∈ p0, x.block < W.heap.size := by obtain ⟨m, hm⟩ := h0; exact DataW.trod_lt m _ _ _ hm
  have lt1 : ∀ x ∈ p1, x.block < W.heap.size := by obtain ⟨m, hm⟩ := h1; exact DataW.trod_lt m _ _ _ hm
  obtain ⟨n0, rfl⟩ := okWide_int Tryz.underlying2 (hval 0 2 v0 rfl rfl)
  have hw0 : (Lit.int .i64 n0).wf = true := by
    obtain ⟨fuel, hf⟩ := h0
    obtain ⟨m, e, _, hw⟩ := DataW.trod_int Tryz.underlying2 hf
    simp [Value.cells] at e; subst e; exact hw
  obtain ⟨fuel1, hf1⟩ := id h1
  obtain ⟨a1, len1, cap1, rfl⟩ := okWide_slice Tryz.underlying22 (hval 1 22 v1 rfl rfl)
  obtain ⟨l1, β1, cols1, hl1, hcol1, hR1, hB1⟩ := s0P (m := 20) (ks := [.int .u8, .int .u8, .int .i64, .int .u16]) Tryz.underlying22 (by kernel_rfl) (by kernel_rfl) (by decide) hf1
  simp only [d0e, x0z] at hcol1
  obtain ⟨_, _, rfl, ⟨q1_0, rfl, eq1_0, wq1_0⟩, _, _, rfl, ⟨q1_1, rfl, eq1_1, wq1_1⟩, _, _, rfl, ⟨q1_2, rfl, eq1_2, wq1_2⟩, _, _, rfl, ⟨q1_3, rfl, eq1_3, wq1_3⟩, rfl⟩ := hcol1
  clear hA0 hval0
  rw [MakeChecks.laidMetH_plain _ _ _ (by kernel_rfl)] at hL
  obtain ⟨ps, ⟨gv0, gt0, gc0, gf0, gp0, gq0, hgv0, hgt0, hgc0, hgd0, ⟨gv1, gt1, gc1, gf1, gp1, gq1, hgv1, hgt1, hgc1, hgd1, ⟨gv2, gt2, gc2, gf2, gp2, gq2, hgv2, hgt2, hgc2, hgd2, ⟨gv3, gt3, gc3, gf3, gp3, gq3, hgv3, hgt3, hgc3, hgd3, ⟨gv4, gt4, gc4, gf4, gp4, gq4, hgv4, hgt4, hgc4, hgd4, ⟨gv5, gt5, gc5, gf5, gp5, gq5, hgv5, hgt5, hgc5, hgd5, ⟨gv6, gt6, gc6, gf6, gp6, gq6, hgv6, hgt6, hgc6, hgd6, _, _⟩, _⟩, _⟩, _⟩, _⟩, _⟩, _⟩, _, _⟩ := hL
  obtain rfl : gv0 = 4 := Option.some.inj (hgv0.symm.trans (by kernel_rfl))
  obtain rfl : gt0 = 283 := Option.some.inj (hgt0.symm.trans (by kernel_rfl))
  obtain rfl : gv1 = 5 := Option.some.inj (hgv1.symm.trans (by kernel_rfl))
  obtain rfl : gt1 = 284 := Option.some.inj (hgt1.symm.trans (by kernel_rfl))
  obtain rfl : gv2 = 2 := Option.some.inj (hgv2.symm.trans (by kernel_rfl))
  obtain rfl : gt2 = 232 := Option.some.inj (hgt2.symm.trans (by kernel_rfl))
  obtain rfl : gv3 = 7 := Option.some.inj (hgv3.symm.trans (by kernel_rfl))
  obtain rfl : gt3 = 305 := Option.some.inj (hgt3.symm.trans (by kernel_rfl))
  obtain rfl : gv4 = 0 := Option.some.inj (hgv4.symm.trans (by kernel_rfl))
  obtain rfl : gt4 = 189 := Option.some.inj (hgt4.symm.trans (by kernel_rfl))
  obtain rfl : gv5 = 1 := Option.some.inj (hgv5.symm.trans (by kernel_rfl))
  obtain rfl : gt5 = 190 := Option.some.inj (hgt5.symm.trans (by kernel_rfl))
  obtain rfl : gv6 = 6 := Option.some.inj (hgv6.symm.trans (by kernel_rfl))
  obtain rfl : gt6 = 302 := Option.some.inj (hgt6.symm.trans (by kernel_rfl))
  let g : G := fun h q => match h, q with | 0, q => some (u0t [(4, 1, 32), (5, 1, 64), (2, 1, 20), (7, 2, 16), (0, 2, 10), (1, 5, 23), (6, 1, 256)] q) | 1, 0 => some β1 | _, _ => none
  have hgl : g.glob := fun q => o0A _ q
  have hup : g.upto 2 := by
    intro h q hh
    simp only [g]
    split <;> first | rfl | (exfalso; omega)
  have hT : ∀ q, (a0B glT q).isSome = true -> ∃ β, g 0 q = some β /\ BlkAt g β true (u0s glT q) W := by
    intro q hq
    have hq' : q = 0 \/ q = 1 \/ q = 2 \/ q = 4 \/ q = 5 \/ q = 7 := u0w hq
    rcases hq' with rfl | rfl | rfl | rfl | rfl | rfl
    . exact ⟨_, rfl, c0u (m := 20) (ks := [.str, .int .i64]) hgv4 hgc4 Tryz.underlying189 (by kernel_rfl) (by kernel_rfl) (by kernel_rfl) (by decide) hgd4 (by kernel_rfl) g⟩
    . exact ⟨_, rfl, c0u (m := 20) (ks := [.int .i64, .str, .int .i64, .int .i64, .int .i64]) hgv5 hgc5 Tryz.underlying190 (by kernel_rfl) (by kernel_rfl) (by kernel_rfl) (by decide) hgd5 (by kernel_rfl) g⟩
    . exact ⟨_, rfl, c0u (m := 20) (ks := [.int .u64]) hgv2 hgc2 Tryz.underlying232 (by kernel_rfl) (by kernel_rfl) (by kernel_rfl) (by decide) hgd2 (by kernel_rfl) g⟩
    . exact ⟨_, rfl, c0u (m := 20) (ks := [.int .u8]) hgv0 hgc0 Tryz.underlying283 (by kernel_rfl) (by kernel_rfl) (by kernel_rfl) (by decide) hgd0 (by kernel_rfl) g⟩
    . exact ⟨_, rfl, c0u (m := 20) (ks := [.int .u8]) hgv1 hgc1 Tryz.underlying284 (by kernel_rfl) (by kernel_rfl) (by kernel_rfl) (by decide) hgd1 (by kernel_rfl) g⟩
    . exact ⟨_, rfl, c0u (m := 20) (ks := [.int .u8, .int .u8]) hgv3 hgc3 Tryz.underlying305 (by kernel_rfl) (by kernel_rfl) (by kernel_rfl) (by decide) hgd3 (by kernel_rfl) g⟩
  obtain ⟨hH, hro⟩ : Holds g [(0, some (GB glT)), (1, some (.one true (.cols l1 [.sc (.ints .u8 q1_0), .sc (.ints .u8 q1_1), .sc (.ints .i64 q1_2), .sc (.ints .u16 q1_3)])))] W /\ ∀ h q ro b, Ent [(0, some (GB glT)), (1, some (.one true (.cols l1 [.sc (.ints .u8 q1_0), .sc (.ints .u8 q1_1), .sc (.ints .i64 q1_2), .sc (.ints .u16 q1_3)])))] h q ro b -> ro = true := s0S hT (by
    intro p hp
    simp only [List.mem_cons, List.not_mem_nil, or_false] at hp
    rcases hp with rfl
    . exact ⟨Nat.succ_ne_zero _, _, _, rfl, rfl, hB1 g⟩)
  have hv : Rvs g [.int .i64 n0, .sl 1 0 0 l1] [.int .i64 n0, .slice a1 len1 cap1] := by
    simp only [Rvs]
    exact ⟨_, _, rfl, rvi, ⟨_, _, rfl, (hR1 _ 1 rfl), rfl⟩⟩
  refine ((topHolds_fc n0 hw0 l1 hl1 q1_0 eq1_0 wq1_0 q1_1 eq1_1 wq1_1 q1_2 eq1_2 wq1_2 q1_3 eq1_3 wq1_3).law ⟨_, _, Tryz.func3, rfl, by kernel_rfl⟩ hro hgl hup hH hv).mono fun e W' ⟨he, bel⟩ => ?_
  subst he
  exact ⟨_, rfl, _, _, _, [], _, [], hW', trodAll_mk1 (shut_bool Tryz.underlying4 _), (trodAll_cons_mk (Below.trod r0g (by kernel_rfl) (of_decide_eq_true (by kernel_rfl)) h0 bel lt0) (trodAll_cons_mk (Below.trod r0g (by kernel_rfl) (of_decide_eq_true (by kernel_rfl)) h1 bel lt1) trodAll_mk0)), rfl, bel.frame _, fun h => by cases h⟩

theorem z0g {a b : Bool} (h1 : a = true) (h2 : b = true) : (a && b) = true := by rw [h1, h2]; rfl
set_option maxHeartbeats 0 in
set_option maxRecDepth 100000 in
theorem x0D : joinedFacts Tryz.pinned.checked.prog 3 Tryz.f3 Rows.topHoldsSpec Rows.topHoldsRow = true := by
  unfold joinedFacts
  repeat' (with_reducible refine z0g ?_ ?_)
  all_goals (as_aux_lemma => kernel_rfl)
theorem over : Rows.topHoldsRow.holds Tryz.pinned (OpenSpec.ofChange Rows.topHoldsSpec) :=
  OpenClaim.holds_of_wide 3 Tryz.f3 rfl rfl rfl rfl rfl rfl rfl ⟨rfl, rfl, rfl, rfl, rfl⟩ rfl rfl rfl rfl rfl (by kernel_rfl) Tryz.func3 x0D
    (of_decide_eq_true (by kernel_rfl)) (by unfold Func.isWrapper; first | (rw [if_pos (by decide +kernel)]; kernel_rfl) | (rw [if_neg (by decide +kernel)]; exact ⟨rfl, rfl⟩))
    (fun os started H enc _ => x0C os started H enc)
end Go.Proofs.YtedoefigabpmpaaGreatDoor.topHoldsLaw
namespace Go.Proofs.YtedoefigabpmpaaGreatDoor
open Go in
theorem topHolds_holds : Rows.TopHoldsCardSaid :=
  Claim7.holds_tied_plain_at .later [] [.data, .data, .data, .data, .data, .data, .pinned] true (true, "f3bd878ee16d594b742e5754c8191a15b949875a9709794ea675be15625cf33d") false
    topHoldsLaw.over (fun _ h => by cases h) (by kernel_rfl) (fun _ h => by cases h) topHolds_row_tie rfl ⟨rfl, rfl⟩ (by kernel_rfl) rfl
    (fun f fn hf hfn => by
      obtain rfl : f = 3 := Option.some.inj ((show Tryz.prog.funcNamed "cardnet/cardnettop.TopHolds" = some 3 by kernel_rfl).symm.trans hf) |>.symm
      obtain rfl : fn = Tryz.f3 := (Option.some.inj (Tryz.func3.symm.trans hfn)).symm
      exact ⟨by kernel_rfl, fun j t ht => by
        rw [Tryz.params3] at ht
        have hm : t ∈ [2, 22] := by simpa using Array.mem_of_getElem? ht
        have hall : ([2, 22].all fun u => !Tryz.prog.wantsStandIn u) = true := by kernel_rfl
        exact (show Tryz.prog.wantsStandIn t = false by simpa using List.all_eq_true.1 hall t hm)⟩)
    (by kernel_rfl)
end Go.Proofs.YtedoefigabpmpaaGreatDoor
