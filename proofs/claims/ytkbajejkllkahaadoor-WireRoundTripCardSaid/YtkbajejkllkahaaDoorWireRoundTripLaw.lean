/- 'cardnet law WireRoundTrip' returns true at every input: the statement, from the contract of the law's function. The frame was written by mklaw.py. -/
import Derived.Test.YtkbajejkllkahaaDoorRows
import Derived.Test.YtkbajejkllkahaaDoorWireX
import Derived.Test.YtkbajejkllkahaaDoorYLaid
import Derived.Test.YtkbajejkllkahaaDoorTie
import Derived.Test.YtkbajejkllkahaaDoorCards
import Derived.ProofKit
import Derived.OpenShut
import Derived.ShutString
import Derived.ChangeOld
import Derived.Below
import Derived.Carry
import Derived.Lay
import Derived.LaidOnce
import Derived.LaidMore
import Derived.LaidLaws
import Derived.Stop.Joined
import Derived.SevenTiedAt
namespace Go.Proofs.YtkbajejkllkahaaDoor.wireRoundTripLaw
open Go.ChangeShapes Go.WideShapes Go.ChangeAt Go.RowKit Go.Sy
set_option linter.unusedVariables false
set_option linter.unusedSimpArgs false

theorem own : ownKnob Tryd.prog.godebug = none := by kernel_rfl
theorem laidOut : laidOutB Tryd.prog = true := by kernel_rfl

set_option maxRecDepth 100000 in
theorem lifted (os : Os) (started : os.Started) (H : Type) (enc : TypeId × Value → H) :
    ReturnsInHanded {} Tryd.checked os 6 .any (fun w args => (Rows.wireRoundTripSpec.pre enc Tryd.prog Tryd.f6 [] false w args ∧ laidMetH Tryd.prog Rows.wireRoundTripRow.laid w) ∧ sizedMet enc Tryd.prog Tryd.f6 (OpenSpec.ofChange Rows.wireRoundTripSpec) false w args) (Rows.wireRoundTripSpec.post enc Tryd.prog Tryd.f6 false true false false) := by
  refine returnsInHanded_of_change_and (C := Tryd.checked) (X := fun w _ => laidMetH Tryd.prog Rows.wireRoundTripRow.laid w) (fun _ _ _ hh h => h.of_heap hh) own started (by kernel_rfl) Tryd.func6
    (ChangeSpec.witness_shaped (enc := enc) (C := Tryd.checked) (os := os) (X := fun w _ => laidMetH Tryd.prog Rows.wireRoundTripRow.laid w) false (World.laidAll Tryd.prog os Rows.wireRoundTripRow.laid) #[.slice none 0 0, .string ⟨#[]⟩] 8 (World.laidAll_os _ _ _) (World.shaped_of_ZipB (by kernel_rfl) (by kernel_rfl)) (by kernel_rfl) (by kernel_rfl) (by kernel_rfl) (by rw [MakeChecks.laidMetH_plain _ _ _ (by kernel_rfl)]; exact laidMet_laidAll _ (by kernel_rfl) (by kernel_rfl))) ?_
  intro W base args ds gs before hval0 hW _ _ hL _
  have hval : ∀ (j : Nat) t v, Tryd.f6.params[j]? = some t → args[j]? = some v → Value.okWide Tryd.prog W .any base t v := hval0
  have hW' := hW
  obtain ⟨p, q, hA0, hV, rfl, hfz, hnd⟩ := hW
  have hA : DataW.TrodAll enc Tryd.prog W 0 (fun _ => true) true Tryd.f6.params.toList args.toList ds p := hA0
  rw [Tryd.params6] at hA hval
  obtain ⟨v0, vs0, d0, ds0, p0, q0, hargs, rfl, rfl, h0, r0⟩ := trodAll_cons hA
  obtain ⟨v1, vs1, d1, ds1, p1, q1, rfl, rfl, rfl, h1, r1⟩ := trodAll_cons r0
  obtain ⟨rfl, rfl, rfl⟩ := trodAll_nil r1
  obtain rfl : args = #[v0, v1] := by cases args; simp_all
  obtain ⟨rfl, rfl⟩ := trodVars_none hV
  have lt0 : ∀ x ∈ p0, x.block < W.heap.size := by obtain ⟨m, hm⟩ := h0; exact DataW.trod_lt m _ _ _ hm
  have lt1 : ∀ x ∈ p1, x.block < W.heap.size := by obtain ⟨m, hm⟩ := h1; exact DataW.trod_lt m _ _ _ hm
  obtain ⟨fuel0, hf0⟩ := id h0
  obtain ⟨a0, len0, cap0, rfl⟩ := okWide_slice Tryd.underlying44 (hval 0 44 v0 rfl rfl)
  obtain ⟨l0, β0, cols0, hl0, hcol0, hR0, hB0⟩ := slice_in (m := 20) (ks := [.int .u8, .int .i64, .str, .int .i64]) Tryd.underlying44 (by kernel_rfl) (by kernel_rfl) (by decide) hf0
  simp only [ColsOk, ColOk] at hcol0
  obtain ⟨_, _, rfl, ⟨q0_0, rfl, eq0_0, wq0_0⟩, _, _, rfl, ⟨q0_1, rfl, eq0_1, wq0_1⟩, _, _, rfl, ⟨q0_2, rfl, eq0_2, wq0_2⟩, _, _, rfl, ⟨q0_3, rfl, eq0_3, wq0_3⟩, rfl⟩ := hcol0
  obtain ⟨s1, rfl⟩ := okWide_string Tryd.underlying9 (hval 1 9 v1 rfl rfl)
  have hs1 : s1.size ≤ maxLen := by
    obtain ⟨fuel, hf⟩ := h1
    obtain ⟨m, e, _, hw⟩ := DataW.trod_string Tryd.underlying9 hf
    simp [Value.cells] at e; subst e; exact hw
  clear hA0 hval0
  rw [MakeChecks.laidMetH_plain _ _ _ (by kernel_rfl)] at hL
  obtain ⟨ps, ⟨gv0, gt0, gc0, gf0, gp0, gq0, hgv0, hgt0, hgc0, hgd0, ⟨gv1, gt1, gc1, gf1, gp1, gq1, hgv1, hgt1, hgc1, hgd1, ⟨gv2, gt2, gc2, gf2, gp2, gq2, hgv2, hgt2, hgc2, hgd2, ⟨gv3, gt3, gc3, gf3, gp3, gq3, hgv3, hgt3, hgc3, hgd3, ⟨gv4, gt4, gc4, gf4, gp4, gq4, hgv4, hgt4, hgc4, hgd4, _, _⟩, _⟩, _⟩, _⟩, _⟩, _, _⟩ := hL
  obtain rfl : gv0 = 4 := Option.some.inj (hgv0.symm.trans (by kernel_rfl))
  obtain rfl : gt0 = 122 := Option.some.inj (hgt0.symm.trans (by kernel_rfl))
  obtain rfl : gv1 = 5 := Option.some.inj (hgv1.symm.trans (by kernel_rfl))
  obtain rfl : gt1 = 123 := Option.some.inj (hgt1.symm.trans (by kernel_rfl))
  obtain rfl : gv2 = 1 := Option.some.inj (hgv2.symm.trans (by kernel_rfl))
  obtain rfl : gt2 = 111 := Option.some.inj (hgt2.symm.trans (by kernel_rfl))
  obtain rfl : gv3 = 3 := Option.some.inj (hgv3.symm.trans (by kernel_rfl))
  obtain rfl : gt3 = 121 := Option.some.inj (hgt3.symm.trans (by kernel_rfl))
  obtain rfl : gv4 = 2 := Option.some.inj (hgv4.symm.trans (by kernel_rfl))
  obtain rfl : gt4 = 118 := Option.some.inj (hgt4.symm.trans (by kernel_rfl))
  let g : G := fun h q => match h, q with | 0, q => some (gbase [(4, 1, 32), (5, 1, 64), (1, 1, 20), (3, 2, 16), (2, 1, 256)] q) | 1, 0 => some β0 | _, _ => none
  have hgl : g.glob := fun q => gbase_glob _ q
  have hup : g.upto 2 := by
    intro h q hh
    simp only [g]
    split <;> first | rfl | (exfalso; omega)
  have hT : ∀ q, (aget glT q).isSome = true → ∃ β, g 0 q = some β ∧ BlkAt g β true (gblk glT q) W := by
    intro q hq
    have hq' : q = 1 ∨ q = 4 ∨ q = 5 := gl_keys hq
    rcases hq' with rfl | rfl | rfl
    · exact ⟨_, rfl, laid_table (m := 20) (ks := [.int .u64]) hgv2 hgc2 Tryd.underlying111 (by kernel_rfl) (by kernel_rfl) (by kernel_rfl) (by decide) hgd2 (by kernel_rfl) g⟩
    · exact ⟨_, rfl, laid_table (m := 20) (ks := [.int .u8]) hgv0 hgc0 Tryd.underlying122 (by kernel_rfl) (by kernel_rfl) (by kernel_rfl) (by decide) hgd0 (by kernel_rfl) g⟩
    · exact ⟨_, rfl, laid_table (m := 20) (ks := [.int .u8]) hgv1 hgc1 Tryd.underlying123 (by kernel_rfl) (by kernel_rfl) (by kernel_rfl) (by decide) hgd1 (by kernel_rfl) g⟩
  obtain ⟨hH, hro⟩ : Holds g [(0, some (GB glT)), (1, some (.one true (.cols l0 [.sc (.ints .u8 q0_0), .sc (.ints .i64 q0_1), .sc (.strs q0_2), .sc (.ints .i64 q0_3)])))] W ∧ ∀ h q ro b, Ent [(0, some (GB glT)), (1, some (.one true (.cols l0 [.sc (.ints .u8 q0_0), .sc (.ints .i64 q0_1), .sc (.strs q0_2), .sc (.ints .i64 q0_3)])))] h q ro b → ro = true := holds_gl hT (by
    intro p hp
    simp only [List.mem_cons, List.not_mem_nil, or_false] at hp
    rcases hp with rfl
    · exact ⟨Nat.succ_ne_zero _, _, _, rfl, rfl, hB0 g⟩)
  have hv : Rvs g [.sl 1 0 0 l0, .str s1] [.slice a0 len0 cap0, .string s1] := by
    simp only [Rvs]
    exact ⟨_, _, rfl, (hR0 _ 1 rfl), ⟨_, _, rfl, rvt, rfl⟩⟩
  refine ((wireRoundTrip_fc l0 hl0 q0_0 eq0_0 wq0_0 q0_1 eq0_1 wq0_1 q0_2 eq0_2 wq0_2 q0_3 eq0_3 wq0_3 s1 hs1).law ⟨_, _, Tryd.func6, rfl, by kernel_rfl⟩ hro hgl hup hH hv).mono fun e W' ⟨he, bel⟩ => ?_
  subst he
  exact ⟨_, rfl, _, _, _, [], _, [], hW', trodAll_mk1 (shut_bool Tryd.underlying4 _), (trodAll_cons_mk (Below.trod laidOut (by kernel_rfl) (of_decide_eq_true (by kernel_rfl)) h0 bel lt0) (trodAll_cons_mk (Below.trod laidOut (by kernel_rfl) (of_decide_eq_true (by kernel_rfl)) h1 bel lt1) trodAll_mk0)), rfl, bel.frame _, fun h => by cases h⟩

theorem over : Rows.wireRoundTripRow.holds Tryd.pinned (OpenSpec.ofChange Rows.wireRoundTripSpec) :=
  OpenClaim.holds_of_wide 6 Tryd.f6 rfl rfl rfl rfl rfl rfl rfl ⟨rfl, rfl, rfl, rfl, rfl⟩ rfl rfl rfl rfl rfl (by kernel_rfl) Tryd.func6 (by kernel_rfl)
    (of_decide_eq_true (by kernel_rfl)) (by unfold Func.isWrapper; first | (rw [if_pos (by decide +kernel)]; kernel_rfl) | (rw [if_neg (by decide +kernel)]; exact ⟨rfl, rfl⟩))
    (fun os started H enc _ => lifted os started H enc)
end Go.Proofs.YtkbajejkllkahaaDoor.wireRoundTripLaw
namespace Go.Proofs.YtkbajejkllkahaaDoor
open Go in
theorem wireRoundTrip_holds : Rows.WireRoundTripCardSaid :=
  Claim7.holds_tied_plain_at .later [] [.data, .data, .data, .data, .pinned] true (true, "60d23be18732009023f591a3c3406fe1fe84c1ebec2fc4a66a24d8751dbbb62c") false
    wireRoundTripLaw.over (fun _ h => by cases h) (by kernel_rfl) (fun _ h => by cases h) wireRoundTrip_row_tie rfl ⟨rfl, rfl⟩ (by kernel_rfl) rfl
    (fun f fn hf hfn => by
      obtain rfl : f = 6 := Option.some.inj ((show Tryd.prog.funcNamed "cardnet/cardnetlaw06.WireRoundTrip" = some 6 by kernel_rfl).symm.trans hf) |>.symm
      obtain rfl : fn = Tryd.f6 := (Option.some.inj (Tryd.func6.symm.trans hfn)).symm
      exact ⟨by kernel_rfl, fun j t ht => by
        rw [Tryd.params6] at ht
        have hm : t ∈ [44, 9] := by simpa using Array.mem_of_getElem? ht
        have hall : ([44, 9].all fun u => !Tryd.prog.wantsStandIn u) = true := by kernel_rfl
        exact (show Tryd.prog.wantsStandIn t = false by simpa using List.all_eq_true.1 hall t hm)⟩)
    (by kernel_rfl)
end Go.Proofs.YtkbajejkllkahaaDoor
