/- 'cardnet law RateTexts' returns true at every input: the statement, from the contract of the law's function. The frame was written by mklaw.py. -/
import Derived.Test.YtakaafolanojkaaDoorRows
import Derived.Test.YtakaafolanojkaaDoorRateW
import Derived.Test.YtakaafolanojkaaDoorYLaid
import Derived.Test.YtakaafolanojkaaDoorTie
import Derived.Test.YtakaafolanojkaaDoorCards
import Derived.Test.YtakaafolanojkaaDoorYLaid
import Derived.ProofKit
import Derived.OpenShut
import Derived.ShutString
import Derived.ChangeOld
import Derived.Below
import Derived.Carry
import Derived.LaidMore
import Derived.LaidLaws
import Derived.Stop.Joined
import Derived.SevenTiedAt
namespace Go.Proofs.YtakaafolanojkaaDoor.rateTextsLaw
open Go.ChangeShapes Go.WideShapes Go.ChangeAt Go.RowKit Go.Sy
set_option linter.unusedVariables false
set_option linter.unusedSimpArgs false

theorem own : ownKnob Tryd.prog.godebug = none := by kernel_rfl
theorem laidOut : laidOutB Tryd.prog = true := by kernel_rfl

theorem door_met (os : Os) (args : Array Value) : laidMetH Tryd.prog Rows.rateTextsRow.laid ((World.doorLaid Tryd.prog 400 os).forCall (fun _ _ => 0) ⟨#[], args, []⟩).memory :=
  laidMetH_of_parts3 (fuel := 8) (laidMet_of_run' 8 (by kernel_rfl) (by kernel_rfl)) (by kernel_rfl) (by kernel_rfl)

theorem star_3 : "*" ++ "errors.errorString" = "*errors.errorString" := by decide
theorem row_3 (u : TypeId) (h : Tryd.prog.typeName? 3 u = some "*errors.errorString") : u = 98 :=
  typeName_ptr_named (nm := "errors.errorString") (by rw [star_3]; kernel_rfl) (by kernel_rfl) (by decide) u (by rw [star_3]; exact h)

theorem star_4 : "*" ++ "errors.errorString" = "*errors.errorString" := by decide
theorem row_4 (u : TypeId) (h : Tryd.prog.typeName? 3 u = some "*errors.errorString") : u = 98 :=
  typeName_ptr_named (nm := "errors.errorString") (by rw [star_4]; kernel_rfl) (by kernel_rfl) (by decide) u (by rw [star_4]; exact h)

set_option maxRecDepth 100000 in
theorem lifted (os : Os) (started : os.Started) (H : Type) (enc : TypeId × Value → H) :
    ReturnsInHanded {} Tryd.checked os 3 .any (fun w args => (Rows.rateTextsSpec.pre enc Tryd.prog Tryd.f3 [] false w args ∧ laidMetH Tryd.prog Rows.rateTextsRow.laid w) ∧ sizedMet enc Tryd.prog Tryd.f3 (OpenSpec.ofChange Rows.rateTextsSpec) false w args) (Rows.rateTextsSpec.post enc Tryd.prog Tryd.f3 false true false false) := by
  refine returnsInHanded_of_change_and (C := Tryd.checked) (X := fun w _ => laidMetH Tryd.prog Rows.rateTextsRow.laid w) (fun _ _ _ hh h => h.of_heap hh) own started (by kernel_rfl) Tryd.func3
    (ChangeSpec.witness_shaped (enc := enc) (C := Tryd.checked) (os := os) (X := fun w _ => laidMetH Tryd.prog Rows.rateTextsRow.laid w) false (World.doorLaid Tryd.prog 400 os) #[.agg #[.string ⟨#[]⟩, .string ⟨#[]⟩, .int .i64 0, .int .i64 0], .string ⟨#[]⟩] 8 rfl (World.shaped_of_RefB (by kernel_rfl) (by kernel_rfl)) (by kernel_rfl) (by kernel_rfl) (by kernel_rfl) (door_met os _)) ?_
  intro W base args ds gs before hval0 hW _ _ hL _
  have hval : ∀ (j : Nat) t v, Tryd.f3.params[j]? = some t → args[j]? = some v → Value.okWide Tryd.prog W .any base t v := hval0
  have hW' := hW
  obtain ⟨p, q, hA0, hV, rfl, hfz, hnd⟩ := hW
  have hA : DataW.TrodAll enc Tryd.prog W 0 (fun _ => true) true Tryd.f3.params.toList args.toList ds p := hA0
  rw [Tryd.params3] at hA hval
  obtain ⟨v0, vs0, d0, ds0, p0, q0, hargs, rfl, rfl, h0, r0⟩ := trodAll_cons hA
  obtain ⟨v1, vs1, d1, ds1, p1, q1, rfl, rfl, rfl, h1, r1⟩ := trodAll_cons r0
  obtain ⟨rfl, rfl, rfl⟩ := trodAll_nil r1
  obtain rfl : args = #[v0, v1] := by cases args; simp_all
  obtain ⟨rfl, rfl⟩ := trodVars_none hV
  have lt0 : ∀ x ∈ p0, x.block < W.heap.size := by obtain ⟨m, hm⟩ := h0; exact DataW.trod_lt m _ _ _ hm
  have lt1 : ∀ x ∈ p1, x.block < W.heap.size := by obtain ⟨m, hm⟩ := h1; exact DataW.trod_lt m _ _ _ hm
  obtain ⟨cs0, rfl, _⟩ := okWide_struct Tryd.underlying23 (hval 0 23 v0 rfl rfl)
  obtain ⟨fuel0, hf0⟩ := id h0
  have ha0 := trod_flat (m := 20) (ks := [.str, .str, .int .i64, .int .i64]) (by kernel_rfl) hf0
  simp only [AllOk, CellOk] at ha0
  obtain ⟨l0⟩ := cs0
  simp only [Value.cells] at ha0
  obtain ⟨_, _, rfl, ⟨x0_0, rfl, hx0_0⟩, _, _, rfl, ⟨x0_1, rfl, hx0_1⟩, _, _, rfl, ⟨x0_2, rfl, hx0_2⟩, _, _, rfl, ⟨x0_3, rfl, hx0_3⟩, rfl⟩ := ha0
  obtain ⟨s1, rfl⟩ := okWide_string Tryd.underlying9 (hval 1 9 v1 rfl rfl)
  have hs1 : s1.size ≤ maxLen := by
    obtain ⟨fuel, hf⟩ := h1
    obtain ⟨m, e, _, hw⟩ := DataW.trod_string Tryd.underlying9 hf
    simp [Value.cells] at e; subst e; exact hw
  clear hA0 hval0
  rw [MakeChecks.laidMetH_plain _ _ _ (by kernel_rfl)] at hL
  obtain ⟨ps, ⟨gv0, gt0, gc0, gf0, gp0, gq0, hgv0, hgt0, hgc0, hgd0, ⟨gv1, gt1, gc1, gf1, gp1, gq1, hgv1, hgt1, hgc1, hgd1, ⟨gv2, gt2, gc2, gf2, gp2, gq2, hgv2, hgt2, hgc2, hgd2, ⟨gv3, gt3, gc3, gf3, gp3, gq3, hgv3, hgt3, hgc3, hgd3, ⟨gv4, gt4, gc4, gf4, gp4, gq4, hgv4, hgt4, hgc4, hgd4, ⟨gv5, gt5, gc5, gf5, gp5, gq5, hgv5, hgt5, hgc5, hgd5, _, _⟩, _⟩, _⟩, _⟩, _⟩, _⟩, _, _⟩ := hL
  obtain rfl : gv0 = 7 := Option.some.inj (hgv0.symm.trans (by kernel_rfl))
  obtain rfl : gt0 = 101 := Option.some.inj (hgt0.symm.trans (by kernel_rfl))
  obtain rfl : gv1 = 8 := Option.some.inj (hgv1.symm.trans (by kernel_rfl))
  obtain rfl : gt1 = 102 := Option.some.inj (hgt1.symm.trans (by kernel_rfl))
  obtain rfl : gv2 = 4 := Option.some.inj (hgv2.symm.trans (by kernel_rfl))
  obtain rfl : gt2 = 86 := Option.some.inj (hgt2.symm.trans (by kernel_rfl))
  obtain rfl : gv3 = 6 := Option.some.inj (hgv3.symm.trans (by kernel_rfl))
  obtain rfl : gt3 = 53 := Option.some.inj (hgt3.symm.trans (by kernel_rfl))
  obtain rfl : gv4 = 5 := Option.some.inj (hgv4.symm.trans (by kernel_rfl))
  obtain rfl : gt4 = 53 := Option.some.inj (hgt4.symm.trans (by kernel_rfl))
  obtain rfl : gv5 = 0 := Option.some.inj (hgv5.symm.trans (by kernel_rfl))
  obtain rfl : gt5 = 65 := Option.some.inj (hgt5.symm.trans (by kernel_rfl))
  let g : G := fun h q => match h, q with | 0, q => some (gbase [(7, 1, 32), (8, 1, 64), (4, 1, 20), (6, 1, 1), (5, 1, 1), (0, 2, 10)] q)  | _, _ => none
  have hgl : g.glob := fun q => gbase_glob _ q
  have hup : g.upto 1 := by
    intro h q hh
    simp only [g]
    split <;> first | rfl | (exfalso; omega)
  have hT : ∀ q, (aget glT q).isSome = true → ∃ β, g 0 q = some β ∧ BlkAt g β true (gblk glT q) W := by
    intro q hq
    have hq' : q = 0 ∨ q = 4 ∨ q = 5 ∨ q = 6 ∨ q = 7 ∨ q = 8 := gl_keys hq
    rcases hq' with rfl | rfl | rfl | rfl | rfl | rfl
    · exact ⟨_, rfl, laid_table (m := 20) (ks := [.str, .int .i64]) hgv5 hgc5 Tryd.underlying65 (by kernel_rfl) (by kernel_rfl) (by kernel_rfl) (by decide) hgd5 (by kernel_rfl) g⟩
    · exact ⟨_, rfl, laid_table (m := 20) (ks := [.int .u64]) hgv2 hgc2 Tryd.underlying86 (by kernel_rfl) (by kernel_rfl) (by kernel_rfl) (by decide) hgd2 (by kernel_rfl) g⟩
    · exact ⟨_, rfl, laid_sent (name := "*errors.errorString") hgv4 hgc4 Tryd.underlying53 row_4 hgd4 g⟩
    · exact ⟨_, rfl, laid_sent (name := "*errors.errorString") hgv3 hgc3 Tryd.underlying53 row_3 hgd3 g⟩
    · exact ⟨_, rfl, laid_table (m := 20) (ks := [.int .u8]) hgv0 hgc0 Tryd.underlying101 (by kernel_rfl) (by kernel_rfl) (by kernel_rfl) (by decide) hgd0 (by kernel_rfl) g⟩
    · exact ⟨_, rfl, laid_table (m := 20) (ks := [.int .u8]) hgv1 hgc1 Tryd.underlying102 (by kernel_rfl) (by kernel_rfl) (by kernel_rfl) (by decide) hgd1 (by kernel_rfl) g⟩
  obtain ⟨hH, hro⟩ : Holds g [(0, some (GB glT))] W ∧ ∀ h q ro b, Ent [(0, some (GB glT))] h q ro b → ro = true := holds_gl hT (by intro p hp; cases hp)
  have hv : Rvs g [.agg [.str x0_0, .str x0_1, .int .i64 x0_2, .int .i64 x0_3], .str s1] [.agg #[.string x0_0, .string x0_1, .int .i64 x0_2, .int .i64 x0_3], .string s1] := by
    simp only [Rvs]
    exact ⟨_, _, rfl, (by simp [Rv, Rvs]), ⟨_, _, rfl, rvt, rfl⟩⟩
  refine ((rateTexts_fc x0_0 hx0_0 x0_1 hx0_1 x0_2 hx0_2 x0_3 hx0_3 s1 hs1).law ⟨_, _, Tryd.func3, rfl, by kernel_rfl⟩ hro hgl hup hH hv).mono fun e W' ⟨he, bel⟩ => ?_
  subst he
  exact ⟨_, rfl, _, _, _, [], _, [], hW', trodAll_mk1 (shut_bool Tryd.underlying4 _), (trodAll_cons_mk (Below.trod laidOut (by kernel_rfl) (of_decide_eq_true (by kernel_rfl)) h0 bel lt0) (trodAll_cons_mk (Below.trod laidOut (by kernel_rfl) (of_decide_eq_true (by kernel_rfl)) h1 bel lt1) trodAll_mk0)), rfl, bel.frame _, fun h => by cases h⟩

theorem over : Rows.rateTextsRow.holds Tryd.pinned (OpenSpec.ofChange Rows.rateTextsSpec) :=
  OpenClaim.holds_of_wide 3 Tryd.f3 rfl rfl rfl rfl rfl rfl rfl ⟨rfl, rfl, rfl, rfl, rfl⟩ rfl rfl rfl rfl rfl (by kernel_rfl) Tryd.func3 (by kernel_rfl)
    (of_decide_eq_true (by kernel_rfl)) (by unfold Func.isWrapper; first | (rw [if_pos (by decide +kernel)]; kernel_rfl) | (rw [if_neg (by decide +kernel)]; exact ⟨rfl, rfl⟩))
    (fun os started H enc _ => lifted os started H enc)
end Go.Proofs.YtakaafolanojkaaDoor.rateTextsLaw
namespace Go.Proofs.YtakaafolanojkaaDoor
open Go in
theorem rateTexts_holds : Rows.RateTextsCardSaid :=
  Claim7.holds_tied_plain_at .later [] [.data, .data, .data, .sentinel, .sentinel, .data] true (true, "aaebe3fb5ba011290189f725db088934cdb98a6bf356c982302c99502b94ffe8") true
    rateTextsLaw.over (fun _ h => by cases h) (by kernel_rfl) (fun _ h => by cases h) rateTexts_row_tie rfl ⟨rfl, rfl⟩ (by kernel_rfl) rfl
    (fun f fn hf hfn => by
      obtain rfl : f = 3 := Option.some.inj ((show Tryd.prog.funcNamed "cardnet/cardnetlaw02.RateTexts" = some 3 by kernel_rfl).symm.trans hf) |>.symm
      obtain rfl : fn = Tryd.f3 := (Option.some.inj (Tryd.func3.symm.trans hfn)).symm
      exact ⟨by kernel_rfl, fun j t ht => by
        rw [Tryd.params3] at ht
        have hm : t ∈ [23, 9] := by simpa using Array.mem_of_getElem? ht
        have hall : ([23, 9].all fun u => !Tryd.prog.wantsStandIn u) = true := by kernel_rfl
        exact (show Tryd.prog.wantsStandIn t = false by simpa using List.all_eq_true.1 hall t hm)⟩)
    (by kernel_rfl)
end Go.Proofs.YtakaafolanojkaaDoor
