/- 'cardnet law BooksGroups' returns true at every input: the statement, from the contract of the law's function. The frame was written by mklaw.py. -/
import Derived.Test.YtmgnedokogidoaaGreatDoorP3
import Derived.Test.YtmgnedokogidoaaGreatDoorP8
import Derived.Test.YtmgnedokogidoaaGreatDoorRows
import Derived.Test.YtmgnedokogidoaaGreatDoorTie
import Derived.Test.YtmgnedokogidoaaGreatDoorCards
import Derived.ProofKit
import Derived.OpenShut
import Derived.ShutString
import Derived.ChangeOld
import Derived.Below
import Derived.Carry
import Derived.Lay
import Derived.LaidOnce
import Derived.LaidMore
import Derived.LaidLaws
import Derived.Stop.Joined
import Derived.SevenTiedAt
namespace Go.Proofs.YtmgnedokogidoaaGreatDoor.booksGroupsLaw
open Go.ChangeShapes Go.WideShapes Go.ChangeAt Go.RowKit Go.Sy
set_option linter.unusedVariables false
set_option linter.unusedSimpArgs false

theorem own : ownKnob Tryz.prog.godebug = none := by kernel_rfl
theorem r0x : laidOutB Tryz.prog = true := by kernel_rfl

theorem c1B : "*" ++ "errors.errorString" = "*errors.errorString" := by decide
theorem i1P (u : TypeId) (h : Tryz.prog.typeName? 3 u = some "*errors.errorString") : u = 269 :=
  typeName_ptr_named (nm := "errors.errorString") (by rw [c1B]; kernel_rfl) (by kernel_rfl) (by decide) u (by rw [c1B]; exact h)

theorem c1C : "*" ++ "errors.errorString" = "*errors.errorString" := by decide
theorem i1Q (u : TypeId) (h : Tryz.prog.typeName? 3 u = some "*errors.errorString") : u = 269 :=
  typeName_ptr_named (nm := "errors.errorString") (by rw [c1C]; kernel_rfl) (by kernel_rfl) (by decide) u (by rw [c1C]; exact h)

set_option maxRecDepth 100000 in
theorem h1y (os : Os) (started : os.Started) (H : Type) (enc : TypeId × Value -> H) :
    ReturnsInHanded {} Tryz.checked os 3 .any (fun w args => (Rows.booksGroupsSpec.pre enc Tryz.prog Tryz.f3 [] false w args /\ laidMetH Tryz.prog Rows.booksGroupsRow.laid w) /\ sizedMet enc Tryz.prog Tryz.f3 (OpenSpec.ofChange Rows.booksGroupsSpec) false w args) (Rows.booksGroupsSpec.post enc Tryz.prog Tryz.f3 false true false false) := by
  refine returnsInHanded_of_change_and (C := Tryz.checked) (X := fun w _ => laidMetH Tryz.prog Rows.booksGroupsRow.laid w) (fun _ _ _ hh h => h.of_heap hh) own started (by kernel_rfl) Tryz.func3
    (ChangeSpec.witness_shaped (enc := enc) (C := Tryz.checked) (os := os) (X := fun w _ => laidMetH Tryz.prog Rows.booksGroupsRow.laid w) false (World.laidAll Tryz.prog os Rows.booksGroupsRow.laid) #[.slice none 0 0, .int .i64 0, .int .u64 0] 8 (World.laidAll_os _ _ _) (World.shaped_of_ZipB (by kernel_rfl) (by kernel_rfl)) (by kernel_rfl) (by kernel_rfl) (by kernel_rfl) (by rw [MakeChecks.laidMetH_plain _ _ _ (by kernel_rfl)]; exact laidMet_laidAll _ (by kernel_rfl) (by kernel_rfl))) ?_
  intro W base args ds gs before hval0 hW _ _ hL _
  have hval : ∀ (j : Nat) t v, Tryz.f3.params[j]? = some t -> args[j]? = some v -> Value.okWide Tryz.prog W .any base t v := hval0
  have hW' := hW
  obtain ⟨p, q, hA0, hV, rfl, hfz, hnd⟩ := hW
  have hA : DataW.TrodAll enc Tryz.prog W 0 (fun _ => true) true Tryz.f3.params.toList args.toList ds p := hA0
  rw [Tryz.params3] at hA hval
  obtain ⟨v0, vs0, d0, ds0, p0, q0, hargs, rfl, rfl, h0, r0⟩ := trodAll_cons hA
  obtain ⟨v1, vs1, d1, ds1, p1, q1, rfl, rfl, rfl, h1, r1⟩ := trodAll_cons r0
  obtain ⟨v2, vs2, d2, ds2, p2, q2, rfl, rfl, rfl, h2, r2⟩ := trodAll_cons r1
  obtain ⟨rfl, rfl, rfl⟩ := trodAll_nil r2
  obtain rfl : args = #[v0, v1, v2] := by cases args; simp_all
  obtain ⟨rfl, rfl⟩ := trodVars_none hV
  have lt0 : ∀ x ∈ p0, x.block < W.heap.size := by obtain ⟨m, hm⟩ := h0; exact DataW.trod_lt m _ _ _ hm
  have lt1 : ∀ x ∈ p1, x.block < W.heap.size := by obtain ⟨m, hm⟩ := h1; exact DataW.trod_lt m _ _ _ hm
  have lt2 : ∀ x ∈ p2, x.block < W.heap.size := by obtain ⟨m, hm⟩ := h2; exact DataW.trod_lt m _ _ _ hm
  obtain ⟨fuel0, hf0⟩ := id h0
  obtain ⟨a0, g0E, cap0, rfl⟩ := okWide_slice Tryz.underlying22 (hval 0 22 v0 rfl rfl)
  obtain ⟨l0, β0, ns0, rows0, bs0, cols0, hl0, ens0, hcol0, hrow0, hR0, hB0⟩ := y0i (m := 20) (ks := [.sl [.int .i64, .int .i64, .str, .str, .str, .str, .int .i64, .int .i64, .bool]]) 2 0 [.int .i64, .int .i64, .str, .str, .str, .str, .int .i64, .int .i64, .bool] rfl rfl Tryz.underlying22 (by kernel_rfl) (by kernel_rfl) hf0
  simp only [i0C, d0A] at hcol0
  obtain ⟨_, rfl, rfl⟩ := hcol0
  have ez0_0 : ∀ i, i < l0 -> (gI 0 (rows0 i)).length = ns0.getD i 0 := by
    intro i hi
    have hc := (hrow0 i hi).2.1
    generalize rows0 i = R at hc ⊢
    simp only [b0k, d0A] at hc
    obtain ⟨_, _, rfl, ⟨y0, rfl, ey0, wy0⟩, ⟨_, _, rfl, ⟨y1, rfl, ey1, wy1⟩, ⟨_, _, rfl, ⟨y2, rfl, ey2, wy2⟩, ⟨_, _, rfl, ⟨y3, rfl, ey3, wy3⟩, ⟨_, _, rfl, ⟨y4, rfl, ey4, wy4⟩, ⟨_, _, rfl, ⟨y5, rfl, ey5, wy5⟩, ⟨_, _, rfl, ⟨y6, rfl, ey6, wy6⟩, ⟨_, _, rfl, ⟨y7, rfl, ey7, wy7⟩, ⟨_, _, rfl, ⟨y8, rfl, ey8⟩, rfl⟩⟩⟩⟩⟩⟩⟩⟩⟩ := hc
    exact ey0
  have wz0_0 : ∀ i, i < l0 -> ∀ x ∈ (gI 0 (rows0 i)), (Lit.int .i64 x).wf = true := by
    intro i hi
    have hc := (hrow0 i hi).2.1
    generalize rows0 i = R at hc ⊢
    simp only [b0k, d0A] at hc
    obtain ⟨_, _, rfl, ⟨y0, rfl, ey0, wy0⟩, ⟨_, _, rfl, ⟨y1, rfl, ey1, wy1⟩, ⟨_, _, rfl, ⟨y2, rfl, ey2, wy2⟩, ⟨_, _, rfl, ⟨y3, rfl, ey3, wy3⟩, ⟨_, _, rfl, ⟨y4, rfl, ey4, wy4⟩, ⟨_, _, rfl, ⟨y5, rfl, ey5, wy5⟩, ⟨_, _, rfl, ⟨y6, rfl, ey6, wy6⟩, ⟨_, _, rfl, ⟨y7, rfl, ey7, wy7⟩, ⟨_, _, rfl, ⟨y8, rfl, ey8⟩, rfl⟩⟩⟩⟩⟩⟩⟩⟩⟩ := hc
    exact wy0
  have ez0_1 : ∀ i, i < l0 -> (gI 1 (rows0 i)).length = ns0.getD i 0 := by
    intro i hi
    have hc := (hrow0 i hi).2.1
    generalize rows0 i = R at hc ⊢
    simp only [b0k, d0A] at hc
    obtain ⟨_, _, rfl, ⟨y0, rfl, ey0, wy0⟩, ⟨_, _, rfl, ⟨y1, rfl, ey1, wy1⟩, ⟨_, _, rfl, ⟨y2, rfl, ey2, wy2⟩, ⟨_, _, rfl, ⟨y3, rfl, ey3, wy3⟩, ⟨_, _, rfl, ⟨y4, rfl, ey4, wy4⟩, ⟨_, _, rfl, ⟨y5, rfl, ey5, wy5⟩, ⟨_, _, rfl, ⟨y6, rfl, ey6, wy6⟩, ⟨_, _, rfl, ⟨y7, rfl, ey7, wy7⟩, ⟨_, _, rfl, ⟨y8, rfl, ey8⟩, rfl⟩⟩⟩⟩⟩⟩⟩⟩⟩ := hc
    exact ey1
  have wz0_1 : ∀ i, i < l0 -> ∀ x ∈ (gI 1 (rows0 i)), (Lit.int .i64 x).wf = true := by
    intro i hi
    have hc := (hrow0 i hi).2.1
    generalize rows0 i = R at hc ⊢
    simp only [b0k, d0A] at hc
    obtain ⟨_, _, rfl, ⟨y0, rfl, ey0, wy0⟩, ⟨_, _, rfl, ⟨y1, rfl, ey1, wy1⟩, ⟨_, _, rfl, ⟨y2, rfl, ey2, wy2⟩, ⟨_, _, rfl, ⟨y3, rfl, ey3, wy3⟩, ⟨_, _, rfl, ⟨y4, rfl, ey4, wy4⟩, ⟨_, _, rfl, ⟨y5, rfl, ey5, wy5⟩, ⟨_, _, rfl, ⟨y6, rfl, ey6, wy6⟩, ⟨_, _, rfl, ⟨y7, rfl, ey7, wy7⟩, ⟨_, _, rfl, ⟨y8, rfl, ey8⟩, rfl⟩⟩⟩⟩⟩⟩⟩⟩⟩ := hc
    exact wy1
  have ez0_2 : ∀ i, i < l0 -> (gS 2 (rows0 i)).length = ns0.getD i 0 := by
    intro i hi
    have hc := (hrow0 i hi).2.1
    generalize rows0 i = R at hc ⊢
    simp only [b0k, d0A] at hc
    obtain ⟨_, _, rfl, ⟨y0, rfl, ey0, wy0⟩, ⟨_, _, rfl, ⟨y1, rfl, ey1, wy1⟩, ⟨_, _, rfl, ⟨y2, rfl, ey2, wy2⟩, ⟨_, _, rfl, ⟨y3, rfl, ey3, wy3⟩, ⟨_, _, rfl, ⟨y4, rfl, ey4, wy4⟩, ⟨_, _, rfl, ⟨y5, rfl, ey5, wy5⟩, ⟨_, _, rfl, ⟨y6, rfl, ey6, wy6⟩, ⟨_, _, rfl, ⟨y7, rfl, ey7, wy7⟩, ⟨_, _, rfl, ⟨y8, rfl, ey8⟩, rfl⟩⟩⟩⟩⟩⟩⟩⟩⟩ := hc
    exact ey2
  have wz0_2 : ∀ i, i < l0 -> ∀ x ∈ (gS 2 (rows0 i)), x.size <= maxLen := by
    intro i hi
    have hc := (hrow0 i hi).2.1
    generalize rows0 i = R at hc ⊢
    simp only [b0k, d0A] at hc
    obtain ⟨_, _, rfl, ⟨y0, rfl, ey0, wy0⟩, ⟨_, _, rfl, ⟨y1, rfl, ey1, wy1⟩, ⟨_, _, rfl, ⟨y2, rfl, ey2, wy2⟩, ⟨_, _, rfl, ⟨y3, rfl, ey3, wy3⟩, ⟨_, _, rfl, ⟨y4, rfl, ey4, wy4⟩, ⟨_, _, rfl, ⟨y5, rfl, ey5, wy5⟩, ⟨_, _, rfl, ⟨y6, rfl, ey6, wy6⟩, ⟨_, _, rfl, ⟨y7, rfl, ey7, wy7⟩, ⟨_, _, rfl, ⟨y8, rfl, ey8⟩, rfl⟩⟩⟩⟩⟩⟩⟩⟩⟩ := hc
    exact wy2
  have ez0_3 : ∀ i, i < l0 -> (gS 3 (rows0 i)).length = ns0.getD i 0 := by
    intro i hi
    have hc := (hrow0 i hi).2.1
    generalize rows0 i = R at hc ⊢
    simp only [b0k, d0A] at hc
    obtain ⟨_, _, rfl, ⟨y0, rfl, ey0, wy0⟩, ⟨_, _, rfl, ⟨y1, rfl, ey1, wy1⟩, ⟨_, _, rfl, ⟨y2, rfl, ey2, wy2⟩, ⟨_, _, rfl, ⟨y3, rfl, ey3, wy3⟩, ⟨_, _, rfl, ⟨y4, rfl, ey4, wy4⟩, ⟨_, _, rfl, ⟨y5, rfl, ey5, wy5⟩, ⟨_, _, rfl, ⟨y6, rfl, ey6, wy6⟩, ⟨_, _, rfl, ⟨y7, rfl, ey7, wy7⟩, ⟨_, _, rfl, ⟨y8, rfl, ey8⟩, rfl⟩⟩⟩⟩⟩⟩⟩⟩⟩ := hc
    exact ey3
  have wz0_3 : ∀ i, i < l0 -> ∀ x ∈ (gS 3 (rows0 i)), x.size <= maxLen := by
    intro i hi
    have hc := (hrow0 i hi).2.1
    generalize rows0 i = R at hc ⊢
    simp only [b0k, d0A] at hc
    obtain ⟨_, _, rfl, ⟨y0, rfl, ey0, wy0⟩, ⟨_, _, rfl, ⟨y1, rfl, ey1, wy1⟩, ⟨_, _, rfl, ⟨y2, rfl, ey2, wy2⟩, ⟨_, _, rfl, ⟨y3, rfl, ey3, wy3⟩, ⟨_, _, rfl, ⟨y4, rfl, ey4, wy4⟩, ⟨_, _, rfl, ⟨y5, rfl, ey5, wy5⟩, ⟨_, _, rfl, ⟨y6, rfl, ey6, wy6⟩, ⟨_, _, rfl, ⟨y7, rfl, ey7, wy7⟩, ⟨_, _, rfl, ⟨y8, rfl, ey8⟩, rfl⟩⟩⟩⟩⟩⟩⟩⟩⟩ := hc
    exact wy3
  have ez0_4 : ∀ i, i < l0 -> (gS 4 (rows0 i)).length = ns0.getD i 0 := by
    intro i hi
    have hc := (hrow0 i hi).2.1
    generalize rows0 i = R at hc ⊢
    simp only [b0k, d0A] at hc
    obtain ⟨_, _, rfl, ⟨y0, rfl, ey0, wy0⟩, ⟨_, _, rfl, ⟨y1, rfl, ey1, wy1⟩, ⟨_, _, rfl, ⟨y2, rfl, ey2, wy2⟩, ⟨_, _, rfl, ⟨y3, rfl, ey3, wy3⟩, ⟨_, _, rfl, ⟨y4, rfl, ey4, wy4⟩, ⟨_, _, rfl, ⟨y5, rfl, ey5, wy5⟩, ⟨_, _, rfl, ⟨y6, rfl, ey6, wy6⟩, ⟨_, _, rfl, ⟨y7, rfl, ey7, wy7⟩, ⟨_, _, rfl, ⟨y8, rfl, ey8⟩, rfl⟩⟩⟩⟩⟩⟩⟩⟩⟩ := hc
    exact ey4
  have wz0_4 : ∀ i, i < l0 -> ∀ x ∈ (gS 4 (rows0 i)), x.size <= maxLen := by
    intro i hi
    have hc := (hrow0 i hi).2.1
    generalize rows0 i = R at hc ⊢
    simp only [b0k, d0A] at hc
    obtain ⟨_, _, rfl, ⟨y0, rfl, ey0, wy0⟩, ⟨_, _, rfl, ⟨y1, rfl, ey1, wy1⟩, ⟨_, _, rfl, ⟨y2, rfl, ey2, wy2⟩, ⟨_, _, rfl, ⟨y3, rfl, ey3, wy3⟩, ⟨_, _, rfl, ⟨y4, rfl, ey4, wy4⟩, ⟨_, _, rfl, ⟨y5, rfl, ey5, wy5⟩, ⟨_, _, rfl, ⟨y6, rfl, ey6, wy6⟩, ⟨_, _, rfl, ⟨y7, rfl, ey7, wy7⟩, ⟨_, _, rfl, ⟨y8, rfl, ey8⟩, rfl⟩⟩⟩⟩⟩⟩⟩⟩⟩ := hc
    exact wy4
  have ez0_5 : ∀ i, i < l0 -> (gS 5 (rows0 i)).length = ns0.getD i 0 := by
    intro i hi
    have hc := (hrow0 i hi).2.1
    generalize rows0 i = R at hc ⊢
    simp only [b0k, d0A] at hc
    obtain ⟨_, _, rfl, ⟨y0, rfl, ey0, wy0⟩, ⟨_, _, rfl, ⟨y1, rfl, ey1, wy1⟩, ⟨_, _, rfl, ⟨y2, rfl, ey2, wy2⟩, ⟨_, _, rfl, ⟨y3, rfl, ey3, wy3⟩, ⟨_, _, rfl, ⟨y4, rfl, ey4, wy4⟩, ⟨_, _, rfl, ⟨y5, rfl, ey5, wy5⟩, ⟨_, _, rfl, ⟨y6, rfl, ey6, wy6⟩, ⟨_, _, rfl, ⟨y7, rfl, ey7, wy7⟩, ⟨_, _, rfl, ⟨y8, rfl, ey8⟩, rfl⟩⟩⟩⟩⟩⟩⟩⟩⟩ := hc
    exact ey5
  have wz0_5 : ∀ i, i < l0 -> ∀ x ∈ (gS 5 (rows0 i)), x.size <= maxLen := by
    intro i hi
    have hc := (hrow0 i hi).2.1
    generalize rows0 i = R at hc ⊢
    simp only [b0k, d0A] at hc
    obtain ⟨_, _, rfl, ⟨y0, rfl, ey0, wy0⟩, ⟨_, _, rfl, ⟨y1, rfl, ey1, wy1⟩, ⟨_, _, rfl, ⟨y2, rfl, ey2, wy2⟩, ⟨_, _, rfl, ⟨y3, rfl, ey3, wy3⟩, ⟨_, _, rfl, ⟨y4, rfl, ey4, wy4⟩, ⟨_, _, rfl, ⟨y5, rfl, ey5, wy5⟩, ⟨_, _, rfl, ⟨y6, rfl, ey6, wy6⟩, ⟨_, _, rfl, ⟨y7, rfl, ey7, wy7⟩, ⟨_, _, rfl, ⟨y8, rfl, ey8⟩, rfl⟩⟩⟩⟩⟩⟩⟩⟩⟩ := hc
    exact wy5
  have ez0_6 : ∀ i, i < l0 -> (gI 6 (rows0 i)).length = ns0.getD i 0 := by
    intro i hi
    have hc := (hrow0 i hi).2.1
    generalize rows0 i = R at hc ⊢
    simp only [b0k, d0A] at hc
    obtain ⟨_, _, rfl, ⟨y0, rfl, ey0, wy0⟩, ⟨_, _, rfl, ⟨y1, rfl, ey1, wy1⟩, ⟨_, _, rfl, ⟨y2, rfl, ey2, wy2⟩, ⟨_, _, rfl, ⟨y3, rfl, ey3, wy3⟩, ⟨_, _, rfl, ⟨y4, rfl, ey4, wy4⟩, ⟨_, _, rfl, ⟨y5, rfl, ey5, wy5⟩, ⟨_, _, rfl, ⟨y6, rfl, ey6, wy6⟩, ⟨_, _, rfl, ⟨y7, rfl, ey7, wy7⟩, ⟨_, _, rfl, ⟨y8, rfl, ey8⟩, rfl⟩⟩⟩⟩⟩⟩⟩⟩⟩ := hc
    exact ey6
  have wz0_6 : ∀ i, i < l0 -> ∀ x ∈ (gI 6 (rows0 i)), (Lit.int .i64 x).wf = true := by
    intro i hi
    have hc := (hrow0 i hi).2.1
    generalize rows0 i = R at hc ⊢
    simp only [b0k, d0A] at hc
    obtain ⟨_, _, rfl, ⟨y0, rfl, ey0, wy0⟩, ⟨_, _, rfl, ⟨y1, rfl, ey1, wy1⟩, ⟨_, _, rfl, ⟨y2, rfl, ey2, wy2⟩, ⟨_, _, rfl, ⟨y3, rfl, ey3, wy3⟩, ⟨_, _, rfl, ⟨y4, rfl, ey4, wy4⟩, ⟨_, _, rfl, ⟨y5, rfl, ey5, wy5⟩, ⟨_, _, rfl, ⟨y6, rfl, ey6, wy6⟩, ⟨_, _, rfl, ⟨y7, rfl, ey7, wy7⟩, ⟨_, _, rfl, ⟨y8, rfl, ey8⟩, rfl⟩⟩⟩⟩⟩⟩⟩⟩⟩ := hc
    exact wy6
  have ez0_7 : ∀ i, i < l0 -> (gI 7 (rows0 i)).length = ns0.getD i 0 := by
    intro i hi
    have hc := (hrow0 i hi).2.1
    generalize rows0 i = R at hc ⊢
    simp only [b0k, d0A] at hc
    obtain ⟨_, _, rfl, ⟨y0, rfl, ey0, wy0⟩, ⟨_, _, rfl, ⟨y1, rfl, ey1, wy1⟩, ⟨_, _, rfl, ⟨y2, rfl, ey2, wy2⟩, ⟨_, _, rfl, ⟨y3, rfl, ey3, wy3⟩, ⟨_, _, rfl, ⟨y4, rfl, ey4, wy4⟩, ⟨_, _, rfl, ⟨y5, rfl, ey5, wy5⟩, ⟨_, _, rfl, ⟨y6, rfl, ey6, wy6⟩, ⟨_, _, rfl, ⟨y7, rfl, ey7, wy7⟩, ⟨_, _, rfl, ⟨y8, rfl, ey8⟩, rfl⟩⟩⟩⟩⟩⟩⟩⟩⟩ := hc
    exact ey7
  have wz0_7 : ∀ i, i < l0 -> ∀ x ∈ (gI 7 (rows0 i)), (Lit.int .i64 x).wf = true := by
    intro i hi
    have hc := (hrow0 i hi).2.1
    generalize rows0 i = R at hc ⊢
    simp only [b0k, d0A] at hc
    obtain ⟨_, _, rfl, ⟨y0, rfl, ey0, wy0⟩, ⟨_, _, rfl, ⟨y1, rfl, ey1, wy1⟩, ⟨_, _, rfl, ⟨y2, rfl, ey2, wy2⟩, ⟨_, _, rfl, ⟨y3, rfl, ey3, wy3⟩, ⟨_, _, rfl, ⟨y4, rfl, ey4, wy4⟩, ⟨_, _, rfl, ⟨y5, rfl, ey5, wy5⟩, ⟨_, _, rfl, ⟨y6, rfl, ey6, wy6⟩, ⟨_, _, rfl, ⟨y7, rfl, ey7, wy7⟩, ⟨_, _, rfl, ⟨y8, rfl, ey8⟩, rfl⟩⟩⟩⟩⟩⟩⟩⟩⟩ := hc
    exact wy7
  have ez0_8 : ∀ i, i < l0 -> (gB 8 (rows0 i)).length = ns0.getD i 0 := by
    intro i hi
    have hc := (hrow0 i hi).2.1
    generalize rows0 i = R at hc ⊢
    simp only [b0k, d0A] at hc
    obtain ⟨_, _, rfl, ⟨y0, rfl, ey0, wy0⟩, ⟨_, _, rfl, ⟨y1, rfl, ey1, wy1⟩, ⟨_, _, rfl, ⟨y2, rfl, ey2, wy2⟩, ⟨_, _, rfl, ⟨y3, rfl, ey3, wy3⟩, ⟨_, _, rfl, ⟨y4, rfl, ey4, wy4⟩, ⟨_, _, rfl, ⟨y5, rfl, ey5, wy5⟩, ⟨_, _, rfl, ⟨y6, rfl, ey6, wy6⟩, ⟨_, _, rfl, ⟨y7, rfl, ey7, wy7⟩, ⟨_, _, rfl, ⟨y8, rfl, ey8⟩, rfl⟩⟩⟩⟩⟩⟩⟩⟩⟩ := hc
    exact ey8
  have hfam0 : ∀ i, i < l0 -> ∀ g : G, BlkAt g (bs0 i) true (.cols (ns0.getD i 0) [.sc (.ints .i64 (gI 0 (rows0 i))), .sc (.ints .i64 (gI 1 (rows0 i))), .sc (.strs (gS 2 (rows0 i))), .sc (.strs (gS 3 (rows0 i))), .sc (.strs (gS 4 (rows0 i))), .sc (.strs (gS 5 (rows0 i))), .sc (.ints .i64 (gI 6 (rows0 i))), .sc (.ints .i64 (gI 7 (rows0 i))), .sc (.bools (gB 8 (rows0 i)))]) W := by
    intro i hi g
    have hc := (hrow0 i hi).2.1
    have hb := (hrow0 i hi).2.2 g
    generalize rows0 i = R at hc hb ⊢
    simp only [b0k, d0A] at hc
    obtain ⟨_, _, rfl, ⟨y0, rfl, ey0, wy0⟩, ⟨_, _, rfl, ⟨y1, rfl, ey1, wy1⟩, ⟨_, _, rfl, ⟨y2, rfl, ey2, wy2⟩, ⟨_, _, rfl, ⟨y3, rfl, ey3, wy3⟩, ⟨_, _, rfl, ⟨y4, rfl, ey4, wy4⟩, ⟨_, _, rfl, ⟨y5, rfl, ey5, wy5⟩, ⟨_, _, rfl, ⟨y6, rfl, ey6, wy6⟩, ⟨_, _, rfl, ⟨y7, rfl, ey7, wy7⟩, ⟨_, _, rfl, ⟨y8, rfl, ey8⟩, rfl⟩⟩⟩⟩⟩⟩⟩⟩⟩ := hc
    exact hb
  obtain ⟨z0_0, z0_1, z0_2, z0_3, z0_4, z0_5, z0_6, z0_7, z0_8, ez0_0, wz0_0, ez0_1, wz0_1, ez0_2, wz0_2, ez0_3, wz0_3, ez0_4, wz0_4, ez0_5, wz0_5, ez0_6, wz0_6, ez0_7, wz0_7, ez0_8, hfam0⟩ : ∃ (z0_0 : Nat -> List Int) (z0_1 : Nat -> List Int) (z0_2 : Nat -> List ByteArray) (z0_3 : Nat -> List ByteArray) (z0_4 : Nat -> List ByteArray) (z0_5 : Nat -> List ByteArray) (z0_6 : Nat -> List Int) (z0_7 : Nat -> List Int) (z0_8 : Nat -> List Bool), (∀ i, i < l0 -> (z0_0 i).length = ns0.getD i 0) /\ (∀ i, i < l0 -> ∀ x ∈ z0_0 i, (Lit.int .i64 x).wf = true) /\ (∀ i, i < l0 -> (z0_1 i).length = ns0.getD i 0) /\ (∀ i, i < l0 -> ∀ x ∈ z0_1 i, (Lit.int .i64 x).wf = true) /\ (∀ i, i < l0 -> (z0_2 i).length = ns0.getD i 0) /\ (∀ i, i < l0 -> ∀ x ∈ z0_2 i, x.size <= maxLen) /\ (∀ i, i < l0 -> (z0_3 i).length = ns0.getD i 0) /\ (∀ i, i < l0 -> ∀ x ∈ z0_3 i, x.size <= maxLen) /\ (∀ i, i < l0 -> (z0_4 i).length = ns0.getD i 0) /\ (∀ i, i < l0 -> ∀ x ∈ z0_4 i, x.size <= maxLen) /\ (∀ i, i < l0 -> (z0_5 i).length = ns0.getD i 0) /\ (∀ i, i < l0 -> ∀ x ∈ z0_5 i, x.size <= maxLen) /\ (∀ i, i < l0 -> (z0_6 i).length = ns0.getD i 0) /\ (∀ i, i < l0 -> ∀ x ∈ z0_6 i, (Lit.int .i64 x).wf = true) /\ (∀ i, i < l0 -> (z0_7 i).length = ns0.getD i 0) /\ (∀ i, i < l0 -> ∀ x ∈ z0_7 i, (Lit.int .i64 x).wf = true) /\ (∀ i, i < l0 -> (z0_8 i).length = ns0.getD i 0) /\ ∀ i, i < l0 -> ∀ g : G, BlkAt g (bs0 i) true (.cols (ns0.getD i 0) [.sc (.ints .i64 (z0_0 i)), .sc (.ints .i64 (z0_1 i)), .sc (.strs (z0_2 i)), .sc (.strs (z0_3 i)), .sc (.strs (z0_4 i)), .sc (.strs (z0_5 i)), .sc (.ints .i64 (z0_6 i)), .sc (.ints .i64 (z0_7 i)), .sc (.bools (z0_8 i))]) W := ⟨fun i => gI 0 (rows0 i), fun i => gI 1 (rows0 i), fun i => gS 2 (rows0 i), fun i => gS 3 (rows0 i), fun i => gS 4 (rows0 i), fun i => gS 5 (rows0 i), fun i => gI 6 (rows0 i), fun i => gI 7 (rows0 i), fun i => gB 8 (rows0 i), ez0_0, wz0_0, ez0_1, wz0_1, ez0_2, wz0_2, ez0_3, wz0_3, ez0_4, wz0_4, ez0_5, wz0_5, ez0_6, wz0_6, ez0_7, wz0_7, ez0_8, hfam0⟩
  obtain ⟨n1, rfl⟩ := okWide_int Tryz.underlying3 (hval 1 3 v1 rfl rfl)
  have hw1 : (Lit.int .i64 n1).wf = true := by
    obtain ⟨fuel, hf⟩ := h1
    obtain ⟨m, e, _, hw⟩ := DataW.trod_int Tryz.underlying3 hf
    simp [Value.cells] at e; subst e; exact hw
  obtain ⟨n2, rfl⟩ := okWide_int Tryz.underlying23 (hval 2 23 v2 rfl rfl)
  have hw2 : (Lit.int .u64 n2).wf = true := by
    obtain ⟨fuel, hf⟩ := h2
    obtain ⟨m, e, _, hw⟩ := DataW.trod_int Tryz.underlying23 hf
    simp [Value.cells] at e; subst e; exact hw
  clear hA0 hval0
  rw [MakeChecks.laidMetH_plain _ _ _ (by kernel_rfl)] at hL
  obtain ⟨ps, ⟨gv0, gt0, gc0, gf0, gp0, gq0, hgv0, hgt0, hgc0, hgd0, ⟨gv1, gt1, gc1, gf1, gp1, gq1, hgv1, hgt1, hgc1, hgd1, ⟨gv2, gt2, gc2, gf2, gp2, gq2, hgv2, hgt2, hgc2, hgd2, ⟨gv3, gt3, gc3, gf3, gp3, gq3, hgv3, hgt3, hgc3, hgd3, ⟨gv4, gt4, gc4, gf4, gp4, gq4, hgv4, hgt4, hgc4, hgd4, ⟨gv5, gt5, gc5, gf5, gp5, gq5, hgv5, hgt5, hgc5, hgd5, ⟨gv6, gt6, gc6, gf6, gp6, gq6, hgv6, hgt6, hgc6, hgd6, _, _⟩, _⟩, _⟩, _⟩, _⟩, _⟩, _⟩, _, _⟩ := hL
  obtain rfl : gv0 = 2 := Option.some.inj (hgv0.symm.trans (by kernel_rfl))
  obtain rfl : gt0 = 240 := Option.some.inj (hgt0.symm.trans (by kernel_rfl))
  obtain rfl : gv1 = 3 := Option.some.inj (hgv1.symm.trans (by kernel_rfl))
  obtain rfl : gt1 = 241 := Option.some.inj (hgt1.symm.trans (by kernel_rfl))
  obtain rfl : gv2 = 0 := Option.some.inj (hgv2.symm.trans (by kernel_rfl))
  obtain rfl : gt2 = 201 := Option.some.inj (hgt2.symm.trans (by kernel_rfl))
  obtain rfl : gv3 = 7 := Option.some.inj (hgv3.symm.trans (by kernel_rfl))
  obtain rfl : gt3 = 267 := Option.some.inj (hgt3.symm.trans (by kernel_rfl))
  obtain rfl : gv4 = 5 := Option.some.inj (hgv4.symm.trans (by kernel_rfl))
  obtain rfl : gt4 = 78 := Option.some.inj (hgt4.symm.trans (by kernel_rfl))
  obtain rfl : gv5 = 4 := Option.some.inj (hgv5.symm.trans (by kernel_rfl))
  obtain rfl : gt5 = 78 := Option.some.inj (hgt5.symm.trans (by kernel_rfl))
  obtain rfl : gv6 = 6 := Option.some.inj (hgv6.symm.trans (by kernel_rfl))
  obtain rfl : gt6 = 264 := Option.some.inj (hgt6.symm.trans (by kernel_rfl))
  let g : G := fun h q => match h, q with | 0, q => some (d1c [(2, 1, 32), (3, 1, 64), (0, 1, 20), (7, 2, 16), (5, 1, 1), (4, 1, 1), (6, 1, 256)] q) | 1, 0 => some β0 | 2, q => some (bs0 q) | _, _ => none
  have hgl : g.glob := fun q => t0R _ q
  have hup : g.upto 3 := by
    intro h q hh
    simp only [g]
    split <;> first | rfl | (exfalso; omega)
  have hT : ∀ q, (a0T glT q).isSome = true -> ∃ β, g 0 q = some β /\ BlkAt g β true (q0g glT q) W := by
    intro q hq
    have hq' : q = 0 \/ q = 2 \/ q = 3 \/ q = 4 \/ q = 5 \/ q = 7 := d1e hq
    rcases hq' with rfl | rfl | rfl | rfl | rfl | rfl
    . exact ⟨_, rfl, f0u (m := 20) (ks := [.int .u64]) hgv2 hgc2 Tryz.underlying201 (by kernel_rfl) (by kernel_rfl) (by kernel_rfl) (by decide) hgd2 (by kernel_rfl) g⟩
    . exact ⟨_, rfl, f0u (m := 20) (ks := [.int .u8]) hgv0 hgc0 Tryz.underlying240 (by kernel_rfl) (by kernel_rfl) (by kernel_rfl) (by decide) hgd0 (by kernel_rfl) g⟩
    . exact ⟨_, rfl, f0u (m := 20) (ks := [.int .u8]) hgv1 hgc1 Tryz.underlying241 (by kernel_rfl) (by kernel_rfl) (by kernel_rfl) (by decide) hgd1 (by kernel_rfl) g⟩
    . exact ⟨_, rfl, o0Q (name := "*errors.errorString") hgv5 hgc5 Tryz.underlying78 i1Q hgd5 g⟩
    . exact ⟨_, rfl, o0Q (name := "*errors.errorString") hgv4 hgc4 Tryz.underlying78 i1P hgd4 g⟩
    . exact ⟨_, rfl, f0u (m := 20) (ks := [.int .u8, .int .u8]) hgv3 hgc3 Tryz.underlying267 (by kernel_rfl) (by kernel_rfl) (by kernel_rfl) (by decide) hgd3 (by kernel_rfl) g⟩
  obtain ⟨hH, hro⟩ : Holds g [(0, some (GB glT)), (1, some (.one true (.cols l0 [.own 2 ns0]))), (2, some (.fam true (fun x => x < l0) (fun x => .cols (ns0.getD x 0) [.sc (.ints .i64 (z0_0 x)), .sc (.ints .i64 (z0_1 x)), .sc (.strs (z0_2 x)), .sc (.strs (z0_3 x)), .sc (.strs (z0_4 x)), .sc (.strs (z0_5 x)), .sc (.ints .i64 (z0_6 x)), .sc (.ints .i64 (z0_7 x)), .sc (.bools (z0_8 x))])))] W /\ ∀ h q ro b, Ent [(0, some (GB glT)), (1, some (.one true (.cols l0 [.own 2 ns0]))), (2, some (.fam true (fun x => x < l0) (fun x => .cols (ns0.getD x 0) [.sc (.ints .i64 (z0_0 x)), .sc (.ints .i64 (z0_1 x)), .sc (.strs (z0_2 x)), .sc (.strs (z0_3 x)), .sc (.strs (z0_4 x)), .sc (.strs (z0_5 x)), .sc (.ints .i64 (z0_6 x)), .sc (.ints .i64 (z0_7 x)), .sc (.bools (z0_8 x))])))] h q ro b -> ro = true := y0k hT (by
    intro p hp
    simp only [List.mem_cons, List.not_mem_nil, or_false] at hp
    rcases hp with rfl | rfl
    . exact .inl ⟨_, _, rfl, rfl, hB0 g (fun i hi => rfl)⟩
    . exact .inr ⟨_, _, rfl, fun q hq => ⟨_, rfl, hfam0 q hq g⟩⟩)
  have hv : Rvs g [.sl 1 0 0 l0, .int .i64 n1, .int .u64 n2] [.slice a0 g0E cap0, .int .i64 n1, .int .u64 n2] := by
    simp only [Rvs]
    exact ⟨_, _, rfl, (hR0 _ 1 0 rfl), ⟨_, _, rfl, rvi, ⟨_, _, rfl, rvi, rfl⟩⟩⟩
  refine ((booksGroups_fc l0 hl0 ns0 ens0 (fun i hi => (hrow0 i hi).1) z0_0 ez0_0 wz0_0 z0_1 ez0_1 wz0_1 z0_2 ez0_2 wz0_2 z0_3 ez0_3 wz0_3 z0_4 ez0_4 wz0_4 z0_5 ez0_5 wz0_5 z0_6 ez0_6 wz0_6 z0_7 ez0_7 wz0_7 z0_8 ez0_8 n1 hw1 n2 hw2).law ⟨_, _, Tryz.func3, rfl, by kernel_rfl⟩ hro hgl hup hH hv).mono fun e W' ⟨he, bel⟩ => ?_
  subst he
  exact ⟨_, rfl, _, _, _, [], _, [], hW', trodAll_mk1 (shut_bool Tryz.underlying4 _), (trodAll_cons_mk (Below.trod r0x (by kernel_rfl) (of_decide_eq_true (by kernel_rfl)) h0 bel lt0) (trodAll_cons_mk (Below.trod r0x (by kernel_rfl) (of_decide_eq_true (by kernel_rfl)) h1 bel lt1) (trodAll_cons_mk (Below.trod r0x (by kernel_rfl) (of_decide_eq_true (by kernel_rfl)) h2 bel lt2) trodAll_mk0))), rfl, bel.frame _, fun h => by cases h⟩

theorem j1y {a b : Bool} (h1 : a = true) (h2 : b = true) : (a && b) = true := by rw [h1, h2]; rfl
set_option maxHeartbeats 0 in
set_option maxRecDepth 100000 in
theorem h1z : joinedFacts Tryz.pinned.checked.prog 3 Tryz.f3 Rows.booksGroupsSpec Rows.booksGroupsRow = true := by
  unfold joinedFacts
  repeat' (with_reducible refine j1y ?_ ?_)
  all_goals (as_aux_lemma => kernel_rfl)
theorem over : Rows.booksGroupsRow.holds Tryz.pinned (OpenSpec.ofChange Rows.booksGroupsSpec) :=
  OpenClaim.holds_of_wide 3 Tryz.f3 rfl rfl rfl rfl rfl rfl rfl ⟨rfl, rfl, rfl, rfl, rfl⟩ rfl rfl rfl rfl rfl (by kernel_rfl) Tryz.func3 h1z
    (of_decide_eq_true (by kernel_rfl)) (by unfold Func.isWrapper; first | (rw [if_pos (by decide +kernel)]; kernel_rfl) | (rw [if_neg (by decide +kernel)]; exact ⟨rfl, rfl⟩))
    (fun os started H enc _ => h1y os started H enc)
end Go.Proofs.YtmgnedokogidoaaGreatDoor.booksGroupsLaw
namespace Go.Proofs.YtmgnedokogidoaaGreatDoor
open Go in
theorem booksGroups_holds : Rows.BooksGroupsCardSaid :=
  Claim7.holds_tied_plain_at .later [] [.data, .data, .data, .data, .sentinel, .sentinel, .pinned] true (true, "4630e3e92a43aa9e5b4567ae44647572b10a5d8aaa19b5399349ce74372fb917") true
    booksGroupsLaw.over (fun _ h => by cases h) (by kernel_rfl) (fun _ h => by cases h) booksGroups_row_tie rfl ⟨rfl, rfl⟩ (by kernel_rfl) rfl
    (fun f fn hf hfn => by
      obtain rfl : f = 3 := Option.some.inj ((show Tryz.prog.funcNamed "cardnet/cardnetlaw50.BooksGroups" = some 3 by kernel_rfl).symm.trans hf) |>.symm
      obtain rfl : fn = Tryz.f3 := (Option.some.inj (Tryz.func3.symm.trans hfn)).symm
      exact ⟨by kernel_rfl, fun j t ht => by
        rw [Tryz.params3] at ht
        have hm : t ∈ [22, 3, 23] := by simpa using Array.mem_of_getElem? ht
        have hall : ([22, 3, 23].all fun u => !Tryz.prog.wantsStandIn u) = true := by kernel_rfl
        exact (show Tryz.prog.wantsStandIn t = false by simpa using List.all_eq_true.1 hall t hm)⟩)
    (by kernel_rfl)
end Go.Proofs.YtmgnedokogidoaaGreatDoor
