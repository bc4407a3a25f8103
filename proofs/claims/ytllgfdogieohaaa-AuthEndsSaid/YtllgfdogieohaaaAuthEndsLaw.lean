/- 'cardnet law AuthEnds' returns true at every input: the statement, from the contract of the law's function. The frame was written by mklaw.py. -/
import Derived.Test.YtllgfdogieohaaaRows
import Derived.Test.YtllgfdogieohaaaAuthL
import Derived.Test.YtllgfdogieohaaaSxLaw
import Derived.ProofKit
import Derived.OpenShut
import Derived.ShutString
import Derived.ChangeOld
import Derived.Below
import Derived.Carry
namespace Go.Proofs.Ytllgfdogieohaaa.authEndsLaw
open Go.ChangeShapes Go.WideShapes Go.ChangeAt Go.RowKit Go.Sx
set_option linter.unusedVariables false

theorem own : ownKnob Try.prog.godebug = none := by kernel_rfl
theorem laidOut : laidOutB Try.prog = true := by kernel_rfl

set_option maxRecDepth 100000 in
theorem lifted (os : Os) (started : os.Started) (H : Type) (enc : TypeId × Value → H) :
    ReturnsInHanded {} Try.checked os 7 .any (Rows.authEndsSpec.pre6 enc Try.prog Try.f7 Rows.authEndsRow.domain false) (Rows.authEndsSpec.post enc Try.prog Try.f7 false true false false) := by
  refine returnsInHanded_of_change (C := Try.checked) own started (by kernel_rfl) Try.func7
    (ChangeSpec.witness6 (enc := enc) (C := Try.checked) false ⟨#[], #[.agg #[.string ⟨#[]⟩, .string ⟨#[]⟩, .int .i64 0, .int .i64 0, .int .i64 0, .int .i64 0, .int .i64 0, .int .i64 0, .int .i64 0, .int .i64 0], .agg #[.int .u8 0, .int .i64 0, .int .i64 0, .bool false]], []⟩ 8 (by kernel_rfl) (by kernel_rfl) (by kernel_rfl) (by kernel_rfl)) ?_
  intro W base args ds gs before hval0 hW hcnd _
  have hval : ∀ (j : Nat) t v, Try.f7.params[j]? = some t → args[j]? = some v → Value.okWide Try.prog W .any base t v := hval0
  have hW' := hW
  obtain ⟨p, q, hA0, hV, rfl, hfz, hnd⟩ := hW
  have hA : DataW.TrodAll enc Try.prog W 0 (fun _ => true) true Try.f7.params.toList args.toList ds p := hA0
  rw [Try.params7] at hA hval
  obtain ⟨v0, vs0, d0, ds0, p0, q0, hargs, rfl, rfl, h0, r0⟩ := trodAll_cons hA
  obtain ⟨v1, vs1, d1, ds1, p1, q1, rfl, rfl, rfl, h1, r1⟩ := trodAll_cons r0
  obtain ⟨rfl, rfl, rfl⟩ := trodAll_nil r1
  obtain rfl : args = #[v0, v1] := by cases args; simp_all
  obtain ⟨rfl, rfl⟩ := trodVars_none hV
  have lt0 : ∀ x ∈ p0, x.block < W.heap.size := by obtain ⟨m, hm⟩ := h0; exact DataW.trod_lt m _ _ _ hm
  have lt1 : ∀ x ∈ p1, x.block < W.heap.size := by obtain ⟨m, hm⟩ := h1; exact DataW.trod_lt m _ _ _ hm
  obtain ⟨cs0, rfl, _⟩ := okWide_struct Try.underlying24 (hval 0 24 v0 rfl rfl)
  obtain ⟨fuel0, hf0⟩ := id h0
  have ha0 := trod_flat (m := 20) (ks := [.str, .str, .int .i64, .int .i64, .int .i64, .int .i64, .int .i64, .int .i64, .int .i64, .int .i64]) (by kernel_rfl) hf0
  simp only [AllOk, CellOk] at ha0
  obtain ⟨l0⟩ := cs0
  simp only [Value.cells] at ha0
  obtain ⟨_, _, rfl, ⟨x0_0, rfl, hx0_0⟩, _, _, rfl, ⟨x0_1, rfl, hx0_1⟩, _, _, rfl, ⟨x0_2, rfl, hx0_2⟩, _, _, rfl, ⟨x0_3, rfl, hx0_3⟩, _, _, rfl, ⟨x0_4, rfl, hx0_4⟩, _, _, rfl, ⟨x0_5, rfl, hx0_5⟩, _, _, rfl, ⟨x0_6, rfl, hx0_6⟩, _, _, rfl, ⟨x0_7, rfl, hx0_7⟩, _, _, rfl, ⟨x0_8, rfl, hx0_8⟩, _, _, rfl, ⟨x0_9, rfl, hx0_9⟩, rfl⟩ := ha0
  obtain ⟨cs1, rfl, _⟩ := okWide_struct Try.underlying38 (hval 1 38 v1 rfl rfl)
  obtain ⟨fuel1, hf1⟩ := id h1
  have ha1 := trod_flat (m := 20) (ks := [.int .u8, .int .i64, .int .i64, .bool]) (by kernel_rfl) hf1
  simp only [AllOk, CellOk] at ha1
  obtain ⟨l1⟩ := cs1
  simp only [Value.cells] at ha1
  obtain ⟨_, _, rfl, ⟨x1_0, rfl, hx1_0⟩, _, _, rfl, ⟨x1_1, rfl, hx1_1⟩, _, _, rfl, ⟨x1_2, rfl, hx1_2⟩, _, _, rfl, ⟨x1_3, rfl⟩, rfl⟩ := ha1
  clear hA0 hval0
  let g : G := ⟨0, fun _ => ⟨0, 0, 0⟩⟩
  have hH : Holds g [] W := holds_ro _ (by intro p hp; cases hp)
  have hro : ∀ h hb, aget ([] : Heap) h = some hb → hb.ro = true := ro_all _ (by intro p hp; cases hp)
  have hv : Rvs g [.agg [.str x0_0, .str x0_1, .int .i64 x0_2, .int .i64 x0_3, .int .i64 x0_4, .int .i64 x0_5, .int .i64 x0_6, .int .i64 x0_7, .int .i64 x0_8, .int .i64 x0_9], .agg [.int .u8 x1_0, .int .i64 x1_1, .int .i64 x1_2, .bool x1_3]] [.agg #[.string x0_0, .string x0_1, .int .i64 x0_2, .int .i64 x0_3, .int .i64 x0_4, .int .i64 x0_5, .int .i64 x0_6, .int .i64 x0_7, .int .i64 x0_8, .int .i64 x0_9], .agg #[.int .u8 x1_0, .int .i64 x1_1, .int .i64 x1_2, .bool x1_3]] := by
    simp only [Rvs]
    exact ⟨_, _, rfl, (by simp [Rv, Rvs]), ⟨_, _, rfl, (by simp [Rv, Rvs]), rfl⟩⟩
  refine ((authEnds_fc x0_0 hx0_0 x0_1 hx0_1 x0_2 hx0_2 x0_3 hx0_3 x0_4 hx0_4 x0_5 hx0_5 x0_6 hx0_6 x0_7 hx0_7 x0_8 hx0_8 x0_9 hx0_9 x1_0 hx1_0 x1_1 hx1_1 x1_2 hx1_2 x1_3).law hro (g := g) rfl hH hv).mono fun e W' ⟨he, bel⟩ => ?_
  subst he
  exact ⟨_, rfl, _, _, _, [], _, [], hW', trodAll_mk1 (shut_bool Try.underlying4 _), (trodAll_cons_mk (Below.trod laidOut (by kernel_rfl) (of_decide_eq_true (by kernel_rfl)) h0 bel lt0) (trodAll_cons_mk (Below.trod laidOut (by kernel_rfl) (of_decide_eq_true (by kernel_rfl)) h1 bel lt1) trodAll_mk0)), rfl, bel.frame _, fun h => by cases h⟩

theorem over : Rows.authEndsRow.holds Try.pinned (OpenSpec.ofChange Rows.authEndsSpec) :=
  OpenClaim.holds_of_wide 7 Try.f7 rfl rfl rfl rfl rfl rfl rfl ⟨rfl, rfl, rfl, rfl, rfl⟩ rfl rfl rfl rfl rfl (by kernel_rfl) Try.func7 (by kernel_rfl)
    (of_decide_eq_true (by kernel_rfl)) (by unfold Func.isWrapper; first | (rw [if_pos (by decide +kernel)]; kernel_rfl) | (rw [if_neg (by decide +kernel)]; exact ⟨rfl, rfl⟩))
    (fun os started H enc _ => lifted os started H enc)
end Go.Proofs.Ytllgfdogieohaaa.authEndsLaw
namespace Go.Proofs.Ytllgfdogieohaaa
theorem authEnds_holds : Rows.AuthEndsSaid := authEndsLaw.over
end Go.Proofs.Ytllgfdogieohaaa
