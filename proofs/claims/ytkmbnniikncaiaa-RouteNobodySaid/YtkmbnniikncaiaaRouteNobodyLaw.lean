/- 'cardnet law RouteNobody' returns true at every input: the statement, from the contract of the law's function. The frame was written by mklaw.py. -/
import Derived.Test.YtkmbnniikncaiaaRows
import Derived.Test.YtkmbnniikncaiaaRtN
import Derived.Test.YtkmbnniikncaiaaYLaw
import Derived.ProofKit
import Derived.OpenShut
import Derived.ShutString
import Derived.ChangeOld
import Derived.Below
import Derived.Carry
namespace Go.Proofs.Ytkmbnniikncaiaa.routeNobodyLaw
open Go.ChangeShapes Go.WideShapes Go.ChangeAt Go.RowKit Go.Sy
set_option linter.unusedVariables false
set_option linter.unusedSimpArgs false

theorem own : ownKnob Try.prog.godebug = none := by kernel_rfl
theorem laidOut : laidOutB Try.prog = true := by kernel_rfl

set_option maxRecDepth 100000 in
theorem lifted (os : Os) (started : os.Started) (H : Type) (enc : TypeId × Value → H) :
    ReturnsInHanded {} Try.checked os 5 .any (Rows.routeNobodySpec.pre6 enc Try.prog Try.f5 Rows.routeNobodyRow.domain false) (Rows.routeNobodySpec.post enc Try.prog Try.f5 false true false false) := by
  refine returnsInHanded_of_change (C := Try.checked) own started (by kernel_rfl) Try.func5
    (ChangeSpec.witness6 (enc := enc) (C := Try.checked) false ⟨#[], #[.string ⟨#[]⟩, .agg #[.string ⟨#[]⟩, .string ⟨#[]⟩, .string ⟨#[]⟩, .int .i64 0]], []⟩ 8 (by kernel_rfl) (by kernel_rfl) (by kernel_rfl) (by kernel_rfl)) ?_
  intro W base args ds gs before hval0 hW hcnd _
  have hval : ∀ (j : Nat) t v, Try.f5.params[j]? = some t → args[j]? = some v → Value.okWide Try.prog W .any base t v := hval0
  have hW' := hW
  obtain ⟨p, q, hA0, hV, rfl, hfz, hnd⟩ := hW
  have hA : DataW.TrodAll enc Try.prog W 0 (fun _ => true) true Try.f5.params.toList args.toList ds p := hA0
  rw [Try.params5] at hA hval
  obtain ⟨v0, vs0, d0, ds0, p0, q0, hargs, rfl, rfl, h0, r0⟩ := trodAll_cons hA
  obtain ⟨v1, vs1, d1, ds1, p1, q1, rfl, rfl, rfl, h1, r1⟩ := trodAll_cons r0
  obtain ⟨rfl, rfl, rfl⟩ := trodAll_nil r1
  obtain rfl : args = #[v0, v1] := by cases args; simp_all
  obtain ⟨rfl, rfl⟩ := trodVars_none hV
  have lt0 : ∀ x ∈ p0, x.block < W.heap.size := by obtain ⟨m, hm⟩ := h0; exact DataW.trod_lt m _ _ _ hm
  have lt1 : ∀ x ∈ p1, x.block < W.heap.size := by obtain ⟨m, hm⟩ := h1; exact DataW.trod_lt m _ _ _ hm
  obtain ⟨s0, rfl⟩ := okWide_string Try.underlying9 (hval 0 9 v0 rfl rfl)
  have hs0 : s0.size ≤ maxLen := by
    obtain ⟨fuel, hf⟩ := h0
    obtain ⟨m, e, _, hw⟩ := DataW.trod_string Try.underlying9 hf
    simp [Value.cells] at e; subst e; exact hw
  obtain ⟨cs1, rfl, _⟩ := okWide_struct Try.underlying35 (hval 1 35 v1 rfl rfl)
  obtain ⟨fuel1, hf1⟩ := id h1
  have ha1 := trod_flat (m := 20) (ks := [.str, .str, .str, .int .i64]) (by kernel_rfl) hf1
  simp only [AllOk, CellOk] at ha1
  obtain ⟨l1⟩ := cs1
  simp only [Value.cells] at ha1
  obtain ⟨_, _, rfl, ⟨x1_0, rfl, hx1_0⟩, _, _, rfl, ⟨x1_1, rfl, hx1_1⟩, _, _, rfl, ⟨x1_2, rfl, hx1_2⟩, _, _, rfl, ⟨x1_3, rfl, hx1_3⟩, rfl⟩ := ha1
  clear hA0 hval0
  let g : G := fun h q => match h, q with | 0, q => some ⟨q, 0, 0, 0⟩  | _, _ => none
  have hgl : g.glob := fun q => ⟨0, 0, rfl⟩
  have hup : g.upto 1 := by
    intro h q hh
    simp only [g]
    split <;> first | rfl | (exfalso; omega)
  obtain ⟨hH, hro⟩ : Holds g [] W ∧ ∀ h q ro b, Ent [] h q ro b → ro = true := holds_ro _ (by intro p hp; cases hp)
  have hv : Rvs g [.str s0, .agg [.str x1_0, .str x1_1, .str x1_2, .int .i64 x1_3]] [.string s0, .agg #[.string x1_0, .string x1_1, .string x1_2, .int .i64 x1_3]] := by
    simp only [Rvs]
    exact ⟨_, _, rfl, rvt, ⟨_, _, rfl, (by simp [Rv, Rvs]), rfl⟩⟩
  refine ((routeNobody_fc s0 hs0 x1_0 hx1_0 x1_1 hx1_1 x1_2 hx1_2 x1_3 hx1_3).law ⟨_, _, Try.func5, rfl, by kernel_rfl⟩ hro hgl hup hH hv).mono fun e W' ⟨he, bel⟩ => ?_
  subst he
  exact ⟨_, rfl, _, _, _, [], _, [], hW', trodAll_mk1 (shut_bool Try.underlying4 _), (trodAll_cons_mk (Below.trod laidOut (by kernel_rfl) (of_decide_eq_true (by kernel_rfl)) h0 bel lt0) (trodAll_cons_mk (Below.trod laidOut (by kernel_rfl) (of_decide_eq_true (by kernel_rfl)) h1 bel lt1) trodAll_mk0)), rfl, bel.frame _, fun h => by cases h⟩

theorem over : Rows.routeNobodyRow.holds Try.pinned (OpenSpec.ofChange Rows.routeNobodySpec) :=
  OpenClaim.holds_of_wide 5 Try.f5 rfl rfl rfl rfl rfl rfl rfl ⟨rfl, rfl, rfl, rfl, rfl⟩ rfl rfl rfl rfl rfl (by kernel_rfl) Try.func5 (by kernel_rfl)
    (of_decide_eq_true (by kernel_rfl)) (by unfold Func.isWrapper; first | (rw [if_pos (by decide +kernel)]; kernel_rfl) | (rw [if_neg (by decide +kernel)]; exact ⟨rfl, rfl⟩))
    (fun os started H enc _ => lifted os started H enc)
end Go.Proofs.Ytkmbnniikncaiaa.routeNobodyLaw
namespace Go.Proofs.Ytkmbnniikncaiaa
theorem routeNobody_holds : Rows.RouteNobodySaid := routeNobodyLaw.over
end Go.Proofs.Ytkmbnniikncaiaa
