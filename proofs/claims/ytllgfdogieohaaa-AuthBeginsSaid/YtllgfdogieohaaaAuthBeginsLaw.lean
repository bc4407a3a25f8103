/- 'cardnet law AuthBegins' returns true at every input: the statement, from the contract of the law's function. The frame was written by mklaw.py. -/
import Derived.Test.YtllgfdogieohaaaRows
import Derived.Test.YtllgfdogieohaaaAuthL
import Derived.Test.YtllgfdogieohaaaSxLaw
import Derived.ProofKit
import Derived.OpenShut
import Derived.ShutString
import Derived.ChangeOld
import Derived.Below
import Derived.Carry
namespace Go.Proofs.Ytllgfdogieohaaa.authBeginsLaw
open Go.ChangeShapes Go.WideShapes Go.ChangeAt Go.RowKit Go.Sx
set_option linter.unusedVariables false

theorem own : ownKnob Try.prog.godebug = none := by kernel_rfl
theorem laidOut : laidOutB Try.prog = true := by kernel_rfl

set_option maxRecDepth 100000 in
theorem lifted (os : Os) (started : os.Started) (H : Type) (enc : TypeId × Value → H) :
    ReturnsInHanded {} Try.checked os 4 .any (Rows.authBeginsSpec.pre6 enc Try.prog Try.f4 Rows.authBeginsRow.domain false) (Rows.authBeginsSpec.post enc Try.prog Try.f4 false true false false) := by
  refine returnsInHanded_of_change (C := Try.checked) own started (by kernel_rfl) Try.func4
    (ChangeSpec.witness6 (enc := enc) (C := Try.checked) false ⟨#[], #[.string ⟨#[]⟩, .string ⟨#[]⟩, .int .i64 0, .int .i64 0, .int .i64 0, .int .i64 0], []⟩ 8 (by kernel_rfl) (by kernel_rfl) (by kernel_rfl) (by kernel_rfl)) ?_
  intro W base args ds gs before hval0 hW hcnd _
  have hval : ∀ (j : Nat) t v, Try.f4.params[j]? = some t → args[j]? = some v → Value.okWide Try.prog W .any base t v := hval0
  have hW' := hW
  obtain ⟨p, q, hA0, hV, rfl, hfz, hnd⟩ := hW
  have hA : DataW.TrodAll enc Try.prog W 0 (fun _ => true) true Try.f4.params.toList args.toList ds p := hA0
  rw [Try.params4] at hA hval
  obtain ⟨v0, vs0, d0, ds0, p0, q0, hargs, rfl, rfl, h0, r0⟩ := trodAll_cons hA
  obtain ⟨v1, vs1, d1, ds1, p1, q1, rfl, rfl, rfl, h1, r1⟩ := trodAll_cons r0
  obtain ⟨v2, vs2, d2, ds2, p2, q2, rfl, rfl, rfl, h2, r2⟩ := trodAll_cons r1
  obtain ⟨v3, vs3, d3, ds3, p3, q3, rfl, rfl, rfl, h3, r3⟩ := trodAll_cons r2
  obtain ⟨v4, vs4, d4, ds4, p4, q4, rfl, rfl, rfl, h4, r4⟩ := trodAll_cons r3
  obtain ⟨v5, vs5, d5, ds5, p5, q5, rfl, rfl, rfl, h5, r5⟩ := trodAll_cons r4
  obtain ⟨rfl, rfl, rfl⟩ := trodAll_nil r5
  obtain rfl : args = #[v0, v1, v2, v3, v4, v5] := by cases args; simp_all
  obtain ⟨rfl, rfl⟩ := trodVars_none hV
  have lt0 : ∀ x ∈ p0, x.block < W.heap.size := by obtain ⟨m, hm⟩ := h0; exact DataW.trod_lt m _ _ _ hm
  have lt1 : ∀ x ∈ p1, x.block < W.heap.size := by obtain ⟨m, hm⟩ := h1; exact DataW.trod_lt m _ _ _ hm
  have lt2 : ∀ x ∈ p2, x.block < W.heap.size := by obtain ⟨m, hm⟩ := h2; exact DataW.trod_lt m _ _ _ hm
  have lt3 : ∀ x ∈ p3, x.block < W.heap.size := by obtain ⟨m, hm⟩ := h3; exact DataW.trod_lt m _ _ _ hm
  have lt4 : ∀ x ∈ p4, x.block < W.heap.size := by obtain ⟨m, hm⟩ := h4; exact DataW.trod_lt m _ _ _ hm
  have lt5 : ∀ x ∈ p5, x.block < W.heap.size := by obtain ⟨m, hm⟩ := h5; exact DataW.trod_lt m _ _ _ hm
  obtain ⟨s0, rfl⟩ := okWide_string Try.underlying9 (hval 0 9 v0 rfl rfl)
  have hs0 : s0.size ≤ maxLen := by
    obtain ⟨fuel, hf⟩ := h0
    obtain ⟨m, e, _, hw⟩ := DataW.trod_string Try.underlying9 hf
    simp [Value.cells] at e; subst e; exact hw
  obtain ⟨s1, rfl⟩ := okWide_string Try.underlying9 (hval 1 9 v1 rfl rfl)
  have hs1 : s1.size ≤ maxLen := by
    obtain ⟨fuel, hf⟩ := h1
    obtain ⟨m, e, _, hw⟩ := DataW.trod_string Try.underlying9 hf
    simp [Value.cells] at e; subst e; exact hw
  obtain ⟨n2, rfl⟩ := okWide_int Try.underlying2 (hval 2 2 v2 rfl rfl)
  have hw2 : (Lit.int .i64 n2).wf = true := by
    obtain ⟨fuel, hf⟩ := h2
    obtain ⟨m, e, _, hw⟩ := DataW.trod_int Try.underlying2 hf
    simp [Value.cells] at e; subst e; exact hw
  obtain ⟨n3, rfl⟩ := okWide_int Try.underlying3 (hval 3 3 v3 rfl rfl)
  have hw3 : (Lit.int .i64 n3).wf = true := by
    obtain ⟨fuel, hf⟩ := h3
    obtain ⟨m, e, _, hw⟩ := DataW.trod_int Try.underlying3 hf
    simp [Value.cells] at e; subst e; exact hw
  obtain ⟨n4, rfl⟩ := okWide_int Try.underlying3 (hval 4 3 v4 rfl rfl)
  have hw4 : (Lit.int .i64 n4).wf = true := by
    obtain ⟨fuel, hf⟩ := h4
    obtain ⟨m, e, _, hw⟩ := DataW.trod_int Try.underlying3 hf
    simp [Value.cells] at e; subst e; exact hw
  obtain ⟨n5, rfl⟩ := okWide_int Try.underlying3 (hval 5 3 v5 rfl rfl)
  have hw5 : (Lit.int .i64 n5).wf = true := by
    obtain ⟨fuel, hf⟩ := h5
    obtain ⟨m, e, _, hw⟩ := DataW.trod_int Try.underlying3 hf
    simp [Value.cells] at e; subst e; exact hw
  clear hA0 hval0
  let g : G := ⟨0, fun _ => ⟨0, 0, 0⟩⟩
  have hH : Holds g [] W := holds_ro _ (by intro p hp; cases hp)
  have hro : ∀ h hb, aget ([] : Heap) h = some hb → hb.ro = true := ro_all _ (by intro p hp; cases hp)
  have hv : Rvs g [.str s0, .str s1, .int .i64 n2, .int .i64 n3, .int .i64 n4, .int .i64 n5] [.string s0, .string s1, .int .i64 n2, .int .i64 n3, .int .i64 n4, .int .i64 n5] := by
    simp only [Rvs]
    exact ⟨_, _, rfl, rvt, ⟨_, _, rfl, rvt, ⟨_, _, rfl, rvi, ⟨_, _, rfl, rvi, ⟨_, _, rfl, rvi, ⟨_, _, rfl, rvi, rfl⟩⟩⟩⟩⟩⟩
  refine ((authBegins_fc s0 hs0 s1 hs1 n2 hw2 n3 hw3 n4 hw4 n5 hw5).law hro (g := g) rfl hH hv).mono fun e W' ⟨he, bel⟩ => ?_
  subst he
  exact ⟨_, rfl, _, _, _, [], _, [], hW', trodAll_mk1 (shut_bool Try.underlying4 _), (trodAll_cons_mk (Below.trod laidOut (by kernel_rfl) (of_decide_eq_true (by kernel_rfl)) h0 bel lt0) (trodAll_cons_mk (Below.trod laidOut (by kernel_rfl) (of_decide_eq_true (by kernel_rfl)) h1 bel lt1) (trodAll_cons_mk (Below.trod laidOut (by kernel_rfl) (of_decide_eq_true (by kernel_rfl)) h2 bel lt2) (trodAll_cons_mk (Below.trod laidOut (by kernel_rfl) (of_decide_eq_true (by kernel_rfl)) h3 bel lt3) (trodAll_cons_mk (Below.trod laidOut (by kernel_rfl) (of_decide_eq_true (by kernel_rfl)) h4 bel lt4) (trodAll_cons_mk (Below.trod laidOut (by kernel_rfl) (of_decide_eq_true (by kernel_rfl)) h5 bel lt5) trodAll_mk0)))))), rfl, bel.frame _, fun h => by cases h⟩

theorem over : Rows.authBeginsRow.holds Try.pinned (OpenSpec.ofChange Rows.authBeginsSpec) :=
  OpenClaim.holds_of_wide 4 Try.f4 rfl rfl rfl rfl rfl rfl rfl ⟨rfl, rfl, rfl, rfl, rfl⟩ rfl rfl rfl rfl rfl (by kernel_rfl) Try.func4 (by kernel_rfl)
    (of_decide_eq_true (by kernel_rfl)) (by unfold Func.isWrapper; first | (rw [if_pos (by decide +kernel)]; kernel_rfl) | (rw [if_neg (by decide +kernel)]; exact ⟨rfl, rfl⟩))
    (fun os started H enc _ => lifted os started H enc)
end Go.Proofs.Ytllgfdogieohaaa.authBeginsLaw
namespace Go.Proofs.Ytllgfdogieohaaa
theorem authBegins_holds : Rows.AuthBeginsSaid := authBeginsLaw.over
end Go.Proofs.Ytllgfdogieohaaa
