/- 'cardnet law LinkCalls' returns true at every input: the statement, from the contract of the law's function. The frame was written by mklaw.py. -/
import Derived.Test.YtpconbdoackcfaaRows
import Derived.Test.YtpconbdoackcfaaLinkCallsB
import Derived.Test.YtpconbdoackcfaaYLaw
import Derived.Test.YtpconbdoackcfaaYLaid
import Derived.ProofKit
import Derived.OpenShut
import Derived.ShutString
import Derived.ChangeOld
import Derived.Below
import Derived.Carry
namespace Go.Proofs.Ytpconbdoackcfaa.linkCallsLaw
open Go.ChangeShapes Go.WideShapes Go.ChangeAt Go.RowKit Go.Sy
set_option linter.unusedVariables false
set_option linter.unusedSimpArgs false

theorem own : ownKnob Try.prog.godebug = none := by kernel_rfl
theorem laidOut : laidOutB Try.prog = true := by kernel_rfl

set_option maxRecDepth 100000 in
theorem lifted (os : Os) (started : os.Started) (H : Type) (enc : TypeId × Value → H) :
    ReturnsInHanded {} Try.checked os 5 .any (Rows.linkCallsSpec.pre6 enc Try.prog Try.f5 Rows.linkCallsRow.domain false) (Rows.linkCallsSpec.post enc Try.prog Try.f5 false true false false) := by
  refine returnsInHanded_of_change (C := Try.checked) own started (by kernel_rfl) Try.func5
    (ChangeSpec.witness6 (enc := enc) (C := Try.checked) false ⟨#[], #[.int .i64 0, .int .i64 0, .slice none 0 0, .slice none 0 0], []⟩ 8 (by kernel_rfl) (by kernel_rfl) (by kernel_rfl) (by kernel_rfl)) ?_
  intro W base args ds gs before hval0 hW hcnd _
  have hval : ∀ (j : Nat) t v, Try.f5.params[j]? = some t → args[j]? = some v → Value.okWide Try.prog W .any base t v := hval0
  have hW' := hW
  obtain ⟨p, q, hA0, hV, rfl, hfz, hnd⟩ := hW
  have hA : DataW.TrodAll enc Try.prog W 0 (fun _ => true) true Try.f5.params.toList args.toList ds p := hA0
  rw [Try.params5] at hA hval
  obtain ⟨v0, vs0, d0, ds0, p0, q0, hargs, rfl, rfl, h0, r0⟩ := trodAll_cons hA
  obtain ⟨v1, vs1, d1, ds1, p1, q1, rfl, rfl, rfl, h1, r1⟩ := trodAll_cons r0
  obtain ⟨v2, vs2, d2, ds2, p2, q2, rfl, rfl, rfl, h2, r2⟩ := trodAll_cons r1
  obtain ⟨v3, vs3, d3, ds3, p3, q3, rfl, rfl, rfl, h3, r3⟩ := trodAll_cons r2
  obtain ⟨rfl, rfl, rfl⟩ := trodAll_nil r3
  obtain rfl : args = #[v0, v1, v2, v3] := by cases args; simp_all
  obtain ⟨rfl, rfl⟩ := trodVars_none hV
  have lt0 : ∀ x ∈ p0, x.block < W.heap.size := by obtain ⟨m, hm⟩ := h0; exact DataW.trod_lt m _ _ _ hm
  have lt1 : ∀ x ∈ p1, x.block < W.heap.size := by obtain ⟨m, hm⟩ := h1; exact DataW.trod_lt m _ _ _ hm
  have lt2 : ∀ x ∈ p2, x.block < W.heap.size := by obtain ⟨m, hm⟩ := h2; exact DataW.trod_lt m _ _ _ hm
  have lt3 : ∀ x ∈ p3, x.block < W.heap.size := by obtain ⟨m, hm⟩ := h3; exact DataW.trod_lt m _ _ _ hm
  obtain ⟨n0, rfl⟩ := okWide_int Try.underlying3 (hval 0 3 v0 rfl rfl)
  have hw0 : (Lit.int .i64 n0).wf = true := by
    obtain ⟨fuel, hf⟩ := h0
    obtain ⟨m, e, _, hw⟩ := DataW.trod_int Try.underlying3 hf
    simp [Value.cells] at e; subst e; exact hw
  obtain ⟨n1, rfl⟩ := okWide_int Try.underlying3 (hval 1 3 v1 rfl rfl)
  have hw1 : (Lit.int .i64 n1).wf = true := by
    obtain ⟨fuel, hf⟩ := h1
    obtain ⟨m, e, _, hw⟩ := DataW.trod_int Try.underlying3 hf
    simp [Value.cells] at e; subst e; exact hw
  obtain ⟨fuel2, hf2⟩ := id h2
  obtain ⟨a2, len2, cap2, rfl⟩ := okWide_slice Try.underlying39 (hval 2 39 v2 rfl rfl)
  obtain ⟨l2, β2, cols2, hl2, hcol2, hR2, hB2⟩ := slice_in (m := 20) (ks := [.int .i64, .int .i64, .int .i64, .int .i64, .int .i64, .int .i64]) Try.underlying39 (by kernel_rfl) (by kernel_rfl) (by decide) hf2
  simp only [ColsOk, ColOk] at hcol2
  obtain ⟨_, _, rfl, ⟨q2_0, rfl, eq2_0, wq2_0⟩, _, _, rfl, ⟨q2_1, rfl, eq2_1, wq2_1⟩, _, _, rfl, ⟨q2_2, rfl, eq2_2, wq2_2⟩, _, _, rfl, ⟨q2_3, rfl, eq2_3, wq2_3⟩, _, _, rfl, ⟨q2_4, rfl, eq2_4, wq2_4⟩, _, _, rfl, ⟨q2_5, rfl, eq2_5, wq2_5⟩, rfl⟩ := hcol2
  obtain ⟨fuel3, hf3⟩ := id h3
  obtain ⟨a3, len3, cap3, rfl⟩ := okWide_slice Try.underlying45 (hval 3 45 v3 rfl rfl)
  obtain ⟨l3, β3, cols3, hl3, hcol3, hR3, hB3⟩ := slice_in (m := 20) (ks := [.int .u8, .int .i64, .int .i64, .int .i64, .str]) Try.underlying45 (by kernel_rfl) (by kernel_rfl) (by decide) hf3
  simp only [ColsOk, ColOk] at hcol3
  obtain ⟨_, _, rfl, ⟨q3_0, rfl, eq3_0, wq3_0⟩, _, _, rfl, ⟨q3_1, rfl, eq3_1, wq3_1⟩, _, _, rfl, ⟨q3_2, rfl, eq3_2, wq3_2⟩, _, _, rfl, ⟨q3_3, rfl, eq3_3, wq3_3⟩, _, _, rfl, ⟨q3_4, rfl, eq3_4, wq3_4⟩, rfl⟩ := hcol3
  clear hA0 hval0
  let g : G := fun h q => match h, q with | 0, q => some ⟨q, 0, 0, 0⟩ | 1, 0 => some β2 | 2, 0 => some β3 | _, _ => none
  have hgl : g.glob := fun q => ⟨0, 0, rfl⟩
  have hup : g.upto 3 := by
    intro h q hh
    simp only [g]
    split <;> first | rfl | (exfalso; omega)
  obtain ⟨hH, hro⟩ : Holds g [(1, some (.one true (.cols l2 [.sc (.ints .i64 q2_0), .sc (.ints .i64 q2_1), .sc (.ints .i64 q2_2), .sc (.ints .i64 q2_3), .sc (.ints .i64 q2_4), .sc (.ints .i64 q2_5)]))), (2, some (.one true (.cols l3 [.sc (.ints .u8 q3_0), .sc (.ints .i64 q3_1), .sc (.ints .i64 q3_2), .sc (.ints .i64 q3_3), .sc (.strs q3_4)])))] W ∧ ∀ h q ro b, Ent [(1, some (.one true (.cols l2 [.sc (.ints .i64 q2_0), .sc (.ints .i64 q2_1), .sc (.ints .i64 q2_2), .sc (.ints .i64 q2_3), .sc (.ints .i64 q2_4), .sc (.ints .i64 q2_5)]))), (2, some (.one true (.cols l3 [.sc (.ints .u8 q3_0), .sc (.ints .i64 q3_1), .sc (.ints .i64 q3_2), .sc (.ints .i64 q3_3), .sc (.strs q3_4)])))] h q ro b → ro = true := holds_ro _ (by
    intro p hp
    simp only [List.mem_cons, List.not_mem_nil, or_false] at hp
    rcases hp with rfl | rfl
    · exact ⟨_, _, rfl, rfl, hB2 g⟩
    · exact ⟨_, _, rfl, rfl, hB3 g⟩)
  have hv : Rvs g [.int .i64 n0, .int .i64 n1, .sl 1 0 0 l2, .sl 2 0 0 l3] [.int .i64 n0, .int .i64 n1, .slice a2 len2 cap2, .slice a3 len3 cap3] := by
    simp only [Rvs]
    exact ⟨_, _, rfl, rvi, ⟨_, _, rfl, rvi, ⟨_, _, rfl, (hR2 _ 1 rfl), ⟨_, _, rfl, (hR3 _ 2 rfl), rfl⟩⟩⟩⟩
  refine ((linkCalls_fc n0 hw0 n1 hw1 l2 hl2 q2_0 eq2_0 wq2_0 q2_1 eq2_1 wq2_1 q2_2 eq2_2 wq2_2 q2_3 eq2_3 wq2_3 q2_4 eq2_4 wq2_4 q2_5 eq2_5 wq2_5 l3 hl3 q3_0 eq3_0 wq3_0 q3_1 eq3_1 wq3_1 q3_2 eq3_2 wq3_2 q3_3 eq3_3 wq3_3 q3_4 eq3_4 wq3_4).law ⟨_, _, Try.func5, rfl, by kernel_rfl⟩ hro hgl hup hH hv).mono fun e W' ⟨he, bel⟩ => ?_
  subst he
  exact ⟨_, rfl, _, _, _, [], _, [], hW', trodAll_mk1 (shut_bool Try.underlying4 _), (trodAll_cons_mk (Below.trod laidOut (by kernel_rfl) (of_decide_eq_true (by kernel_rfl)) h0 bel lt0) (trodAll_cons_mk (Below.trod laidOut (by kernel_rfl) (of_decide_eq_true (by kernel_rfl)) h1 bel lt1) (trodAll_cons_mk (Below.trod laidOut (by kernel_rfl) (of_decide_eq_true (by kernel_rfl)) h2 bel lt2) (trodAll_cons_mk (Below.trod laidOut (by kernel_rfl) (of_decide_eq_true (by kernel_rfl)) h3 bel lt3) trodAll_mk0)))), rfl, bel.frame _, fun h => by cases h⟩

theorem over : Rows.linkCallsRow.holds Try.pinned (OpenSpec.ofChange Rows.linkCallsSpec) :=
  OpenClaim.holds_of_wide 5 Try.f5 rfl rfl rfl rfl rfl rfl rfl ⟨rfl, rfl, rfl, rfl, rfl⟩ rfl rfl rfl rfl rfl (by kernel_rfl) Try.func5 (by kernel_rfl)
    (of_decide_eq_true (by kernel_rfl)) (by unfold Func.isWrapper; first | (rw [if_pos (by decide +kernel)]; kernel_rfl) | (rw [if_neg (by decide +kernel)]; exact ⟨rfl, rfl⟩))
    (fun os started H enc _ => lifted os started H enc)
end Go.Proofs.Ytpconbdoackcfaa.linkCallsLaw
namespace Go.Proofs.Ytpconbdoackcfaa
theorem linkCalls_holds : Rows.LinkCallsSaid := linkCallsLaw.over
end Go.Proofs.Ytpconbdoackcfaa
