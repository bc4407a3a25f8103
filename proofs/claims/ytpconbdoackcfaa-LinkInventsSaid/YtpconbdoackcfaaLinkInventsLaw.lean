/- 'cardnet law LinkInvents' returns true at every input: the statement, from the contract of the law's function. The frame was written by mklaw.py. -/
import Derived.Test.YtpconbdoackcfaaRows
import Derived.Test.YtpconbdoackcfaaLkJ
import Derived.Test.YtpconbdoackcfaaYLaw
import Derived.Test.YtpconbdoackcfaaYLaid
import Derived.ProofKit
import Derived.OpenShut
import Derived.ShutString
import Derived.ChangeOld
import Derived.Below
import Derived.Carry
namespace Go.Proofs.Ytpconbdoackcfaa.linkInventsLaw
open Go.ChangeShapes Go.WideShapes Go.ChangeAt Go.RowKit Go.Sy
set_option linter.unusedVariables false
set_option linter.unusedSimpArgs false

theorem own : ownKnob Try.prog.godebug = none := by kernel_rfl
theorem laidOut : laidOutB Try.prog = true := by kernel_rfl

set_option maxRecDepth 100000 in
theorem lifted (os : Os) (started : os.Started) (H : Type) (enc : TypeId × Value → H) :
    ReturnsInHanded {} Try.checked os 4 .any (Rows.linkInventsSpec.pre6 enc Try.prog Try.f4 Rows.linkInventsRow.domain false) (Rows.linkInventsSpec.post enc Try.prog Try.f4 false true false false) := by
  refine returnsInHanded_of_change (C := Try.checked) own started (by kernel_rfl) Try.func4
    (ChangeSpec.witness6 (enc := enc) (C := Try.checked) false ⟨#[], #[.int .u8 0, .slice none 0 0, .slice none 0 0], []⟩ 8 (by kernel_rfl) (by kernel_rfl) (by kernel_rfl) (by kernel_rfl)) ?_
  intro W base args ds gs before hval0 hW hcnd _
  have hval : ∀ (j : Nat) t v, Try.f4.params[j]? = some t → args[j]? = some v → Value.okWide Try.prog W .any base t v := hval0
  have hW' := hW
  obtain ⟨p, q, hA0, hV, rfl, hfz, hnd⟩ := hW
  have hA : DataW.TrodAll enc Try.prog W 0 (fun _ => true) true Try.f4.params.toList args.toList ds p := hA0
  rw [Try.params4] at hA hval
  obtain ⟨v0, vs0, d0, ds0, p0, q0, hargs, rfl, rfl, h0, r0⟩ := trodAll_cons hA
  obtain ⟨v1, vs1, d1, ds1, p1, q1, rfl, rfl, rfl, h1, r1⟩ := trodAll_cons r0
  obtain ⟨v2, vs2, d2, ds2, p2, q2, rfl, rfl, rfl, h2, r2⟩ := trodAll_cons r1
  obtain ⟨rfl, rfl, rfl⟩ := trodAll_nil r2
  obtain rfl : args = #[v0, v1, v2] := by cases args; simp_all
  obtain ⟨rfl, rfl⟩ := trodVars_none hV
  have lt0 : ∀ x ∈ p0, x.block < W.heap.size := by obtain ⟨m, hm⟩ := h0; exact DataW.trod_lt m _ _ _ hm
  have lt1 : ∀ x ∈ p1, x.block < W.heap.size := by obtain ⟨m, hm⟩ := h1; exact DataW.trod_lt m _ _ _ hm
  have lt2 : ∀ x ∈ p2, x.block < W.heap.size := by obtain ⟨m, hm⟩ := h2; exact DataW.trod_lt m _ _ _ hm
  obtain ⟨n0, rfl⟩ := okWide_int Try.underlying5 (hval 0 5 v0 rfl rfl)
  have hw0 : (Lit.int .u8 n0).wf = true := by
    obtain ⟨fuel, hf⟩ := h0
    obtain ⟨m, e, _, hw⟩ := DataW.trod_int Try.underlying5 hf
    simp [Value.cells] at e; subst e; exact hw
  obtain ⟨fuel1, hf1⟩ := id h1
  obtain ⟨a1, len1, cap1, rfl⟩ := okWide_slice Try.underlying39 (hval 1 39 v1 rfl rfl)
  obtain ⟨l1, β1, cols1, hl1, hcol1, hR1, hB1⟩ := slice_in (m := 20) (ks := [.int .i64, .int .i64, .int .i64, .int .i64, .int .i64, .int .i64]) Try.underlying39 (by kernel_rfl) (by kernel_rfl) (by decide) hf1
  simp only [ColsOk, ColOk] at hcol1
  obtain ⟨_, _, rfl, ⟨q1_0, rfl, eq1_0, wq1_0⟩, _, _, rfl, ⟨q1_1, rfl, eq1_1, wq1_1⟩, _, _, rfl, ⟨q1_2, rfl, eq1_2, wq1_2⟩, _, _, rfl, ⟨q1_3, rfl, eq1_3, wq1_3⟩, _, _, rfl, ⟨q1_4, rfl, eq1_4, wq1_4⟩, _, _, rfl, ⟨q1_5, rfl, eq1_5, wq1_5⟩, rfl⟩ := hcol1
  obtain ⟨fuel2, hf2⟩ := id h2
  obtain ⟨a2, len2, cap2, rfl⟩ := okWide_slice Try.underlying22 (hval 2 22 v2 rfl rfl)
  obtain ⟨l2, β2, cols2, hl2, hcol2, hR2, hB2⟩ := slice_in (m := 20) (ks := [.int .u8, .int .u8, .int .u8, .str]) Try.underlying22 (by kernel_rfl) (by kernel_rfl) (by decide) hf2
  simp only [ColsOk, ColOk] at hcol2
  obtain ⟨_, _, rfl, ⟨q2_0, rfl, eq2_0, wq2_0⟩, _, _, rfl, ⟨q2_1, rfl, eq2_1, wq2_1⟩, _, _, rfl, ⟨q2_2, rfl, eq2_2, wq2_2⟩, _, _, rfl, ⟨q2_3, rfl, eq2_3, wq2_3⟩, rfl⟩ := hcol2
  clear hA0 hval0
  let g : G := fun h q => match h, q with | 0, q => some ⟨q, 0, 0, 0⟩ | 1, 0 => some β1 | 2, 0 => some β2 | _, _ => none
  have hgl : g.glob := fun q => ⟨0, 0, rfl⟩
  have hup : g.upto 3 := by
    intro h q hh
    simp only [g]
    split <;> first | rfl | (exfalso; omega)
  obtain ⟨hH, hro⟩ : Holds g [(1, some (.one true (.cols l1 [.sc (.ints .i64 q1_0), .sc (.ints .i64 q1_1), .sc (.ints .i64 q1_2), .sc (.ints .i64 q1_3), .sc (.ints .i64 q1_4), .sc (.ints .i64 q1_5)]))), (2, some (.one true (.cols l2 [.sc (.ints .u8 q2_0), .sc (.ints .u8 q2_1), .sc (.ints .u8 q2_2), .sc (.strs q2_3)])))] W ∧ ∀ h q ro b, Ent [(1, some (.one true (.cols l1 [.sc (.ints .i64 q1_0), .sc (.ints .i64 q1_1), .sc (.ints .i64 q1_2), .sc (.ints .i64 q1_3), .sc (.ints .i64 q1_4), .sc (.ints .i64 q1_5)]))), (2, some (.one true (.cols l2 [.sc (.ints .u8 q2_0), .sc (.ints .u8 q2_1), .sc (.ints .u8 q2_2), .sc (.strs q2_3)])))] h q ro b → ro = true := holds_ro _ (by
    intro p hp
    simp only [List.mem_cons, List.not_mem_nil, or_false] at hp
    rcases hp with rfl | rfl
    · exact ⟨_, _, rfl, rfl, hB1 g⟩
    · exact ⟨_, _, rfl, rfl, hB2 g⟩)
  have hv : Rvs g [.int .u8 n0, .sl 1 0 0 l1, .sl 2 0 0 l2] [.int .u8 n0, .slice a1 len1 cap1, .slice a2 len2 cap2] := by
    simp only [Rvs]
    exact ⟨_, _, rfl, rvi, ⟨_, _, rfl, (hR1 _ 1 rfl), ⟨_, _, rfl, (hR2 _ 2 rfl), rfl⟩⟩⟩
  refine ((linkInvents_fc n0 hw0 l1 hl1 q1_0 eq1_0 wq1_0 q1_1 eq1_1 wq1_1 q1_2 eq1_2 wq1_2 q1_3 eq1_3 wq1_3 q1_4 eq1_4 wq1_4 q1_5 eq1_5 wq1_5 l2 hl2 q2_0 eq2_0 wq2_0 q2_1 eq2_1 wq2_1 q2_2 eq2_2 wq2_2 q2_3 eq2_3 wq2_3).law ⟨_, _, Try.func4, rfl, by kernel_rfl⟩ hro hgl hup hH hv).mono fun e W' ⟨he, bel⟩ => ?_
  subst he
  exact ⟨_, rfl, _, _, _, [], _, [], hW', trodAll_mk1 (shut_bool Try.underlying4 _), (trodAll_cons_mk (Below.trod laidOut (by kernel_rfl) (of_decide_eq_true (by kernel_rfl)) h0 bel lt0) (trodAll_cons_mk (Below.trod laidOut (by kernel_rfl) (of_decide_eq_true (by kernel_rfl)) h1 bel lt1) (trodAll_cons_mk (Below.trod laidOut (by kernel_rfl) (of_decide_eq_true (by kernel_rfl)) h2 bel lt2) trodAll_mk0))), rfl, bel.frame _, fun h => by cases h⟩

theorem over : Rows.linkInventsRow.holds Try.pinned (OpenSpec.ofChange Rows.linkInventsSpec) :=
  OpenClaim.holds_of_wide 4 Try.f4 rfl rfl rfl rfl rfl rfl rfl ⟨rfl, rfl, rfl, rfl, rfl⟩ rfl rfl rfl rfl rfl (by kernel_rfl) Try.func4 (by kernel_rfl)
    (of_decide_eq_true (by kernel_rfl)) (by unfold Func.isWrapper; first | (rw [if_pos (by decide +kernel)]; kernel_rfl) | (rw [if_neg (by decide +kernel)]; exact ⟨rfl, rfl⟩))
    (fun os started H enc _ => lifted os started H enc)
end Go.Proofs.Ytpconbdoackcfaa.linkInventsLaw
namespace Go.Proofs.Ytpconbdoackcfaa
theorem linkInvents_holds : Rows.LinkInventsSaid := linkInventsLaw.over
end Go.Proofs.Ytpconbdoackcfaa
