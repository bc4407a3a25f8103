/- 'cardnet law CycleCloses' returns true at every input: the statement, from the contract of the law's function. The frame was written by mklaw.py. -/
import Derived.Test.YtkdjnmcaifejjaaRows
import Derived.Test.YtkdjnmcaifejjaaCycleClosesC
import Derived.Test.YtkdjnmcaifejjaaYLaw
import Derived.Test.YtkdjnmcaifejjaaYLaid
import Derived.ProofKit
import Derived.OpenShut
import Derived.ShutString
import Derived.ChangeOld
import Derived.Below
import Derived.Carry
namespace Go.Proofs.Ytkdjnmcaifejjaa.cycleClosesLaw
open Go.ChangeShapes Go.WideShapes Go.ChangeAt Go.RowKit Go.Sy
set_option linter.unusedVariables false
set_option linter.unusedSimpArgs false

theorem own : ownKnob Try.prog.godebug = none := by kernel_rfl
theorem laidOut : laidOutB Try.prog = true := by kernel_rfl

set_option maxRecDepth 100000 in
theorem lifted (os : Os) (started : os.Started) (H : Type) (enc : TypeId × Value → H) :
    ReturnsInHanded {} Try.checked os 4 .any (Rows.cycleClosesSpec.pre6 enc Try.prog Try.f4 Rows.cycleClosesRow.domain false) (Rows.cycleClosesSpec.post enc Try.prog Try.f4 false true false false) := by
  refine returnsInHanded_of_change (C := Try.checked) own started (by kernel_rfl) Try.func4
    (ChangeSpec.witness6 (enc := enc) (C := Try.checked) false ⟨#[], #[.slice none 0 0, .int .u16 0], []⟩ 8 (by kernel_rfl) (by kernel_rfl) (by kernel_rfl) (by kernel_rfl)) ?_
  intro W base args ds gs before hval0 hW hcnd _
  have hval : ∀ (j : Nat) t v, Try.f4.params[j]? = some t → args[j]? = some v → Value.okWide Try.prog W .any base t v := hval0
  have hW' := hW
  obtain ⟨p, q, hA0, hV, rfl, hfz, hnd⟩ := hW
  have hA : DataW.TrodAll enc Try.prog W 0 (fun _ => true) true Try.f4.params.toList args.toList ds p := hA0
  rw [Try.params4] at hA hval
  obtain ⟨v0, vs0, d0, ds0, p0, q0, hargs, rfl, rfl, h0, r0⟩ := trodAll_cons hA
  obtain ⟨v1, vs1, d1, ds1, p1, q1, rfl, rfl, rfl, h1, r1⟩ := trodAll_cons r0
  obtain ⟨rfl, rfl, rfl⟩ := trodAll_nil r1
  obtain rfl : args = #[v0, v1] := by cases args; simp_all
  obtain ⟨rfl, rfl⟩ := trodVars_none hV
  have lt0 : ∀ x ∈ p0, x.block < W.heap.size := by obtain ⟨m, hm⟩ := h0; exact DataW.trod_lt m _ _ _ hm
  have lt1 : ∀ x ∈ p1, x.block < W.heap.size := by obtain ⟨m, hm⟩ := h1; exact DataW.trod_lt m _ _ _ hm
  obtain ⟨fuel0, hf0⟩ := id h0
  obtain ⟨a0, len0, cap0, rfl⟩ := okWide_slice Try.underlying40 (hval 0 40 v0 rfl rfl)
  obtain ⟨l0, β0, cols0, hl0, hcol0, hR0, hB0⟩ := slice_in (m := 20) (ks := [.int .u8, .int .u8, .int .u8, .int .u16, .bool]) Try.underlying40 (by kernel_rfl) (by kernel_rfl) (by decide) hf0
  simp only [ColsOk, ColOk] at hcol0
  obtain ⟨_, _, rfl, ⟨q0_0, rfl, eq0_0, wq0_0⟩, _, _, rfl, ⟨q0_1, rfl, eq0_1, wq0_1⟩, _, _, rfl, ⟨q0_2, rfl, eq0_2, wq0_2⟩, _, _, rfl, ⟨q0_3, rfl, eq0_3, wq0_3⟩, _, _, rfl, ⟨q0_4, rfl, eq0_4⟩, rfl⟩ := hcol0
  obtain ⟨n1, rfl⟩ := okWide_int Try.underlying41 (hval 1 41 v1 rfl rfl)
  have hw1 : (Lit.int .u16 n1).wf = true := by
    obtain ⟨fuel, hf⟩ := h1
    obtain ⟨m, e, _, hw⟩ := DataW.trod_int Try.underlying41 hf
    simp [Value.cells] at e; subst e; exact hw
  clear hA0 hval0
  let g : G := fun h q => match h, q with | 0, q => some ⟨q, 0, 0, 0⟩ | 1, 0 => some β0 | _, _ => none
  have hgl : g.glob := fun q => ⟨0, 0, rfl⟩
  have hup : g.upto 2 := by
    intro h q hh
    simp only [g]
    split <;> first | rfl | (exfalso; omega)
  obtain ⟨hH, hro⟩ : Holds g [(1, some (.one true (.cols l0 [.sc (.ints .u8 q0_0), .sc (.ints .u8 q0_1), .sc (.ints .u8 q0_2), .sc (.ints .u16 q0_3), .sc (.bools q0_4)])))] W ∧ ∀ h q ro b, Ent [(1, some (.one true (.cols l0 [.sc (.ints .u8 q0_0), .sc (.ints .u8 q0_1), .sc (.ints .u8 q0_2), .sc (.ints .u16 q0_3), .sc (.bools q0_4)])))] h q ro b → ro = true := holds_ro _ (by
    intro p hp
    simp only [List.mem_cons, List.not_mem_nil, or_false] at hp
    rcases hp with rfl
    · exact ⟨_, _, rfl, rfl, hB0 g⟩)
  have hv : Rvs g [.sl 1 0 0 l0, .int .u16 n1] [.slice a0 len0 cap0, .int .u16 n1] := by
    simp only [Rvs]
    exact ⟨_, _, rfl, (hR0 _ 1 rfl), ⟨_, _, rfl, rvi, rfl⟩⟩
  refine ((cycleCloses_fc l0 hl0 q0_0 eq0_0 wq0_0 q0_1 eq0_1 wq0_1 q0_2 eq0_2 wq0_2 q0_3 eq0_3 wq0_3 q0_4 eq0_4 n1 hw1).law ⟨_, _, Try.func4, rfl, by kernel_rfl⟩ hro hgl hup hH hv).mono fun e W' ⟨he, bel⟩ => ?_
  subst he
  exact ⟨_, rfl, _, _, _, [], _, [], hW', trodAll_mk1 (shut_bool Try.underlying4 _), (trodAll_cons_mk (Below.trod laidOut (by kernel_rfl) (of_decide_eq_true (by kernel_rfl)) h0 bel lt0) (trodAll_cons_mk (Below.trod laidOut (by kernel_rfl) (of_decide_eq_true (by kernel_rfl)) h1 bel lt1) trodAll_mk0)), rfl, bel.frame _, fun h => by cases h⟩

theorem over : Rows.cycleClosesRow.holds Try.pinned (OpenSpec.ofChange Rows.cycleClosesSpec) :=
  OpenClaim.holds_of_wide 4 Try.f4 rfl rfl rfl rfl rfl rfl rfl ⟨rfl, rfl, rfl, rfl, rfl⟩ rfl rfl rfl rfl rfl (by kernel_rfl) Try.func4 (by kernel_rfl)
    (of_decide_eq_true (by kernel_rfl)) (by unfold Func.isWrapper; first | (rw [if_pos (by decide +kernel)]; kernel_rfl) | (rw [if_neg (by decide +kernel)]; exact ⟨rfl, rfl⟩))
    (fun os started H enc _ => lifted os started H enc)
end Go.Proofs.Ytkdjnmcaifejjaa.cycleClosesLaw
namespace Go.Proofs.Ytkdjnmcaifejjaa
theorem cycleCloses_holds : Rows.CycleClosesSaid := cycleClosesLaw.over
end Go.Proofs.Ytkdjnmcaifejjaa
