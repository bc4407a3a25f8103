/- 'cardnet law RouteRecovers' returns true at every input: the statement, from the contract of the law's function. The frame was written by mklaw.py. -/
import Derived.Test.YtkmbnniikncaiaaRows
import Derived.Test.YtkmbnniikncaiaaRtR
import Derived.Test.YtkmbnniikncaiaaYLaw
import Derived.Test.YtkmbnniikncaiaaYLaid
import Derived.ProofKit
import Derived.OpenShut
import Derived.ShutString
import Derived.ChangeOld
import Derived.Below
import Derived.Carry
namespace Go.Proofs.Ytkmbnniikncaiaa.routeRecoversLaw
open Go.ChangeShapes Go.WideShapes Go.ChangeAt Go.RowKit Go.Sy
set_option linter.unusedVariables false
set_option linter.unusedSimpArgs false

theorem own : ownKnob Try.prog.godebug = none := by kernel_rfl
theorem laidOut : laidOutB Try.prog = true := by kernel_rfl

set_option maxRecDepth 100000 in
theorem lifted (os : Os) (started : os.Started) (H : Type) (enc : TypeId × Value → H) :
    ReturnsInHanded {} Try.checked os 4 .any (Rows.routeRecoversSpec.pre6 enc Try.prog Try.f4 Rows.routeRecoversRow.domain false) (Rows.routeRecoversSpec.post enc Try.prog Try.f4 false true false false) := by
  refine returnsInHanded_of_change (C := Try.checked) own started (by kernel_rfl) Try.func4
    (ChangeSpec.witness6 (enc := enc) (C := Try.checked) false ⟨#[], #[.agg #[.slice none 0 0, .slice none 0 0, .int .i64 0], .string ⟨#[]⟩, .slice none 0 0], []⟩ 8 (by kernel_rfl) (by kernel_rfl) (by kernel_rfl) (by kernel_rfl)) ?_
  intro W base args ds gs before hval0 hW hcnd _
  have hval : ∀ (j : Nat) t v, Try.f4.params[j]? = some t → args[j]? = some v → Value.okWide Try.prog W .any base t v := hval0
  have hW' := hW
  obtain ⟨p, q, hA0, hV, rfl, hfz, hnd⟩ := hW
  have hA : DataW.TrodAll enc Try.prog W 0 (fun _ => true) true Try.f4.params.toList args.toList ds p := hA0
  rw [Try.params4] at hA hval
  obtain ⟨v0, vs0, d0, ds0, p0, q0, hargs, rfl, rfl, h0, r0⟩ := trodAll_cons hA
  obtain ⟨v1, vs1, d1, ds1, p1, q1, rfl, rfl, rfl, h1, r1⟩ := trodAll_cons r0
  obtain ⟨v2, vs2, d2, ds2, p2, q2, rfl, rfl, rfl, h2, r2⟩ := trodAll_cons r1
  obtain ⟨rfl, rfl, rfl⟩ := trodAll_nil r2
  obtain rfl : args = #[v0, v1, v2] := by cases args; simp_all
  obtain ⟨rfl, rfl⟩ := trodVars_none hV
  have lt0 : ∀ x ∈ p0, x.block < W.heap.size := by obtain ⟨m, hm⟩ := h0; exact DataW.trod_lt m _ _ _ hm
  have lt1 : ∀ x ∈ p1, x.block < W.heap.size := by obtain ⟨m, hm⟩ := h1; exact DataW.trod_lt m _ _ _ hm
  have lt2 : ∀ x ∈ p2, x.block < W.heap.size := by obtain ⟨m, hm⟩ := h2; exact DataW.trod_lt m _ _ _ hm
  obtain ⟨cs0, rfl, _⟩ := okWide_struct Try.underlying25 (hval 0 25 v0 rfl rfl)
  obtain ⟨fuel0, hf0⟩ := id h0
  obtain ⟨xs0, m0, _, _, hlen0, hxl0, hfs0⟩ := DataW.trod_struct Try.underlying25 hf0
  obtain ⟨l0⟩ := cs0
  rw [show Try.prog.cellsOf 25 = 3 from by kernel_rfl] at hlen0
  simp only [Value.cells] at hlen0 hfs0
  obtain ⟨c0_0, t0_0, rfl, hlq0_0⟩ := len_cons hlen0
  obtain ⟨c0_1, t0_1, rfl, hlq0_1⟩ := len_cons hlq0_0
  obtain ⟨c0_2, t0_2, rfl, hlq0_2⟩ := len_cons hlq0_1
  obtain rfl := len_nil hlq0_2
  obtain ⟨y0_0, hy0_0⟩ : ∃ x, xs0[0]? = some x := ⟨_, List.getElem?_eq_getElem (by rw [hxl0]; decide)⟩
  have g0_0 : DataW.trod enc Try.prog W 0 (fun _ => true) true m0 22 (List.take (Try.prog.cellsOf 22) (List.drop 0 [c0_0, c0_1, c0_2])) = xs0[0]? := hfs0 0 _ rfl
  rw [hy0_0, show Try.prog.cellsOf 22 = 1 from by kernel_rfl] at g0_0
  simp only [List.drop_zero, List.drop_succ_cons, List.take_succ_cons, List.take_zero] at g0_0
  obtain ⟨y0_1, hy0_1⟩ : ∃ x, xs0[1]? = some x := ⟨_, List.getElem?_eq_getElem (by rw [hxl0]; decide)⟩
  have g0_1 : DataW.trod enc Try.prog W 0 (fun _ => true) true m0 23 (List.take (Try.prog.cellsOf 23) (List.drop 1 [c0_0, c0_1, c0_2])) = xs0[1]? := hfs0 1 _ rfl
  rw [hy0_1, show Try.prog.cellsOf 23 = 1 from by kernel_rfl] at g0_1
  simp only [List.drop_zero, List.drop_succ_cons, List.take_succ_cons, List.take_zero] at g0_1
  obtain ⟨y0_2, hy0_2⟩ : ∃ x, xs0[2]? = some x := ⟨_, List.getElem?_eq_getElem (by rw [hxl0]; decide)⟩
  have g0_2 : DataW.trod enc Try.prog W 0 (fun _ => true) true m0 3 (List.take (Try.prog.cellsOf 3) (List.drop 2 [c0_0, c0_1, c0_2])) = xs0[2]? := hfs0 2 _ rfl
  rw [hy0_2, show Try.prog.cellsOf 3 = 1 from by kernel_rfl] at g0_2
  simp only [List.drop_zero, List.drop_succ_cons, List.take_succ_cons, List.take_zero] at g0_2
  obtain ⟨l0_0, β0_0, cols0_0, hl0_0, hcol0_0, hR0_0, hB0_0⟩ := slice_in (m := 20) (ks := [.str, .str, .str, .str]) Try.underlying22 (by kernel_rfl) (by kernel_rfl) (by decide) g0_0
  simp only [ColsOk, ColOk] at hcol0_0
  obtain ⟨_, _, rfl, ⟨q0_0_0, rfl, eq0_0_0, wq0_0_0⟩, _, _, rfl, ⟨q0_0_1, rfl, eq0_0_1, wq0_0_1⟩, _, _, rfl, ⟨q0_0_2, rfl, eq0_0_2, wq0_0_2⟩, _, _, rfl, ⟨q0_0_3, rfl, eq0_0_3, wq0_0_3⟩, rfl⟩ := hcol0_0
  obtain ⟨l0_1, β0_1, cols0_1, hl0_1, hcol0_1, hR0_1, hB0_1⟩ := slice_in (m := 20) (ks := [.str, .str]) Try.underlying23 (by kernel_rfl) (by kernel_rfl) (by decide) g0_1
  simp only [ColsOk, ColOk] at hcol0_1
  obtain ⟨_, _, rfl, ⟨q0_1_0, rfl, eq0_1_0, wq0_1_0⟩, _, _, rfl, ⟨q0_1_1, rfl, eq0_1_1, wq0_1_1⟩, rfl⟩ := hcol0_1
  obtain ⟨x0_2, e0_2, _, hx0_2⟩ := DataW.trod_int Try.underlying3 g0_2
  simp only [List.cons.injEq, and_true] at e0_2; subst e0_2
  obtain ⟨s1, rfl⟩ := okWide_string Try.underlying9 (hval 1 9 v1 rfl rfl)
  have hs1 : s1.size ≤ maxLen := by
    obtain ⟨fuel, hf⟩ := h1
    obtain ⟨m, e, _, hw⟩ := DataW.trod_string Try.underlying9 hf
    simp [Value.cells] at e; subst e; exact hw
  obtain ⟨fuel2, hf2⟩ := id h2
  obtain ⟨a2, len2, cap2, rfl⟩ := okWide_slice Try.underlying26 (hval 2 26 v2 rfl rfl)
  obtain ⟨l2, β2, cols2, hl2, hcol2, hR2, hB2⟩ := slice_in (m := 20) (ks := [.str]) Try.underlying26 (by kernel_rfl) (by kernel_rfl) (by decide) hf2
  simp only [ColsOk, ColOk] at hcol2
  obtain ⟨_, _, rfl, ⟨q2_0, rfl, eq2_0, wq2_0⟩, rfl⟩ := hcol2
  clear hA0 hval0
  let g : G := fun h q => match h, q with | 0, q => some ⟨q, 0, 0, 0⟩ | 1, 0 => some β0_0 | 2, 0 => some β0_1 | 3, 0 => some β2 | _, _ => none
  have hgl : g.glob := fun q => ⟨0, 0, rfl⟩
  have hup : g.upto 4 := by
    intro h q hh
    simp only [g]
    split <;> first | rfl | (exfalso; omega)
  obtain ⟨hH, hro⟩ : Holds g [(1, some (.one true (.cols l0_0 [.sc (.strs q0_0_0), .sc (.strs q0_0_1), .sc (.strs q0_0_2), .sc (.strs q0_0_3)]))), (2, some (.one true (.cols l0_1 [.sc (.strs q0_1_0), .sc (.strs q0_1_1)]))), (3, some (.one true (.cols l2 [.sc (.strs q2_0)])))] W ∧ ∀ h q ro b, Ent [(1, some (.one true (.cols l0_0 [.sc (.strs q0_0_0), .sc (.strs q0_0_1), .sc (.strs q0_0_2), .sc (.strs q0_0_3)]))), (2, some (.one true (.cols l0_1 [.sc (.strs q0_1_0), .sc (.strs q0_1_1)]))), (3, some (.one true (.cols l2 [.sc (.strs q2_0)])))] h q ro b → ro = true := holds_ro _ (by
    intro p hp
    simp only [List.mem_cons, List.not_mem_nil, or_false] at hp
    rcases hp with rfl | rfl | rfl
    · exact ⟨_, _, rfl, rfl, hB0_0 g⟩
    · exact ⟨_, _, rfl, rfl, hB0_1 g⟩
    · exact ⟨_, _, rfl, rfl, hB2 g⟩)
  have hv : Rvs g [.agg [.sl 1 0 0 l0_0, .sl 2 0 0 l0_1, .int .i64 x0_2], .str s1, .sl 3 0 0 l2] [.agg #[c0_0, c0_1, .int .i64 x0_2], .string s1, .slice a2 len2 cap2] := by
    simp only [Rvs]
    exact ⟨_, _, rfl, (rv_agg_mk (rvs_cons_mk (hR0_0 _ 1 rfl) (rvs_cons_mk (hR0_1 _ 2 rfl) (rvs_cons_mk rvi rvs_nil_mk)))), ⟨_, _, rfl, rvt, ⟨_, _, rfl, (hR2 _ 3 rfl), rfl⟩⟩⟩
  refine ((routeRecovers_fc l0_0 hl0_0 q0_0_0 eq0_0_0 wq0_0_0 q0_0_1 eq0_0_1 wq0_0_1 q0_0_2 eq0_0_2 wq0_0_2 q0_0_3 eq0_0_3 wq0_0_3 l0_1 hl0_1 q0_1_0 eq0_1_0 wq0_1_0 q0_1_1 eq0_1_1 wq0_1_1 x0_2 hx0_2 s1 hs1 l2 hl2 q2_0 eq2_0 wq2_0).law ⟨_, _, Try.func4, rfl, by kernel_rfl⟩ hro hgl hup hH hv).mono fun e W' ⟨he, bel⟩ => ?_
  subst he
  exact ⟨_, rfl, _, _, _, [], _, [], hW', trodAll_mk1 (shut_bool Try.underlying4 _), (trodAll_cons_mk (Below.trod laidOut (by kernel_rfl) (of_decide_eq_true (by kernel_rfl)) h0 bel lt0) (trodAll_cons_mk (Below.trod laidOut (by kernel_rfl) (of_decide_eq_true (by kernel_rfl)) h1 bel lt1) (trodAll_cons_mk (Below.trod laidOut (by kernel_rfl) (of_decide_eq_true (by kernel_rfl)) h2 bel lt2) trodAll_mk0))), rfl, bel.frame _, fun h => by cases h⟩

theorem over : Rows.routeRecoversRow.holds Try.pinned (OpenSpec.ofChange Rows.routeRecoversSpec) :=
  OpenClaim.holds_of_wide 4 Try.f4 rfl rfl rfl rfl rfl rfl rfl ⟨rfl, rfl, rfl, rfl, rfl⟩ rfl rfl rfl rfl rfl (by kernel_rfl) Try.func4 (by kernel_rfl)
    (of_decide_eq_true (by kernel_rfl)) (by unfold Func.isWrapper; first | (rw [if_pos (by decide +kernel)]; kernel_rfl) | (rw [if_neg (by decide +kernel)]; exact ⟨rfl, rfl⟩))
    (fun os started H enc _ => lifted os started H enc)
end Go.Proofs.Ytkmbnniikncaiaa.routeRecoversLaw
namespace Go.Proofs.Ytkmbnniikncaiaa
theorem routeRecovers_holds : Rows.RouteRecoversSaid := routeRecoversLaw.over
end Go.Proofs.Ytkmbnniikncaiaa
