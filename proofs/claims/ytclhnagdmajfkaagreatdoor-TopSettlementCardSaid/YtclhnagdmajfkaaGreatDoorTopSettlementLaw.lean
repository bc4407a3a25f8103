/- 'cardnet law TopSettlement' returns true at every input: the statement, from the contract of the law's function. The frame was written by mklaw.py. -/
import Derived.Test.YtclhnagdmajfkaaGreatDoorP3
import Derived.Test.YtclhnagdmajfkaaGreatDoorP7
import Derived.Test.YtclhnagdmajfkaaGreatDoorRows
import Derived.Test.YtclhnagdmajfkaaGreatDoorTie
import Derived.Test.YtclhnagdmajfkaaGreatDoorCards
import Derived.ProofKit
import Derived.OpenShut
import Derived.ShutString
import Derived.ChangeOld
import Derived.Below
import Derived.Carry
import Derived.Lay
import Derived.LaidOnce
import Derived.LaidMore
import Derived.LaidLaws
import Derived.Stop.Joined
import Derived.SevenTiedAt
namespace Go.Proofs.YtclhnagdmajfkaaGreatDoor.topSettlementLaw
open Go.ChangeShapes Go.WideShapes Go.ChangeAt Go.RowKit Go.Sy
set_option linter.unusedVariables false
set_option linter.unusedSimpArgs false

theorem own : ownKnob Tryz.prog.godebug = none := by kernel_rfl
theorem y0O : laidOutB Tryz.prog = true := by kernel_rfl

theorem v0Z : "*" ++ "errors.errorString" = "*errors.errorString" := by decide
theorem d1x (u : TypeId) (h : Tryz.prog.typeName? 3 u = some "*errors.errorString") : u = 466 :=
  typeName_ptr_named (nm := "errors.errorString") (by rw [v0Z]; kernel_rfl) (by kernel_rfl) (by decide) u (by rw [v0Z]; exact h)

theorem w0a : "*" ++ "errors.errorString" = "*errors.errorString" := by decide
theorem d1y (u : TypeId) (h : Tryz.prog.typeName? 3 u = some "*errors.errorString") : u = 466 :=
  typeName_ptr_named (nm := "errors.errorString") (by rw [w0a]; kernel_rfl) (by kernel_rfl) (by decide) u (by rw [w0a]; exact h)

set_option maxRecDepth 100000 in
theorem b1u (os : Os) (started : os.Started) (H : Type) (enc : TypeId × Value -> H) :
    ReturnsInHanded {} Tryz.checked os 3 .any (fun w args => (Rows.topSettlementSpec.pre enc Tryz.prog Tryz.f3 [] false w args /\ laidMetH Tryz.prog Rows.topSettlementRow.laid w) /\ sizedMet enc Tryz.prog Tryz.f3 (OpenSpec.ofChange Rows.topSettlementSpec) false w args) (Rows.topSettlementSpec.post enc Tryz.prog Tryz.f3 false true false false) := by
  refine returnsInHanded_of_change_and (C := Tryz.checked) (X := fun w _ => laidMetH Tryz.prog Rows.topSettlementRow.laid w) (fun _ _ _ hh h => h.of_heap hh) own started (by kernel_rfl) Tryz.func3
    (ChangeSpec.witness_shaped (enc := enc) (C := Tryz.checked) (os := os) (X := fun w _ => laidMetH Tryz.prog Rows.topSettlementRow.laid w) false (World.laidAll Tryz.prog os Rows.topSettlementRow.laid) #[.slice none 0 0] 8 (World.laidAll_os _ _ _) (World.shaped_of_ZipB (by kernel_rfl) (by kernel_rfl)) (by kernel_rfl) (by kernel_rfl) (by kernel_rfl) (by rw [MakeChecks.laidMetH_plain _ _ _ (by kernel_rfl)]; exact laidMet_laidAll _ (by kernel_rfl) (by kernel_rfl))) ?_
  intro W base args ds gs before hval0 hW _ _ hL _
  have hval : ∀ (j : Nat) t v, Tryz.f3.params[j]? = some t -> args[j]? = some v -> Value.okWide Tryz.prog W .any base t v := hval0
  have hW' := hW
  obtain ⟨p, q, hA0, hV, rfl, hfz, hnd⟩ := hW
  have hA : DataW.TrodAll enc Tryz.prog W 0 (fun _ => true) true Tryz.f3.params.toList args.toList ds p := hA0
  rw [Tryz.params3] at hA hval
  obtain ⟨v0, vs0, d0, ds0, p0, q0, hargs, rfl, rfl, h0, r0⟩ := trodAll_cons hA
  obtain ⟨rfl, rfl, rfl⟩ := trodAll_nil r0
  obtain rfl : args = #[v0] := by cases args; simp_all
  obtain ⟨rfl, rfl⟩ := trodVars_none hV
  have lt0 : ∀ x ∈ p0, x.block < W.heap.size := by obtain ⟨m, hm⟩ := h0; exact DataW.trod_lt m _ _ _ hm
  obtain ⟨fuel0, hf0⟩ := id h0
  obtain ⟨a0, f0x, cap0, rfl⟩ := okWide_slice Tryz.underlying22 (hval 0 22 v0 rfl rfl)
  obtain ⟨l0, β0, ns0, rows0, bs0, cols0, hl0, ens0, hcol0, hrow0, hR0, hB0⟩ := s0N (m := 20) (ks := [.sc (.int .u8), .sl [.int .i64], .sc (.int .u32), .sc (.bool)]) 2 1 [.int .i64] rfl rfl Tryz.underlying22 (by kernel_rfl) (by kernel_rfl) hf0
  simp only [g0W, m0A] at hcol0
  obtain ⟨_, _, rfl, ⟨q0_0, rfl, eq0_0, wq0_0⟩, ⟨_, rfl, ⟨_, _, rfl, ⟨q0_2, rfl, eq0_2, wq0_2⟩, ⟨_, _, rfl, ⟨q0_3, rfl, eq0_3⟩, rfl⟩⟩⟩⟩ := hcol0
  have ez0_0 : ∀ i, i < l0 -> (gI 0 (rows0 i)).length = ns0.getD i 0 := by
    intro i hi
    have hc := (hrow0 i hi).2.1
    generalize rows0 i = R at hc ⊢
    simp only [c0b, m0A] at hc
    obtain ⟨_, _, rfl, ⟨y0, rfl, ey0, wy0⟩, rfl⟩ := hc
    exact ey0
  have wz0_0 : ∀ i, i < l0 -> ∀ x ∈ (gI 0 (rows0 i)), (Lit.int .i64 x).wf = true := by
    intro i hi
    have hc := (hrow0 i hi).2.1
    generalize rows0 i = R at hc ⊢
    simp only [c0b, m0A] at hc
    obtain ⟨_, _, rfl, ⟨y0, rfl, ey0, wy0⟩, rfl⟩ := hc
    exact wy0
  have hfam0 : ∀ i, i < l0 -> ∀ g : G, BlkAt g (bs0 i) true (.cols (ns0.getD i 0) [.sc (.ints .i64 (gI 0 (rows0 i)))]) W := by
    intro i hi g
    have hc := (hrow0 i hi).2.1
    have hb := (hrow0 i hi).2.2 g
    generalize rows0 i = R at hc hb ⊢
    simp only [c0b, m0A] at hc
    obtain ⟨_, _, rfl, ⟨y0, rfl, ey0, wy0⟩, rfl⟩ := hc
    exact hb
  obtain ⟨z0_0, ez0_0, wz0_0, hfam0⟩ : ∃ (z0_0 : Nat -> List Int), (∀ i, i < l0 -> (z0_0 i).length = ns0.getD i 0) /\ (∀ i, i < l0 -> ∀ x ∈ z0_0 i, (Lit.int .i64 x).wf = true) /\ ∀ i, i < l0 -> ∀ g : G, BlkAt g (bs0 i) true (.cols (ns0.getD i 0) [.sc (.ints .i64 (z0_0 i))]) W := ⟨fun i => gI 0 (rows0 i), ez0_0, wz0_0, hfam0⟩
  clear hA0 hval0
  rw [MakeChecks.laidMetH_plain _ _ _ (by kernel_rfl)] at hL
  obtain ⟨ps, ⟨gv0, gt0, gc0, gf0, gp0, gq0, hgv0, hgt0, hgc0, hgd0, ⟨gv1, gt1, gc1, gf1, gp1, gq1, hgv1, hgt1, hgc1, hgd1, ⟨gv2, gt2, gc2, gf2, gp2, gq2, hgv2, hgt2, hgc2, hgd2, ⟨gv3, gt3, gc3, gf3, gp3, gq3, hgv3, hgt3, hgc3, hgd3, ⟨gv4, gt4, gc4, gf4, gp4, gq4, hgv4, hgt4, hgc4, hgd4, ⟨gv5, gt5, gc5, gf5, gp5, gq5, hgv5, hgt5, hgc5, hgd5, ⟨gv6, gt6, gc6, gf6, gp6, gq6, hgv6, hgt6, hgc6, hgd6, ⟨gv7, gt7, gc7, gf7, gp7, gq7, hgv7, hgt7, hgc7, hgd7, _, _⟩, _⟩, _⟩, _⟩, _⟩, _⟩, _⟩, _⟩, _, _⟩ := hL
  obtain rfl : gv0 = 4 := Option.some.inj (hgv0.symm.trans (by kernel_rfl))
  obtain rfl : gt0 = 449 := Option.some.inj (hgt0.symm.trans (by kernel_rfl))
  obtain rfl : gv1 = 5 := Option.some.inj (hgv1.symm.trans (by kernel_rfl))
  obtain rfl : gt1 = 450 := Option.some.inj (hgt1.symm.trans (by kernel_rfl))
  obtain rfl : gv2 = 0 := Option.some.inj (hgv2.symm.trans (by kernel_rfl))
  obtain rfl : gt2 = 384 := Option.some.inj (hgt2.symm.trans (by kernel_rfl))
  obtain rfl : gv3 = 10 := Option.some.inj (hgv3.symm.trans (by kernel_rfl))
  obtain rfl : gt3 = 465 := Option.some.inj (hgt3.symm.trans (by kernel_rfl))
  obtain rfl : gv4 = 7 := Option.some.inj (hgv4.symm.trans (by kernel_rfl))
  obtain rfl : gt4 = 174 := Option.some.inj (hgt4.symm.trans (by kernel_rfl))
  obtain rfl : gv5 = 6 := Option.some.inj (hgv5.symm.trans (by kernel_rfl))
  obtain rfl : gt5 = 174 := Option.some.inj (hgt5.symm.trans (by kernel_rfl))
  obtain rfl : gv6 = 8 := Option.some.inj (hgv6.symm.trans (by kernel_rfl))
  obtain rfl : gt6 = 459 := Option.some.inj (hgt6.symm.trans (by kernel_rfl))
  obtain rfl : gv7 = 9 := Option.some.inj (hgv7.symm.trans (by kernel_rfl))
  obtain rfl : gt7 = 462 := Option.some.inj (hgt7.symm.trans (by kernel_rfl))
  let g : G := fun h q => match h, q with | 0, q => some (w0A [(4, 1, 32), (5, 1, 64), (0, 1, 20), (10, 2, 16), (7, 1, 1), (6, 1, 1), (8, 2, 10), (9, 1, 256)] q) | 1, 0 => some β0 | 2, q => some (bs0 q) | _, _ => none
  have hgl : g.glob := fun q => p0x _ q
  have hup : g.upto 3 := by
    intro h q hh
    simp only [g]
    split <;> first | rfl | (exfalso; omega)
  have hT : ∀ q, (a0B glT q).isSome = true -> ∃ β, g 0 q = some β /\ BlkAt g β true (v0k glT q) W := by
    intro q hq
    have hq' : q = 0 \/ q = 4 \/ q = 5 \/ q = 6 \/ q = 7 \/ q = 8 \/ q = 10 := w0D hq
    rcases hq' with rfl | rfl | rfl | rfl | rfl | rfl | rfl
    . exact ⟨_, rfl, d0B (m := 20) (ks := [.int .u64]) hgv2 hgc2 Tryz.underlying384 (by kernel_rfl) (by kernel_rfl) (by kernel_rfl) (by decide) hgd2 (by kernel_rfl) g⟩
    . exact ⟨_, rfl, d0B (m := 20) (ks := [.int .u8]) hgv0 hgc0 Tryz.underlying449 (by kernel_rfl) (by kernel_rfl) (by kernel_rfl) (by decide) hgd0 (by kernel_rfl) g⟩
    . exact ⟨_, rfl, d0B (m := 20) (ks := [.int .u8]) hgv1 hgc1 Tryz.underlying450 (by kernel_rfl) (by kernel_rfl) (by kernel_rfl) (by decide) hgd1 (by kernel_rfl) g⟩
    . exact ⟨_, rfl, m0C (name := "*errors.errorString") hgv5 hgc5 Tryz.underlying174 d1y hgd5 g⟩
    . exact ⟨_, rfl, m0C (name := "*errors.errorString") hgv4 hgc4 Tryz.underlying174 d1x hgd4 g⟩
    . exact ⟨_, rfl, d0B (m := 20) (ks := [.str, .int .i64]) hgv6 hgc6 Tryz.underlying459 (by kernel_rfl) (by kernel_rfl) (by kernel_rfl) (by decide) hgd6 (by kernel_rfl) g⟩
    . exact ⟨_, rfl, d0B (m := 20) (ks := [.int .u8, .int .u8]) hgv3 hgc3 Tryz.underlying465 (by kernel_rfl) (by kernel_rfl) (by kernel_rfl) (by decide) hgd3 (by kernel_rfl) g⟩
  obtain ⟨hH, hro⟩ : Holds g [(0, some (GB glT)), (1, some (.one true (.cols l0 [.sc (.ints .u8 q0_0), .own 2 ns0, .sc (.ints .u32 q0_2), .sc (.bools q0_3)]))), (2, some (.fam true (fun x => x < l0) (fun x => .cols (ns0.getD x 0) [.sc (.ints .i64 (z0_0 x))])))] W /\ ∀ h q ro b, Ent [(0, some (GB glT)), (1, some (.one true (.cols l0 [.sc (.ints .u8 q0_0), .own 2 ns0, .sc (.ints .u32 q0_2), .sc (.bools q0_3)]))), (2, some (.fam true (fun x => x < l0) (fun x => .cols (ns0.getD x 0) [.sc (.ints .i64 (z0_0 x))])))] h q ro b -> ro = true := s0Q hT (by
    intro p hp
    simp only [List.mem_cons, List.not_mem_nil, or_false] at hp
    rcases hp with rfl | rfl
    . exact .inl ⟨_, _, rfl, rfl, hB0 g (fun i hi => rfl)⟩
    . exact .inr ⟨_, _, rfl, fun q hq => ⟨_, rfl, hfam0 q hq g⟩⟩)
  have hv : Rvs g [.sl 1 0 0 l0] [.slice a0 f0x cap0] := by
    simp only [Rvs]
    exact ⟨_, _, rfl, (hR0 _ 1 0 rfl), rfl⟩
  refine ((topSettlement_fc l0 hl0 ns0 ens0 (fun i hi => (hrow0 i hi).1) q0_0 eq0_0 wq0_0 q0_2 eq0_2 wq0_2 q0_3 eq0_3 z0_0 ez0_0 wz0_0).law ⟨_, _, Tryz.func3, rfl, by kernel_rfl⟩ hro hgl hup hH hv).mono fun e W' ⟨he, bel⟩ => ?_
  subst he
  exact ⟨_, rfl, _, _, _, [], _, [], hW', trodAll_mk1 (shut_bool Tryz.underlying4 _), (trodAll_cons_mk (Below.trod y0O (by kernel_rfl) (of_decide_eq_true (by kernel_rfl)) h0 bel lt0) trodAll_mk0), rfl, bel.frame _, fun h => by cases h⟩

theorem e1p {a b : Bool} (h1 : a = true) (h2 : b = true) : (a && b) = true := by rw [h1, h2]; rfl
set_option maxHeartbeats 0 in
set_option maxRecDepth 100000 in
theorem b1v : joinedFacts Tryz.pinned.checked.prog 3 Tryz.f3 Rows.topSettlementSpec Rows.topSettlementRow = true := by
  unfold joinedFacts
  repeat' (with_reducible refine e1p ?_ ?_)
  all_goals (as_aux_lemma => kernel_rfl)
theorem over : Rows.topSettlementRow.holds Tryz.pinned (OpenSpec.ofChange Rows.topSettlementSpec) :=
  OpenClaim.holds_of_wide 3 Tryz.f3 rfl rfl rfl rfl rfl rfl rfl ⟨rfl, rfl, rfl, rfl, rfl⟩ rfl rfl rfl rfl rfl (by kernel_rfl) Tryz.func3 b1v
    (of_decide_eq_true (by kernel_rfl)) (by unfold Func.isWrapper; first | (rw [if_pos (by decide +kernel)]; kernel_rfl) | (rw [if_neg (by decide +kernel)]; exact ⟨rfl, rfl⟩))
    (fun os started H enc _ => b1u os started H enc)
end Go.Proofs.YtclhnagdmajfkaaGreatDoor.topSettlementLaw
