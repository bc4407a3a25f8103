/- 'cardnet law JournalAtomic' returns true at every input: the statement, from the contract of the law's function. The frame was written by mklaw.py. -/
import Derived.Test.YtdlpmmdbdjlojaaDoorRows
import Derived.Test.YtdlpmmdbdjlojaaDoorJournalAtomicC
import Derived.Test.YtdlpmmdbdjlojaaDoorYLaid2
import Derived.Test.YtdlpmmdbdjlojaaDoorYLaid
import Derived.Test.YtdlpmmdbdjlojaaDoorTie
import Derived.Test.YtdlpmmdbdjlojaaDoorCards
import Derived.Test.YtdlpmmdbdjlojaaDoorYLaid
import Derived.ProofKit
import Derived.OpenShut
import Derived.ShutString
import Derived.ChangeOld
import Derived.Below
import Derived.Carry
import Derived.LaidMore
import Derived.LaidLaws
import Derived.Stop.Joined
import Derived.SevenTiedAt
namespace Go.Proofs.YtdlpmmdbdjlojaaDoor.journalAtomicLaw
open Go.ChangeShapes Go.WideShapes Go.ChangeAt Go.RowKit Go.Sy
set_option linter.unusedVariables false
set_option linter.unusedSimpArgs false

theorem own : ownKnob Tryd.prog.godebug = none := by kernel_rfl
theorem laidOut : laidOutB Tryd.prog = true := by kernel_rfl

theorem door_met (os : Os) (args : Array Value) : laidMetH Tryd.prog Rows.journalAtomicRow.laid ((World.doorLaid Tryd.prog 400 os).forCall (fun _ _ => 0) ⟨#[], args, []⟩).memory :=
  laidMetH_of_parts3 (fuel := 8) (laidMet_of_run' 8 (by kernel_rfl) (by kernel_rfl)) (by kernel_rfl) (by kernel_rfl)

set_option maxRecDepth 100000 in
theorem lifted (os : Os) (started : os.Started) (H : Type) (enc : TypeId × Value → H) :
    ReturnsInHanded {} Tryd.checked os 5 .any (fun w args => (Rows.journalAtomicSpec.pre enc Tryd.prog Tryd.f5 [] false w args ∧ laidMetH Tryd.prog Rows.journalAtomicRow.laid w) ∧ sizedMet enc Tryd.prog Tryd.f5 (OpenSpec.ofChange Rows.journalAtomicSpec) false w args) (Rows.journalAtomicSpec.post enc Tryd.prog Tryd.f5 false true false false) := by
  refine returnsInHanded_of_change_and (C := Tryd.checked) (X := fun w _ => laidMetH Tryd.prog Rows.journalAtomicRow.laid w) (fun _ _ _ hh h => h.of_heap hh) own started (by kernel_rfl) Tryd.func5
    (ChangeSpec.witness_shaped (enc := enc) (C := Tryd.checked) (os := os) (X := fun w _ => laidMetH Tryd.prog Rows.journalAtomicRow.laid w) false (World.doorLaid Tryd.prog 400 os) #[.slice none 0 0, .int .u8 0, .int .u64 0] 8 rfl (World.shaped_of_RefB (by kernel_rfl) (by kernel_rfl)) (by kernel_rfl) (by kernel_rfl) (by kernel_rfl) (door_met os _)) ?_
  intro W base args ds gs before hval0 hW _ _ hL _
  have hval : ∀ (j : Nat) t v, Tryd.f5.params[j]? = some t → args[j]? = some v → Value.okWide Tryd.prog W .any base t v := hval0
  have hW' := hW
  obtain ⟨p, q, hA0, hV, rfl, hfz, hnd⟩ := hW
  have hA : DataW.TrodAll enc Tryd.prog W 0 (fun _ => true) true Tryd.f5.params.toList args.toList ds p := hA0
  rw [Tryd.params5] at hA hval
  obtain ⟨v0, vs0, d0, ds0, p0, q0, hargs, rfl, rfl, h0, r0⟩ := trodAll_cons hA
  obtain ⟨v1, vs1, d1, ds1, p1, q1, rfl, rfl, rfl, h1, r1⟩ := trodAll_cons r0
  obtain ⟨v2, vs2, d2, ds2, p2, q2, rfl, rfl, rfl, h2, r2⟩ := trodAll_cons r1
  obtain ⟨rfl, rfl, rfl⟩ := trodAll_nil r2
  obtain rfl : args = #[v0, v1, v2] := by cases args; simp_all
  obtain ⟨rfl, rfl⟩ := trodVars_none hV
  have lt0 : ∀ x ∈ p0, x.block < W.heap.size := by obtain ⟨m, hm⟩ := h0; exact DataW.trod_lt m _ _ _ hm
  have lt1 : ∀ x ∈ p1, x.block < W.heap.size := by obtain ⟨m, hm⟩ := h1; exact DataW.trod_lt m _ _ _ hm
  have lt2 : ∀ x ∈ p2, x.block < W.heap.size := by obtain ⟨m, hm⟩ := h2; exact DataW.trod_lt m _ _ _ hm
  obtain ⟨fuel0, hf0⟩ := id h0
  obtain ⟨a0, len0, cap0, rfl⟩ := okWide_slice Tryd.underlying31 (hval 0 31 v0 rfl rfl)
  obtain ⟨l0, β0, ns0, rows0, bs0, cols0, hl0, ens0, hcol0, hrow0, hR0, hB0⟩ := slice2_in (m := 20) (ks := [.sl [.str]]) 2 0 [.str] rfl rfl Tryd.underlying31 (by kernel_rfl) (by kernel_rfl) hf0
  simp only [Bc2Ok, ColOk] at hcol0
  obtain ⟨_, rfl, rfl⟩ := hcol0
  have ez0_0 : ∀ i, i < l0 → (gS 0 (rows0 i)).length = ns0.getD i 0 := by
    intro i hi
    have hc := (hrow0 i hi).2.1
    generalize rows0 i = R at hc ⊢
    simp only [ColsOk, ColOk] at hc
    obtain ⟨_, _, rfl, ⟨y0, rfl, ey0, wy0⟩, rfl⟩ := hc
    exact ey0
  have wz0_0 : ∀ i, i < l0 → ∀ x ∈ (gS 0 (rows0 i)), x.size ≤ maxLen := by
    intro i hi
    have hc := (hrow0 i hi).2.1
    generalize rows0 i = R at hc ⊢
    simp only [ColsOk, ColOk] at hc
    obtain ⟨_, _, rfl, ⟨y0, rfl, ey0, wy0⟩, rfl⟩ := hc
    exact wy0
  have hfam0 : ∀ i, i < l0 → ∀ g : G, BlkAt g (bs0 i) true (.cols (ns0.getD i 0) [.sc (.strs (gS 0 (rows0 i)))]) W := by
    intro i hi g
    have hc := (hrow0 i hi).2.1
    have hb := (hrow0 i hi).2.2 g
    generalize rows0 i = R at hc hb ⊢
    simp only [ColsOk, ColOk] at hc
    obtain ⟨_, _, rfl, ⟨y0, rfl, ey0, wy0⟩, rfl⟩ := hc
    exact hb
  obtain ⟨z0_0, ez0_0, wz0_0, hfam0⟩ : ∃ (z0_0 : Nat → List ByteArray), (∀ i, i < l0 → (z0_0 i).length = ns0.getD i 0) ∧ (∀ i, i < l0 → ∀ x ∈ z0_0 i, x.size ≤ maxLen) ∧ ∀ i, i < l0 → ∀ g : G, BlkAt g (bs0 i) true (.cols (ns0.getD i 0) [.sc (.strs (z0_0 i))]) W := ⟨fun i => gS 0 (rows0 i), ez0_0, wz0_0, hfam0⟩
  obtain ⟨n1, rfl⟩ := okWide_int Tryd.underlying5 (hval 1 5 v1 rfl rfl)
  have hw1 : (Lit.int .u8 n1).wf = true := by
    obtain ⟨fuel, hf⟩ := h1
    obtain ⟨m, e, _, hw⟩ := DataW.trod_int Tryd.underlying5 hf
    simp [Value.cells] at e; subst e; exact hw
  obtain ⟨n2, rfl⟩ := okWide_int Tryd.underlying22 (hval 2 22 v2 rfl rfl)
  have hw2 : (Lit.int .u64 n2).wf = true := by
    obtain ⟨fuel, hf⟩ := h2
    obtain ⟨m, e, _, hw⟩ := DataW.trod_int Tryd.underlying22 hf
    simp [Value.cells] at e; subst e; exact hw
  clear hA0 hval0
  rw [MakeChecks.laidMetH_plain _ _ _ (by kernel_rfl)] at hL
  obtain ⟨ps, ⟨gv0, gt0, gc0, gf0, gp0, gq0, hgv0, hgt0, hgc0, hgd0, ⟨gv1, gt1, gc1, gf1, gp1, gq1, hgv1, hgt1, hgc1, hgd1, ⟨gv2, gt2, gc2, gf2, gp2, gq2, hgv2, hgt2, hgc2, hgd2, _, _⟩, _⟩, _⟩, _, _⟩ := hL
  obtain rfl : gv0 = 2 := Option.some.inj (hgv0.symm.trans (by kernel_rfl))
  obtain rfl : gt0 = 128 := Option.some.inj (hgt0.symm.trans (by kernel_rfl))
  obtain rfl : gv1 = 3 := Option.some.inj (hgv1.symm.trans (by kernel_rfl))
  obtain rfl : gt1 = 129 := Option.some.inj (hgt1.symm.trans (by kernel_rfl))
  obtain rfl : gv2 = 0 := Option.some.inj (hgv2.symm.trans (by kernel_rfl))
  obtain rfl : gt2 = 122 := Option.some.inj (hgt2.symm.trans (by kernel_rfl))
  let g : G := fun h q => match h, q with | 0, q => some (gbase [(2, 1, 32), (3, 1, 64), (0, 1, 20)] q) | 1, 0 => some β0 | 2, q => some (bs0 q) | _, _ => none
  have hgl : g.glob := fun q => gbase_glob _ q
  have hup : g.upto 3 := by
    intro h q hh
    simp only [g]
    split <;> first | rfl | (exfalso; omega)
  have hT : ∀ q, (aget glT q).isSome = true → ∃ β, g 0 q = some β ∧ BlkAt g β true (gblk glT q) W := by
    intro q hq
    have hq' : q = 0 ∨ q = 2 ∨ q = 3 := gl_keys hq
    rcases hq' with rfl | rfl | rfl
    · exact ⟨_, rfl, laid_table (m := 20) (ks := [.int .u64]) hgv2 hgc2 Tryd.underlying122 (by kernel_rfl) (by kernel_rfl) (by kernel_rfl) (by decide) hgd2 (by kernel_rfl) g⟩
    · exact ⟨_, rfl, laid_table (m := 20) (ks := [.int .u8]) hgv0 hgc0 Tryd.underlying128 (by kernel_rfl) (by kernel_rfl) (by kernel_rfl) (by decide) hgd0 (by kernel_rfl) g⟩
    · exact ⟨_, rfl, laid_table (m := 20) (ks := [.int .u8]) hgv1 hgc1 Tryd.underlying129 (by kernel_rfl) (by kernel_rfl) (by kernel_rfl) (by decide) hgd1 (by kernel_rfl) g⟩
  obtain ⟨hH, hro⟩ : Holds g [(0, some (GB glT)), (1, some (.one true (.cols l0 [.own 2 ns0]))), (2, some (.fam true (fun x => x < l0) (fun x => .cols (ns0.getD x 0) [.sc (.strs (z0_0 x))])))] W ∧ ∀ h q ro b, Ent [(0, some (GB glT)), (1, some (.one true (.cols l0 [.own 2 ns0]))), (2, some (.fam true (fun x => x < l0) (fun x => .cols (ns0.getD x 0) [.sc (.strs (z0_0 x))])))] h q ro b → ro = true := holds_gl2 hT (by
    intro p hp
    simp only [List.mem_cons, List.not_mem_nil, or_false] at hp
    rcases hp with rfl | rfl
    · exact .inl ⟨_, _, rfl, rfl, hB0 g (fun i hi => rfl)⟩
    · exact .inr ⟨_, _, rfl, fun q hq => ⟨_, rfl, hfam0 q hq g⟩⟩)
  have hv : Rvs g [.sl 1 0 0 l0, .int .u8 n1, .int .u64 n2] [.slice a0 len0 cap0, .int .u8 n1, .int .u64 n2] := by
    simp only [Rvs]
    exact ⟨_, _, rfl, (hR0 _ 1 0 rfl), ⟨_, _, rfl, rvi, ⟨_, _, rfl, rvi, rfl⟩⟩⟩
  refine ((journalAtomic_fc l0 hl0 ns0 ens0 (fun i hi => (hrow0 i hi).1) z0_0 ez0_0 wz0_0 n1 hw1 n2 hw2).law ⟨_, _, Tryd.func5, rfl, by kernel_rfl⟩ hro hgl hup hH hv).mono fun e W' ⟨he, bel⟩ => ?_
  subst he
  exact ⟨_, rfl, _, _, _, [], _, [], hW', trodAll_mk1 (shut_bool Tryd.underlying4 _), (trodAll_cons_mk (Below.trod laidOut (by kernel_rfl) (of_decide_eq_true (by kernel_rfl)) h0 bel lt0) (trodAll_cons_mk (Below.trod laidOut (by kernel_rfl) (of_decide_eq_true (by kernel_rfl)) h1 bel lt1) (trodAll_cons_mk (Below.trod laidOut (by kernel_rfl) (of_decide_eq_true (by kernel_rfl)) h2 bel lt2) trodAll_mk0))), rfl, bel.frame _, fun h => by cases h⟩

theorem over : Rows.journalAtomicRow.holds Tryd.pinned (OpenSpec.ofChange Rows.journalAtomicSpec) :=
  OpenClaim.holds_of_wide 5 Tryd.f5 rfl rfl rfl rfl rfl rfl rfl ⟨rfl, rfl, rfl, rfl, rfl⟩ rfl rfl rfl rfl rfl (by kernel_rfl) Tryd.func5 (by kernel_rfl)
    (of_decide_eq_true (by kernel_rfl)) (by unfold Func.isWrapper; first | (rw [if_pos (by decide +kernel)]; kernel_rfl) | (rw [if_neg (by decide +kernel)]; exact ⟨rfl, rfl⟩))
    (fun os started H enc _ => lifted os started H enc)
end Go.Proofs.YtdlpmmdbdjlojaaDoor.journalAtomicLaw
namespace Go.Proofs.YtdlpmmdbdjlojaaDoor
open Go in
theorem journalAtomic_holds : Rows.JournalAtomicCardSaid :=
  Claim7.holds_tied_plain_at .later [] [.data, .data, .data] true (true, "8628a6b73177fd7a035fae8840f8e4dcc89fb70d5683358c7430013d779053a9") false
    journalAtomicLaw.over (fun _ h => by cases h) (by kernel_rfl) (fun _ h => by cases h) journalAtomic_row_tie rfl ⟨rfl, rfl⟩ (by kernel_rfl) rfl
    (fun f fn hf hfn => by
      obtain rfl : f = 5 := Option.some.inj ((show Tryd.prog.funcNamed "cardnet/cardnetlaw49.JournalAtomic" = some 5 by kernel_rfl).symm.trans hf) |>.symm
      obtain rfl : fn = Tryd.f5 := (Option.some.inj (Tryd.func5.symm.trans hfn)).symm
      exact ⟨by kernel_rfl, fun j t ht => by
        rw [Tryd.params5] at ht
        have hm : t ∈ [31, 5, 22] := by simpa using Array.mem_of_getElem? ht
        have hall : ([31, 5, 22].all fun u => !Tryd.prog.wantsStandIn u) = true := by kernel_rfl
        exact (show Tryd.prog.wantsStandIn t = false by simpa using List.all_eq_true.1 hall t hm)⟩)
    (by kernel_rfl)
end Go.Proofs.YtdlpmmdbdjlojaaDoor
