/- Several texts in one: XNetK, XNetD, XNetE, XNetF, XNetG, XNetH, XNetI, XNetJ, XNetL, XNetM, XNetM2, XNetN, XNetO, XNetQ, XNetR, XNetS, XNetT, XNetU, XCyT, XCyU, XCyV. -/
import Derived.Test.YtkdjnmcaifejjaaGreatDoorCo2
import Derived.Test.YtkdjnmcaifejjaaGreatDoorLay
import Derived.WalkKit
import Derived.StillTailTactics
import Derived.Test.YtkdjnmcaifejjaaGreatDoorYPlain
import Derived.Test.YtkdjnmcaifejjaaGreatDoorYArg
/- How places are compared: the kit's own walk (the contract of its sort asks what a call leaves behind to the last draw). -/
namespace Go.Proofs.YtkdjnmcaifejjaaGreatDoor
open Go.RowKit Go.Sy Go.Lib Go.Sort Go.Proofs
set_option linter.unusedVariables false
set_option linter.unusedSimpArgs false

/-- How two texts are ordered. -/
def cmpB (x y : ByteArray) : Int := if strLt x y = true then -1 else if strLt y x = true then 1 else 0
theorem k_isNaN (x : ByteArray) (w : World) : Calls Tryz.prog 167 #[.string x] w fun e w' => e = .returned (.bool false) ∧ w' = w := by
  go_enter Tryz.func167, Tryz.ntmps167
  go_wp2
  go_ret
  exact ⟨by simp, rfl⟩
theorem k_Compare (x y : ByteArray) (w : World) : Calls Tryz.prog 121 #[.string x, .string y] w fun e w' => e = .returned (.int .i64 (cmpB x y)) ∧ w' = w := by
  have hcm : (!Op.bytesLess x.toList y.toList && !x.toList == y.toList) = (!strLt x y && strLt y x) := by
    rw [beq_toList_eq]
    change (!strLt x y && !seq x y) = _
    cases h : strLt x y with
    | true => rfl
    | false =>
      by_cases e : x = y
      · subst e; rw [show seq x x = true from decide_eq_true rfl, strLt_irrefl]; rfl
      · rw [show seq x y = false from decide_eq_false e, strLt_total h e]; rfl
  have hg : ∀ w, (binOp .gtr 9 (.string x) (.string y)).run Tryz.prog w = .ok (.bool (!strLt x y && strLt y x)) w := fun w => by rw [← hcm]; simp [binOp, Op.stringOp]
  have hl : Op.bytesLess x.toList y.toList = strLt x y := rfl
  go_enter Tryz.func121, Tryz.ntmps121
  go_wp2_with (go_at_call 167; refine (k_isNaN _ _).mono ?_; rintro e w' ⟨rfl, hw⟩; rw [hw])
  all_goals first
    | (go_ret; refine ⟨?_, rfl⟩; unfold cmpB; simp_all; done)
    | trace_state
theorem k_Or (b : Nat) (c : Nat) (x y : Int) (w : World) (h0 : w.cell? ⟨b, 0, none⟩ = some (.int .i64 x)) (h1 : w.cell? ⟨b, 1, none⟩ = some (.int .i64 y)) : Calls Tryz.prog 120 #[.slice (some ⟨b, 0, none⟩) 2 c] w fun e w' => e = .returned (.int .i64 (if x = 0 then y else x)) ∧ w' = w := by
  go_enter Tryz.func120, Tryz.ntmps120
  go_wp2
  go_loop [8] (fun i => ∃ k : Nat, k ≤ 2 ∧ i = .int .i64 k ∧ (0 < k → x = 0) ∧ (1 < k → y = 0)) (fun i => 2 - (intOf i).toNat)
  case atStart => exact ⟨0, by omega, rfl, by omega, by omega⟩
  case round =>
    obtain ⟨k, hk, rfl, k1, k2⟩ := hrel
    have hk3 : k = 0 ∨ k = 1 ∨ k = 2 := by omega
    rcases hk3 with rfl | rfl | rfl
    all_goals
      go_wp2
      all_goals first
        | (go_ret; refine ⟨?_, rfl⟩; simp_all; done)
        | (refine ⟨⟨1, by omega, rfl, fun _ => by simp_all, by omega⟩, by simp [intOf]⟩; done)
        | (refine ⟨⟨2, by omega, rfl, fun _ => k1 (by omega), fun _ => by simp_all⟩, by simp [intOf]⟩; done)
        | trace_state
theorem two_at (w : World) (o1 o2 : Obj) : ((w.alloc o1).alloc o2).drew.heap[w.heap.size]? = some o1 ∧ ((w.alloc o1).alloc o2).drew.heap[w.heap.size + 1]? = some o2 := by
  show ((w.heap.push o1).push o2)[w.heap.size]? = some o1 ∧ ((w.heap.push o1).push o2)[w.heap.size + 1]? = some o2
  refine ⟨?_, ?_⟩
  · rw [Array.getElem?_push, if_neg (by simp), Array.getElem?_push, if_pos rfl]
  · rw [Array.getElem?_push, if_pos (by simp)]
set_option maxRecDepth 100000 in
set_option maxHeartbeats 4000000 in
theorem k_compare (c1 p1 c2 p2 : ByteArray) (w : World) : Calls Tryz.prog 73 #[.agg #[.string c1, .string p1], .agg #[.string c2, .string p2]] w fun e w' => e = .returned (.int .i64 (if cmpB c1 c2 = 0 then cmpB p1 p2 else cmpB c1 c2)) ∧ ∃ q os, w' = grow (w.drewN q) os := by
  have key : ∀ (W : World) (b1 b2 : Nat), W.cell? ⟨b1, 0, none⟩ = some (.string c1) → W.cell? ⟨b1, 1, none⟩ = some (.string p1) → W.cell? ⟨b2, 0, none⟩ = some (.string c2) → W.cell? ⟨b2, 1, none⟩ = some (.string p2) → True := fun _ _ _ _ _ _ _ => trivial
  go_enter Tryz.func73, Tryz.ntmps73
  go_wp2_with fail
  refine wp_region_still_tail 10 (by kernel_rfl) (by kernel_rfl) ?_
  simp only [List.take_succ_cons, List.take_zero, List.drop_succ_cons, List.drop_zero, World.drew_eq]
  obtain ⟨W, hW⟩ : ∃ W, W = ((w.alloc (Obj.cells #[Value.string c1, Value.string p1] 134)).alloc (Obj.cells #[Value.string c2, Value.string p2] 134)).drew := ⟨_, rfl⟩
  have h1 : W.cell? ⟨w.heap.size, 0, none⟩ = some (.string c1) := by rw [hW]; unfold World.cell?; rw [(two_at w _ _).1]; rfl
  have h2 : W.cell? ⟨w.heap.size, 1, none⟩ = some (.string p1) := by rw [hW]; unfold World.cell?; rw [(two_at w _ _).1]; rfl
  have h3 : W.cell? ⟨w.heap.size + 1, 0, none⟩ = some (.string c2) := by rw [hW]; unfold World.cell?; rw [(two_at w _ _).2]; rfl
  have h4 : W.cell? ⟨w.heap.size + 1, 1, none⟩ = some (.string p2) := by rw [hW]; unfold World.cell?; rw [(two_at w _ _).2]; rfl
  rw [← hW]
  have hu : ∃ os, W = grow (w.drewN 1) os := ⟨_, by rw [hW]; exact (by rw [alloc_eq_grow, alloc_eq_grow, grow_grow]; rfl)⟩
  clear hW
  iterate 4 still_step
  still_call (k_Compare c1 c2 _)
  iterate 4 still_step
  still_call (k_Compare p1 p2 _)
  refine wpStill_nil ?_
  go_wp2_with fail
  refine (k_Or W.heap.size 2 (cmpB c1 c2) (cmpB p1 p2) (W.alloc (Obj.cells #[Value.int .i64 (cmpB c1 c2), Value.int .i64 (cmpB p1 p2)] 3)) ?_ ?_).mono ?_
  · unfold World.cell? World.alloc; simp
  · unfold World.cell? World.alloc; simp
  rintro e w' ⟨rfl, rfl⟩
  go_wp2_with fail
  all_goals
    obtain ⟨os, rfl⟩ := hu
    go_ret
    exact ⟨rfl, 1, _, by rw [alloc_eq_grow, grow_grow]⟩
theorem k_placeOf (p : ByteArray) (a : Int) (c : ByteArray) (w : World) : Calls Tryz.prog 74 #[.agg #[.string p, .int .i64 a, .string c]] w fun e w' => e = .returned (.agg #[.string c, .string p]) ∧ ∃ os, w' = grow w os := by
  go_enter Tryz.func74, Tryz.ntmps74
  go_wp2
  refine bodyPost_ret (results_cell_row (ty := 134) rfl _ _ (w.heap.size + 1) 134 #[.string c, .string p] (0, 0) _ rfl ?_ Tryz.underlying134 rfl (by kernel_rfl)) rfl ⟨rfl, _, by rw [alloc_eq_grow, alloc_eq_grow, grow_grow]⟩
  show ((w.heap.push _).push _)[w.heap.size + 1]? = _
  rw [Array.getElem?_push, if_pos (by simp)]
theorem cells3 (w : World) (a b c : Value) (t : TypeId) (o2 : Obj) (n : Nat) (os : Array Obj) : ∀ j v, (#[a, b, c])[j]? = some v → (grow (((w.alloc (.cells #[a, b, c] t)).alloc o2).drewN n) os).cell? ⟨w.heap.size, j, none⟩ = some v := by
  intro j v hv
  refine cell_grown (by show w.heap.size < ((w.heap.push _).push _).size; simp; omega) ?_ n os
  unfold World.cell?
  rw [show ((w.alloc (.cells #[a, b, c] t)).alloc o2).heap[w.heap.size]? = some (.cells #[a, b, c] t (0, 0)) from (by
    show ((w.heap.push _).push _)[w.heap.size]? = _
    rw [Array.getElem?_push, if_neg (by simp), Array.getElem?_push, if_pos rfl])]
  exact hv
theorem cells3' (w : World) (a b c : Value) (t : TypeId) (o1 : Obj) (n : Nat) (os : Array Obj) : ∀ j v, (#[a, b, c])[j]? = some v → (grow (((w.alloc o1).alloc (.cells #[a, b, c] t)).drewN n) os).cell? ⟨w.heap.size + 1, j, none⟩ = some v := by
  intro j v hv
  refine cell_grown (by show w.heap.size + 1 < ((w.heap.push _).push _).size; simp) ?_ n os
  unfold World.cell?
  rw [show ((w.alloc o1).alloc (.cells #[a, b, c] t)).heap[w.heap.size + 1]? = some (.cells #[a, b, c] t (0, 0)) from (by
    show ((w.heap.push _).push _)[w.heap.size + 1]? = _
    rw [Array.getElem?_push, if_pos (by simp)])]
  exact hv
set_option maxRecDepth 100000 in
set_option maxHeartbeats 4000000 in
theorem k_closure (x y : Ps) (w : World) : Calls Tryz.prog 72 #[.agg #[.string x.p, .int .i64 x.a, .string x.c], .agg #[.string y.p, .int .i64 y.a, .string y.c]] w fun e w' => e = .returned (.int .i64 (if cmpB x.c y.c = 0 then cmpB x.p y.p else cmpB x.c y.c)) ∧ ∃ q os, w' = grow (w.drewN q) os := by
  have mixed : Tryz.prog.follows .mixedOrders = true := Tryz.sortF71.mixed
  go_enter Tryz.func72, Tryz.ntmps72
  go_wp2_with fail
  have h1 := cells3 w (.string x.p) (.int .i64 x.a) (.string x.c) 68 (.cells #[.string y.p, .int .i64 y.a, .string y.c] 68)
  have h2 := cells3' w (.string y.p) (.int .i64 y.a) (.string y.c) 68 (.cells #[.string x.p, .int .i64 x.a, .string x.c] 68)
  obtain ⟨W, hW⟩ : ∃ W, W = (w.alloc (Obj.cells #[Value.string x.p, Value.int .i64 x.a, Value.string x.c] 68)).alloc (Obj.cells #[Value.string y.p, Value.int .i64 y.a, Value.string y.c] 68) := ⟨_, rfl⟩
  have hu : ∃ os, W = grow w os := ⟨_, by rw [hW, alloc_eq_grow, alloc_eq_grow, grow_grow]⟩
  rw [← hW] at h1 h2 ⊢
  clear hW
  have a0 : ∀ n os, (grow (W.drewN n) os).cell? ⟨w.heap.size, 0, none⟩ = some (.string x.p) := fun n os => h1 n os 0 _ rfl
  have a1 : ∀ n os, (grow (W.drewN n) os).cell? ⟨w.heap.size, 1, none⟩ = some (.int .i64 x.a) := fun n os => h1 n os 1 _ rfl
  have a2 : ∀ n os, (grow (W.drewN n) os).cell? ⟨w.heap.size, 2, none⟩ = some (.string x.c) := fun n os => h1 n os 2 _ rfl
  have b0 : ∀ n os, (grow (W.drewN n) os).cell? ⟨w.heap.size + 1, 0, none⟩ = some (.string y.p) := fun n os => h2 n os 0 _ rfl
  have b1 : ∀ n os, (grow (W.drewN n) os).cell? ⟨w.heap.size + 1, 1, none⟩ = some (.int .i64 y.a) := fun n os => h2 n os 1 _ rfl
  have b2 : ∀ n os, (grow (W.drewN n) os).cell? ⟨w.heap.size + 1, 2, none⟩ = some (.string y.c) := fun n os => h2 n os 2 _ rfl
  clear h1 h2
  refine wp_region_quiet_grown (by assumption) (by kernel_rfl) ?_
  refine wpQuiet_step (fun K hK => ?_)
  go_simp
  refine hK _ ?_
  clear hK K
  refine wpQuiet_step (fun K hK => ?_)
  go_simp
  refine ⟨_, fun g => Calls.grown_of ((k_placeOf x.p x.a x.c _).mono (R' := fun e w' => e = .returned (.agg #[.string x.c, .string x.p]) ∧ ∃ q os', w' = grow ((grow (W.drewN g.n) g.os).drewN q) os') (fun e w' h => ⟨h.1, 0, h.2⟩)), hK _ ?_⟩
  clear hK K
  refine wpQuiet_step (fun K hK => ?_)
  go_simp
  refine hK _ ?_
  clear hK K
  refine wpQuiet_step (fun K hK => ?_)
  go_simp
  refine ⟨_, fun g => Calls.grown_of ((k_placeOf y.p y.a y.c _).mono (R' := fun e w' => e = .returned (.agg #[.string y.c, .string y.p]) ∧ ∃ q os', w' = grow ((grow (W.drewN g.n) g.os).drewN q) os') (fun e w' h => ⟨h.1, 0, h.2⟩)), hK _ ?_⟩
  clear hK K
  refine wpQuiet_step (fun K hK => ?_)
  go_simp
  refine ⟨_, fun g => Calls.grown_of (k_compare x.c x.p y.c y.p _), hK _ ?_⟩
  clear hK K
  refine wpQuiet_step (fun K hK => ?_)
  go_simp
  refine hK _ ?_
  clear hK K
  refine wpQuiet_nil ?_
  intro _ hw'
  obtain ⟨⟨nq, osq⟩, hw''⟩ := hw'
  subst hw''
  go_wp2_with fail
  all_goals
    obtain ⟨os, rfl⟩ := hu
    go_ret
    exact ⟨rfl, nq, _, by show grow (grow (w.drewN nq) os) osq = _; rw [grow_grow]⟩
/-- How positions are ordered, as a number. -/
def cfP (x y : Ps) : Int := if cmpB x.c y.c = 0 then cmpB x.p y.p else cmpB x.c y.c
theorem cmpB_neg {x y : ByteArray} : cmpB x y < 0 ↔ strLt x y = true := by
  unfold cmpB
  split
  · rename_i h; simp [h]
  · rename_i h
    split <;> simp [h]
theorem cmpB_zero {x y : ByteArray} : cmpB x y = 0 ↔ x = y := by
  unfold cmpB
  constructor
  · intro h
    split at h
    · omega
    · rename_i h1
      split at h
      · omega
      · rename_i h2
        refine Classical.byContradiction fun e => ?_
        exact h2 (strLt_total (by simpa using h1) e)
  · rintro rfl
    rw [if_neg (by rw [strLt_irrefl]; decide), if_neg (by rw [strLt_irrefl]; decide)]
theorem lt_cfP (x y : Ps) : ltOf cfP x y = plt_n x y := by
  unfold ltOf cfP
  rw [Bool.eq_iff_iff, decide_eq_true_eq, plt_iff_n]
  by_cases h : x.c = y.c
  · rw [if_pos (cmpB_zero.2 h), cmpB_neg, h, strLt_irrefl]; simp
  · rw [if_neg (fun e => h (cmpB_zero.1 e)), cmpB_neg]; simp [h]
theorem swo_cfP : SWO (ltOf cfP) := by
  refine ⟨fun x => ?_, fun x y z h k => ?_, fun x y z h k => ?_⟩
  · rw [lt_cfP]; exact plt_irrefl_n x
  · rw [lt_cfP] at *; exact plt_trans_n h k
  · rw [lt_cfP] at *; exact nplt_trans_n k h
/-- What the library's sort makes of positions. -/
def pdqL (l : List Ps) : List Ps := (pdq (ltOf cfP) l.toArray 0 l.length (Lib.bitLen l.length) true true).toList
theorem pdqL_facts (l : List Ps) : (pdqL l).Perm l ∧ (pdqL l).Pairwise (fun a b => plt_n b a = false) := by
  obtain ⟨⟨h1, h2, h3⟩, h4⟩ := pdq_sorts (ltOf cfP) swo_cfP l.toArray 0 l.length (Lib.bitLen l.length) true true (Nat.zero_le _) (by simp) (Or.inl rfl)
  unfold pdqL
  generalize pdq (ltOf cfP) l.toArray 0 l.length (Lib.bitLen l.length) true true = d at *
  have hs : d.size = l.length := by rw [h1]; simp
  refine ⟨?_, ?_⟩
  · rw [Array.extract_eq_self_of_le (by omega), Array.extract_eq_self_of_le (by simp)] at h3
    exact h3
  · rw [List.pairwise_iff_getElem]
    intro i j hi hj hij
    simp only [Array.length_toList] at hi hj
    have := h4 i j (Nat.zero_le _) hij (by omega)
    rw [lt_cfP, getElem!_pos d i hi, getElem!_pos d j hj] at this
    simpa using this
theorem pdqL_srt {l : List Ps} (hd : Dist_n l) : pdqL l = srt_n l := by
  obtain ⟨h1, h2⟩ := pdqL_facts l
  refine (srt_of_n h1 ?_).symm
  refine (h2.and (dist_perm_n h1.symm hd)).imp ?_
  rintro a b ⟨h3, h4⟩
  exact plt_total_n h3 (fun e => h4 (same2_symm_n e))
/-- The sort of positions, and that of places. -/
theorem sorts_pos : SortsF Tryz.prog 71 72 (fun x : Ps => [.string x.p, .int .i64 x.a, .string x.c]) 3 pdqL := by
  intro blk off cap ss W hH hblk hn
  have eg : ∀ args w, (callFunc 72 args).run Tryz.prog w = .ok (.enter 72 args) w := enters_of Tryz.func72 (by kernel_rfl) rfl
  have h := AnyQ.slices_SortFunc_eq Tryz.sortF71 3 Tryz.isAgg68 Tryz.sizeOf68 (fun x : Ps => [.string x.p, .int .i64 x.a, .string x.c]) (fun _ => rfl) (fun x v hv => by simp at hv; rcases hv with rfl | rfl | rfl <;> rfl) cfP swo_cfP 72 #[] blk off cap ss.toArray W eg (fun m os dk _ x y => k_closure x y _) hH hblk (by simpa using hn)
  simp only [List.size_toArray] at h
  exact h.mono fun e w' ⟨he, m, os, hw⟩ => ⟨he, m, os, by rw [hw]; simp [pdqL]⟩
end Go.Proofs.YtkdjnmcaifejjaaGreatDoor

/- Contracts: sorting of positions and of places. -/
namespace Go.Proofs.YtkdjnmcaifejjaaGreatDoor
open Go.RowKit Go.Sy
attribute [local irreducible] vcall vloop vcallD retP
set_option maxRecDepth 100000
set_option linter.unusedVariables false
set_option linter.unusedSimpArgs false

theorem bits_Len64_0 : Pure Tryz.prog 109 [.int .u64 0] (.int .i64 0) := by
  refine fc_of mixed T_ok Tryz.func109 rfl (by kernel_rfl) (by kernel_rfl) (by kernel_rfl) ?_
  repeat' ((conv => whnf); first | (refine br_dec (fun h => ?_) (fun h => ?_) <;> try (exfalso; (try dsimp only at h); omega)) | (refine br_ndec (fun h => ?_) (fun h => ?_) <;> try (exfalso; (try dsimp only at h); omega)) | refine br_seq (fun h => ?_) (fun h => ?_) | refine br_nseq (fun h => ?_) (fun h => ?_) | refine br_not (fun h => ?_) (fun h => ?_) | refine br_intro (fun h => ?_) (fun h => ?_) | refine cond_intro rfl ?_ | (refine cond_intro ⟨rfl, ?_⟩ ?_; (first | omega | (dsimp only; omega) | decide)) | (refine cond_intro ?_ ?_; (first | omega | (dsimp only; omega) | decide | (simp only [Nat.add_zero, Int.toNat_natCast, *]; omega))))
  all_goals (conv => whnf)
  all_goals first
    | exact ret_pure rfl
    | (exfalso; omega)
    | trace_state
theorem bits_Len_0 : Pure Tryz.prog 59 [.int .u64 0] (.int .i64 0) := by
  have c := bits_Len64_0
  refine fc_of mixed T_ok Tryz.func59 rfl (by kernel_rfl) (by kernel_rfl) (by kernel_rfl) ?_
  repeat' ((conv => whnf); first | (refine vcall_pure (c) rfl rfl rfl ?_) | (refine vcallD_pure (c) rfl rfl rfl ?_) | (refine br_dec (fun h => ?_) (fun h => ?_) <;> try (exfalso; (try dsimp only at h); omega)) | (refine br_ndec (fun h => ?_) (fun h => ?_) <;> try (exfalso; (try dsimp only at h); omega)) | refine br_seq (fun h => ?_) (fun h => ?_) | refine br_nseq (fun h => ?_) (fun h => ?_) | refine br_not (fun h => ?_) (fun h => ?_) | refine br_intro (fun h => ?_) (fun h => ?_) | refine cond_intro rfl ?_ | (refine cond_intro ⟨rfl, ?_⟩ ?_; (first | omega | (dsimp only; omega) | decide)) | (refine cond_intro ?_ ?_; (first | omega | (dsimp only; omega) | decide | (simp only [Nat.add_zero, Int.toNat_natCast, *]; omega))))
  all_goals (conv => whnf)
  all_goals first
    | exact ret_pure rfl
    | (exfalso; omega)
    | trace_state
theorem ins_pos0 : FC Tryz.prog 2 159 [.sl 1 0 0 0, .int .i64 0, .int .i64 0, .fn 72 []] [] (isOut (.tup []) [] 2) := by
  refine fc_of mixed T_ok Tryz.func159 rfl (by kernel_rfl) (by kernel_rfl) (by kernel_rfl) ?_
  repeat' ((conv => whnf); first | (refine br_dec (fun h => ?_) (fun h => ?_) <;> try (exfalso; (try dsimp only at h); omega)) | (refine br_ndec (fun h => ?_) (fun h => ?_) <;> try (exfalso; (try dsimp only at h); omega)) | refine br_seq (fun h => ?_) (fun h => ?_) | refine br_nseq (fun h => ?_) (fun h => ?_) | refine br_not (fun h => ?_) (fun h => ?_) | refine br_intro (fun h => ?_) (fun h => ?_) | refine cond_intro rfl ?_ | (refine cond_intro ⟨rfl, ?_⟩ ?_; (first | omega | (dsimp only; omega) | decide)) | (refine cond_intro ?_ ?_; (first | omega | (dsimp only; omega) | decide | (simp only [Nat.add_zero, Int.toNat_natCast, *]; omega))))
  all_goals (conv => whnf)
  refine vloop_of (fun _ : Unit => ⟨[(2, .int .i64 0), (8, .int .i64 1)], [], 2⟩) (fun _ => True) (fun _ => 0) () [0, 1] [] ⟨rfl, ⟨rfl, rfl, trivial⟩, trivial⟩ trivial ?_
  intro _ _
  repeat' ((conv => whnf); first | (refine br_dec (fun h => ?_) (fun h => ?_) <;> try (exfalso; (try dsimp only at h); omega)) | (refine br_ndec (fun h => ?_) (fun h => ?_) <;> try (exfalso; (try dsimp only at h); omega)) | refine br_seq (fun h => ?_) (fun h => ?_) | refine br_nseq (fun h => ?_) (fun h => ?_) | refine br_not (fun h => ?_) (fun h => ?_) | refine br_intro (fun h => ?_) (fun h => ?_) | refine cond_intro rfl ?_ | (refine cond_intro ⟨rfl, ?_⟩ ?_; (first | omega | (dsimp only; omega) | decide)) | (refine cond_intro ?_ ?_; (first | omega | (dsimp only; omega) | decide | (simp only [Nat.add_zero, Int.toNat_natCast, *]; omega))))
  all_goals (conv => whnf)
  all_goals first
    | exact ret_out (l := [0, 1]) rfl rfl trivial allRw_nil
    | (exfalso; omega)
    | trace_state
theorem pdq_pos0 : FC Tryz.prog 2 119 [.sl 1 0 0 0, .int .i64 0, .int .i64 0, .int .i64 0, .fn 72 []] [] (isOut (.tup []) [] 2) := by
  have c := ins_pos0
  refine fc_of mixed T_ok Tryz.func119 rfl (by kernel_rfl) (by kernel_rfl) (by kernel_rfl) ?_
  repeat' ((conv => whnf); first | (refine br_dec (fun h => ?_) (fun h => ?_) <;> try (exfalso; (try dsimp only at h); omega)) | (refine br_ndec (fun h => ?_) (fun h => ?_) <;> try (exfalso; (try dsimp only at h); omega)) | refine br_seq (fun h => ?_) (fun h => ?_) | refine br_nseq (fun h => ?_) (fun h => ?_) | refine br_not (fun h => ?_) (fun h => ?_) | refine br_intro (fun h => ?_) (fun h => ?_) | refine cond_intro rfl ?_ | (refine cond_intro ⟨rfl, ?_⟩ ?_; (first | omega | (dsimp only; omega) | decide)) | (refine cond_intro ?_ ?_; (first | omega | (dsimp only; omega) | decide | (simp only [Nat.add_zero, Int.toNat_natCast, *]; omega))))
  all_goals (conv => whnf)
  refine vloop_of (fun _ : Unit => ⟨[(0, .sl 1 0 0 0), (1, .int .i64 0), (2, .int .i64 0), (4, .fn 72 [])], [], 2⟩) (fun _ => True) (fun _ => 0) () [0, 1] [] ⟨rfl, ⟨rfl, rfl, rfl, rfl, trivial⟩, trivial⟩ trivial ?_
  intro _ _
  repeat' ((conv => whnf); first | (refine vcall_out (l :=  [0, 1]) (c ) ⟨rfl, rfl, rfl, rfl, (by (repeat' (first | exact trivial | exact GB_wf | exact fun _ _ => rfl | constructor)); first | done | fail), (by (repeat' (first | exact trivial | exact GB_fits rfl | constructor)); first | done | fail)⟩ ?_) | (refine vcallD_out (l :=  [0, 1]) (c ) ⟨rfl, rfl, rfl, rfl, (by (repeat' (first | exact trivial | exact GB_wf | exact fun _ _ => rfl | constructor)); first | done | fail), (by (repeat' (first | exact trivial | exact GB_fits rfl | constructor)); first | done | fail)⟩ ?_) | (refine br_dec (fun h => ?_) (fun h => ?_) <;> try (exfalso; (try dsimp only at h); omega)) | (refine br_ndec (fun h => ?_) (fun h => ?_) <;> try (exfalso; (try dsimp only at h); omega)) | refine br_seq (fun h => ?_) (fun h => ?_) | refine br_nseq (fun h => ?_) (fun h => ?_) | refine br_not (fun h => ?_) (fun h => ?_) | refine br_intro (fun h => ?_) (fun h => ?_) | refine cond_intro rfl ?_ | (refine cond_intro ⟨rfl, ?_⟩ ?_; (first | omega | (dsimp only; omega) | decide)) | (refine cond_intro ?_ ?_; (first | omega | (dsimp only; omega) | decide | (simp only [Nat.add_zero, Int.toNat_natCast, *]; omega))))
  all_goals (conv => whnf)
  all_goals first
    | exact ret_out (l := [0, 1]) rfl rfl trivial allRw_nil
    | (exfalso; omega)
    | trace_state
abbrev colPs (l : List Ps) : List Col := [.strs (l.map Ps.p), .ints .i64 (l.map Ps.a), .strs (l.map Ps.c)]
theorem getPs {α : Type} (f : Ps → α) (d : α) {l : List Ps} {i : Nat} (hi : i < l.length) : (l.map f).getD i d = f (l.toArray[i]!) := by
  rw [getElem!_pos l.toArray i (by simpa using hi)]
  simp [List.getD, hi]
theorem sort_pos (n : Nat) (l : List Ps) (hn : n ≤ 1000000) (hl : l.length = n) (hd : Dist_n l) : FC Tryz.prog 2 71 [.sl 1 0 0 n, .fn 72 []] [(1, some (.one false (psB n (pcOf l))))] (isOut (.tup []) [(1, some (.one false (psB n (pcOf (srt_n l)))))] 2) := by
  rw [← pdqL_srt hd]
  refine fc_sortK (α := Ps) colPs sorts_pos (bodied_of Tryz.func71 rfl rfl) (by decide) (fun _ => rfl) (fun _ => rfl) ?_ ?_ (fun x v hv => by simp at hv; rcases hv with rfl | rfl | rfl <;> rfl) (fun l => (pdqL_facts l).1.length_eq) n l (by omega) hl ?_
  · intro l j c hj
    rcases j with _ | _ | _ | j
    · cases hj; simp [Col.len]
    · cases hj; simp [Col.len]
    · cases hj; simp [Col.len]
    · simp [nth] at hj
  · intro l i j c hi hj
    rcases j with _ | _ | _ | j
    · cases hj; exact congrArg Value.string (getPs Ps.p _ hi)
    · cases hj; exact congrArg (Value.int .i64) (getPs Ps.a _ hi)
    · cases hj; exact congrArg Value.string (getPs Ps.c _ hi)
    · simp [nth] at hj
  · intro h0
    subst h0
    have c1 := bits_Len_0
    have c2 := pdq_pos0
    refine fc_of mixed T_ok Tryz.func71 rfl (by kernel_rfl) (by kernel_rfl) (by kernel_rfl) ?_
    repeat' ((conv => whnf); first | (refine vcall_pure (c1) rfl rfl rfl ?_) | (refine vcallD_pure (c1) rfl rfl rfl ?_) | (refine vcall_out (l :=  [0, 1]) (c2 ) ⟨rfl, rfl, rfl, rfl, (by (repeat' (first | exact trivial | exact GB_wf | exact fun _ _ => rfl | constructor)); first | done | fail), (by (repeat' (first | exact trivial | exact GB_fits rfl | constructor)); first | done | fail)⟩ ?_) | (refine vcallD_out (l :=  [0, 1]) (c2 ) ⟨rfl, rfl, rfl, rfl, (by (repeat' (first | exact trivial | exact GB_wf | exact fun _ _ => rfl | constructor)); first | done | fail), (by (repeat' (first | exact trivial | exact GB_fits rfl | constructor)); first | done | fail)⟩ ?_) | (refine br_dec (fun h => ?_) (fun h => ?_) <;> try (exfalso; (try dsimp only at h); omega)) | (refine br_ndec (fun h => ?_) (fun h => ?_) <;> try (exfalso; (try dsimp only at h); omega)) | refine br_seq (fun h => ?_) (fun h => ?_) | refine br_nseq (fun h => ?_) (fun h => ?_) | refine br_not (fun h => ?_) (fun h => ?_) | refine br_intro (fun h => ?_) (fun h => ?_) | refine cond_intro rfl ?_ | (refine cond_intro ⟨rfl, ?_⟩ ?_; (first | omega | (dsimp only; omega) | decide)) | (refine cond_intro ?_ ?_; (first | omega | (dsimp only; omega) | decide | (simp only [Nat.add_zero, Int.toNat_natCast, *]; omega))))
    all_goals (conv => whnf)
    all_goals first
      | exact ret_out (l := [0, 1]) rfl rfl ⟨rfl, trivial⟩ (allRw_cons allRw_nil)
      | trace_state
end Go.Proofs.YtkdjnmcaifejjaaGreatDoor

/- Contracts: the first error of positions, one by one. -/
namespace Go.Proofs.YtkdjnmcaifejjaaGreatDoor
open Go.RowKit Go.Sy
attribute [local irreducible] vcall vloop vcallD retP
set_option maxRecDepth 100000
set_option linter.unusedVariables false
set_option linter.unusedSimpArgs false

/-- The place of the first row of a party in a currency, or the number of rows. -/
abbrev ixL (R : List Ps) (p c : ByteArray) : Nat := sidx2 (R.map Ps.c) (R.map Ps.p) c p
theorem ixL_nil (p c : ByteArray) : ixL [] p c = 0 := rfl
theorem ixL_cons (x : Ps) (R : List Ps) (p c : ByteArray) : ixL (x :: R) p c = if x.c = c ∧ x.p = p then 0 else ixL R p c + 1 := by
  show (bif seq x.c c && seq x.p p then 0 else ixL R p c + 1) = _
  by_cases h : x.c = c ∧ x.p = p
  · rw [if_pos h, show (seq x.c c && seq x.p p) = true from by rw [Bool.and_eq_true, seq_true_n, seq_true_n]; exact h]; rfl
  · rw [if_neg h, show (seq x.c c && seq x.p p) = false from by
      cases e : (seq x.c c && seq x.p p) with
      | false => rfl
      | true => rw [Bool.and_eq_true, seq_true_n, seq_true_n] at e; exact absurd e h]; rfl
theorem ixL_le (p c : ByteArray) : ∀ R : List Ps, ixL R p c ≤ R.length
  | [] => Nat.le_refl _
  | x :: R => by
    have := ixL_le p c R
    rw [ixL_cons, List.length_cons]
    split <;> omega
theorem ixL_at (p c : ByteArray) : ∀ R : List Ps, ixL R p c < R.length → (R.getD (ixL R p c) ps0).c = c ∧ (R.getD (ixL R p c) ps0).p = p
  | [], h => by simp at h
  | x :: R, h => by
    rw [ixL_cons] at h ⊢
    by_cases hx : x.c = c ∧ x.p = p
    · rw [if_pos hx]; exact hx
    · rw [if_neg hx] at h ⊢
      rw [List.getD_cons_succ]
      exact ixL_at p c R (by simpa using h)
theorem ixL_min (p c : ByteArray) : ∀ (R : List Ps) (j : Nat), j < ixL R p c → ¬ ((R.getD j ps0).c = c ∧ (R.getD j ps0).p = p)
  | [], j, h => by simp [ixL_nil] at h
  | x :: R, j, h => by
    rw [ixL_cons] at h
    by_cases hx : x.c = c ∧ x.p = p
    · rw [if_pos hx] at h; omega
    · rw [if_neg hx] at h
      cases j with
      | zero => exact hx
      | succ j => rw [List.getD_cons_succ]; exact ixL_min p c R j (by omega)
theorem ixL_lt_iff (p c : ByteArray) (R : List Ps) : ixL R p c < R.length ↔ ∃ x, x ∈ R ∧ x.c = c ∧ x.p = p := by
  constructor
  · intro h
    have := ixL_at p c R h
    rw [List.getD, List.getElem?_eq_getElem h] at this
    exact ⟨_, List.getElem_mem h, this⟩
  · rintro ⟨x, hx, h1, h2⟩
    refine Nat.lt_of_not_le fun hle => ?_
    obtain ⟨j, hj, rfl⟩ := List.getElem_of_mem hx
    have := ixL_min p c R j (by omega)
    rw [List.getD, List.getElem?_eq_getElem hj] at this
    exact this ⟨h1, h2⟩
theorem atP_n (L : List Ps) (j : Nat) : (pcOf L).p.getD j ⟨#[]⟩ = (L.getD j ps0).p ∧ (pcOf L).a.getD j 0 = (L.getD j ps0).a ∧ (pcOf L).c.getD j ⟨#[]⟩ = (L.getD j ps0).c := by
  unfold pcOf
  simp only [List.getD, List.getElem?_map]
  cases L[j]? <;> exact ⟨rfl, rfl, rfl⟩
end Go.Proofs.YtkdjnmcaifejjaaGreatDoor

/- Contracts: positions are checked, one by one. -/
namespace Go.Proofs.YtkdjnmcaifejjaaGreatDoor
open Go.RowKit Go.Sy
attribute [local irreducible] vcall vloop vcallD retP
set_option maxRecDepth 100000
set_option linter.unusedVariables false
set_option linter.unusedSimpArgs false

/-- The error of a position, the earlier ones being known. -/
def erP (L : List Ps) (k : Nat) : Int := if nmB_n (L.getD k ps0).p = false then 5 else if mchk (L.getD k ps0).a (L.getD k ps0).c ≠ 0 then mchk (L.getD k ps0).a (L.getD k ps0).c else if ixL (L.take k) (L.getD k ps0).p (L.getD k ps0).c < k then 7 else 0
def sgE (L : List Ps) : Nat → Int
  | 0 => 0
  | k + 1 => if sgE L k ≠ 0 then sgE L k else erP L k
/-- The first error of positions. -/
def sgP (L : List Ps) : Int := if 512 < L.length then 3 else sgE L L.length
theorem sgE_stop {L : List Ps} {k : Nat} (h0 : sgE L k = 0) (h1 : erP L k ≠ 0) : ∀ n, k < n → sgE L n = erP L k
  | 0, hh => by omega
  | n + 1, hh => by
    simp only [sgE]
    by_cases e : k = n
    · subst e; rw [if_neg (by omega)]
    · rw [sgE_stop h0 h1 n (by omega), if_pos h1]
theorem sgE_zero {L : List Ps} : ∀ {n : Nat}, sgE L n = 0 → ∀ k, k < n → erP L k = 0
  | 0, _, k, hk => by omega
  | n + 1, h, k, hk => by
    simp only [sgE] at h
    split at h
    · rename_i h1; exact absurd h h1
    · rename_i h1
      by_cases e : k = n
      · subst e; exact h
      · exact sgE_zero (Classical.not_not.1 h1) k (by omega)
theorem erP_zero {L : List Ps} {k : Nat} (h : erP L k = 0) : nmB_n (L.getD k ps0).p = true ∧ mchk (L.getD k ps0).a (L.getD k ps0).c = 0 ∧ ¬ ixL (L.take k) (L.getD k ps0).p (L.getD k ps0).c < k := by
  unfold erP at h
  by_cases h1 : nmB_n (L.getD k ps0).p = false
  · rw [if_pos h1] at h; omega
  rw [if_neg h1] at h
  by_cases h2 : mchk (L.getD k ps0).a (L.getD k ps0).c ≠ 0
  · rw [if_pos h2] at h; exact absurd h h2
  rw [if_neg h2] at h
  by_cases h3 : ixL (L.take k) (L.getD k ps0).p (L.getD k ps0).c < k
  · rw [if_pos h3] at h; omega
  exact ⟨by simpa using h1, Classical.not_not.1 h2, h3⟩
/-- The rows that were seen. -/
abbrev ceS (m : Nat) (L : List Ps) (k : Nat) (V : List Bool) (bs : List Nat) (ck : Nat) : VS := ⟨[(3, .map 2 0), (11, .sl 1 0 0 m), (12, .int .i64 m), (13, .int .i64 k)], [(1, some (.one true (psB m (pcOf L)))), (2, some (.one false (.obj (.map true false k [.strs ((L.take k).map Ps.c), .strs ((L.take k).map Ps.p)] [.sc (.bools V)] bs ck))))], 3⟩
theorem putL_new {α : Type} {l : List α} {n : Nat} (h : l.length = n) (x : α) : putL n x l = l ++ [x] := by
  unfold putL; rw [if_neg (by omega)]
theorem rowNew {k ix : Nat} (h : ix = k) {C P : List ByteArray} {c p : ByteArray} {V bs : _} {ck : Nat} (q1 : putL k c C = C ++ [c]) (q2 : putL k p P = P ++ [p]) (q3 : putL k true V = V ++ [true]) :
    (some (HB.one false (.obj (.map true false (if ix < k then k else k + 1) [.strs (putL ix c C), .strs (putL ix p P)] [.sc (.bools (putL ix true V))] (if ix < k then bs else bs ++ [ck]) (if ix < k then ck else ck + 1)))) : Option HB) = some (.one false (.obj (.map true false (k + 1) [.strs (C ++ [c]), .strs (P ++ [p])] [.sc (.bools (V ++ [true]))] (bs ++ [ck]) (ck + 1)))) := by
  subst h
  rw [if_neg (by omega), if_neg (by omega), if_neg (by omega), q1, q2, q3]
theorem net_checkEach (L : List Ps) (m : Nat) (hm : L.length = m) (hl : m ≤ 100000) : FC Tryz.prog 2 118 [.sl 1 0 0 m] [(1, some (.one true (psB m (pcOf L))))] (isOut (.int .i64 (sgP L)) [] 2) := by
  unfold sgP
  by_cases h512 : 512 < L.length
  · rw [if_pos h512]
    refine fc_of mixed T_ok Tryz.func118 rfl (by kernel_rfl) (by kernel_rfl) (by kernel_rfl) ?_
    repeat' ((conv => whnf); first | (refine br_dec (fun h => ?_) (fun h => ?_) <;> try (exfalso; (try dsimp only at h); omega)) | (refine br_ndec (fun h => ?_) (fun h => ?_) <;> try (exfalso; (try dsimp only at h); omega)) | refine br_seq (fun h => ?_) (fun h => ?_) | refine br_nseq (fun h => ?_) (fun h => ?_) | refine br_not (fun h => ?_) (fun h => ?_) | refine br_intro (fun h => ?_) (fun h => ?_) | refine cond_intro rfl ?_ | (refine cond_intro ⟨rfl, ?_⟩ ?_; (first | omega | (dsimp only; omega) | decide)) | (refine cond_intro ?_ ?_; (first | omega | (dsimp only; omega) | decide | (simp only [Nat.add_zero, Int.toNat_natCast, *]; omega))))
    all_goals (conv => whnf)
    all_goals first
      | exact ret_out (l := [0, 1]) rfl rfl trivial allRw_nil
      | (exfalso; omega)
  rw [if_neg h512]
  refine fc_of mixed T_ok Tryz.func118 rfl (by kernel_rfl) (by kernel_rfl) (by kernel_rfl) ?_
  repeat' ((conv => whnf); first | (refine br_dec (fun h => ?_) (fun h => ?_) <;> try (exfalso; (try dsimp only at h); omega)) | (refine br_ndec (fun h => ?_) (fun h => ?_) <;> try (exfalso; (try dsimp only at h); omega)) | refine br_seq (fun h => ?_) (fun h => ?_) | refine br_nseq (fun h => ?_) (fun h => ?_) | refine br_not (fun h => ?_) (fun h => ?_) | refine br_intro (fun h => ?_) (fun h => ?_) | refine cond_intro rfl ?_ | (refine cond_intro ⟨rfl, ?_⟩ ?_; (first | omega | (dsimp only; omega) | decide)) | (refine cond_intro ?_ ?_; (first | omega | (dsimp only; omega) | decide | (simp only [Nat.add_zero, Int.toNat_natCast, *]; omega))))
  all_goals (conv => whnf)
  all_goals first
    | (exfalso; omega)
    | skip
  refine vloop_lp (fun x : Nat × List Bool × List Nat × Nat => ceS m L x.1 x.2.1 x.2.2.1 x.2.2.2) (fun x => x.1 ≤ m ∧ sgE L x.1 = 0 ∧ x.2.1.length = x.1 ∧ ∀ j, j < x.1 → x.2.1.getD j false = true) (fun x => m - x.1) (0, [], [], 0) [0, 1, 2] [] ⟨rfl, ⟨rfl, rfl, rfl, rfl, trivial⟩, ⟨rfl, rfl, trivial⟩⟩ ⟨Nat.zero_le _, rfl, rfl, fun j hj => by simp at hj⟩ ?_
  rintro ⟨k, V, bs, ck⟩ ⟨hk, h0, hv, hV⟩
  dsimp only at hk h0 hv hV
  by_cases hk2 : k < m
  · obtain ⟨a1, a2, a3⟩ := atP_n L k
    have c1 := net_isName ((pcOf L).p.getD k ⟨#[]⟩)
    have c2 := money_Check ((pcOf L).a.getD k 0) ((pcOf L).c.getD k ⟨#[]⟩)
    have c3 := net_placeOf ((pcOf L).p.getD k ⟨#[]⟩) ((pcOf L).a.getD k 0) ((pcOf L).c.getD k ⟨#[]⟩)
    have hx1 : erP L k = if nmB_n ((pcOf L).p.getD k ⟨#[]⟩) = false then 5 else if mchk ((pcOf L).a.getD k 0) ((pcOf L).c.getD k ⟨#[]⟩) ≠ 0 then mchk ((pcOf L).a.getD k 0) ((pcOf L).c.getD k ⟨#[]⟩) else if ixL (L.take k) ((pcOf L).p.getD k ⟨#[]⟩) ((pcOf L).c.getD k ⟨#[]⟩) < k then 7 else 0 := by rw [a1, a2, a3]; rfl
    have hst : sgE L (k + 1) = erP L k := by simp only [sgE]; rw [if_neg (by omega)]
    have hsp : erP L k ≠ 0 → sgE L m = erP L k := fun h => sgE_stop h0 h m hk2
    have hle := ixL_le ((pcOf L).p.getD k ⟨#[]⟩) ((pcOf L).c.getD k ⟨#[]⟩) (L.take k)
    have hkl : (L.take k).length = k := by rw [List.length_take]; omega
    rw [hkl] at hle
    have htk : L.take (k + 1) = L.take k ++ [L.getD k ps0] := by
      rw [List.take_succ_eq_append_getElem (by omega), List.getD, List.getElem?_eq_getElem (by omega)]; rfl
    have hc1 : (L.take (k + 1)).map Ps.c = (L.take k).map Ps.c ++ [((pcOf L).c.getD k ⟨#[]⟩)] := by rw [htk, List.map_append, a3]; rfl
    have hp1 : (L.take (k + 1)).map Ps.p = (L.take k).map Ps.p ++ [((pcOf L).p.getD k ⟨#[]⟩)] := by rw [htk, List.map_append, a1]; rfl
    rw [hm]
    unfold ceS
    dsimp only
    by_cases hnb : nmB_n ((pcOf L).p.getD k ⟨#[]⟩) = false
    · rw [if_pos hnb] at hx1
      rw [hnb] at c1
      rw [hsp (by omega), hx1]
      repeat' ((conv => whnf); first | (refine vcall_pure (c1) rfl rfl rfl ?_) | (refine vcallD_pure (c1) rfl rfl rfl ?_) | (refine vcall_pure (c2) rfl rfl rfl ?_) | (refine vcallD_pure (c2) rfl rfl rfl ?_) | (refine vcall_pure (c3) rfl rfl rfl ?_) | (refine vcallD_pure (c3) rfl rfl rfl ?_) | (refine br_dec (fun h => ?_) (fun h => ?_) <;> try (exfalso; (try dsimp only at h); omega)) | (refine br_ndec (fun h => ?_) (fun h => ?_) <;> try (exfalso; (try dsimp only at h); omega)) | refine br_seq (fun h => ?_) (fun h => ?_) | refine br_nseq (fun h => ?_) (fun h => ?_) | refine br_not (fun h => ?_) (fun h => ?_) | refine br_intro (fun h => ?_) (fun h => ?_) | refine cond_intro rfl ?_ | (refine cond_intro ⟨rfl, ?_⟩ ?_; (first | omega | (dsimp only; omega) | decide)) | (refine cond_intro ?_ ?_; (first | omega | (dsimp only; omega) | decide | (simp only [Nat.add_zero, Int.toNat_natCast, *]; omega))))
      all_goals (conv => whnf)
      all_goals first
        | exact ret_out (l := [0, 1]) rfl rfl trivial allRw_nil
        | (exfalso; omega)
        | trace_state
    rw [if_neg hnb] at hx1
    rw [show nmB_n ((pcOf L).p.getD k ⟨#[]⟩) = true by simpa using hnb] at c1
    by_cases hmc : mchk ((pcOf L).a.getD k 0) ((pcOf L).c.getD k ⟨#[]⟩) ≠ 0
    · rw [if_pos hmc] at hx1
      rw [hsp (by omega), hx1]
      generalize mchk ((pcOf L).a.getD k 0) ((pcOf L).c.getD k ⟨#[]⟩) = mc at *
      repeat' ((conv => whnf); first | (refine vcall_pure (c1) rfl rfl rfl ?_) | (refine vcallD_pure (c1) rfl rfl rfl ?_) | (refine vcall_pure (c2) rfl rfl rfl ?_) | (refine vcallD_pure (c2) rfl rfl rfl ?_) | (refine vcall_pure (c3) rfl rfl rfl ?_) | (refine vcallD_pure (c3) rfl rfl rfl ?_) | (refine br_dec (fun h => ?_) (fun h => ?_) <;> try (exfalso; (try dsimp only at h); omega)) | (refine br_ndec (fun h => ?_) (fun h => ?_) <;> try (exfalso; (try dsimp only at h); omega)) | refine br_seq (fun h => ?_) (fun h => ?_) | refine br_nseq (fun h => ?_) (fun h => ?_) | refine br_not (fun h => ?_) (fun h => ?_) | refine br_intro (fun h => ?_) (fun h => ?_) | refine cond_intro rfl ?_ | (refine cond_intro ⟨rfl, ?_⟩ ?_; (first | omega | (dsimp only; omega) | decide)) | (refine cond_intro ?_ ?_; (first | omega | (dsimp only; omega) | decide | (simp only [Nat.add_zero, Int.toNat_natCast, *]; omega))))
      all_goals (conv => whnf)
      all_goals first
        | exact ret_out (l := [0, 1]) rfl rfl trivial allRw_nil
        | (exfalso; omega)
        | trace_state
    rw [if_neg hmc] at hx1
    rw [Classical.not_not.1 hmc] at c2
    by_cases hix : ixL (L.take k) ((pcOf L).p.getD k ⟨#[]⟩) ((pcOf L).c.getD k ⟨#[]⟩) < k
    · rw [if_pos hix] at hx1
      rw [hsp (by omega), hx1]
      have hv1 := hV _ hix
      repeat' ((conv => whnf); first | (refine vcall_pure (c1) rfl rfl rfl ?_) | (refine vcallD_pure (c1) rfl rfl rfl ?_) | (refine vcall_pure (c2) rfl rfl rfl ?_) | (refine vcallD_pure (c2) rfl rfl rfl ?_) | (refine vcall_pure (c3) rfl rfl rfl ?_) | (refine vcallD_pure (c3) rfl rfl rfl ?_) | (refine br_dec (fun h => ?_) (fun h => ?_) <;> try (exfalso; (try dsimp only at h); omega)) | (refine br_ndec (fun h => ?_) (fun h => ?_) <;> try (exfalso; (try dsimp only at h); omega)) | refine br_seq (fun h => ?_) (fun h => ?_) | refine br_nseq (fun h => ?_) (fun h => ?_) | refine br_not (fun h => ?_) (fun h => ?_) | refine br_intro (fun h => ?_) (fun h => ?_) | refine cond_intro rfl ?_ | (refine cond_intro ⟨rfl, ?_⟩ ?_; (first | omega | (dsimp only; omega) | decide)) | (refine cond_intro ?_ ?_; (first | omega | (dsimp only; omega) | decide | (simp only [Nat.add_zero, Int.toNat_natCast, *]; omega))))
      all_goals (conv => whnf)
      all_goals first
        | exact ret_out (l := [0, 1]) rfl rfl trivial allRw_nil
        | (exfalso; first | omega | (rw [hv1] at h; cases h; done) | contradiction)
        | trace_state
    · rw [if_neg hix] at hx1
      have hik : ixL (L.take k) ((pcOf L).p.getD k ⟨#[]⟩) ((pcOf L).c.getD k ⟨#[]⟩) = k := by omega
      have hv1 : V.getD k false = false := by rw [List.getD, List.getElem?_eq_none (by omega)]; rfl
      have hVn : ∀ j, j < k + 1 → (V ++ [true]).getD j false = true := by
        intro j hj
        by_cases e : j = k
        · subst e; rw [List.getD, List.getElem?_append_right (by omega)]; simp [hv]
        · have := hV j (by omega)
          rw [List.getD, List.getElem?_append_left (by omega)]; exact this
      have q1 := putL_new (show ((L.take k).map Ps.c).length = k by simpa using hkl) ((pcOf L).c.getD k ⟨#[]⟩)
      have q2 := putL_new (show ((L.take k).map Ps.p).length = k by simpa using hkl) ((pcOf L).p.getD k ⟨#[]⟩)
      have q3 := putL_new hv true
      repeat' ((conv => whnf); first | (rw [hik]) | (rw [hv1]) | (refine vcall_pure (c1) rfl rfl rfl ?_) | (refine vcallD_pure (c1) rfl rfl rfl ?_) | (refine vcall_pure (c2) rfl rfl rfl ?_) | (refine vcallD_pure (c2) rfl rfl rfl ?_) | (refine vcall_pure (c3) rfl rfl rfl ?_) | (refine vcallD_pure (c3) rfl rfl rfl ?_) | (refine br_dec (fun h => ?_) (fun h => ?_) <;> try (exfalso; (try dsimp only at h); omega)) | (refine br_ndec (fun h => ?_) (fun h => ?_) <;> try (exfalso; (try dsimp only at h); omega)) | refine br_seq (fun h => ?_) (fun h => ?_) | refine br_nseq (fun h => ?_) (fun h => ?_) | refine br_not (fun h => ?_) (fun h => ?_) | refine br_intro (fun h => ?_) (fun h => ?_) | refine cond_intro rfl ?_ | (refine cond_intro ⟨rfl, ?_⟩ ?_; (first | omega | (dsimp only; omega) | decide)) | (refine cond_intro ?_ ?_; (first | omega | (dsimp only; omega) | decide | (simp only [Nat.add_zero, Int.toNat_natCast, *]; omega))))
      all_goals (conv => whnf)
      · exfalso
        rw [show sidx2 (List.map Ps.c (List.take k L)) (List.map Ps.p (List.take k L)) ((pcOf L).c.getD k ⟨#[]⟩) ((pcOf L).p.getD k ⟨#[]⟩) = k from hik, hv1] at h
        cases h
      · rename_i h1 h2
        refine ⟨(k + 1, V ++ [true], bs ++ [ck], ck + 1), [0, 1, 2], [], ⟨hk2, hst.trans hx1, by simp [hv], hVn⟩, (show m - (k + 1) < m - k by omega), ⟨rfl, ⟨rfl, rfl, rfl, congrArg (fun z => some (SV.int .i64 z)) (i64_succ (by omega)), trivial⟩, ⟨rfl, ?_, trivial⟩⟩⟩
        rw [hc1, hp1]
        exact rowNew hik q1 q2 q3
  · have e : k = m := by omega
    subst e
    rw [hm, h0]
    unfold ceS
    repeat' ((conv => whnf); first | (refine br_dec (fun h => ?_) (fun h => ?_) <;> try (exfalso; (try dsimp only at h); omega)) | (refine br_ndec (fun h => ?_) (fun h => ?_) <;> try (exfalso; (try dsimp only at h); omega)) | refine br_seq (fun h => ?_) (fun h => ?_) | refine br_nseq (fun h => ?_) (fun h => ?_) | refine br_not (fun h => ?_) (fun h => ?_) | refine br_intro (fun h => ?_) (fun h => ?_) | refine cond_intro rfl ?_ | (refine cond_intro ⟨rfl, ?_⟩ ?_; (first | omega | (dsimp only; omega) | decide)) | (refine cond_intro ?_ ?_; (first | omega | (dsimp only; omega) | decide | (simp only [Nat.add_zero, Int.toNat_natCast, *]; omega))))
    all_goals (conv => whnf)
    all_goals first
      | exact ret_out (l := [0, 1]) rfl rfl trivial allRw_nil
      | (exfalso; omega)
      | trace_state
end Go.Proofs.YtkdjnmcaifejjaaGreatDoor

/- Contracts: positions and their sums are checked. -/
namespace Go.Proofs.YtkdjnmcaifejjaaGreatDoor
open Go.RowKit Go.Sy
attribute [local irreducible] vcall vloop vcallD retP
set_option maxRecDepth 100000
set_option linter.unusedVariables false
set_option linter.unusedSimpArgs false

/-- The sum of the positions of a currency. -/
def sumC : List Ps → ByteArray → Int
  | [], _ => 0
  | x :: L, c => (if x.c = c then x.a else 0) + sumC L c
theorem sumC_append (A B : List Ps) (c : ByteArray) : sumC (A ++ B) c = sumC A c + sumC B c := by
  induction A with
  | nil => simp [sumC]
  | cons x A ih => simp only [List.cons_append, sumC, ih, Int.add_assoc]
theorem sumC_no {L : List Ps} {c : ByteArray} (h : ∀ x ∈ L, x.c ≠ c) : sumC L c = 0 := by
  induction L with
  | nil => rfl
  | cons x L ih =>
    simp only [sumC]
    rw [if_neg (h x (by simp)), ih (fun y hy => h y (by simp [hy]))]; rfl
theorem take_getD_n {L : List Ps} {k : Nat} (hk : k < L.length) : L.take (k + 1) = L.take k ++ [L.getD k ps0] := by
  rw [List.take_succ_eq_append_getElem hk, List.getD, List.getElem?_eq_getElem hk]; rfl
theorem sumC_step {L : List Ps} {k : Nat} (hk : k < L.length) (c : ByteArray) : sumC (L.take (k + 1)) c = sumC (L.take k) c + if (L.getD k ps0).c = c then (L.getD k ps0).a else 0 := by
  rw [take_getD_n hk, sumC_append]; simp [sumC]
theorem sumC_bd {L : List Ps} (h : ∀ k, k < L.length → -4503599627370496 ≤ (L.getD k ps0).a ∧ (L.getD k ps0).a ≤ 4503599627370496) (c : ByteArray) : ∀ k : Nat, k ≤ L.length → -4503599627370496 * (k : Int) ≤ sumC (L.take k) c ∧ sumC (L.take k) c ≤ 4503599627370496 * (k : Int)
  | 0, _ => by simp [sumC]
  | k + 1, hk => by
    have ih := sumC_bd h c k (by omega)
    have := h k (by omega)
    rw [sumC_step (by omega)]
    split <;> omega
/-- All sums are zero. -/
def balB (L : List Ps) : Bool := L.all (fun x => decide (sumC L x.c = 0))
theorem balB_iff {L : List Ps} : balB L = true ↔ ∀ c, sumC L c = 0 := by
  unfold balB
  rw [List.all_eq_true]
  constructor
  · intro h c
    by_cases hc : ∃ x ∈ L, x.c = c
    · obtain ⟨x, hx, rfl⟩ := hc
      exact of_decide_eq_true (h x hx)
    · exact sumC_no fun x hx e => hc ⟨x, hx, e⟩
  · exact fun h x _ => decide_eq_true (h _)
/-- The error of positions. -/
def ckP (L : List Ps) : Int := if sgP L ≠ 0 then sgP L else if balB L = true then 0 else 26
theorem mchk_bd {a : Int} {c : ByteArray} (h : mchk a c = 0) : curB c = true ∧ -4503599627370496 ≤ a ∧ a ≤ 4503599627370496 := by
  rcases mchk_or a c with h1 | h1
  · omega
  · exact h1.2
theorem sgP_zero {L : List Ps} (h : sgP L = 0) : L.length ≤ 512 ∧ ∀ k, k < L.length → erP L k = 0 := by
  unfold sgP at h
  split at h
  · omega
  · exact ⟨by omega, sgE_zero h⟩
theorem sgP_bd {L : List Ps} (h : sgP L = 0) (k : Nat) (hk : k < L.length) : -4503599627370496 ≤ (L.getD k ps0).a ∧ (L.getD k ps0).a ≤ 4503599627370496 := (mchk_bd (erP_zero ((sgP_zero h).2 k hk)).2.1).2
/-- What a map of sums holds. -/
structure SmI (L : List Ps) (k n : Nat) (C : List ByteArray) (W : List Int) : Prop where
  c : C.length = n
  w : W.length = n
  nd : C.Nodup
  all : ∀ c, (if sidx C c < n then W.getD (sidx C c) 0 else 0) = sumC (L.take k) c
theorem smI_zero (L : List Ps) : SmI L 0 0 [] [] := ⟨rfl, rfl, List.nodup_nil, fun c => by simp [sumC]⟩
theorem putL_lt {α : Type} {l : List α} {i : Nat} (h : i < l.length) (x : α) : putL i x l = l.set i x := by unfold putL; rw [if_pos h]
theorem smI_step {L : List Ps} {k n : Nat} {C : List ByteArray} {W : List Int} (hI : SmI L k n C W) (hk : k < L.length) (v : Int) (hv : v = sumC (L.take k) (L.getD k ps0).c + (L.getD k ps0).a) :
    SmI L (k + 1) (if sidx C (L.getD k ps0).c < n then n else n + 1) (putL (sidx C (L.getD k ps0).c) (L.getD k ps0).c C) (putL (sidx C (L.getD k ps0).c) v W) := by
  generalize hx : L.getD k ps0 = x at *
  obtain ⟨hc, hw, hnd, hall⟩ := hI
  have hle := Go.Sy.sidx_le C x.c
  by_cases h : sidx C x.c < n
  · have e1 : putL (sidx C x.c) x.c C = C := by rw [put_key, if_pos (by omega)]
    rw [if_pos h, e1, putL_lt (by omega)]
    refine ⟨hc, by simp [hw], hnd, fun c => ?_⟩
    rw [sumC_step hk, hx]
    by_cases ec : x.c = c
    · subst ec
      rw [if_pos h, if_pos rfl, List.getD, List.getElem?_set_self (by omega)]
      exact hv
    · rw [if_neg ec, Int.add_zero, ← hall c]
      by_cases h2 : sidx C c < n
      · rw [if_pos h2, if_pos h2]
        have hne : sidx C x.c ≠ sidx C c := by
          intro e
          have g1 := sidx_get (l := C) (s := x.c) (by omega)
          have g2 := sidx_get (l := C) (s := c) (by omega)
          rw [e, g2] at g1
          exact ec (Option.some.inj g1).symm
        rw [List.getD, List.getD, List.getElem?_set_ne hne]
      · rw [if_neg h2, if_neg h2]
  · have hn : sidx C x.c = n := by omega
    rw [if_neg h, hn]
    have e1 := putL_new hc x.c
    have e2 := putL_new hw v
    rw [e1, e2]
    have hni : x.c ∉ C := fun hm => h (by rw [← hc]; exact sidx_lt.2 hm)
    have hnd' : (C ++ [x.c]).Nodup := List.nodup_append.2 ⟨hnd, by simp, fun a ha b hb e => by simp at hb; subst hb; subst e; exact hni ha⟩
    refine ⟨by simp [hc], by simp [hw], hnd', fun c => ?_⟩
    rw [sumC_step hk, hx, ← hall c]
    by_cases ec : x.c = c
    · subst ec
      have e3 : sidx (C ++ [x.c]) x.c = n := sidx_of_get hnd' (by rw [List.getElem?_append_right (by omega)]; simp [hc])
      rw [e3, if_pos (by omega), if_neg h, if_pos rfl, List.getD, List.getElem?_append_right (by omega)]
      simp only [hw, Nat.sub_self, List.getElem?_cons_zero, Option.getD_some]
      have := hall x.c
      rw [if_neg h] at this
      omega
    · rw [if_neg ec, Int.add_zero]
      by_cases h2 : sidx C c < n
      · have e3 : sidx (C ++ [x.c]) c = sidx C c := sidx_of_get hnd' (by rw [List.getElem?_append_left (by omega)]; exact sidx_get (by omega))
        rw [e3, if_pos (by omega), if_pos h2, List.getD, List.getD, List.getElem?_append_left (by omega)]
      · have hnm : c ∉ C ++ [x.c] := by
          intro hm
          rcases List.mem_append.1 hm with hm | hm
          · exact h2 (by rw [← hc]; exact sidx_lt.2 hm)
          · simp at hm; exact ec hm.symm
        rw [if_neg h2, if_neg]
        intro h3
        exact hnm (sidx_lt.1 (by rw [List.length_append, hc]; simpa using h3))
theorem smI_row {L : List Ps} {k n : Nat} {C : List ByteArray} {W : List Int} (hI : SmI L k n C W) {i : Nat} (hi : i < n) : W.getD i 0 = sumC (L.take k) (C.getD i ⟨#[]⟩) := by
  have e : sidx C (C.getD i ⟨#[]⟩) = i := sidx_of_get hI.nd (by rw [List.getD, List.getElem?_eq_getElem (by have := hI.c; omega)]; rfl)
  have := hI.all (C.getD i ⟨#[]⟩)
  rw [e, if_pos hi] at this
  exact this
theorem smI_nz {L : List Ps} {n : Nat} {C : List ByteArray} {W : List Int} (hI : SmI L L.length n C W) {i : Nat} (hi : i < n) (h : W.getD i 0 ≠ 0) : balB L = false := by
  cases hb : balB L with
  | false => rfl
  | true =>
    have := smI_row hI hi
    rw [List.take_length, balB_iff.1 hb] at this
    exact absurd this h
theorem smI_z {L : List Ps} {n : Nat} {C : List ByteArray} {W : List Int} (hI : SmI L L.length n C W) (h : ∀ i, i < n → W.getD i 0 = 0) : balB L = true := by
  refine balB_iff.2 fun c => ?_
  have := hI.all c
  rw [List.take_length] at this
  rw [← this]
  split
  · rename_i h1; exact h _ h1
  · rfl
abbrev ncS (m : Nat) (L : List Ps) (x : Nat × Nat × List ByteArray × List Int × List Nat × Nat) : VS := ⟨[(4, .map 2 0), (15, .sl 1 0 0 m), (16, .int .i64 m), (17, .int .i64 x.1)], [(1, some (.one true (psB m (pcOf L)))), (2, some (.one false (.obj (.map false false x.2.1 [.strs x.2.2.1] [.sc (.ints .i64 x.2.2.2.1)] x.2.2.2.2.1 x.2.2.2.2.2))))], 3⟩
theorem net_Check (L : List Ps) (m : Nat) (hm : L.length = m) (hl : m ≤ 100000) : FC Tryz.prog 2 69 [.sl 1 0 0 m] [(1, some (.one true (psB m (pcOf L))))] (isOut (.int .i64 (ckP L)) [] 2) := by
  have c1 := net_checkEach L m hm hl
  unfold ckP
  by_cases hsg : sgP L ≠ 0
  · rw [if_pos hsg]
    generalize sgP L = sg at *
    refine fc_of mixed T_ok Tryz.func69 rfl (by kernel_rfl) (by kernel_rfl) (by kernel_rfl) ?_
    repeat' ((conv => whnf); first | (refine vcall_out (l :=  [0, 1]) (c1 ) ⟨rfl, rfl, rfl, rfl, (by (repeat' (first | exact trivial | exact GB_wf | exact fun _ _ => rfl | constructor)); first | done | fail), (by (repeat' (first | exact trivial | exact GB_fits rfl | constructor)); first | done | fail)⟩ ?_) | (refine br_dec (fun h => ?_) (fun h => ?_) <;> try (exfalso; (try dsimp only at h); omega)) | (refine br_ndec (fun h => ?_) (fun h => ?_) <;> try (exfalso; (try dsimp only at h); omega)) | refine br_seq (fun h => ?_) (fun h => ?_) | refine br_nseq (fun h => ?_) (fun h => ?_) | refine br_not (fun h => ?_) (fun h => ?_) | refine br_intro (fun h => ?_) (fun h => ?_) | refine cond_intro rfl ?_ | (refine cond_intro ⟨rfl, ?_⟩ ?_; (first | omega | (dsimp only; omega) | decide)) | (refine cond_intro ?_ ?_; (first | omega | (dsimp only; omega) | decide | (simp only [Nat.add_zero, Int.toNat_natCast, *]; omega))))
    all_goals (conv => whnf)
    all_goals first
      | exact ret_out (l := [0, 1]) rfl rfl trivial allRw_nil
      | (exfalso; omega)
      | trace_state
  rw [if_neg hsg]
  have hz := Classical.not_not.1 hsg
  rw [hz] at c1
  have hbd := sgP_bd hz
  have h512 := (sgP_zero hz).1
  have hsum := fun c k hk => sumC_bd hbd c k hk
  refine fc_of mixed T_ok Tryz.func69 rfl (by kernel_rfl) (by kernel_rfl) (by kernel_rfl) ?_
  repeat' ((conv => whnf); first | (refine vcall_out (l :=  [0, 1]) (c1 ) ⟨rfl, rfl, rfl, rfl, (by (repeat' (first | exact trivial | exact GB_wf | exact fun _ _ => rfl | constructor)); first | done | fail), (by (repeat' (first | exact trivial | exact GB_fits rfl | constructor)); first | done | fail)⟩ ?_) | (refine br_dec (fun h => ?_) (fun h => ?_) <;> try (exfalso; (try dsimp only at h); omega)) | (refine br_ndec (fun h => ?_) (fun h => ?_) <;> try (exfalso; (try dsimp only at h); omega)) | refine br_seq (fun h => ?_) (fun h => ?_) | refine br_nseq (fun h => ?_) (fun h => ?_) | refine br_not (fun h => ?_) (fun h => ?_) | refine br_intro (fun h => ?_) (fun h => ?_) | refine cond_intro rfl ?_ | (refine cond_intro ⟨rfl, ?_⟩ ?_; (first | omega | (dsimp only; omega) | decide)) | (refine cond_intro ?_ ?_; (first | omega | (dsimp only; omega) | decide | (simp only [Nat.add_zero, Int.toNat_natCast, *]; omega))))
  all_goals (conv => whnf)
  refine vloop_lp (ncS m L) (fun x => x.1 ≤ m ∧ SmI L x.1 x.2.1 x.2.2.1 x.2.2.2.1) (fun x => m - x.1) (0, 0, [], [], [], 0) [0, 1, 2] [] ⟨rfl, ⟨rfl, rfl, rfl, rfl, trivial⟩, ⟨rfl, rfl, trivial⟩⟩ ⟨Nat.zero_le _, smI_zero L⟩ ?_
  rintro ⟨k, n, C, W, bs, ck⟩ ⟨hk, hI⟩
  dsimp only at hk hI
  by_cases hk2 : k < m
  · obtain ⟨a1, a2, a3⟩ := atP_n L k
    have hv := hI.all (L.getD k ps0).c
    have hb1 := hsum (L.getD k ps0).c k (by omega)
    have hb2 := hbd k (by omega)
    have hv2 : W.getD (sidx C (L.getD k ps0).c) 0 = sumC (L.take k) (L.getD k ps0).c := by
      rw [← hv]
      split
      · rfl
      · rw [List.getD, List.getElem?_eq_none (by have := hI.w; omega)]; rfl
    have hst := smI_step hI (by omega) (IntKind.i64.wrap (W.getD (sidx C (L.getD k ps0).c) 0 + (L.getD k ps0).a)) (by rw [hv2]; exact w64_in (by omega) (by omega))
    rw [← a3, ← a2] at hst
    clear hv hb1 hb2 hv2 a1 a2 a3
    unfold ncS
    dsimp only
    repeat' ((conv => whnf); first | (refine br_dec (fun h => ?_) (fun h => ?_) <;> try (exfalso; (try dsimp only at h); omega)) | (refine br_ndec (fun h => ?_) (fun h => ?_) <;> try (exfalso; (try dsimp only at h); omega)) | refine br_seq (fun h => ?_) (fun h => ?_) | refine br_nseq (fun h => ?_) (fun h => ?_) | refine br_not (fun h => ?_) (fun h => ?_) | refine br_intro (fun h => ?_) (fun h => ?_) | refine cond_intro rfl ?_ | (refine cond_intro ⟨rfl, ?_⟩ ?_; (first | omega | (dsimp only; omega) | decide)) | (refine cond_intro ?_ ?_; (first | omega | (dsimp only; omega) | decide | (simp only [Nat.add_zero, Int.toNat_natCast, *]; omega))))
    all_goals (conv => whnf)
    all_goals first
      | exact ⟨(k + 1, (if sidx C ((pcOf L).c.getD k ⟨#[]⟩) < n then n else n + 1), putL (sidx C ((pcOf L).c.getD k ⟨#[]⟩)) ((pcOf L).c.getD k ⟨#[]⟩) C, putL (sidx C ((pcOf L).c.getD k ⟨#[]⟩)) (IntKind.i64.wrap (W.getD (sidx C ((pcOf L).c.getD k ⟨#[]⟩)) 0 + (pcOf L).a.getD k 0)) W, (if sidx C ((pcOf L).c.getD k ⟨#[]⟩) < n then bs else bs ++ [ck]), (if sidx C ((pcOf L).c.getD k ⟨#[]⟩) < n then ck else ck + 1)), [0, 1, 2], [], ⟨hk2, hst⟩, (show m - (k + 1) < m - k by omega), ⟨rfl, ⟨rfl, rfl, rfl, congrArg (fun z => some (SV.int .i64 z)) (i64_succ (by omega)), trivial⟩, ⟨rfl, rfl, trivial⟩⟩⟩
      | (exfalso; omega)
      | trace_state
  · have e : k = m := by omega
    subst e
    have hI' : SmI L L.length n C W := by rw [hm]; exact hI
    have hnz := fun (i : Nat) (hi : i < n) h => smI_nz hI' hi h
    have hzz := smI_z hI'
    unfold ncS
    dsimp only
    repeat' ((conv => whnf); first | (refine br_dec (fun h => ?_) (fun h => ?_) <;> try (exfalso; (try dsimp only at h); omega)) | (refine br_ndec (fun h => ?_) (fun h => ?_) <;> try (exfalso; (try dsimp only at h); omega)) | refine br_seq (fun h => ?_) (fun h => ?_) | refine br_nseq (fun h => ?_) (fun h => ?_) | refine br_not (fun h => ?_) (fun h => ?_) | refine br_intro (fun h => ?_) (fun h => ?_) | refine cond_intro rfl ?_ | (refine cond_intro ⟨rfl, ?_⟩ ?_; (first | omega | (dsimp only; omega) | decide)) | (refine cond_intro ?_ ?_; (first | omega | (dsimp only; omega) | decide | (simp only [Nat.add_zero, Int.toNat_natCast, *]; omega))))
    all_goals (conv => whnf)
    all_goals first
      | (exfalso; omega)
      | skip
    refine vloop_of (fun sn : List Nat => ⟨[(32, .ptr 3 0 0 0)], [(2, some (.one false (.obj (.map false false n [.strs C] [.sc (.ints .i64 W)] bs ck)))), (3, some (.one false (.obj (.iter 2 0 bs ck sn))))], 4⟩) (fun sn => sn.Nodup ∧ (∀ i ∈ sn, i < n) ∧ ∀ i ∈ sn, W.getD i 0 = 0) (fun sn => n - sn.length) [] [0, 1, 2, 3] [] ⟨rfl, ⟨rfl, trivial⟩, ⟨rfl, rfl, trivial⟩⟩ ⟨List.nodup_nil, by simp, by simp⟩ ?_
    rintro sn ⟨hd, hl2, hzr⟩
    repeat' ((conv => whnf); first | (refine ⟨⟨rfl, rfl⟩, fun i hi hni => ?_, fun hall => ?_⟩) | (refine br_dec (fun h => ?_) (fun h => ?_) <;> try (exfalso; (try dsimp only at h); omega)) | (refine br_ndec (fun h => ?_) (fun h => ?_) <;> try (exfalso; (try dsimp only at h); omega)) | refine br_seq (fun h => ?_) (fun h => ?_) | refine br_nseq (fun h => ?_) (fun h => ?_) | refine br_not (fun h => ?_) (fun h => ?_) | refine br_intro (fun h => ?_) (fun h => ?_) | refine cond_intro rfl ?_ | (refine cond_intro ⟨rfl, ?_⟩ ?_; (first | omega | (dsimp only; omega) | decide)) | (refine cond_intro ?_ ?_; (first | omega | (dsimp only; omega) | decide | (simp only [Nat.add_zero, Int.toNat_natCast, *]; omega))))
    all_goals (conv => whnf)
    · rw [hnz _ hi (by assumption), if_neg (by decide)]
      exact ret_out (l := [0, 1]) rfl rfl trivial allRw_nil
    · have := nodup_cons_lt hd hl2 hi hni
      refine ⟨i :: sn, [0, 1, 2, 3], [], ⟨List.nodup_cons.2 ⟨hni, hd⟩, fun x hx => ?_, fun x hx => ?_⟩, by simp only [List.length_cons]; omega, ⟨rfl, ⟨rfl, trivial⟩, ⟨rfl, rfl, trivial⟩⟩⟩
      · rcases List.mem_cons.1 hx with rfl | hx
        · exact hi
        · exact hl2 x hx
      · rcases List.mem_cons.1 hx with rfl | hx
        · assumption
        · exact hzr x hx
    · rw [hzz (fun i hi => hzr i (hall i hi)), if_pos rfl]
      exact ret_out (l := [0, 1]) rfl rfl trivial allRw_nil
end Go.Proofs.YtkdjnmcaifejjaaGreatDoor

/- Contracts: a position is moved, positions are sorted (the reference). -/
namespace Go.Proofs.YtkdjnmcaifejjaaGreatDoor
open Go.RowKit Go.Sy
attribute [local irreducible] vcall vloop vcallD retP
set_option maxRecDepth 100000
set_option linter.unusedVariables false
set_option linter.unusedSimpArgs false

theorem seg_all {α : Type} {l : List α} {n : Nat} (h : l.length = n) : seg 0 n l = l := by
  unfold seg; rw [List.drop_zero, ← h, List.take_length]
end Go.Proofs.YtkdjnmcaifejjaaGreatDoor

/- Contracts: the reference sorts positions. -/
namespace Go.Proofs.YtkdjnmcaifejjaaGreatDoor
open Go.RowKit Go.Sy
attribute [local irreducible] vcall vloop vcallD retP
set_option maxRecDepth 100000
set_option linter.unusedVariables false
set_option linter.unusedSimpArgs false

end Go.Proofs.YtkdjnmcaifejjaaGreatDoor

/- Plain facts: transfers are applied to positions. -/
namespace Go.Proofs.YtkdjnmcaifejjaaGreatDoor
open Go.RowKit Go.Sy
set_option linter.unusedVariables false
set_option linter.unusedSimpArgs false

/-- A transfer. -/
structure Tx where
  f : ByteArray
  t : ByteArray
  a : Int
  c : ByteArray
structure Tc where
  f : List ByteArray
  t : List ByteArray
  a : List Int
  c : List ByteArray
def tcOf (l : List Tx) : Tc := ⟨l.map Tx.f, l.map Tx.t, l.map Tx.a, l.map Tx.c⟩
abbrev tx0 : Tx := ⟨⟨#[]⟩, ⟨#[]⟩, 0, ⟨#[]⟩⟩
instance : Inhabited Tx := ⟨tx0⟩
def txB (n : Nat) (r : Tc) : Blk := .cols n [.sc (.strs r.f), .sc (.strs r.t), .sc (.ints .i64 r.a), .sc (.strs r.c)]
abbrev inT (n : Int) : Prop := -4503599627370496 ≤ n ∧ n ≤ 4503599627370496
/-- Rows of different places, all in range. -/
structure RwOk (R : List Ps) : Prop where
  dist : Dist_n R
  bd : ∀ k, inT (R.getD k ps0).a
theorem mem_getD {R : List Ps} {x : Ps} : x ∈ R ↔ ∃ j, j < R.length ∧ R.getD j ps0 = x := by
  constructor
  · intro h
    obtain ⟨j, hj, rfl⟩ := List.getElem_of_mem h
    exact ⟨j, hj, by rw [List.getD, List.getElem?_eq_getElem hj]; rfl⟩
  · rintro ⟨j, hj, rfl⟩
    rw [List.getD, List.getElem?_eq_getElem hj]; exact List.getElem_mem hj
theorem bd_iff {R : List Ps} : (∀ k, inT (R.getD k ps0).a) ↔ ∀ x ∈ R, inT x.a := by
  constructor
  · intro h x hx
    obtain ⟨j, _, rfl⟩ := mem_getD.1 hx
    exact h j
  · intro h k
    by_cases hk : k < R.length
    · exact h _ (mem_getD.2 ⟨k, hk, rfl⟩)
    · rw [List.getD, List.getElem?_eq_none (by omega)]; exact ⟨by decide, by decide⟩
theorem dist_of {R : List Ps} (h : ∀ i j, i < R.length → j < i → ¬ same2_n (R.getD j ps0) (R.getD i ps0)) : Dist_n R := by
  refine List.pairwise_iff_getElem.2 fun i j hi hj hij => ?_
  have := h j i hj hij
  rwa [List.getD, List.getElem?_eq_getElem hi, List.getD, List.getElem?_eq_getElem hj] at this
theorem sgP_dist {L : List Ps} (h : sgP L = 0) : Dist_n L := by
  refine dist_of fun i j hi hj e => ?_
  have h1 := (erP_zero ((sgP_zero h).2 i hi)).2.2
  refine h1 ?_
  have hl : (L.take i).length = i := by rw [List.length_take]; omega
  rw [← e.1, ← e.2]
  have := (ixL_lt_iff (L.getD j ps0).p (L.getD j ps0).c (L.take i)).2 ⟨L.getD j ps0, mem_getD.2 ⟨j, by omega, by simp [List.getD, List.getElem?_take, hj]⟩, rfl, rfl⟩
  omega
theorem sgP_rw {L : List Ps} (h : sgP L = 0) : RwOk L := ⟨sgP_dist h, fun k => by
  by_cases hk : k < L.length
  · exact sgP_bd h k hk
  · rw [List.getD, List.getElem?_eq_none (by omega)]; exact ⟨by decide, by decide⟩⟩
end Go.Proofs.YtkdjnmcaifejjaaGreatDoor

/- Contracts: the reference applies transfers. -/
namespace Go.Proofs.YtkdjnmcaifejjaaGreatDoor
open Go.RowKit Go.Sy
attribute [local irreducible] vcall vloop vcallD retP
set_option maxRecDepth 100000
set_option linter.unusedVariables false
set_option linter.unusedSimpArgs false

end Go.Proofs.YtkdjnmcaifejjaaGreatDoor

/- Contracts: transfers are applied. -/
namespace Go.Proofs.YtkdjnmcaifejjaaGreatDoor
open Go.RowKit Go.Sy
attribute [local irreducible] vcall vloop vcallD retP
set_option maxRecDepth 100000
set_option linter.unusedVariables false
set_option linter.unusedSimpArgs false

end Go.Proofs.YtkdjnmcaifejjaaGreatDoor

/- Contracts: transfers are applied; the transfers' handle stands first (so that the positions may be nil). Written out of XNetM by wip/gen_netm2.py. -/
namespace Go.Proofs.YtkdjnmcaifejjaaGreatDoor
open Go.RowKit Go.Sy
attribute [local irreducible] vcall vloop vcallD retP
set_option maxRecDepth 100000
set_option linter.unusedVariables false
set_option linter.unusedSimpArgs false

end Go.Proofs.YtkdjnmcaifejjaaGreatDoor

/- Contracts: transfers that settle, their volume, equality of lists. -/
namespace Go.Proofs.YtkdjnmcaifejjaaGreatDoor
open Go.RowKit Go.Sy
attribute [local irreducible] vcall vloop vcallD retP
set_option maxRecDepth 100000
set_option linter.unusedVariables false
set_option linter.unusedSimpArgs false

end Go.Proofs.YtkdjnmcaifejjaaGreatDoor

/- Contracts: equality of lists, small arguments, examples of the law. -/
namespace Go.Proofs.YtkdjnmcaifejjaaGreatDoor
open Go.RowKit Go.Sy
attribute [local irreducible] vcall vloop vcallD retP
set_option maxRecDepth 100000
set_option linter.unusedVariables false
set_option linter.unusedSimpArgs false

/-- Small arguments of a law. -/
def smL_n (L : List Ps) (T : List Tx) : Prop := (L.length ≤ 40 ∧ T.length ≤ 60) ∧ (∀ j, j < L.length → (L.getD j ps0).p.size ≤ 100 ∧ (L.getD j ps0).c.size ≤ 100) ∧ ∀ j, j < T.length → (T.getD j tx0).f.size ≤ 100 ∧ (T.getD j tx0).t.size ≤ 100 ∧ (T.getD j tx0).c.size ≤ 100
instance (L : List Ps) (T : List Tx) : Decidable (smL_n L T) := by unfold smL_n; exact inferInstance
end Go.Proofs.YtkdjnmcaifejjaaGreatDoor

/- Contracts: who owes most and who receives most. -/
namespace Go.Proofs.YtkdjnmcaifejjaaGreatDoor
open Go.RowKit Go.Sy
attribute [local irreducible] vcall vloop vcallD retP
set_option maxRecDepth 100000
set_option linter.unusedVariables false
set_option linter.unusedSimpArgs false

/-- The first of the first k amounts behind o that is least among those below zero. -/
def dK (V : List Int) (o : Nat) : Nat → Option Nat
  | 0 => none
  | k + 1 => match dK V o k with
    | none => if V.getD (k + o) 0 < 0 then some k else none
    | some d => if V.getD (k + o) 0 < 0 ∧ V.getD (k + o) 0 < V.getD (d + o) 0 then some k else some d
/-- The first that is greatest among those above zero. -/
def eK (V : List Int) (o : Nat) : Nat → Option Nat
  | 0 => none
  | k + 1 => match eK V o k with
    | none => if 0 < V.getD (k + o) 0 then some k else none
    | some d => if 0 < V.getD (k + o) 0 ∧ V.getD (d + o) 0 < V.getD (k + o) 0 then some k else some d
def oI : Option Nat → Int
  | none => -1
  | some d => d
theorem dK_lt (V : List Int) (o : Nat) : ∀ (k d : Nat), dK V o k = some d → d < k
  | 0, d, h => by cases h
  | k + 1, d, h => by
    simp only [dK] at h
    split at h
    · split at h
      · cases h; omega
      · cases h
    · rename_i d' hd
      have := dK_lt V o k d' hd
      split at h <;> (cases h; omega)
theorem eK_lt (V : List Int) (o : Nat) : ∀ (k d : Nat), eK V o k = some d → d < k
  | 0, d, h => by cases h
  | k + 1, d, h => by
    simp only [eK] at h
    split at h
    · split at h
      · cases h; omega
      · cases h
    · rename_i d' hd
      have := eK_lt V o k d' hd
      split at h <;> (cases h; omega)
theorem toNatO (k o : Nat) : (k : Int).toNat + o = k + o := rfl
theorem net_extremes (A : List Ps) (N o n : Nat) (hN : A.length = N) (ho : o + n ≤ N) (hl : N ≤ 100000) : FC Tryz.prog 2 75 [.sl 1 0 o n] [(1, some (.one true (psB N (pcOf A))))] (isOut (.tup [.int .i64 (oI (dK (pcOf A).a o n)), .int .i64 (oI (eK (pcOf A).a o n))]) [] 2) := by
  generalize pcOf A = pc
  refine fc_of mixed T_ok Tryz.func75 rfl (by kernel_rfl) (by kernel_rfl) (by kernel_rfl) ?_
  repeat' ((conv => whnf); first | (refine br_dec (fun h => ?_) (fun h => ?_) <;> try (exfalso; (try dsimp only at h); omega)) | (refine br_ndec (fun h => ?_) (fun h => ?_) <;> try (exfalso; (try dsimp only at h); omega)) | refine br_seq (fun h => ?_) (fun h => ?_) | refine br_nseq (fun h => ?_) (fun h => ?_) | refine br_not (fun h => ?_) (fun h => ?_) | refine br_intro (fun h => ?_) (fun h => ?_) | refine cond_intro rfl ?_ | (refine cond_intro ⟨rfl, ?_⟩ ?_; (first | omega | (dsimp only; omega) | decide)) | (refine cond_intro ?_ ?_; (first | omega | (dsimp only; omega) | decide | (simp only [Nat.add_zero, Int.toNat_natCast, *]; omega))))
  all_goals (conv => whnf)
  refine vloop_lp (fun k : Nat => ⟨[(0, .sl 1 0 o n), (7, .sl 1 0 o n), (8, .int .i64 n), (9, .int .i64 k), (2, .int .i64 (oI (dK pc.a o k))), (3, .int .i64 (oI (eK pc.a o k)))], [(1, some (.one true (psB N pc)))], 2⟩) (fun k => k ≤ n) (fun k => n - k) 0 [0, 1] [] ⟨rfl, ⟨rfl, rfl, rfl, rfl, rfl, rfl, trivial⟩, ⟨rfl, trivial⟩⟩ (Nat.zero_le _) ?_
  intro k hk
  by_cases hk2 : k < n
  · have hd := dK_lt pc.a o k
    have he := eK_lt pc.a o k
    have hd1 : dK pc.a o (k + 1) = match dK pc.a o k with
      | none => if pc.a.getD (k + o) 0 < 0 then some k else none
      | some d => if pc.a.getD (k + o) 0 < 0 ∧ pc.a.getD (k + o) 0 < pc.a.getD (d + o) 0 then some k else some d := rfl
    have he1 : eK pc.a o (k + 1) = match eK pc.a o k with
      | none => if 0 < pc.a.getD (k + o) 0 then some k else none
      | some d => if 0 < pc.a.getD (k + o) 0 ∧ pc.a.getD (d + o) 0 < pc.a.getD (k + o) 0 then some k else some d := rfl
    cases hD : dK pc.a o k with
    | none =>
      rw [hD] at hd1
      dsimp only at hd1
      cases hE : eK pc.a o k with
      | none =>
        rw [hE] at he1
        dsimp only at he1
        by_cases cd : pc.a.getD (k + o) 0 < 0
        · have hdv : oI (dK pc.a o (k + 1)) = (k : Int) := by rw [hd1, if_pos cd]; rfl
          by_cases ce : 0 < pc.a.getD (k + o) 0
          · have hev : oI (eK pc.a o (k + 1)) = (k : Int) := by rw [he1, if_pos ce]; rfl
            exfalso; omega
          · have hev : oI (eK pc.a o (k + 1)) = -1 := by rw [he1, if_neg ce]; rfl
            unfold oI at hdv hev ⊢
            repeat' ((conv => whnf); first | (refine br_dec (fun h => ?_) (fun h => ?_) <;> try (exfalso; (try dsimp only at h); omega)) | (refine br_ndec (fun h => ?_) (fun h => ?_) <;> try (exfalso; (try dsimp only at h); omega)) | refine br_seq (fun h => ?_) (fun h => ?_) | refine br_nseq (fun h => ?_) (fun h => ?_) | refine br_not (fun h => ?_) (fun h => ?_) | refine br_intro (fun h => ?_) (fun h => ?_) | refine cond_intro rfl ?_ | (refine cond_intro ⟨rfl, ?_⟩ ?_; (first | omega | (dsimp only; omega) | decide)) | (refine cond_intro ?_ ?_; (first | omega | (dsimp only; omega) | decide | (simp only [Nat.add_zero, Int.toNat_natCast, *]; omega))))
            all_goals (conv => whnf)
            all_goals (try simp only [toNatO] at *)
            all_goals first
              | (exfalso; omega)
              | exact ⟨k + 1, [0, 1], [], hk2, (show n - (k + 1) < n - k by omega), ⟨rfl, ⟨rfl, rfl, rfl, congrArg (fun z => some (SV.int .i64 z)) (i64_succ (by omega)), congrArg (fun z => some (SV.int .i64 z)) hdv.symm, congrArg (fun z => some (SV.int .i64 z)) hev.symm, trivial⟩, ⟨rfl, trivial⟩⟩⟩
              | trace_state
        · have hdv : oI (dK pc.a o (k + 1)) = -1 := by rw [hd1, if_neg cd]; rfl
          by_cases ce : 0 < pc.a.getD (k + o) 0
          · have hev : oI (eK pc.a o (k + 1)) = (k : Int) := by rw [he1, if_pos ce]; rfl
            unfold oI at hdv hev ⊢
            repeat' ((conv => whnf); first | (refine br_dec (fun h => ?_) (fun h => ?_) <;> try (exfalso; (try dsimp only at h); omega)) | (refine br_ndec (fun h => ?_) (fun h => ?_) <;> try (exfalso; (try dsimp only at h); omega)) | refine br_seq (fun h => ?_) (fun h => ?_) | refine br_nseq (fun h => ?_) (fun h => ?_) | refine br_not (fun h => ?_) (fun h => ?_) | refine br_intro (fun h => ?_) (fun h => ?_) | refine cond_intro rfl ?_ | (refine cond_intro ⟨rfl, ?_⟩ ?_; (first | omega | (dsimp only; omega) | decide)) | (refine cond_intro ?_ ?_; (first | omega | (dsimp only; omega) | decide | (simp only [Nat.add_zero, Int.toNat_natCast, *]; omega))))
            all_goals (conv => whnf)
            all_goals (try simp only [toNatO] at *)
            all_goals first
              | (exfalso; omega)
              | exact ⟨k + 1, [0, 1], [], hk2, (show n - (k + 1) < n - k by omega), ⟨rfl, ⟨rfl, rfl, rfl, congrArg (fun z => some (SV.int .i64 z)) (i64_succ (by omega)), congrArg (fun z => some (SV.int .i64 z)) hdv.symm, congrArg (fun z => some (SV.int .i64 z)) hev.symm, trivial⟩, ⟨rfl, trivial⟩⟩⟩
              | trace_state
          · have hev : oI (eK pc.a o (k + 1)) = -1 := by rw [he1, if_neg ce]; rfl
            unfold oI at hdv hev ⊢
            repeat' ((conv => whnf); first | (refine br_dec (fun h => ?_) (fun h => ?_) <;> try (exfalso; (try dsimp only at h); omega)) | (refine br_ndec (fun h => ?_) (fun h => ?_) <;> try (exfalso; (try dsimp only at h); omega)) | refine br_seq (fun h => ?_) (fun h => ?_) | refine br_nseq (fun h => ?_) (fun h => ?_) | refine br_not (fun h => ?_) (fun h => ?_) | refine br_intro (fun h => ?_) (fun h => ?_) | refine cond_intro rfl ?_ | (refine cond_intro ⟨rfl, ?_⟩ ?_; (first | omega | (dsimp only; omega) | decide)) | (refine cond_intro ?_ ?_; (first | omega | (dsimp only; omega) | decide | (simp only [Nat.add_zero, Int.toNat_natCast, *]; omega))))
            all_goals (conv => whnf)
            all_goals (try simp only [toNatO] at *)
            all_goals first
              | (exfalso; omega)
              | exact ⟨k + 1, [0, 1], [], hk2, (show n - (k + 1) < n - k by omega), ⟨rfl, ⟨rfl, rfl, rfl, congrArg (fun z => some (SV.int .i64 z)) (i64_succ (by omega)), congrArg (fun z => some (SV.int .i64 z)) hdv.symm, congrArg (fun z => some (SV.int .i64 z)) hev.symm, trivial⟩, ⟨rfl, trivial⟩⟩⟩
              | trace_state
      | some e =>
        rw [hE] at he1
        have hel := he e hE
        dsimp only at he1
        by_cases cd : pc.a.getD (k + o) 0 < 0
        · have hdv : oI (dK pc.a o (k + 1)) = (k : Int) := by rw [hd1, if_pos cd]; rfl
          by_cases ce : 0 < pc.a.getD (k + o) 0 ∧ pc.a.getD (e + o) 0 < pc.a.getD (k + o) 0
          · have hev : oI (eK pc.a o (k + 1)) = (k : Int) := by rw [he1, if_pos ce]; rfl
            exfalso; omega
          · have hev : oI (eK pc.a o (k + 1)) = (e : Int) := by rw [he1, if_neg ce]; rfl
            unfold oI at hdv hev ⊢
            repeat' ((conv => whnf); first | (refine br_dec (fun h => ?_) (fun h => ?_) <;> try (exfalso; (try dsimp only at h); omega)) | (refine br_ndec (fun h => ?_) (fun h => ?_) <;> try (exfalso; (try dsimp only at h); omega)) | refine br_seq (fun h => ?_) (fun h => ?_) | refine br_nseq (fun h => ?_) (fun h => ?_) | refine br_not (fun h => ?_) (fun h => ?_) | refine br_intro (fun h => ?_) (fun h => ?_) | refine cond_intro rfl ?_ | (refine cond_intro ⟨rfl, ?_⟩ ?_; (first | omega | (dsimp only; omega) | decide)) | (refine cond_intro ?_ ?_; (first | omega | (dsimp only; omega) | decide | (simp only [Nat.add_zero, Int.toNat_natCast, *]; omega))))
            all_goals (conv => whnf)
            all_goals (try simp only [toNatO] at *)
            all_goals first
              | (exfalso; omega)
              | exact ⟨k + 1, [0, 1], [], hk2, (show n - (k + 1) < n - k by omega), ⟨rfl, ⟨rfl, rfl, rfl, congrArg (fun z => some (SV.int .i64 z)) (i64_succ (by omega)), congrArg (fun z => some (SV.int .i64 z)) hdv.symm, congrArg (fun z => some (SV.int .i64 z)) hev.symm, trivial⟩, ⟨rfl, trivial⟩⟩⟩
              | trace_state
        · have hdv : oI (dK pc.a o (k + 1)) = -1 := by rw [hd1, if_neg cd]; rfl
          by_cases ce : 0 < pc.a.getD (k + o) 0 ∧ pc.a.getD (e + o) 0 < pc.a.getD (k + o) 0
          · have hev : oI (eK pc.a o (k + 1)) = (k : Int) := by rw [he1, if_pos ce]; rfl
            unfold oI at hdv hev ⊢
            repeat' ((conv => whnf); first | (refine br_dec (fun h => ?_) (fun h => ?_) <;> try (exfalso; (try dsimp only at h); omega)) | (refine br_ndec (fun h => ?_) (fun h => ?_) <;> try (exfalso; (try dsimp only at h); omega)) | refine br_seq (fun h => ?_) (fun h => ?_) | refine br_nseq (fun h => ?_) (fun h => ?_) | refine br_not (fun h => ?_) (fun h => ?_) | refine br_intro (fun h => ?_) (fun h => ?_) | refine cond_intro rfl ?_ | (refine cond_intro ⟨rfl, ?_⟩ ?_; (first | omega | (dsimp only; omega) | decide)) | (refine cond_intro ?_ ?_; (first | omega | (dsimp only; omega) | decide | (simp only [Nat.add_zero, Int.toNat_natCast, *]; omega))))
            all_goals (conv => whnf)
            all_goals (try simp only [toNatO] at *)
            all_goals first
              | (exfalso; omega)
              | exact ⟨k + 1, [0, 1], [], hk2, (show n - (k + 1) < n - k by omega), ⟨rfl, ⟨rfl, rfl, rfl, congrArg (fun z => some (SV.int .i64 z)) (i64_succ (by omega)), congrArg (fun z => some (SV.int .i64 z)) hdv.symm, congrArg (fun z => some (SV.int .i64 z)) hev.symm, trivial⟩, ⟨rfl, trivial⟩⟩⟩
              | trace_state
          · have hev : oI (eK pc.a o (k + 1)) = (e : Int) := by rw [he1, if_neg ce]; rfl
            unfold oI at hdv hev ⊢
            repeat' ((conv => whnf); first | (refine br_dec (fun h => ?_) (fun h => ?_) <;> try (exfalso; (try dsimp only at h); omega)) | (refine br_ndec (fun h => ?_) (fun h => ?_) <;> try (exfalso; (try dsimp only at h); omega)) | refine br_seq (fun h => ?_) (fun h => ?_) | refine br_nseq (fun h => ?_) (fun h => ?_) | refine br_not (fun h => ?_) (fun h => ?_) | refine br_intro (fun h => ?_) (fun h => ?_) | refine cond_intro rfl ?_ | (refine cond_intro ⟨rfl, ?_⟩ ?_; (first | omega | (dsimp only; omega) | decide)) | (refine cond_intro ?_ ?_; (first | omega | (dsimp only; omega) | decide | (simp only [Nat.add_zero, Int.toNat_natCast, *]; omega))))
            all_goals (conv => whnf)
            all_goals (try simp only [toNatO] at *)
            all_goals first
              | (exfalso; omega)
              | exact ⟨k + 1, [0, 1], [], hk2, (show n - (k + 1) < n - k by omega), ⟨rfl, ⟨rfl, rfl, rfl, congrArg (fun z => some (SV.int .i64 z)) (i64_succ (by omega)), congrArg (fun z => some (SV.int .i64 z)) hdv.symm, congrArg (fun z => some (SV.int .i64 z)) hev.symm, trivial⟩, ⟨rfl, trivial⟩⟩⟩
              | trace_state
    | some d =>
      rw [hD] at hd1
      have hdl := hd d hD
      dsimp only at hd1
      cases hE : eK pc.a o k with
      | none =>
        rw [hE] at he1
        dsimp only at he1
        by_cases cd : pc.a.getD (k + o) 0 < 0 ∧ pc.a.getD (k + o) 0 < pc.a.getD (d + o) 0
        · have hdv : oI (dK pc.a o (k + 1)) = (k : Int) := by rw [hd1, if_pos cd]; rfl
          by_cases ce : 0 < pc.a.getD (k + o) 0
          · have hev : oI (eK pc.a o (k + 1)) = (k : Int) := by rw [he1, if_pos ce]; rfl
            exfalso; omega
          · have hev : oI (eK pc.a o (k + 1)) = -1 := by rw [he1, if_neg ce]; rfl
            unfold oI at hdv hev ⊢
            repeat' ((conv => whnf); first | (refine br_dec (fun h => ?_) (fun h => ?_) <;> try (exfalso; (try dsimp only at h); omega)) | (refine br_ndec (fun h => ?_) (fun h => ?_) <;> try (exfalso; (try dsimp only at h); omega)) | refine br_seq (fun h => ?_) (fun h => ?_) | refine br_nseq (fun h => ?_) (fun h => ?_) | refine br_not (fun h => ?_) (fun h => ?_) | refine br_intro (fun h => ?_) (fun h => ?_) | refine cond_intro rfl ?_ | (refine cond_intro ⟨rfl, ?_⟩ ?_; (first | omega | (dsimp only; omega) | decide)) | (refine cond_intro ?_ ?_; (first | omega | (dsimp only; omega) | decide | (simp only [Nat.add_zero, Int.toNat_natCast, *]; omega))))
            all_goals (conv => whnf)
            all_goals (try simp only [toNatO] at *)
            all_goals first
              | (exfalso; omega)
              | exact ⟨k + 1, [0, 1], [], hk2, (show n - (k + 1) < n - k by omega), ⟨rfl, ⟨rfl, rfl, rfl, congrArg (fun z => some (SV.int .i64 z)) (i64_succ (by omega)), congrArg (fun z => some (SV.int .i64 z)) hdv.symm, congrArg (fun z => some (SV.int .i64 z)) hev.symm, trivial⟩, ⟨rfl, trivial⟩⟩⟩
              | trace_state
        · have hdv : oI (dK pc.a o (k + 1)) = (d : Int) := by rw [hd1, if_neg cd]; rfl
          by_cases ce : 0 < pc.a.getD (k + o) 0
          · have hev : oI (eK pc.a o (k + 1)) = (k : Int) := by rw [he1, if_pos ce]; rfl
            unfold oI at hdv hev ⊢
            repeat' ((conv => whnf); first | (refine br_dec (fun h => ?_) (fun h => ?_) <;> try (exfalso; (try dsimp only at h); omega)) | (refine br_ndec (fun h => ?_) (fun h => ?_) <;> try (exfalso; (try dsimp only at h); omega)) | refine br_seq (fun h => ?_) (fun h => ?_) | refine br_nseq (fun h => ?_) (fun h => ?_) | refine br_not (fun h => ?_) (fun h => ?_) | refine br_intro (fun h => ?_) (fun h => ?_) | refine cond_intro rfl ?_ | (refine cond_intro ⟨rfl, ?_⟩ ?_; (first | omega | (dsimp only; omega) | decide)) | (refine cond_intro ?_ ?_; (first | omega | (dsimp only; omega) | decide | (simp only [Nat.add_zero, Int.toNat_natCast, *]; omega))))
            all_goals (conv => whnf)
            all_goals (try simp only [toNatO] at *)
            all_goals first
              | (exfalso; omega)
              | exact ⟨k + 1, [0, 1], [], hk2, (show n - (k + 1) < n - k by omega), ⟨rfl, ⟨rfl, rfl, rfl, congrArg (fun z => some (SV.int .i64 z)) (i64_succ (by omega)), congrArg (fun z => some (SV.int .i64 z)) hdv.symm, congrArg (fun z => some (SV.int .i64 z)) hev.symm, trivial⟩, ⟨rfl, trivial⟩⟩⟩
              | trace_state
          · have hev : oI (eK pc.a o (k + 1)) = -1 := by rw [he1, if_neg ce]; rfl
            unfold oI at hdv hev ⊢
            repeat' ((conv => whnf); first | (refine br_dec (fun h => ?_) (fun h => ?_) <;> try (exfalso; (try dsimp only at h); omega)) | (refine br_ndec (fun h => ?_) (fun h => ?_) <;> try (exfalso; (try dsimp only at h); omega)) | refine br_seq (fun h => ?_) (fun h => ?_) | refine br_nseq (fun h => ?_) (fun h => ?_) | refine br_not (fun h => ?_) (fun h => ?_) | refine br_intro (fun h => ?_) (fun h => ?_) | refine cond_intro rfl ?_ | (refine cond_intro ⟨rfl, ?_⟩ ?_; (first | omega | (dsimp only; omega) | decide)) | (refine cond_intro ?_ ?_; (first | omega | (dsimp only; omega) | decide | (simp only [Nat.add_zero, Int.toNat_natCast, *]; omega))))
            all_goals (conv => whnf)
            all_goals (try simp only [toNatO] at *)
            all_goals first
              | (exfalso; omega)
              | exact ⟨k + 1, [0, 1], [], hk2, (show n - (k + 1) < n - k by omega), ⟨rfl, ⟨rfl, rfl, rfl, congrArg (fun z => some (SV.int .i64 z)) (i64_succ (by omega)), congrArg (fun z => some (SV.int .i64 z)) hdv.symm, congrArg (fun z => some (SV.int .i64 z)) hev.symm, trivial⟩, ⟨rfl, trivial⟩⟩⟩
              | trace_state
      | some e =>
        rw [hE] at he1
        have hel := he e hE
        dsimp only at he1
        by_cases cd : pc.a.getD (k + o) 0 < 0 ∧ pc.a.getD (k + o) 0 < pc.a.getD (d + o) 0
        · have hdv : oI (dK pc.a o (k + 1)) = (k : Int) := by rw [hd1, if_pos cd]; rfl
          by_cases ce : 0 < pc.a.getD (k + o) 0 ∧ pc.a.getD (e + o) 0 < pc.a.getD (k + o) 0
          · have hev : oI (eK pc.a o (k + 1)) = (k : Int) := by rw [he1, if_pos ce]; rfl
            exfalso; omega
          · have hev : oI (eK pc.a o (k + 1)) = (e : Int) := by rw [he1, if_neg ce]; rfl
            unfold oI at hdv hev ⊢
            repeat' ((conv => whnf); first | (refine br_dec (fun h => ?_) (fun h => ?_) <;> try (exfalso; (try dsimp only at h); omega)) | (refine br_ndec (fun h => ?_) (fun h => ?_) <;> try (exfalso; (try dsimp only at h); omega)) | refine br_seq (fun h => ?_) (fun h => ?_) | refine br_nseq (fun h => ?_) (fun h => ?_) | refine br_not (fun h => ?_) (fun h => ?_) | refine br_intro (fun h => ?_) (fun h => ?_) | refine cond_intro rfl ?_ | (refine cond_intro ⟨rfl, ?_⟩ ?_; (first | omega | (dsimp only; omega) | decide)) | (refine cond_intro ?_ ?_; (first | omega | (dsimp only; omega) | decide | (simp only [Nat.add_zero, Int.toNat_natCast, *]; omega))))
            all_goals (conv => whnf)
            all_goals (try simp only [toNatO] at *)
            all_goals first
              | (exfalso; omega)
              | exact ⟨k + 1, [0, 1], [], hk2, (show n - (k + 1) < n - k by omega), ⟨rfl, ⟨rfl, rfl, rfl, congrArg (fun z => some (SV.int .i64 z)) (i64_succ (by omega)), congrArg (fun z => some (SV.int .i64 z)) hdv.symm, congrArg (fun z => some (SV.int .i64 z)) hev.symm, trivial⟩, ⟨rfl, trivial⟩⟩⟩
              | trace_state
        · have hdv : oI (dK pc.a o (k + 1)) = (d : Int) := by rw [hd1, if_neg cd]; rfl
          by_cases ce : 0 < pc.a.getD (k + o) 0 ∧ pc.a.getD (e + o) 0 < pc.a.getD (k + o) 0
          · have hev : oI (eK pc.a o (k + 1)) = (k : Int) := by rw [he1, if_pos ce]; rfl
            unfold oI at hdv hev ⊢
            repeat' ((conv => whnf); first | (refine br_dec (fun h => ?_) (fun h => ?_) <;> try (exfalso; (try dsimp only at h); omega)) | (refine br_ndec (fun h => ?_) (fun h => ?_) <;> try (exfalso; (try dsimp only at h); omega)) | refine br_seq (fun h => ?_) (fun h => ?_) | refine br_nseq (fun h => ?_) (fun h => ?_) | refine br_not (fun h => ?_) (fun h => ?_) | refine br_intro (fun h => ?_) (fun h => ?_) | refine cond_intro rfl ?_ | (refine cond_intro ⟨rfl, ?_⟩ ?_; (first | omega | (dsimp only; omega) | decide)) | (refine cond_intro ?_ ?_; (first | omega | (dsimp only; omega) | decide | (simp only [Nat.add_zero, Int.toNat_natCast, *]; omega))))
            all_goals (conv => whnf)
            all_goals (try simp only [toNatO] at *)
            all_goals first
              | (exfalso; omega)
              | exact ⟨k + 1, [0, 1], [], hk2, (show n - (k + 1) < n - k by omega), ⟨rfl, ⟨rfl, rfl, rfl, congrArg (fun z => some (SV.int .i64 z)) (i64_succ (by omega)), congrArg (fun z => some (SV.int .i64 z)) hdv.symm, congrArg (fun z => some (SV.int .i64 z)) hev.symm, trivial⟩, ⟨rfl, trivial⟩⟩⟩
              | trace_state
          · have hev : oI (eK pc.a o (k + 1)) = (e : Int) := by rw [he1, if_neg ce]; rfl
            unfold oI at hdv hev ⊢
            repeat' ((conv => whnf); first | (refine br_dec (fun h => ?_) (fun h => ?_) <;> try (exfalso; (try dsimp only at h); omega)) | (refine br_ndec (fun h => ?_) (fun h => ?_) <;> try (exfalso; (try dsimp only at h); omega)) | refine br_seq (fun h => ?_) (fun h => ?_) | refine br_nseq (fun h => ?_) (fun h => ?_) | refine br_not (fun h => ?_) (fun h => ?_) | refine br_intro (fun h => ?_) (fun h => ?_) | refine cond_intro rfl ?_ | (refine cond_intro ⟨rfl, ?_⟩ ?_; (first | omega | (dsimp only; omega) | decide)) | (refine cond_intro ?_ ?_; (first | omega | (dsimp only; omega) | decide | (simp only [Nat.add_zero, Int.toNat_natCast, *]; omega))))
            all_goals (conv => whnf)
            all_goals (try simp only [toNatO] at *)
            all_goals first
              | (exfalso; omega)
              | exact ⟨k + 1, [0, 1], [], hk2, (show n - (k + 1) < n - k by omega), ⟨rfl, ⟨rfl, rfl, rfl, congrArg (fun z => some (SV.int .i64 z)) (i64_succ (by omega)), congrArg (fun z => some (SV.int .i64 z)) hdv.symm, congrArg (fun z => some (SV.int .i64 z)) hev.symm, trivial⟩, ⟨rfl, trivial⟩⟩⟩
              | trace_state
  · have e : k = n := by omega
    subst e
    repeat' ((conv => whnf); first | (refine br_dec (fun h => ?_) (fun h => ?_) <;> try (exfalso; (try dsimp only at h); omega)) | (refine br_ndec (fun h => ?_) (fun h => ?_) <;> try (exfalso; (try dsimp only at h); omega)) | refine br_seq (fun h => ?_) (fun h => ?_) | refine br_nseq (fun h => ?_) (fun h => ?_) | refine br_not (fun h => ?_) (fun h => ?_) | refine br_intro (fun h => ?_) (fun h => ?_) | refine cond_intro rfl ?_ | (refine cond_intro ⟨rfl, ?_⟩ ?_; (first | omega | (dsimp only; omega) | decide)) | (refine cond_intro ?_ ?_; (first | omega | (dsimp only; omega) | decide | (simp only [Nat.add_zero, Int.toNat_natCast, *]; omega))))
    all_goals (conv => whnf)
    all_goals first
      | exact ret_out (l := [0, 1]) rfl rfl trivial allRw_nil
      | (exfalso; omega)
      | trace_state
end Go.Proofs.YtkdjnmcaifejjaaGreatDoor

/- Contracts: the reference's next transfer. -/
namespace Go.Proofs.YtkdjnmcaifejjaaGreatDoor
open Go.RowKit Go.Sy
attribute [local irreducible] vcall vloop vcallD retP
set_option maxRecDepth 100000
set_option linter.unusedVariables false
set_option linter.unusedSimpArgs false

end Go.Proofs.YtkdjnmcaifejjaaGreatDoor

/- Contracts: positions are copied. -/
namespace Go.Proofs.YtkdjnmcaifejjaaGreatDoor
open Go.RowKit Go.Sy
attribute [local irreducible] vcall vloop vcallD retP
set_option maxRecDepth 100000
set_option linter.unusedVariables false
set_option linter.unusedSimpArgs false

theorem pos_Clone (L : List Ps) (n : Nat) (hn : L.length = n) (hl : n ≤ 100000) : FC Tryz.prog 2 70 [.sl 1 0 0 n] [(1, some (.one true (psB n (pcOf L))))] (isOut (.sl 2 0 0 n) [(2, some (.one false (psB n (pcOf L))))] 3) := by
  have h1 : (pcOf L).p.length = n := by simp [pcOf, hn]
  have h2 : (pcOf L).a.length = n := by simp [pcOf, hn]
  have h3 : (pcOf L).c.length = n := by simp [pcOf, hn]
  cases n with
  | zero =>
    obtain rfl := List.eq_nil_of_length_eq_zero hn
    refine fc_nil rfl ?_
    refine fc_of mixed T_ok Tryz.func70 rfl (by kernel_rfl) (by kernel_rfl) (by kernel_rfl) ?_
    repeat' ((conv => whnf); first | (refine br_dec (fun h => ?_) (fun h => ?_) <;> try (exfalso; (try dsimp only at h); omega)) | (refine br_ndec (fun h => ?_) (fun h => ?_) <;> try (exfalso; (try dsimp only at h); omega)) | refine br_seq (fun h => ?_) (fun h => ?_) | refine br_nseq (fun h => ?_) (fun h => ?_) | refine br_not (fun h => ?_) (fun h => ?_) | refine br_intro (fun h => ?_) (fun h => ?_) | refine cond_intro rfl ?_ | (refine cond_intro ⟨rfl, ?_⟩ ?_; (first | omega | (dsimp only; omega) | decide)) | (refine cond_intro ?_ ?_; (first | omega | (dsimp only; omega) | decide | (simp only [Nat.add_zero, Int.toNat_natCast, *]; omega))) | (refine And.intro ?_ ?_))
    all_goals (conv => whnf)
    all_goals first
      | exact retP_mono (fun _ _ _ h => .inl h) (ret_out (l := [0, 1]) rfl rfl trivial allRw_nil)
      | exact retP_mono (fun _ _ _ h => .inr h) (ret_out (l := [0, 1, 3]) rfl rfl ⟨rfl, trivial⟩ (allRw_cons allRw_nil))
      | decide
  | succ n =>
    unfold psB
    refine fc_of mixed T_ok Tryz.func70 rfl (by kernel_rfl) (by kernel_rfl) (by kernel_rfl) ?_
    repeat' ((conv => whnf); first | (refine br_dec (fun h => ?_) (fun h => ?_) <;> try (exfalso; (try dsimp only at h); omega)) | (refine br_ndec (fun h => ?_) (fun h => ?_) <;> try (exfalso; (try dsimp only at h); omega)) | refine br_seq (fun h => ?_) (fun h => ?_) | refine br_nseq (fun h => ?_) (fun h => ?_) | refine br_not (fun h => ?_) (fun h => ?_) | refine br_intro (fun h => ?_) (fun h => ?_) | refine cond_intro rfl ?_ | (refine cond_intro ⟨rfl, ?_⟩ ?_; (first | omega | (dsimp only; omega) | decide)) | (refine cond_intro ?_ ?_; (first | omega | (dsimp only; omega) | decide | (simp only [Nat.add_zero, Int.toNat_natCast, *]; omega))))
    all_goals (conv => whnf)
    all_goals (rw [Nat.zero_add (n + 1), seg_all h1, seg_all h2, seg_all h3]; exact ret_out (l := [0, 1, 3]) rfl rfl ⟨rfl, trivial⟩ (allRw_cons allRw_nil))
end Go.Proofs.YtkdjnmcaifejjaaGreatDoor

/- Plain facts: how a group of positions is settled. No program in sight. -/
namespace Go.Proofs.YtkdjnmcaifejjaaGreatDoor
open Go.RowKit Go.Sy
set_option linter.unusedVariables false
set_option linter.unusedSimpArgs false

/-- An amount of a row is changed. -/
def addA (A : List Ps) (i : Nat) (d : Int) : List Ps := A.set i { A.getD i ps0 with a := (A.getD i ps0).a + d }
/-- One transfer between two rows of a group behind o. -/
def sgA (A : List Ps) (o d e : Nat) : Int := min (-(A.getD (d + o) ps0).a) (A.getD (e + o) ps0).a
def sgN (A : List Ps) (o d e : Nat) : List Ps := addA (addA A (d + o) (sgA A o d e)) (e + o) (-(sgA A o d e))
def sgT (A : List Ps) (o d e : Nat) (c : ByteArray) : Tx := ⟨(A.getD (d + o) ps0).p, (A.getD (e + o) ps0).p, sgA A o d e, c⟩
/-- A group is settled, with so many transfers at most. -/
def stG (o n : Nat) (c : ByteArray) : Nat → List Ps → List Tx → List Ps × List Tx
  | 0, A, T => (A, T)
  | f + 1, A, T => match dK (pcOf A).a o n, eK (pcOf A).a o n with
    | some d, some e => stG o n c f (sgN A o d e) (T ++ [sgT A o d e c])
    | _, _ => (A, T)
/-- How many rows of a group are not zero. -/
def cnz (A : List Ps) (o : Nat) : Nat → Nat
  | 0 => 0
  | k + 1 => cnz A o k + if (A.getD (k + o) ps0).a = 0 then 0 else 1
theorem cnz_le (A : List Ps) (o : Nat) : ∀ n, cnz A o n ≤ n
  | 0 => Nat.le_refl _
  | n + 1 => by have := cnz_le A o n; simp only [cnz]; split <;> omega
theorem addA_len (A : List Ps) (i : Nat) (d : Int) : (addA A i d).length = A.length := by simp [addA]
theorem addA_get {A : List Ps} {i : Nat} (d : Int) (hi : i < A.length) (j : Nat) : (addA A i d).getD j ps0 = if j = i then { A.getD i ps0 with a := (A.getD i ps0).a + d } else A.getD j ps0 := by
  unfold addA
  rw [List.getD, List.getElem?_set]
  by_cases e : j = i
  · subst e; rw [if_pos rfl, if_pos hi, if_pos rfl]; rfl
  · rw [if_neg (fun h => e h.symm), if_neg e]; rfl
theorem dK_neg (V : List Int) (o : Nat) : ∀ k d, dK V o k = some d → V.getD (d + o) 0 < 0
  | 0, d, h => by cases h
  | k + 1, d, h => by
    simp only [dK] at h
    split at h
    · split at h
      · cases h; assumption
      · cases h
    · rename_i d' hd
      have := dK_neg V o k d' hd
      split at h
      · cases h; rename_i q; exact q.1
      · cases h; exact this
theorem eK_pos (V : List Int) (o : Nat) : ∀ k d, eK V o k = some d → 0 < V.getD (d + o) 0
  | 0, d, h => by cases h
  | k + 1, d, h => by
    simp only [eK] at h
    split at h
    · split at h
      · cases h; assumption
      · cases h
    · rename_i d' hd
      have := eK_pos V o k d' hd
      split at h
      · cases h; rename_i q; exact q.1
      · cases h; exact this
theorem sgN_get {A : List Ps} {o d e : Nat} (hd : d + o < A.length) (he : e + o < A.length) (hne : d ≠ e) (j : Nat) : (sgN A o d e).getD j ps0 = if j = d + o then { A.getD (d + o) ps0 with a := (A.getD (d + o) ps0).a + sgA A o d e } else if j = e + o then { A.getD (e + o) ps0 with a := (A.getD (e + o) ps0).a - sgA A o d e } else A.getD j ps0 := by
  unfold sgN
  rw [addA_get _ (by rw [addA_len]; exact he), addA_get _ hd, addA_get _ hd]
  by_cases h1 : j = e + o
  · rw [if_pos h1, if_neg (by omega), if_neg (by omega), if_pos h1]; rfl
  · rw [if_neg h1, if_neg h1]
theorem sgN_len (A : List Ps) (o d e : Nat) : (sgN A o d e).length = A.length := by unfold sgN; rw [addA_len, addA_len]
theorem cnz_mono {A B : List Ps} {o : Nat} : ∀ n, (∀ j, j < n → (A.getD (j + o) ps0).a = 0 → (B.getD (j + o) ps0).a = 0) → cnz B o n ≤ cnz A o n
  | 0, _ => Nat.le_refl _
  | n + 1, h => by
    have ih := cnz_mono n (fun j hj => h j (by omega))
    have := h n (by omega)
    simp only [cnz]
    split <;> split <;> first | omega | (exfalso; rename_i h1 h2; exact h1 (this h2))
theorem cnz_lt {A B : List Ps} {o i : Nat} : ∀ n, (∀ j, j < n → (A.getD (j + o) ps0).a = 0 → (B.getD (j + o) ps0).a = 0) → i < n → (A.getD (i + o) ps0).a ≠ 0 → (B.getD (i + o) ps0).a = 0 → cnz B o n < cnz A o n
  | 0, _, hi, _, _ => by omega
  | n + 1, h, hi, h1, h2 => by
    simp only [cnz]
    by_cases e : i = n
    · subst e
      have := cnz_mono i (fun j hj => h j (by omega))
      rw [if_neg h1, if_pos h2]; omega
    · have ih := cnz_lt n (fun j hj => h j (by omega)) (by omega) h1 h2
      have := h n (by omega)
      split <;> split <;> first | omega | (exfalso; rename_i q1 q2; exact q1 (this q2))
/-- What a step needs, and what it leaves. -/
theorem step_facts {A : List Ps} {o n d e : Nat} (hl : o + n ≤ A.length) (hd : dK (pcOf A).a o n = some d) (he : eK (pcOf A).a o n = some e) : d < n ∧ e < n ∧ d ≠ e ∧ (A.getD (d + o) ps0).a < 0 ∧ 0 < (A.getD (e + o) ps0).a ∧ 0 < sgA A o d e ∧ cnz (sgN A o d e) o n < cnz A o n := by
  have d1 := dK_lt _ _ _ _ hd
  have e1 := eK_lt _ _ _ _ he
  have d2 := dK_neg _ _ _ _ hd
  have e2 := eK_pos _ _ _ _ he
  rw [(atP_n A (d + o)).2.1] at d2
  rw [(atP_n A (e + o)).2.1] at e2
  have hne : d ≠ e := by intro q; subst q; omega
  have hm : 0 < sgA A o d e := by unfold sgA; omega
  refine ⟨d1, e1, hne, d2, e2, hm, ?_⟩
  have hg := sgN_get (A := A) (o := o) (d := d) (e := e) (by omega) (by omega) hne
  have hz : ∀ j, j < n → (A.getD (j + o) ps0).a = 0 → ((sgN A o d e).getD (j + o) ps0).a = 0 := by
    intro j hj hj0
    rw [hg, if_neg (fun q => by rw [q] at hj0; omega), if_neg (fun q => by rw [q] at hj0; omega)]
    exact hj0
  by_cases hc : -(A.getD (d + o) ps0).a ≤ (A.getD (e + o) ps0).a
  · refine cnz_lt (i := d) n hz d1 (by omega) ?_
    rw [hg, if_pos rfl]
    show (A.getD (d + o) ps0).a + sgA A o d e = 0
    unfold sgA; omega
  · refine cnz_lt (i := e) n hz e1 (by omega) ?_
    rw [hg, if_neg (by omega), if_pos rfl]
    show (A.getD (e + o) ps0).a - sgA A o d e = 0
    unfold sgA; omega
theorem stG_step {A : List Ps} {o n : Nat} {c : ByteArray} {f d e : Nat} {T : List Tx} (hd : dK (pcOf A).a o n = some d) (he : eK (pcOf A).a o n = some e) : stG o n c (f + 1) A T = stG o n c f (sgN A o d e) (T ++ [sgT A o d e c]) := by
  simp only [stG, hd, he]
theorem stG_end {A : List Ps} {o n : Nat} {c : ByteArray} {T : List Tx} (h : dK (pcOf A).a o n = none ∨ eK (pcOf A).a o n = none) : ∀ f, stG o n c f A T = (A, T)
  | 0 => rfl
  | f + 1 => by
    rcases h with h | h
    · simp only [stG, h]
    · simp only [stG, h]
      cases dK (pcOf A).a o n <;> rfl
/-- How many rows from o on have the currency of row o. -/
def grN (C : List ByteArray) (o : Nat) : Nat := ((C.drop o).takeWhile (fun c => seq c (C.getD o ⟨#[]⟩))).length
theorem grN_le (C : List ByteArray) (o : Nat) : grN C o ≤ C.length - o := by
  unfold grN
  rw [← List.length_drop]
  exact List.IsPrefix.length_le (List.takeWhile_prefix _)
theorem tw_get {p : ByteArray → Bool} : ∀ (l : List ByteArray) (j : Nat), j < (l.takeWhile p).length → p (l.getD j ⟨#[]⟩) = true
  | [], j, h => by simp at h
  | x :: l, j, h => by
    by_cases hx : p x = true
    · rw [List.takeWhile_cons, if_pos hx] at h
      cases j with
      | zero => exact hx
      | succ j => rw [List.getD_cons_succ]; exact tw_get l j (by simpa using h)
    · rw [List.takeWhile_cons, if_neg hx] at h; simp at h
theorem tw_end {p : ByteArray → Bool} : ∀ (l : List ByteArray), (l.takeWhile p).length < l.length → p (l.getD (l.takeWhile p).length ⟨#[]⟩) = false
  | [], h => by simp at h
  | x :: l, h => by
    by_cases hx : p x = true
    · rw [List.takeWhile_cons, if_pos hx] at h ⊢
      rw [List.length_cons, List.getD_cons_succ]
      exact tw_end l (by simpa using h)
    · rw [List.takeWhile_cons, if_neg hx] at h ⊢
      simpa using hx
theorem grN_in {C : List ByteArray} {o j : Nat} (h : j < grN C o) : C.getD (j + o) ⟨#[]⟩ = C.getD o ⟨#[]⟩ := by
  have := tw_get _ j h
  rw [seq_true_n] at this
  rw [← this, List.getD, List.getD, List.getElem?_drop, Nat.add_comm]
theorem grN_end {C : List ByteArray} {o : Nat} (h : grN C o + o < C.length) : ¬ C.getD (grN C o + o) ⟨#[]⟩ = C.getD o ⟨#[]⟩ := by
  intro e
  have h2 : grN C o < (C.drop o).length := by rw [List.length_drop]; omega
  have := tw_end (p := fun c => seq c (C.getD o ⟨#[]⟩)) (C.drop o) h2
  rw [show ((C.drop o).takeWhile (fun c => seq c (C.getD o ⟨#[]⟩))).length = grN C o from rfl] at this
  rw [List.getD, List.getElem?_drop, Nat.add_comm o, ← List.getD, e] at this
  rw [seq_true_n.2 rfl] at this; cases this
/-- All groups from o on are settled. -/
def stR : Nat → Nat → List Ps → List Tx → List Tx
  | 0, _, _, T => T
  | f + 1, o, A, T => if A.length ≤ o then T else
      stR f (grN (pcOf A).c o + o) (stG o (grN (pcOf A).c o) ((pcOf A).c.getD o ⟨#[]⟩) (grN (pcOf A).c o) A T).1 (stG o (grN (pcOf A).c o) ((pcOf A).c.getD o ⟨#[]⟩) (grN (pcOf A).c o) A T).2
/-- The transfers that settle positions. -/
def seT (L : List Ps) : List Tx := if ckP L ≠ 0 then [] else stR L.length 0 (srt_n L) []
/-- The columns after a step. -/
theorem sgN_cols {A : List Ps} {o d e : Nat} (hd : d + o < A.length) (he : e + o < A.length) (hne : d ≠ e) : (pcOf (sgN A o d e)).p = (pcOf A).p ∧ (pcOf (sgN A o d e)).c = (pcOf A).c ∧ (pcOf (sgN A o d e)).a = ((pcOf A).a.set (d + o) ((pcOf A).a.getD (d + o) 0 + sgA A o d e)).set (e + o) ((pcOf A).a.getD (e + o) 0 - sgA A o d e) := by
  have hg := sgN_get hd he hne
  have hl := sgN_len A o d e
  have key : ∀ {α : Type} (f : Ps → α), (∀ j, f ((sgN A o d e).getD j ps0) = f (A.getD j ps0)) → (sgN A o d e).map f = A.map f := by
    intro α f h
    refine List.ext_getElem? fun j => ?_
    rw [List.getElem?_map, List.getElem?_map]
    by_cases hj : j < A.length
    · have := h j
      rw [List.getD, List.getD, List.getElem?_eq_getElem (by omega), List.getElem?_eq_getElem hj] at this
      rw [List.getElem?_eq_getElem (by omega), List.getElem?_eq_getElem hj]
      exact congrArg some this
    · rw [List.getElem?_eq_none (by omega), List.getElem?_eq_none (by omega)]
  refine ⟨key Ps.p fun j => ?_, key Ps.c fun j => ?_, ?_⟩
  · rw [hg]; split
    · rename_i q; rw [q]
    · split
      · rename_i q; rw [q]
      · rfl
  · rw [hg]; split
    · rename_i q; rw [q]
    · split
      · rename_i q; rw [q]
      · rfl
  · rw [(atP_n A (d + o)).2.1, (atP_n A (e + o)).2.1]
    refine List.ext_getElem? fun j => ?_
    rw [List.getElem?_set, List.getElem?_set]
    show ((sgN A o d e).map Ps.a)[j]? = _
    rw [List.getElem?_map]
    by_cases hj : j < A.length
    · have h2 := hg j
      rw [List.getD, List.getElem?_eq_getElem (by omega), Option.getD_some] at h2
      rw [List.getElem?_eq_getElem (by omega), Option.map_some, h2]
      by_cases h1 : j = d + o
      · rw [if_pos h1, if_neg (by omega), if_pos h1.symm, if_pos (by simp [pcOf]; omega)]
      · rw [if_neg h1]
        by_cases h3 : j = e + o
        · rw [if_pos h3, if_pos h3.symm, if_pos (by simp [pcOf]; omega)]
        · rw [if_neg h3, if_neg (fun q => h3 q.symm), if_neg (fun q => h1 q.symm)]
          show _ = (A.map Ps.a)[j]?
          rw [List.getElem?_map, List.getD, List.getElem?_eq_getElem hj]; rfl
    · rw [List.getElem?_eq_none (by omega), if_neg (by omega), if_neg (by omega)]
      show _ = (A.map Ps.a)[j]?
      rw [List.getElem?_map, List.getElem?_eq_none (by omega)]
theorem st_next {f o N g : Nat} {A A2 : List Ps} {T T2 R : List Tx} (hres : stR f o A T = R) (hf : N ≤ f + o) (ho : o < N) (hl : A.length = N) (hg : grN (pcOf A).c (0 + o) = g) (h : stG (0 + o) g ((pcOf A).c.getD (0 + o) ⟨#[]⟩) g A T = (A2, T2)) : ∃ f0, f = f0 + 1 ∧ stR f0 (g + o) A2 T2 = R := by
  rw [Nat.zero_add] at hg h
  cases f with
  | zero => omega
  | succ f =>
    refine ⟨f, rfl, ?_⟩
    rw [← hres]
    simp only [stR]
    rw [if_neg (by omega), hg, h]
end Go.Proofs.YtkdjnmcaifejjaaGreatDoor

/- Contracts: positions are settled. -/
namespace Go.Proofs.YtkdjnmcaifejjaaGreatDoor
open Go.RowKit Go.Sy
attribute [local irreducible] vcall vloop vcallD retP
set_option maxRecDepth 100000
set_option linter.unusedVariables false
set_option linter.unusedSimpArgs false

abbrev seOut (L : List Ps) : SV → Heap → Nat → Prop :=
  if ckP L ≠ 0 then isOut (.tup [.nsl, .int .i64 (ckP L)]) [] 2 else isOut (.tup [.sl 2 0 0 (seT L).length, .int .i64 0]) [(2, some (.one false (txB (seT L).length (tcOf (seT L)))))] 3
/-- What the loop over the groups holds. -/
structure StI (L : List Ps) (N : Nat) (f o m : Nat) (A : List Ps) (T : List Tx) : Prop where
  lo : o ≤ N
  fu : N ≤ f + o
  len : A.length = N
  tm : T.length = m
  res : stR f o A T = seT L
  bd : ∀ k, inT (A.getD k ps0).a
  tl : m ≤ o
/-- What the loop over one group holds. -/
structure GrI (A : List Ps) (T : List Tx) (N o k m f m' : Nat) (A' : List Ps) (T' : List Tx) : Prop where
  res : stG o k ((pcOf A).c.getD o ⟨#[]⟩) f A' T' = stG o k ((pcOf A).c.getD o ⟨#[]⟩) k A T
  fu : cnz A' o k ≤ f
  len : A'.length = N
  tm : T'.length = m'
  bd : ∀ j, inT (A'.getD j ps0).a
  col : (pcOf A').c = (pcOf A).c
  tl : m' + cnz A' o k ≤ m + k
theorem sgA_col {A : List Ps} {o d e : Nat} (s4 : (A.getD (d + o) ps0).a < 0) (b1 : inT (A.getD (d + o) ps0).a) : min (IntKind.i64.wrap (0 - (pcOf A).a.getD (d + o) 0)) ((pcOf A).a.getD (e + o) 0) = sgA A o d e := by
  unfold sgA
  rw [(atP_n A (d + o)).2.1, (atP_n A (e + o)).2.1, Int.zero_sub, w64_in (by omega) (by omega)]
theorem sgN_bd {A : List Ps} {o d e : Nat} (hd : d + o < A.length) (he : e + o < A.length) (hne : d ≠ e) (s4 : (A.getD (d + o) ps0).a < 0) (s5 : 0 < (A.getD (e + o) ps0).a) (h : ∀ j, inT (A.getD j ps0).a) : ∀ j, inT ((sgN A o d e).getD j ps0).a := by
  intro j
  have b1 := h (d + o)
  have b2 := h (e + o)
  have hs : sgA A o d e = min (-(A.getD (d + o) ps0).a) (A.getD (e + o) ps0).a := rfl
  rw [sgN_get hd he hne]
  split
  · exact ⟨by dsimp only; omega, by dsimp only; omega⟩
  · split
    · exact ⟨by dsimp only; omega, by dsimp only; omega⟩
    · exact h j
theorem rowSt {A : List Ps} {o d e : Nat} (N : Nat) (q1 : (pcOf (sgN A o d e)).p = (pcOf A).p) (q2 : (pcOf (sgN A o d e)).c = (pcOf A).c) (q3 : (pcOf (sgN A o d e)).a = ((pcOf A).a.set (d + o) ((pcOf A).a.getD (d + o) 0 + sgA A o d e)).set (e + o) ((pcOf A).a.getD (e + o) 0 - sgA A o d e)) (hne : d ≠ e) (s4 : (A.getD (d + o) ps0).a < 0) (s5 : 0 < (A.getD (e + o) ps0).a) (b1 : inT (A.getD (d + o) ps0).a) (b2 : inT (A.getD (e + o) ps0).a) :
    (some (HB.one false (.cols N [.sc (.strs (pcOf A).p), .sc (.ints .i64 (((pcOf A).a.set (d + o) (IntKind.i64.wrap ((pcOf A).a.getD (d + o) 0 + min (IntKind.i64.wrap (0 - (pcOf A).a.getD (d + o) 0)) ((pcOf A).a.getD (e + o) 0)))).set (e + o) (IntKind.i64.wrap (((pcOf A).a.set (d + o) (IntKind.i64.wrap ((pcOf A).a.getD (d + o) 0 + min (IntKind.i64.wrap (0 - (pcOf A).a.getD (d + o) 0)) ((pcOf A).a.getD (e + o) 0)))).getD (e + o) 0 - min (IntKind.i64.wrap (0 - (pcOf A).a.getD (d + o) 0)) ((pcOf A).a.getD (e + o) 0))))), .sc (.strs (pcOf A).c)])) : Option HB) = some (.one false (psB N (pcOf (sgN A o d e)))) := by
  have hs : sgA A o d e = min (-(A.getD (d + o) ps0).a) (A.getD (e + o) ps0).a := rfl
  rw [sgA_col s4 b1]
  unfold psB
  rw [q1, q2, q3]
  have v1 := (atP_n A (d + o)).2.1
  have v2 := (atP_n A (e + o)).2.1
  rw [w64_in (n := (pcOf A).a.getD (d + o) 0 + sgA A o d e) (by omega) (by omega)]
  have g : ((pcOf A).a.set (d + o) ((pcOf A).a.getD (d + o) 0 + sgA A o d e)).getD (e + o) 0 = (pcOf A).a.getD (e + o) 0 := by
    rw [List.getD, List.getElem?_set, if_neg (by omega)]; rfl
  rw [g, w64_in (n := (pcOf A).a.getD (e + o) 0 - sgA A o d e) (by omega) (by omega)]
theorem rowTx {A : List Ps} {T : List Tx} {m o d e : Nat} {c : ByteArray} (s4 : (A.getD (d + o) ps0).a < 0) (b1 : inT (A.getD (d + o) ps0).a) :
    (some (HB.one false (.cols (m + 1) [.sc (.strs ((tcOf T).f ++ [(pcOf A).p.getD (d + o) ⟨#[]⟩])), .sc (.strs ((tcOf T).t ++ [(pcOf A).p.getD (e + o) ⟨#[]⟩])), .sc (.ints .i64 ((tcOf T).a ++ [min (IntKind.i64.wrap (0 - (pcOf A).a.getD (d + o) 0)) ((pcOf A).a.getD (e + o) 0)])), .sc (.strs ((tcOf T).c ++ [c]))])) : Option HB) = some (.one false (txB (m + 1) (tcOf (T ++ [sgT A o d e c])))) := by
  rw [sgA_col s4 b1, (atP_n A (d + o)).1, (atP_n A (e + o)).1]
  unfold txB tcOf sgT
  simp only [List.map_append, List.map_cons, List.map_nil]
theorem net_Settle (L : List Ps) (N : Nat) (hn : L.length = N) (hl : N ≤ 1000) : FC Tryz.prog 2 40 [.sl 1 0 0 N] [(1, some (.one true (psB N (pcOf L))))] (seOut L) := by
  have c1 := net_Check L N hn (by omega)
  unfold seOut
  by_cases hck : ckP L ≠ 0
  · rw [if_pos hck]
    generalize ckP L = ck at *
    refine fc_of mixed T_ok Tryz.func40 rfl (by kernel_rfl) (by kernel_rfl) (by kernel_rfl) ?_
    repeat' ((conv => whnf); first | (refine vcall_out (l :=  [0, 1]) (c1 ) ⟨rfl, rfl, rfl, rfl, (by (repeat' (first | exact trivial | exact GB_wf | exact fun _ _ => rfl | constructor)); first | done | fail), (by (repeat' (first | exact trivial | exact GB_fits rfl | constructor)); first | done | fail)⟩ ?_) | (refine br_dec (fun h => ?_) (fun h => ?_) <;> try (exfalso; (try dsimp only at h); omega)) | (refine br_ndec (fun h => ?_) (fun h => ?_) <;> try (exfalso; (try dsimp only at h); omega)) | refine br_seq (fun h => ?_) (fun h => ?_) | refine br_nseq (fun h => ?_) (fun h => ?_) | refine br_not (fun h => ?_) (fun h => ?_) | refine br_intro (fun h => ?_) (fun h => ?_) | refine cond_intro rfl ?_ | (refine cond_intro ⟨rfl, ?_⟩ ?_; (first | omega | (dsimp only; omega) | decide)) | (refine cond_intro ?_ ?_; (first | omega | (dsimp only; omega) | decide | (simp only [Nat.add_zero, Int.toNat_natCast, *]; omega))))
    all_goals (conv => whnf)
    all_goals first
      | exact ret_out (l := [0, 1]) rfl rfl trivial allRw_nil
      | (exfalso; omega)
      | trace_state
  rw [if_neg hck]
  have hz := Classical.not_not.1 hck
  rw [hz] at c1
  have hsg : sgP L = 0 := by
    unfold ckP at hz
    split at hz
    · rename_i q; exact absurd hz q
    · rename_i q; exact Classical.not_not.1 q
  have hRw := sgP_rw hsg
  have c2 := pos_Clone L N hn (by omega)
  have c3 := sort_pos N L (by omega) hn hRw.dist
  have hbs : ∀ k, inT ((srt_n L).getD k ps0).a := bd_iff.2 fun x hx => bd_iff.1 hRw.bd x ((srt_perm_n L).subset hx)
  have hI0 : StI L N N 0 0 (srt_n L) [] := ⟨Nat.zero_le _, by omega, (srt_perm_n L).length_eq.trans hn, rfl, by unfold seT; rw [if_neg hck, hn], hbs, Nat.le_refl _⟩
  refine fc_of mixed T_ok Tryz.func40 rfl (by kernel_rfl) (by kernel_rfl) (by kernel_rfl) ?_
  repeat' ((conv => whnf); first | (refine vcall_out (l :=  [0, 1]) (c1 ) ⟨rfl, rfl, rfl, rfl, (by (repeat' (first | exact trivial | exact GB_wf | exact fun _ _ => rfl | constructor)); first | done | fail), (by (repeat' (first | exact trivial | exact GB_fits rfl | constructor)); first | done | fail)⟩ ?_) | (refine vcall_out (l :=  [0, 1]) (c2 ) ⟨rfl, rfl, rfl, rfl, (by (repeat' (first | exact trivial | exact GB_wf | exact fun _ _ => rfl | constructor)); first | done | fail), (by (repeat' (first | exact trivial | exact GB_fits rfl | constructor)); first | done | fail)⟩ ?_) | (refine vcall_out (l :=  [0, 2]) (c3 ) ⟨rfl, rfl, rfl, rfl, (by (repeat' (first | exact trivial | exact GB_wf | exact fun _ _ => rfl | constructor)); first | done | fail), (by (repeat' (first | exact trivial | exact GB_fits rfl | constructor)); first | done | fail)⟩ ?_) | (refine br_dec (fun h => ?_) (fun h => ?_) <;> try (exfalso; (try dsimp only at h); omega)) | (refine br_ndec (fun h => ?_) (fun h => ?_) <;> try (exfalso; (try dsimp only at h); omega)) | refine br_seq (fun h => ?_) (fun h => ?_) | refine br_nseq (fun h => ?_) (fun h => ?_) | refine br_not (fun h => ?_) (fun h => ?_) | refine br_intro (fun h => ?_) (fun h => ?_) | refine cond_intro rfl ?_ | (refine cond_intro ⟨rfl, ?_⟩ ?_; (first | omega | (dsimp only; omega) | decide)) | (refine cond_intro ?_ ?_; (first | omega | (dsimp only; omega) | decide | (simp only [Nat.add_zero, Int.toNat_natCast, *]; omega))))
  all_goals (conv => whnf)
  refine vloop_lp (fun x : Nat × Nat × Nat × List Ps × List Tx => ⟨[(5, .sl 2 0 x.2.1 (N - x.2.1)), (6, .sl 3 0 0 x.2.2.1)], [(2, some (.one false (psB N (pcOf x.2.2.2.1)))), (3, some (.one false (txB x.2.2.1 (tcOf x.2.2.2.2))))], 4⟩) (fun x => StI L N x.1 x.2.1 x.2.2.1 x.2.2.2.1 x.2.2.2.2) (fun x => N - x.2.1) (N, 0, 0, srt_n L, []) [0, 1, 2, 3] [.slot 6 [.sc (.strs []), .sc (.strs []), .sc (.ints .i64 []), .sc (.strs [])]] ⟨rfl, ⟨rfl, rfl, trivial⟩, ⟨rfl, rfl, trivial⟩⟩ hI0 ?_
  rintro ⟨f, o, m, A, T⟩ hI
  dsimp only at hI
  dsimp only
  obtain ⟨hle, hfu, hAl, hTm, hres, hbd, htl⟩ := hI
  by_cases ho : o < N
  · have hgl := grN_le (pcOf A).c (0 + o)
    have hCl : (pcOf A).c.length = N := by simp [pcOf, hAl]
    have hin : ∀ j, j < grN (pcOf A).c (0 + o) → (pcOf A).c.getD (j + o) ⟨#[]⟩ = (pcOf A).c.getD (0 + o) ⟨#[]⟩ := fun j h => by have := grN_in h; rwa [show j + (0 + o) = j + o by omega] at this
    have hend : grN (pcOf A).c (0 + o) + o < N → ¬ (pcOf A).c.getD (grN (pcOf A).c (0 + o) + o) ⟨#[]⟩ = (pcOf A).c.getD (0 + o) ⟨#[]⟩ := fun h => by have := grN_end (C := (pcOf A).c) (o := 0 + o) (by omega); rwa [show grN (pcOf A).c (0 + o) + (0 + o) = grN (pcOf A).c (0 + o) + o by omega] at this
    rw [hCl] at hgl
    repeat' ((conv => whnf); first | (refine br_dec (fun h => ?_) (fun h => ?_) <;> try (exfalso; (try dsimp only at h); omega)) | (refine br_ndec (fun h => ?_) (fun h => ?_) <;> try (exfalso; (try dsimp only at h); omega)) | refine br_seq (fun h => ?_) (fun h => ?_) | refine br_nseq (fun h => ?_) (fun h => ?_) | refine br_not (fun h => ?_) (fun h => ?_) | refine br_intro (fun h => ?_) (fun h => ?_) | refine cond_intro rfl ?_ | (refine cond_intro ⟨rfl, ?_⟩ ?_; (first | omega | (dsimp only; omega) | decide)) | (refine cond_intro ?_ ?_; (first | omega | (dsimp only; omega) | decide | (simp only [Nat.add_zero, Int.toNat_natCast, *]; omega))))
    all_goals (conv => whnf)
    all_goals first
      | (exfalso; omega)
      | skip
    refine vloop_lp (fun k : Nat => ⟨[(5, .sl 2 0 o (N - o)), (6, .sl 3 0 0 m), (7, .str ((pcOf A).c.getD (0 + o) ⟨#[]⟩)), (8, .int .i64 k)], [(2, some (.one false (psB N (pcOf A)))), (3, some (.one false (txB m (tcOf T))))], 4⟩) (fun k => k ≤ grN (pcOf A).c (0 + o)) (fun k => grN (pcOf A).c (0 + o) - k) 0 [0, 1, 2, 3] [] ⟨rfl, ⟨rfl, rfl, rfl, rfl, trivial⟩, ⟨rfl, rfl, trivial⟩⟩ (Nat.zero_le _) ?_
    intro k hk
    generalize hg : grN (pcOf A).c (0 + o) = g at *
    by_cases hk2 : k < g
    · have hck2 := hin k hk2
      repeat' ((conv => whnf); first | (refine br_dec (fun h => ?_) (fun h => ?_) <;> try (exfalso; (try dsimp only at h); omega)) | (refine br_ndec (fun h => ?_) (fun h => ?_) <;> try (exfalso; (try dsimp only at h); omega)) | refine br_seq (fun h => ?_) (fun h => ?_) | refine br_nseq (fun h => ?_) (fun h => ?_) | refine br_not (fun h => ?_) (fun h => ?_) | refine br_intro (fun h => ?_) (fun h => ?_) | refine cond_intro rfl ?_ | (refine cond_intro ⟨rfl, ?_⟩ ?_; (first | omega | (dsimp only; omega) | decide)) | (refine cond_intro ?_ ?_; (first | omega | (dsimp only; omega) | decide | (simp only [Nat.add_zero, Int.toNat_natCast, *]; omega))))
      all_goals (conv => whnf)
      all_goals first
        | (exfalso; first | omega | contradiction)
        | exact ⟨k + 1, [0, 1, 2, 3], [], hk2, (show g - (k + 1) < g - k by omega), ⟨rfl, ⟨rfl, rfl, rfl, congrArg (fun z => some (SV.int .i64 z)) (i64_succ (by omega)), trivial⟩, ⟨rfl, rfl, trivial⟩⟩⟩
        | trace_state
    · have e : k = g := by omega
      subst e
      repeat' ((conv => whnf); first | (refine br_dec (fun h => ?_) (fun h => ?_) <;> try (exfalso; (try dsimp only at h); omega)) | (refine br_ndec (fun h => ?_) (fun h => ?_) <;> try (exfalso; (try dsimp only at h); omega)) | refine br_seq (fun h => ?_) (fun h => ?_) | refine br_nseq (fun h => ?_) (fun h => ?_) | refine br_not (fun h => ?_) (fun h => ?_) | refine br_intro (fun h => ?_) (fun h => ?_) | refine cond_intro rfl ?_ | (refine cond_intro ⟨rfl, ?_⟩ ?_; (first | omega | (dsimp only; omega) | decide)) | (refine cond_intro ?_ ?_; (first | omega | (dsimp only; omega) | decide | (simp only [Nat.add_zero, Int.toNat_natCast, *]; omega))))
      all_goals (conv => whnf)
      all_goals first
        | (exfalso; first | omega | (exact hend (by omega) (by assumption)))
        | skip
      all_goals refine vloop_lp (fun x : Nat × Nat × List Ps × List Tx => ⟨[(5, .sl 2 0 (k + o) (N - o - k)), (6, .sl 3 0 0 x.2.1), (7, .str ((pcOf A).c.getD (0 + o) ⟨#[]⟩)), (9, .sl 2 0 (0 + o) k)], [(2, some (.one false (psB N (pcOf x.2.2.1)))), (3, some (.one false (txB x.2.1 (tcOf x.2.2.2))))], 4⟩) (fun x => GrI A T N (0 + o) k m x.1 x.2.1 x.2.2.1 x.2.2.2) (fun x => x.1) (k, m, A, T) [0, 1, 2, 3] [] ⟨rfl, ⟨rfl, rfl, rfl, rfl, trivial⟩, ⟨rfl, rfl, trivial⟩⟩ ⟨rfl, cnz_le _ _ _, hAl, hTm, hbd, rfl, Nat.add_le_add_left (cnz_le A (0 + o) k) m⟩ ?_
      all_goals rintro ⟨f', m', A', T'⟩ hG
      all_goals dsimp only at hG
      all_goals dsimp only
      all_goals obtain ⟨gres, gfu, glen, gtm, gbd, gcol, gtl⟩ := hG
      all_goals have hk1 : 0 < k := Nat.pos_of_ne_zero fun q => by subst q; exact hend (by omega) rfl
      all_goals have c4 := net_extremes A' N (0 + o) k glen (by omega) (by omega)
      all_goals by_cases hDE : dK (pcOf A').a (0 + o) k = none ∨ eK (pcOf A').a (0 + o) k = none
      all_goals first
        | (have gend := stG_end (c := (pcOf A).c.getD (0 + o) ⟨#[]⟩) (T := T') hDE f'
           rw [gend] at gres
           obtain ⟨f0, hf0, hnx⟩ := st_next hres hfu ho hAl hg gres.symm
           have hI2 : StI L N f0 (k + o) m' A' T' := ⟨by omega, by omega, glen, gtm, hnx, gbd, by omega⟩
           have hlt : oI (dK (pcOf A').a (0 + o) k) < 0 ∨ oI (eK (pcOf A').a (0 + o) k) < 0 := by
             rcases hDE with q | q
             · rw [q]; exact .inl (by decide)
             · rw [q]; exact .inr (by decide)
           clear hnx hI0
           generalize oI (dK (pcOf A').a (0 + o) k) = dI at *
           generalize oI (eK (pcOf A').a (0 + o) k) = eI at *
           repeat' ((conv => whnf); first | (refine vcall_out (l :=  [0, 2]) (c4 ) ⟨rfl, rfl, rfl, rfl, (by (repeat' (first | exact trivial | exact GB_wf | exact fun _ _ => rfl | constructor)); first | done | fail), (by (repeat' (first | exact trivial | exact GB_fits rfl | constructor)); first | done | fail)⟩ ?_) | (refine vcallD_out (l :=  [0, 2]) (c4 ) ⟨rfl, rfl, rfl, rfl, (by (repeat' (first | exact trivial | exact GB_wf | exact fun _ _ => rfl | constructor)); first | done | fail), (by (repeat' (first | exact trivial | exact GB_fits rfl | constructor)); first | done | fail)⟩ ?_) | (refine br_dec (fun h => ?_) (fun h => ?_) <;> try (exfalso; (try dsimp only at h); omega)) | (refine br_ndec (fun h => ?_) (fun h => ?_) <;> try (exfalso; (try dsimp only at h); omega)) | refine br_seq (fun h => ?_) (fun h => ?_) | refine br_nseq (fun h => ?_) (fun h => ?_) | refine br_not (fun h => ?_) (fun h => ?_) | refine br_intro (fun h => ?_) (fun h => ?_) | refine cond_intro rfl ?_ | (refine cond_intro ⟨rfl, ?_⟩ ?_; (first | omega | (dsimp only; omega) | decide)) | (refine cond_intro ?_ ?_; (first | omega | (dsimp only; omega) | decide | (simp only [Nat.add_zero, Int.toNat_natCast, *]; omega))))
           all_goals (conv => whnf)
           all_goals first
             | (exfalso; omega)
             | (rw [show N - o - k = N - (k + o) by omega]; exact ⟨(f0, k + o, m', A', T'), [0, 1, 2, 3], [], hI2, (show N - (k + o) < N - o by omega), ⟨rfl, ⟨rfl, rfl, trivial⟩, ⟨rfl, rfl, trivial⟩⟩⟩)
             | trace_state)
        | skip
      all_goals rw [not_or] at hDE
      all_goals obtain ⟨d, hd⟩ := Option.ne_none_iff_exists'.1 hDE.1
      all_goals obtain ⟨e, he⟩ := Option.ne_none_iff_exists'.1 hDE.2
      all_goals obtain ⟨s1, s2, s3, s4, s5, s6, s7⟩ := step_facts (A := A') (o := 0 + o) (n := k) (by omega) hd he
      all_goals obtain ⟨q1, q2, q3⟩ := sgN_cols (A := A') (o := 0 + o) (d := d) (e := e) (by omega) (by omega) s3
      all_goals have b1 := gbd (d + (0 + o))
      all_goals have b2 := gbd (e + (0 + o))
      all_goals rw [hd, he] at c4
      all_goals simp only [oI] at c4
      all_goals obtain ⟨f2, rfl⟩ := Nat.exists_eq_succ_of_ne_zero (show f' ≠ 0 by omega)
      all_goals have hst := stG_step (c := (pcOf A).c.getD (0 + o) ⟨#[]⟩) (f := f2) (T := T') hd he
      all_goals rw [hst] at gres
      all_goals clear hI0 hres hst
      all_goals have hG2 : GrI A T N (0 + o) k m f2 (m' + 1) (sgN A' (0 + o) d e) (T' ++ [sgT A' (0 + o) d e ((pcOf A).c.getD (0 + o) ⟨#[]⟩)]) := ⟨gres, by omega, by rw [sgN_len]; exact glen, by rw [List.length_append, gtm]; rfl, sgN_bd (by omega) (by omega) s3 s4 s5 gbd, q2.trans gcol, by omega⟩
      all_goals have hr2 := rowSt N q1 q2 q3 s3 s4 s5 b1 b2
      all_goals have hr3 := rowTx (A := A') (T := T') (m := m') (o := 0 + o) (d := d) (e := e) (c := (pcOf A).c.getD (0 + o) ⟨#[]⟩) s4 b1
      all_goals repeat' ((conv => whnf); first | (refine vcall_out (l :=  [0, 2]) (c4 ) ⟨rfl, rfl, rfl, rfl, (by (repeat' (first | exact trivial | exact GB_wf | exact fun _ _ => rfl | constructor)); first | done | fail), (by (repeat' (first | exact trivial | exact GB_fits rfl | constructor)); first | done | fail)⟩ ?_) | (refine vcallD_out (l :=  [0, 2]) (c4 ) ⟨rfl, rfl, rfl, rfl, (by (repeat' (first | exact trivial | exact GB_wf | exact fun _ _ => rfl | constructor)); first | done | fail), (by (repeat' (first | exact trivial | exact GB_fits rfl | constructor)); first | done | fail)⟩ ?_) | (refine br_dec (fun h => ?_) (fun h => ?_) <;> try (exfalso; (try dsimp only at h); omega)) | (refine br_ndec (fun h => ?_) (fun h => ?_) <;> try (exfalso; (try dsimp only at h); omega)) | refine br_seq (fun h => ?_) (fun h => ?_) | refine br_nseq (fun h => ?_) (fun h => ?_) | refine br_not (fun h => ?_) (fun h => ?_) | refine br_intro (fun h => ?_) (fun h => ?_) | refine cond_intro rfl ?_ | (refine cond_intro ⟨rfl, ?_⟩ ?_; (first | omega | (dsimp only; omega) | decide)) | (refine cond_intro ?_ ?_; (first | omega | (dsimp only; omega) | decide | (simp only [Nat.add_zero, Int.toNat_natCast, *]; omega))))
      all_goals (conv => whnf)
      all_goals (try simp only [toNatO] at *)
      all_goals first
        | (exfalso; omega)
        | exact ⟨(f2, m' + 1, sgN A' (0 + o) d e, T' ++ [sgT A' (0 + o) d e ((pcOf A).c.getD (0 + o) ⟨#[]⟩)]), [0, 1, 2, 5], [], hG2, Nat.lt_succ_self _, ⟨rfl, ⟨rfl, rfl, rfl, rfl, trivial⟩, ⟨hr2, hr3, trivial⟩⟩⟩
        | trace_state
  · have e : o = N := by omega
    subst e
    have hT : T = seT L := by
      rw [← hres]
      cases f with
      | zero => rfl
      | succ f => simp only [stR]; rw [if_pos (by omega)]
    subst hT
    rw [hTm]
    repeat' ((conv => whnf); first | (refine br_dec (fun h => ?_) (fun h => ?_) <;> try (exfalso; (try dsimp only at h); omega)) | (refine br_ndec (fun h => ?_) (fun h => ?_) <;> try (exfalso; (try dsimp only at h); omega)) | refine br_seq (fun h => ?_) (fun h => ?_) | refine br_nseq (fun h => ?_) (fun h => ?_) | refine br_not (fun h => ?_) (fun h => ?_) | refine br_intro (fun h => ?_) (fun h => ?_) | refine cond_intro rfl ?_ | (refine cond_intro ⟨rfl, ?_⟩ ?_; (first | omega | (dsimp only; omega) | decide)) | (refine cond_intro ?_ ?_; (first | omega | (dsimp only; omega) | decide | (simp only [Nat.add_zero, Int.toNat_natCast, *]; omega))))
    all_goals (conv => whnf)
    all_goals first
      | exact ret_out (l := [0, 1, 3]) rfl rfl ⟨rfl, trivial⟩ (allRw_cons allRw_nil)
      | (exfalso; omega)
      | trace_state
end Go.Proofs.YtkdjnmcaifejjaaGreatDoor

/- Contract of package cycle: the transfers of a closed cycle. -/
namespace Go.Proofs.YtkdjnmcaifejjaaGreatDoor
open Go.RowKit Go.Sy
attribute [local irreducible] vcall vloop vcallD retP sortI
set_option maxRecDepth 100000
set_option linter.unusedVariables false
set_option linter.unusedSimpArgs false

/-- Positions, as package netting has them. -/
def psL (L : List Px) : List Ps := L.map (fun x => ⟨x.p, x.a, x.c⟩)
theorem psL_len (L : List Px) : (psL L).length = L.length := by unfold psL; rw [List.length_map]
theorem psL_col (n : Nat) (L : List Px) : psB n (pcOf (psL L)) = pxB n (pxOf L) := by
  unfold psB pcOf psL pxOf
  simp only [List.map_map, Function.comp_def]
abbrev stH (np m nc : Nat) (cut : Int) (ds cd : List Int) (B : List Bk) (pr : List ByteArray) (q : RL) : Heap := [(10, some (.one true (rlB q))), (0, some (GB glT)), (1, cyC true 2 4 5 6 np cut), (4, cyP true np pr), (5, cyB true 7 m ds), (6, tmM true nc cd), (7, fmB true m (f7 8 9 np)), (8, fmB true m (f8 np (sortS pr))), (9, fmB true m (f9 B))]
def shO (b : Bk) (shut : Prop) [Decidable shut] (q : RL) (t p : ByteArray) : SV → Heap → Nat → Prop :=
  if shut then (if b.cvE q t p ≠ 0 then isOut (.tup [.nsl, .int .i64 (b.cvE q t p)]) [] 11 else if ckP (psL (b.cvL q t p)) ≠ 0 then isOut (.tup [.nsl, .int .i64 (ckP (psL (b.cvL q t p)))]) [] 11 else isOut (.tup [.sl 11 0 0 (seT (psL (b.cvL q t p))).length, .int .i64 0]) [(11, some (.one false (txB (seT (psL (b.cvL q t p))).length (tcOf (seT (psL (b.cvL q t p)))))))] 12)
  else isOut (.tup [.nsl, .int .i64 8]) [] 11
theorem at_I {ds : List Int} {B : List Bk} {m np : Nat} {pr : List ByteArray} (hb : BksI ds B m np (sortS pr)) (hp : pr.length = np) (he : nwErr pr = 0) (d : Int) : BkI (bkAt ds B pr d) 4503599627370496 ∧ (bkAt ds B pr d).n = np ∧ (bkAt ds B pr d).ps = sortS pr ∧ (bkAt ds B pr d).m ≤ 100000 := by
  unfold bkAt
  by_cases hd : d ∈ ds
  · rw [if_pos hd]
    exact hb.I _ (by rw [← hb.dl]; exact iidx_lt.2 hd)
  · rw [if_neg hd]
    exact ⟨(nwB_I he).up (by decide), hp, rfl, Nat.zero_le _⟩
set_option maxHeartbeats 1000000 in
theorem cy_Settle {np m nc : Nat} {ds cd : List Int} {B : List Bk} {pr : List ByteArray} (hb : BksI ds B m np (sortS pr)) (hc : cd.length = nc) (hp : pr.length = np) (he : nwErr pr = 0) (cut d : Int) (q : RL) (hq : q.l ≤ 1000) (t p : ByteArray) : FC Tryz.prog 11 18 [.ptr 1 0 0 0, .int .i64 d, .sl 10 0 0 q.l, .str t, .str p] (stH np m nc cut ds cd B pr q) (shO (bkAt ds B pr d) (d ∈ cd) q t p) := by
  have hg := tm_get hc d
  unfold shO
  by_cases hd : d ∈ cd
  case neg =>
    rw [if_neg hd]
    rw [decide_eq_false hd] at hg
    refine fc_of mixed T_ok Tryz.func18 rfl (by kernel_rfl) (by kernel_rfl) (by kernel_rfl) ?_
    repeat' ((conv => whnf); first | ((first | apply br_dec | apply br_ndec) <;> intro h <;> try (exfalso; (try dsimp only at h); omega)) | ((first | apply br_seq | apply br_nseq | apply br_not | apply br_intro) <;> intro h) | refine cond_a ?_)
    all_goals (conv => whnf)
    all_goals first
      | exact ret_out (l := [0, 1, 2, 3, 4, 5, 6, 7, 8, 9, 10]) rfl rfl trivial allRw_nil
      | (exfalso; rw [hg] at h; cases h; done)
      | (exfalso; omega)
      | trace_state
  rw [if_pos hd]
  rw [decide_eq_true hd] at hg
  obtain ⟨a1, a2, a3, a4⟩ := at_I hb hp he d
  have hn16 := a1.n16
  have hlen : ((bkAt ds B pr d).cvL q t p).length ≤ 16 := Nat.le_trans (liR_len _ _ _ _) hn16
  have cN := net_Settle (psL ((bkAt ds B pr d).cvL q t p)) ((bkAt ds B pr d).cvL q t p).length (psL_len _) (by omega)
  rw [psL_col] at cN
  dsimp only [seOut] at cN
  by_cases hd2 : d ∈ ds
  · have hi : iidx ds d < m := by rw [← hb.dl]; exact iidx_lt.2 hd2
    have c3 := cy_book_old (np := np) hb.dl cut d hd2
    have hat : bkAt ds B pr d = B.getD (iidx ds d) bk0 := if_pos hd2
    obtain ⟨b1, b2, b3, b4⟩ := hb.I _ hi
    have c4 := pos_ConvertF hi b1 b2 b3 b4 q hq t p
    rw [← hat] at c4
    generalize bkAt ds B pr d = b at *
    unfold cvOut at c4
    by_cases hz : b.cvE q t p = 0
    case neg =>
      rw [if_pos hz] at c4 ⊢
      generalize b.cvE q t p = e at *
      refine fc_of mixed T_ok Tryz.func18 rfl (by kernel_rfl) (by kernel_rfl) (by kernel_rfl) ?_
      repeat' ((conv => whnf); first | refine vcall_o (l := [0, 1, 2, 3, 4, 5, 6, 7, 8, 9]) (c3) ?_ | refine vcall_o (l := [0, 7, 8, 9, 10]) (c4) ?_ | ((first | apply br_dec | apply br_ndec) <;> intro h <;> try (exfalso; (try dsimp only at h); omega)) | ((first | apply br_seq | apply br_nseq | apply br_not | apply br_intro) <;> intro h) | refine cond_a ?_)
      all_goals (conv => whnf)
      all_goals first
        | exact ret_out (l := [0, 1, 2, 3, 4, 5, 6, 7, 8, 9, 10]) rfl rfl trivial allRw_nil
        | (exfalso; rw [hg] at h; cases h; done)
        | (exfalso; omega)
        | trace_state
    rw [if_neg (by simpa using hz)] at c4 ⊢
    generalize b.cvL q t p = L at *
    by_cases hk : ckP (psL L) = 0
    · rw [if_neg (by simpa using hk)] at cN ⊢
      generalize seT (psL L) = S at *
      refine fc_of mixed T_ok Tryz.func18 rfl (by kernel_rfl) (by kernel_rfl) (by kernel_rfl) ?_
      repeat' ((conv => whnf); first | refine vcall_o (l := [0, 1, 2, 3, 4, 5, 6, 7, 8, 9]) (c3) ?_ | refine vcall_o (l := [0, 7, 8, 9, 10]) (c4) ?_ | refine vcall_o (l := [0, 11]) (cN) ?_ | ((first | apply br_dec | apply br_ndec) <;> intro h <;> try (exfalso; (try dsimp only at h); omega)) | ((first | apply br_seq | apply br_nseq | apply br_not | apply br_intro) <;> intro h) | refine cond_a ?_)
      all_goals (conv => whnf)
      all_goals first
        | exact ret_out (l := [0, 1, 2, 3, 4, 5, 6, 7, 8, 9, 10, 12]) rfl rfl ⟨rfl, trivial⟩ (allRw_cons allRw_nil)
        | (exfalso; rw [hg] at h; cases h; done)
        | (exfalso; omega)
        | trace_state
    · rw [if_pos hk] at cN ⊢
      generalize ckP (psL L) = e at *
      refine fc_of mixed T_ok Tryz.func18 rfl (by kernel_rfl) (by kernel_rfl) (by kernel_rfl) ?_
      repeat' ((conv => whnf); first | refine vcall_o (l := [0, 1, 2, 3, 4, 5, 6, 7, 8, 9]) (c3) ?_ | refine vcall_o (l := [0, 7, 8, 9, 10]) (c4) ?_ | refine vcall_o (l := [0, 11]) (cN) ?_ | ((first | apply br_dec | apply br_ndec) <;> intro h <;> try (exfalso; (try dsimp only at h); omega)) | ((first | apply br_seq | apply br_nseq | apply br_not | apply br_intro) <;> intro h) | refine cond_a ?_)
      all_goals (conv => whnf)
      all_goals first
        | exact ret_out (l := [0, 1, 2, 3, 4, 5, 6, 7, 8, 9, 10]) rfl rfl trivial allRw_nil
        | (exfalso; rw [hg] at h; cases h; done)
        | (exfalso; omega)
        | trace_state
  · have c3 := cy_book_new hb.dl hp he cut d hd2
    have hat : bkAt ds B pr d = nwB pr := if_neg hd2
    have c4 := pos_ConvertX a1 a2 a3 a4 q hq t p
    rw [← hat] at c3
    generalize bkAt ds B pr d = b at *
    unfold cvOut at c4
    by_cases hz : b.cvE q t p = 0
    case neg =>
      rw [if_pos hz] at c4 ⊢
      generalize b.cvE q t p = e at *
      refine fc_of mixed T_ok Tryz.func18 rfl (by kernel_rfl) (by kernel_rfl) (by kernel_rfl) ?_
      repeat' ((conv => whnf); first | refine vcall_o (l := [0, 1, 2, 3, 4, 5, 6, 7, 8, 9]) (c3) ?_ | refine vcall_o (l := [0, 11, 12, 13, 10]) (c4) ?_ | ((first | apply br_dec | apply br_ndec) <;> intro h <;> try (exfalso; (try dsimp only at h); omega)) | ((first | apply br_seq | apply br_nseq | apply br_not | apply br_intro) <;> intro h) | refine cond_a ?_)
      all_goals (conv => whnf)
      all_goals first
        | exact ret_out (l := [0, 1, 2, 3, 4, 5, 6, 7, 8, 9, 10]) rfl rfl trivial allRw_nil
        | (exfalso; rw [hg] at h; cases h; done)
        | (exfalso; omega)
        | trace_state
    rw [if_neg (by simpa using hz)] at c4 ⊢
    generalize b.cvL q t p = L at *
    by_cases hk : ckP (psL L) = 0
    · rw [if_neg (by simpa using hk)] at cN ⊢
      generalize seT (psL L) = S at *
      refine fc_of mixed T_ok Tryz.func18 rfl (by kernel_rfl) (by kernel_rfl) (by kernel_rfl) ?_
      repeat' ((conv => whnf); first | refine vcall_o (l := [0, 1, 2, 3, 4, 5, 6, 7, 8, 9]) (c3) ?_ | refine vcall_o (l := [0, 11, 12, 13, 10]) (c4) ?_ | refine vcall_o (l := [0, 14]) (cN) ?_ | ((first | apply br_dec | apply br_ndec) <;> intro h <;> try (exfalso; (try dsimp only at h); omega)) | ((first | apply br_seq | apply br_nseq | apply br_not | apply br_intro) <;> intro h) | refine cond_a ?_)
      all_goals (conv => whnf)
      all_goals first
        | exact ret_out (l := [0, 1, 2, 3, 4, 5, 6, 7, 8, 9, 10, 15]) rfl rfl ⟨rfl, trivial⟩ (allRw_cons allRw_nil)
        | (exfalso; rw [hg] at h; cases h; done)
        | (exfalso; omega)
        | trace_state
    · rw [if_pos hk] at cN ⊢
      generalize ckP (psL L) = e at *
      refine fc_of mixed T_ok Tryz.func18 rfl (by kernel_rfl) (by kernel_rfl) (by kernel_rfl) ?_
      repeat' ((conv => whnf); first | refine vcall_o (l := [0, 1, 2, 3, 4, 5, 6, 7, 8, 9]) (c3) ?_ | refine vcall_o (l := [0, 11, 12, 13, 10]) (c4) ?_ | refine vcall_o (l := [0, 14]) (cN) ?_ | ((first | apply br_dec | apply br_ndec) <;> intro h <;> try (exfalso; (try dsimp only at h); omega)) | ((first | apply br_seq | apply br_nseq | apply br_not | apply br_intro) <;> intro h) | refine cond_a ?_)
      all_goals (conv => whnf)
      all_goals first
        | exact ret_out (l := [0, 1, 2, 3, 4, 5, 6, 7, 8, 9, 10]) rfl rfl trivial allRw_nil
        | (exfalso; rw [hg] at h; cases h; done)
        | (exfalso; omega)
        | trace_state
end Go.Proofs.YtkdjnmcaifejjaaGreatDoor

/- The law: a cycle with movements is not left open, and a closed one is settled. -/
namespace Go.Proofs.YtkdjnmcaifejjaaGreatDoor
open Go.RowKit Go.Sy
attribute [local irreducible] vcall vloop vcallD retP sortI
set_option maxRecDepth 100000
set_option linter.unusedVariables false
set_option linter.unusedSimpArgs false

def rwA (a : Int) : List Int := mvRow z16 0 1 a
def kA (a : Int) : Bk := ⟨3, p3, 1, [sUsd], [rwA a], [0], 1⟩
theorem rwA_0 (a : Int) : (rwA a).getD 0 0 = 0 - a := rfl
theorem rwA_1 (a : Int) : (rwA a).getD 1 0 = 0 + a := rfl
theorem rwA_2 (a : Int) : (rwA a).getD 2 0 = 0 := rfl
theorem liR_two {r : List Int} {c : ByteArray} {x y : Int} (h0 : r.getD 0 0 = x) (h1 : r.getD 1 0 = y) (h2 : r.getD 2 0 = 0) (hx : x ≠ 0) (hy : y ≠ 0) : liR r p3 c 3 = [⟨⟨#[97]⟩, x, c⟩, ⟨⟨#[98]⟩, y, c⟩] := by
  simp only [liR, h0, h1, h2, if_neg hx, if_neg hy, if_true]
  rfl
theorem k0_mvEA {a : Int} (h : 1 ≤ a ∧ a ≤ 65536) : mvE k0 ⟨#[97]⟩ ⟨#[98]⟩ sUsd a = 0 := by
  have i1 : idI k0.ps ⟨#[97]⟩ k0.n = 0 := by kernel_rfl
  have i2 : idI k0.ps ⟨#[98]⟩ k0.n = 1 := by kernel_rfl
  have s1 : sidx k0.ps ⟨#[97]⟩ = 0 := by kernel_rfl
  have s2 : sidx k0.ps ⟨#[98]⟩ = 1 := by kernel_rfl
  have m : mchk a sUsd = 0 := by
    unfold mchk
    rw [if_neg (by rw [show curB sUsd = true from by kernel_rfl]; simp), if_pos (by omega)]
  unfold mvE
  rw [i1, i2, m, s1, s2, if_neg (by omega), if_neg (by omega), if_neg (by omega), if_neg (by omega), if_pos]
  exact ⟨fitB_t.2 (by show -4503599627370496 ≤ 0 - a ∧ 0 - a ≤ 4503599627370496; omega), fitB_t.2 (by show -4503599627370496 ≤ 0 + a ∧ 0 + a ≤ 4503599627370496; omega)⟩
theorem k0_mvA {a : Int} (h : 1 ≤ a ∧ a ≤ 65536) : k0.mv ⟨#[97]⟩ ⟨#[98]⟩ sUsd a = kA a := by
  have s1 : sidx k0.ps ⟨#[97]⟩ = 0 := by kernel_rfl
  have s2 : sidx k0.ps ⟨#[98]⟩ = 1 := by kernel_rfl
  unfold Bk.mv
  rw [if_pos (k0_mvEA h), s1, s2]
  show k0.mv1 sUsd (rwA a) = _
  unfold Bk.mv1
  rw [if_neg (fun q => by
    have : (rwA a).getD 0 0 = z16.getD 0 0 := congrArg (fun l : List Int => l.getD 0 0) q
    rw [rwA_0, z16_get] at this
    omega)]
  rfl
theorem kA_I {a : Int} (h : 1 ≤ a ∧ a ≤ 65536) : BkI (kA a) 4503599627370496 := by rw [← k0_mvA h]; exact mv_I k0_I _ _ _ _
abbrev lsA (a : Int) : List Px := [⟨⟨#[97]⟩, 0 - a, sUsd⟩, ⟨⟨#[98]⟩, 0 + a, sUsd⟩]
theorem kA_sort (a : Int) : sortS (kA a).cs = [sUsd] := one_sort sUsd
theorem kA_row (a : Int) : (kA a).row ([sUsd].getD 0 ⟨#[]⟩) = rwA a := by
  show [rwA a].getD (sidx [sUsd] sUsd) z16 = _
  rw [show sidx [sUsd] sUsd = 0 from by kernel_rfl]; rfl
theorem kA_list {a : Int} (h : 1 ≤ a ∧ a ≤ 65536) : (kA a).list = lsA a := by
  unfold Bk.list
  rw [kA_sort]
  show liA (kA a) [sUsd] 0 ++ liR ((kA a).row ([sUsd].getD 0 ⟨#[]⟩)) p3 sUsd 3 = _
  rw [kA_row, liR_two (rwA_0 a) (rwA_1 a) (rwA_2 a) (by omega) (by omega)]; rfl
theorem kA_cvS (a : Int) (j : Nat) (hj : j < 16) : ((kA a).cvS rl0 sUsd ⟨#[]⟩).getD j 0 = 0 + (rwA a).getD j 0 := by
  unfold Bk.cvS
  rw [kA_sort]
  show (addK (cvSK rl0 (kA a) [sUsd] sUsd ⟨#[]⟩ 0) (cvR rl0 (kA a) sUsd ⟨#[]⟩ ([sUsd].getD 0 ⟨#[]⟩)) 16).getD j 0 = _
  rw [addK_get (cvSK_len _ _ _ _ _ 0) 16 j (by decide), if_pos hj, show cvR rl0 (kA a) sUsd ⟨#[]⟩ ([sUsd].getD 0 ⟨#[]⟩) = (kA a).row ([sUsd].getD 0 ⟨#[]⟩) from if_pos rfl, kA_row]
  show (z16).getD j 0 + _ = _
  rw [z16_get]
theorem kA_cvL {a : Int} (h : 1 ≤ a ∧ a ≤ 65536) : (kA a).cvL rl0 sUsd ⟨#[]⟩ = lsA a := by
  unfold Bk.cvL
  have s0 := kA_cvS a 0 (by decide)
  have s1 := kA_cvS a 1 (by decide)
  have s2 := kA_cvS a 2 (by decide)
  rw [rwA_0] at s0
  rw [rwA_1] at s1
  rw [rwA_2] at s2
  rw [show 0 + (0 - a) = 0 - a by omega] at s0
  rw [show 0 + (0 + a) = 0 + a by omega] at s1
  exact liR_two s0 s1 s2 (by omega) (by omega)
theorem kA_cvE {a : Int} (h : 1 ≤ a ∧ a ≤ 65536) : (kA a).cvE rl0 sUsd ⟨#[]⟩ = 0 := by
  have s0 := kA_cvS a 0 (by decide)
  have s1 := kA_cvS a 1 (by decide)
  have s2 := kA_cvS a 2 (by decide)
  rw [rwA_0] at s0
  rw [rwA_1] at s1
  rw [rwA_2] at s2
  have hx : (kA a).cvX rl0 sUsd ⟨#[]⟩ = 0 := by
    unfold Bk.cvX
    rw [kA_sort]
    show (if cvEK rl0 (kA a) [sUsd] sUsd ⟨#[]⟩ 0 ≠ 0 then _ else if [sUsd].getD 0 ⟨#[]⟩ = sUsd then 0 else _) = (0 : Int)
    rw [if_neg (by simp [cvEK]), if_pos (show [sUsd].getD 0 ⟨#[]⟩ = sUsd from rfl)]
  unfold Bk.cvE
  rw [if_neg (by rw [show curB sUsd = true from by kernel_rfl]; simp), hx, if_neg (by simp), if_pos]
  show (((true && fitB _) && fitB _) && fitB _) = true
  rw [s0, s1, s2, fitB_t.2 (by omega), fitB_t.2 (by omega), fitB_t.2 (by omega)]; rfl
abbrev psA (a : Int) : List Ps := [⟨⟨#[97]⟩, 0 - a, sUsd⟩, ⟨⟨#[98]⟩, 0 + a, sUsd⟩]
theorem psA_ck {a : Int} (h : 1 ≤ a ∧ a ≤ 65536) : ckP (psA a) = 0 := by
  have m : ∀ x : Int, -65536 ≤ x → x ≤ 65536 → mchk x sUsd = 0 := fun x h1 h2 => by
    unfold mchk
    rw [if_neg (by rw [show curB sUsd = true from by kernel_rfl]; simp), if_pos (by omega)]
  have e0 : erP (psA a) 0 = 0 := by
    unfold erP
    show (if nmB_n ⟨#[97]⟩ = false then 5 else if mchk (0 - a) sUsd ≠ 0 then mchk (0 - a) sUsd else _) = (0 : Int)
    rw [show nmB_n ⟨#[97]⟩ = true from by kernel_rfl, m _ (by omega) (by omega), if_neg (by simp), if_neg (by simp), if_neg (by omega)]
  have e1 : erP (psA a) 1 = 0 := by
    unfold erP
    show (if nmB_n ⟨#[98]⟩ = false then 5 else if mchk (0 + a) sUsd ≠ 0 then mchk (0 + a) sUsd else if sidx2 [sUsd] [⟨#[97]⟩] sUsd ⟨#[98]⟩ < 1 then 7 else 0) = (0 : Int)
    rw [show nmB_n ⟨#[98]⟩ = true from by kernel_rfl, m _ (by omega) (by omega), if_neg (by simp), if_neg (by simp), if_neg]
    rw [show sidx2 [sUsd] [⟨#[97]⟩] sUsd ⟨#[98]⟩ = 1 from by kernel_rfl]; decide
  have e2 : sgP (psA a) = 0 := by
    unfold sgP
    rw [if_neg (by show ¬ 512 < 2; decide)]
    show (if (if (0 : Int) ≠ 0 then 0 else erP (psA a) 0) ≠ 0 then _ else erP (psA a) 1) = (0 : Int)
    rw [e0, if_neg (by simp), e1]
  have e3 : balB (psA a) = true := by
    rw [balB_iff]
    intro c
    simp only [sumC]
    split <;> omega
  unfold ckP
  rw [e2, if_neg (by simp), if_pos e3]
theorem psA_set {a : Int} (h : 1 ≤ a ∧ a ≤ 65536) : seT (psA a) = [⟨⟨#[97]⟩, ⟨#[98]⟩, a, sUsd⟩] := by
  have hs : srt_n (psA a) = psA a := by
    refine srt_of_n (List.Perm.refl _) (.cons (fun x hx => ?_) (.cons (fun x hx => absurd hx (List.not_mem_nil)) .nil))
    rw [List.mem_singleton] at hx
    subst hx
    show (strLt sUsd sUsd || (seq sUsd sUsd && strLt ⟨#[97]⟩ ⟨#[98]⟩)) = true
    kernel_rfl
  have hg : grN [sUsd, sUsd] 0 = 2 := by kernel_rfl
  have d1 : dK [0 - a, 0 + a] 0 2 = some 0 := by
    have x0 : dK [0 - a, 0 + a] 0 1 = some 0 := by
      show (if (0 - a : Int) < 0 then some 0 else none) = some 0
      rw [if_pos (by omega)]
    show (match dK [0 - a, 0 + a] 0 1 with | none => _ | some d => if (0 + a : Int) < 0 ∧ _ then some 1 else some d) = some 0
    rw [x0]
    dsimp only
    rw [if_neg (by omega)]
  have d2 : eK [0 - a, 0 + a] 0 2 = some 1 := by
    have x0 : eK [0 - a, 0 + a] 0 1 = none := by
      show (if 0 < (0 - a : Int) then some 0 else none) = none
      rw [if_neg (by omega)]
    show (match eK [0 - a, 0 + a] 0 1 with | none => if 0 < (0 + a : Int) then some 1 else none | some d => _) = some 1
    rw [x0]
    dsimp only
    rw [if_pos (by omega)]
  have hm : sgA (psA a) 0 0 1 = a := by
    show min (-(0 - a)) (0 + a) = a
    omega
  have d3 : dK (pcOf (sgN (psA a) 0 0 1)).a 0 2 = none := by
    unfold sgN
    rw [hm]
    have x0 : dK [0 - a + a, 0 + a + -a] 0 1 = none := by
      show (if (0 - a + a : Int) < 0 then some 0 else none) = none
      rw [if_neg (by omega)]
    show (match dK [0 - a + a, 0 + a + -a] 0 1 with | none => if (0 + a + -a : Int) < 0 then some 1 else none | some d => _) = none
    rw [x0]
    dsimp only
    rw [if_neg (by omega)]
  unfold seT
  rw [psA_ck h, if_neg (by simp), hs]
  show (if 2 ≤ 0 then _ else stR 1 (grN [sUsd, sUsd] 0 + 0) (stG 0 (grN [sUsd, sUsd] 0) sUsd (grN [sUsd, sUsd] 0) (psA a) []).1 (stG 0 (grN [sUsd, sUsd] 0) sUsd (grN [sUsd, sUsd] 0) (psA a) []).2) = _
  rw [if_neg (by decide), hg, stG_step (A := psA a) d1 d2, stG_end (.inl d3)]
  show (if (sgN (psA a) 0 0 1).length ≤ 2 + 0 then [] ++ [sgT (psA a) 0 0 1 sUsd] else _) = _
  rw [if_pos (by rw [sgN_len]; exact Nat.le_refl 2)]
  unfold sgT
  rw [hm]; rfl
theorem bus_47 {d : Int} (h : 4 ≤ d ∧ d ≤ 7) : busB [] d = true := by
  have : d = 4 ∨ d = 5 ∨ d = 6 ∨ d = 7 := by omega
  rcases this with e | e | e | e <;> (subst e; show (isD _ && (true && _)) = true; first | rfl | decide | kernel_rfl)
theorem cy_SettleN {np m nc : Nat} {ds cd : List Int} {B : List Bk} {pr : List ByteArray} (hb : BksI ds B m np (sortS pr)) (hc : cd.length = nc) (hp : pr.length = np) (he : nwErr pr = 0) (cut d : Int) (t p : ByteArray) : FC Tryz.prog 10 18 [.ptr 1 0 0 0, .int .i64 d, .nsl, .str t, .str p] (stH np m nc cut ds cd B pr rl0).tail (shO (bkAt ds B pr d) (d ∈ cd) rl0 t p) :=
  fc_argnil (n := 10) (args := [.ptr 1 0 0 0, .int .i64 d, .nsl, .str t, .str p]) (args1 := [.ptr 1 0 0 0, .int .i64 d, .sl 10 0 0 0, .str t, .str p]) (cs := [.sc (.strs []), .sc (.strs []), .sc (.ints .i64 []), .sc (.ints .i64 [])]) rfl (by exact ⟨.inl rfl, .inl rfl, .inr ⟨rfl, rfl⟩, .inl rfl, .inl rfl, trivial⟩) (cy_Settle hb hc hp he cut d rl0 (by decide) t p)
end Go.Proofs.YtkdjnmcaifejjaaGreatDoor

/- The law CycleOrder: cycles are closed in order, and settled when they are closed (the walk). -/
namespace Go.Proofs.YtkdjnmcaifejjaaGreatDoor
open Go.RowKit Go.Sy
attribute [local irreducible] vcall vloop vcallD retP sortI
set_option maxRecDepth 100000
set_option linter.unusedVariables false
set_option linter.unusedSimpArgs false

theorem wf8_bd {x : Int} (h : (Lit.int .u8 x).wf = true) : 0 ≤ x ∧ x ≤ 255 := by
  simp only [Lit.wf, Bool.and_eq_true, decide_eq_true_eq] at h
  exact h
theorem wf16_bd {x : Int} (h : (Lit.int .u16 x).wf = true) : 0 ≤ x ∧ x ≤ 65535 := by
  simp only [Lit.wf, Bool.and_eq_true, decide_eq_true_eq] at h
  exact h
theorem open_one (d : Int) : openS [d] [] = [d] := by
  unfold openS
  simp [sortI]
theorem open_shut {d e : Int} : openS [d] [d, e] = [] := by
  unfold openS
  simp [sortI]
theorem open_shut1 {d : Int} : openS [d] [d] = [] := by
  unfold openS
  simp [sortI]
theorem pos_at0 (a : Int) (h : 1 ≤ a ∧ a ≤ 65536) : posL [0] [kA a] 0 = lsA a := by
  unfold posL
  rw [if_pos (by simp)]
  exact kA_list h
theorem pos_at {d a : Int} (h : d ≠ 0) : posL [0] [kA a] d = [] := by
  unfold posL
  rw [if_neg (by simpa using h)]
set_option maxHeartbeats 2000000 in
theorem law_OrderC (am la : Int) (h1 : 0 ≤ am ∧ am ≤ 65535) (h2 : 0 ≤ la ∧ la ≤ 255) : FC Tryz.prog 1 4 [.int .u16 am, .int .u8 la] [(0, some (GB glT))] (isOut (.bool true) [] 1) := by
  have cw := law_awake
  have c1 := law_made 86400
  unfold maO at c1
  rw [if_neg (by decide)] at c1
  have e1 : IntKind.i64.wrap (1 + IntKind.i64.wrap am) = 1 + am := by rw [w64_in (n := am) (by omega) (by omega), w64_in (by omega) (by omega)]
  have e2 : IntKind.i64.wrap (4 + IntKind.i64.wrap (la.tmod 4)) = 4 + la % 4 := by rw [tmod_pos h2.1, w64_in (n := la % 4) (by omega) (by omega), w64_in (by omega) (by omega)]
  have hA : 1 ≤ 1 + am ∧ 1 + am ≤ 65536 := by omega
  have hD : 4 ≤ 4 + la % 4 ∧ 4 + la % 4 ≤ 7 := by omega
  generalize 1 + am = a at *
  generalize 4 + la % 4 = d at *
  have hb0 : BksI [] [] 0 3 p3 := ⟨rfl, rfl, List.nodup_nil, fun i h => by omega⟩
  have c2 := cy_Move (np := 3) (hs := []) (cd := []) (pr := p3) (by rw [p3_sort]; exact hb0) rfl rfl rfl p3_err 86400 0 ⟨#[97]⟩ ⟨#[98]⟩ sUsd a
  have hO : mvO 3 0 [] [] [] [] p3 (mvD [] [] (ofI [] 86400 0)) ⟨#[97]⟩ ⟨#[98]⟩ sUsd a = isOut (.tup [.int .i64 0, .int .i64 0]) (bksH 5 10 11 12 3 1 [0] [kA a] p3) 13 := by
    have e0 : mvD [] [] (ofI [] 86400 0) = 0 := by
      have : ofI [] 86400 0 = 0 := by kernel_rfl
      rw [this]
      unfold mvD
      show (if (0 : Int) < 0 then -1 else if (0 : Int) ∈ ([] : List Int) then _ else 0) = (0 : Int)
      rw [if_neg (by decide), if_neg (by simp)]
    have hat : bkAt [] [] p3 0 = k0 := p3_bk
    rw [e0, mvO_new (m := 0) (by decide) (by rw [hat]; exact k0_mvEA hA) (by simp) rfl, hat, k0_mvA hA, p3_sort]; rfl
  rw [hO] at c2
  unfold mvH at c2
  rw [p3_sort] at c2
  have hb5 : BksI [0] [kA a] 1 3 p3 := ⟨rfl, rfl, by simp, fun i h => by
    obtain rfl : i = 0 := by omega
    exact ⟨kA_I hA, rfl, rfl, (show (1 : Nat) ≤ 100000 by decide)⟩⟩
  have hb6 : BksI [0] [kA a] 1 3 (sortS p3) := by rw [p3_sort]; exact hb5
  have c3 := cy_Closed 3 0 86400 [] rfl 0
  rw [decide_eq_false (by simp)] at c3
  have c4 := cy_Open 3 1 0 86400 [0] [] rfl rfl (by decide)
  rw [open_one] at c4
  have hat : bkAt [0] [kA a] p3 0 = kA a := rfl
  have c5 := cy_SettleN (nc := 0) (cd := []) hb6 rfl rfl p3_err 86400 0 sUsd ⟨#[]⟩
  have c9 := cy_SettleN (nc := 1) (cd := [0]) hb6 rfl rfl p3_err 86400 0 sUsd ⟨#[]⟩
  unfold shO at c5 c9
  rw [if_neg (by simp)] at c5
  rw [hat, if_pos (by simp), kA_cvE hA, if_neg (by simp), kA_cvL hA, show psL (lsA a) = psA a from rfl, psA_ck hA, if_neg (by simp), psA_set hA] at c9
  simp only [stH, List.tail_cons, p3_sort] at c5 c9
  have b0 : busB [] 0 = true := by kernel_rfl
  have b2 : busB [] 2 = false := by kernel_rfl
  have bd := bus_47 hD
  have c6 := cy_Close (hs := []) (cd := []) hb5 rfl rfl (by decide) 86400 d
  have c7 := cy_Close (hs := []) (cd := []) hb5 rfl rfl (by decide) 86400 2
  have c8 := cy_Close (hs := []) (cd := []) hb5 rfl rfl (by decide) 86400 0
  have c10 := cy_Close (hs := []) (cd := [0]) hb5 rfl rfl (by decide) 86400 0
  have c11 := cy_Close (hs := []) (cd := [0]) hb5 rfl rfl (by decide) 86400 d
  have x6 : clE [] [0] [] d = 8 := by
    unfold clE
    rw [bd, if_neg (by simp), if_neg (by simp), open_one, if_pos ⟨by decide, by show (0 : Int) < d; omega⟩]
  have x7 : clE [] [0] [] 2 = 14 := by
    unfold clE
    rw [b2, if_pos rfl]
  have x8 : clE [] [0] [] 0 = 0 := by
    unfold clE
    rw [b0, if_neg (by simp), if_neg (by simp), open_one, if_neg (by simp)]
  have x10 : clE [] [0] [0] 0 = 23 := by
    unfold clE
    rw [b0, if_neg (by simp), if_pos (by simp)]
  have x11 : clE [] [0] [0] d = 0 := by
    unfold clE
    rw [bd, if_neg (by simp), if_neg (by simp; omega), open_shut1, if_neg (by simp)]
  unfold clO at c6 c7 c8 c10 c11
  rw [x6, if_neg (by decide)] at c6
  rw [x7, if_neg (by decide)] at c7
  rw [x8, if_pos rfl, pos_at0 a hA] at c8
  rw [x10, if_neg (by decide)] at c10
  rw [x11, if_pos rfl, pos_at (by omega)] at c11
  have c12 := cy_Open 3 1 2 86400 [0] [0, d] rfl rfl (by decide)
  rw [open_shut] at c12
  have hlen : ([⟨⟨#[97]⟩, ⟨#[98]⟩, a, sUsd⟩] : List Tx).length = 1 := rfl
  rw [hlen] at c9
  clear x6 x7 x8 x10 x11 b0 b2 bd hb0 hb5 hb6 hO hat
  refine fc_of mixed T_ok Tryz.func4 rfl (by kernel_rfl) (by kernel_rfl) (by kernel_rfl) ?_
  repeat' ((conv => whnf); first | (simp only [e1]) | (simp only [e2]) | refine vcall_o (l := [0]) (c1) ?_ | refine vcall_o (l := [0, 1, 2, 3, 4, 5, 6, 7, 8, 9]) (c2) ?_ | refine vcall_o (l := [0, 1, 2, 3, 4, 5, 6, 11, 12, 13]) (c3) ?_ | refine vcall_o (l := [0, 1, 2, 3, 4, 5, 6, 11, 12, 13]) (c4) ?_ | refine vcall_o (l := [0, 1, 2, 3, 4, 5, 6, 11, 12, 13]) (c5) ?_ | refine vcall_o (l := [0, 1, 2, 3, 4, 5, 6, 11, 12, 13]) (c9) ?_ | refine vcall_o (l := [0, 1, 2, 3, 4, 5, 6, 11, 12, 13]) (c6) ?_ | refine vcall_o (l := [0, 1, 2, 3, 4, 5, 6, 11, 12, 13]) (c7) ?_ | refine vcall_o (l := [0, 1, 2, 3, 4, 5, 6, 11, 12, 13]) (c8) ?_ | refine vcall_o (l := [0, 1, 2, 3, 4, 5, 6, 11, 12, 13]) (c10) ?_ | refine vcall_o (l := [0, 1, 2, 3, 4, 5, 6, 11, 12, 13]) (c11) ?_ | refine vcallD_o (l := [0, 1, 2, 3, 4, 5, 6, 11, 12, 13]) (c12) ?_ | refine vcall_o (l := [0, 1, 2, 3, 4, 5, 6, 11, 12, 13]) (c12) ?_ | (refine vcall_pure (cw) rfl rfl rfl ?_) | (refine vcallD_pure (cw) rfl rfl rfl ?_) | ((first | apply br_dec | apply br_ndec) <;> intro h <;> try (exfalso; (try dsimp only at h); omega)) | ((first | apply br_seq | apply br_nseq | apply br_not | apply br_intro) <;> intro h) | refine cond_a ?_)
  all_goals (conv => whnf)
  all_goals first
    | exact ret_out (l := [0]) rfl rfl trivial allRw_nil
    | (exfalso; omega)
    | (exfalso; simp [tcOf, seq, sUsd] at h; done)
    | trace_state
end Go.Proofs.YtkdjnmcaifejjaaGreatDoor

