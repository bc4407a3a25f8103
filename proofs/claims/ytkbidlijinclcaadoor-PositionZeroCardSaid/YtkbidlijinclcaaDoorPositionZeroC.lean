/- Several texts in one: XPosT, XPosU, XPosV, XPosZe. -/
import Derived.Test.YtkbidlijinclcaaDoorPosC1
/- The law PositionOrder. -/
namespace Go.Proofs.YtkbidlijinclcaaDoor
open Go.RowKit Go.Sy
attribute [local irreducible] vcall vloop vcallD retP
set_option maxRecDepth 100000
set_option linter.unusedVariables false
set_option linter.unusedSimpArgs false

def mvAt (mf mt : List ByteArray) (ma : List Int) (mc : List ByteArray) (k : Nat) : Mv := ⟨mf.getD k ⟨#[]⟩, mt.getD k ⟨#[]⟩, ma.getD k 0, mc.getD k ⟨#[]⟩⟩
def mvTo (mf mt : List ByteArray) (ma : List Int) (mc : List ByteArray) (g : Nat → Nat) (k : Nat) : List Mv := (List.range k).map (fun i => mvAt mf mt ma mc (g i))
theorem mvTo_succ (mf mt : List ByteArray) (ma : List Int) (mc : List ByteArray) (g : Nat → Nat) (k : Nat) : mvTo mf mt ma mc g (k + 1) = mvTo mf mt ma mc g k ++ [mvAt mf mt ma mc (g k)] := by unfold mvTo; rw [List.range_succ, List.map_append]; rfl
theorem mvTo_len (mf mt : List ByteArray) (ma : List Int) (mc : List ByteArray) (g : Nat → Nat) (k : Nat) : (mvTo mf mt ma mc g k).length = k := by unfold mvTo; rw [List.length_map, List.length_range]
theorem mvTo_rev (mf mt : List ByteArray) (ma : List Int) (mc : List ByteArray) (n : Nat) : (mvTo mf mt ma mc id n).Perm (mvTo mf mt ma mc (fun i => n - 1 - i) n) := by
  have e : mvTo mf mt ma mc (fun i => n - 1 - i) n = (mvTo mf mt ma mc id n).reverse := by
    refine List.ext_getElem (by simp [mvTo]) fun i h1 h2 => ?_
    simp [mvTo, List.getElem_reverse]
  rw [e]; exact (List.reverse_perm _).symm
theorem go_of {b : Bk} {M : List Mv} {mf mt : List ByteArray} {ma : List Int} {mc : List ByteArray} {j : Nat} : (b.all M).mv (mf.getD j ⟨#[]⟩) (mt.getD j ⟨#[]⟩) (mc.getD j ⟨#[]⟩) (ma.getD j 0) = b.all (M ++ [mvAt mf mt ma mc j]) := (all_snoc b M (mvAt mf mt ma mc j)).symm
abbrev orH (l0 : Nat) (ps : List ByteArray) (n : Nat) (mf mt : List ByteArray) (ma : List Int) (mc : List ByteArray) : Heap := [(0, some (GB glT)), (1, some (.one true (.cols l0 [.sc (.strs ps)]))), (2, some (.one true (mvB n mf mt ma mc)))]
abbrev orA (np : Nat) (sp : List ByteArray) (A : Bk) : Heap := [(3, bkC false 4 5 np), (4, some (.one false (.cols np [.sc (.strs sp)]))), (5, bkM false A)]
abbrev orB (np : Nat) (sp : List ByteArray) (A : Bk) : Heap := [(6, bkC false 7 8 np), (7, some (.one false (.cols np [.sc (.strs sp)]))), (8, bkM false A)]
abbrev orW (n : Nat) (pc : PxC) : Heap := [(6, some (.one false (pxB n pc)))]
set_option maxHeartbeats 3200000 in
theorem law_Order (l0 : Nat) (ps : List ByteArray) (hl0 : ps.length = l0) (n : Nat) (mf mt : List ByteArray) (ma : List Int) (mc : List ByteArray) (hn : n ≤ maxLen) (hma : ∀ x ∈ ma, -9223372036854775808 ≤ x ∧ x ≤ 9223372036854775807) :
    FC Tryd.prog 3 4 [.sl 1 0 0 l0, .sl 2 0 0 n] (orH l0 ps n mf mt ma mc) (isOut (.bool true) [] 3) := by
  have cw := law_awake
  have eM : maxLen = 9223372036854775807 := rfl
  have c0 := pos_NewA ps l0 hl0
  have cs := law_smallN n mf mt ma mc hn
  unfold nwOut at c0
  by_cases he : nwErr ps = 0
  case neg =>
    rw [if_pos he] at c0
    generalize nwErr ps = er at *
    refine fc_of mixed T_ok Tryd.func4 rfl (by kernel_rfl) (by kernel_rfl) (by kernel_rfl) ?_
    repeat' ((conv => whnf); first | (refine vcall_out (l :=  [0, 1]) (c0 ) ⟨rfl, rfl, rfl, rfl, (by (repeat' (first | exact trivial | exact GB_wf | exact fun _ _ => rfl | constructor)); first | done | fail), (by (repeat' (first | exact trivial | exact GB_fits rfl | constructor)); first | done | fail)⟩ ?_) | (refine vcall_out (l :=  [0]) (cw ) ⟨rfl, rfl, rfl, rfl, (by (repeat' (first | exact trivial | exact GB_wf | exact fun _ _ => rfl | constructor)); first | done | fail), (by (repeat' (first | exact trivial | exact GB_fits rfl | constructor)); first | done | fail)⟩ ?_) | (refine vcallD_out (l :=  [0]) (cw ) ⟨rfl, rfl, rfl, rfl, (by (repeat' (first | exact trivial | exact GB_wf | exact fun _ _ => rfl | constructor)); first | done | fail), (by (repeat' (first | exact trivial | exact GB_fits rfl | constructor)); first | done | fail)⟩ ?_) | (refine br_dec (fun h => ?_) (fun h => ?_) <;> try (exfalso; (try dsimp only at h); omega)) | (refine br_ndec (fun h => ?_) (fun h => ?_) <;> try (exfalso; (try dsimp only at h); omega)) | refine br_seq (fun h => ?_) (fun h => ?_) | refine br_nseq (fun h => ?_) (fun h => ?_) | refine br_not (fun h => ?_) (fun h => ?_) | refine br_intro (fun h => ?_) (fun h => ?_) | refine cond_intro rfl ?_ | (refine cond_intro ⟨rfl, ?_⟩ ?_; (first | omega | (dsimp only; omega) | decide)) | (refine cond_intro ?_ ?_; (first | omega | (dsimp only; omega) | decide | (simp only [Nat.add_zero, Int.toNat_natCast, *]; omega))))
    all_goals (conv => whnf)
    all_goals first
      | exact ret_out (l := [0, 1, 2]) rfl rfl trivial allRw_nil
      | (exfalso; first | omega | contradiction)
      | trace_state
  rw [if_neg (by simpa using he), hl0] at c0
  have hI0 := nwB_I he
  have hps0 : (nwB ps).ps = sortS ps := rfl
  have hn0 : (nwB ps).n = l0 := hl0
  have hm0 : (nwB ps).m = 0 := rfl
  unfold bkP at c0
  rw [hn0, hps0] at c0
  have h16 := hI0.n16
  generalize nwB ps = b0 at *
  generalize sortS ps = sp at *
  cases hsm : smB mf mt mc n rl0 with
  | false =>
    rw [hsm] at cs
    refine fc_of mixed T_ok Tryd.func4 rfl (by kernel_rfl) (by kernel_rfl) (by kernel_rfl) ?_
    repeat' ((conv => whnf); first | (refine vcall_out (l :=  [0, 1]) (c0 ) ⟨rfl, rfl, rfl, rfl, (by (repeat' (first | exact trivial | exact GB_wf | exact fun _ _ => rfl | constructor)); first | done | fail), (by (repeat' (first | exact trivial | exact GB_fits rfl | constructor)); first | done | fail)⟩ ?_) | (refine vcall_out (l :=  [0, 2]) (cs ) ⟨rfl, rfl, rfl, rfl, (by (repeat' (first | exact trivial | exact GB_wf | exact fun _ _ => rfl | constructor)); first | done | fail), (by (repeat' (first | exact trivial | exact GB_fits rfl | constructor)); first | done | fail)⟩ ?_) | (refine vcall_out (l :=  [0]) (cw ) ⟨rfl, rfl, rfl, rfl, (by (repeat' (first | exact trivial | exact GB_wf | exact fun _ _ => rfl | constructor)); first | done | fail), (by (repeat' (first | exact trivial | exact GB_fits rfl | constructor)); first | done | fail)⟩ ?_) | (refine vcallD_out (l :=  [0]) (cw ) ⟨rfl, rfl, rfl, rfl, (by (repeat' (first | exact trivial | exact GB_wf | exact fun _ _ => rfl | constructor)); first | done | fail), (by (repeat' (first | exact trivial | exact GB_fits rfl | constructor)); first | done | fail)⟩ ?_) | (refine br_dec (fun h => ?_) (fun h => ?_) <;> try (exfalso; (try dsimp only at h); omega)) | (refine br_ndec (fun h => ?_) (fun h => ?_) <;> try (exfalso; (try dsimp only at h); omega)) | refine br_seq (fun h => ?_) (fun h => ?_) | refine br_nseq (fun h => ?_) (fun h => ?_) | refine br_not (fun h => ?_) (fun h => ?_) | refine br_intro (fun h => ?_) (fun h => ?_) | refine cond_intro rfl ?_ | (refine cond_intro ⟨rfl, ?_⟩ ?_; (first | omega | (dsimp only; omega) | decide)) | (refine cond_intro ?_ ?_; (first | omega | (dsimp only; omega) | decide | (simp only [Nat.add_zero, Int.toNat_natCast, *]; omega))))
    all_goals (conv => whnf)
    all_goals first
      | exact ret_out (l := [0, 1, 2]) rfl rfl trivial allRw_nil
      | (exfalso; first | omega | contradiction)
      | trace_state
  | true =>
  rw [hsm] at cs
  have h60 := (smB_ok hsm).1
  refine fc_of mixed T_ok Tryd.func4 rfl (by kernel_rfl) (by kernel_rfl) (by kernel_rfl) ?_
  repeat' ((conv => whnf); first | (refine vcall_out (l :=  [0, 1]) (c0 ) ⟨rfl, rfl, rfl, rfl, (by (repeat' (first | exact trivial | exact GB_wf | exact fun _ _ => rfl | constructor)); first | done | fail), (by (repeat' (first | exact trivial | exact GB_fits rfl | constructor)); first | done | fail)⟩ ?_) | (refine vcall_out (l :=  [0, 2]) (cs ) ⟨rfl, rfl, rfl, rfl, (by (repeat' (first | exact trivial | exact GB_wf | exact fun _ _ => rfl | constructor)); first | done | fail), (by (repeat' (first | exact trivial | exact GB_fits rfl | constructor)); first | done | fail)⟩ ?_) | (refine vcall_out (l :=  [0]) (cw ) ⟨rfl, rfl, rfl, rfl, (by (repeat' (first | exact trivial | exact GB_wf | exact fun _ _ => rfl | constructor)); first | done | fail), (by (repeat' (first | exact trivial | exact GB_fits rfl | constructor)); first | done | fail)⟩ ?_) | (refine vcallD_out (l :=  [0]) (cw ) ⟨rfl, rfl, rfl, rfl, (by (repeat' (first | exact trivial | exact GB_wf | exact fun _ _ => rfl | constructor)); first | done | fail), (by (repeat' (first | exact trivial | exact GB_fits rfl | constructor)); first | done | fail)⟩ ?_) | (refine br_dec (fun h => ?_) (fun h => ?_) <;> try (exfalso; (try dsimp only at h); omega)) | (refine br_ndec (fun h => ?_) (fun h => ?_) <;> try (exfalso; (try dsimp only at h); omega)) | refine br_seq (fun h => ?_) (fun h => ?_) | refine br_nseq (fun h => ?_) (fun h => ?_) | refine br_not (fun h => ?_) (fun h => ?_) | refine br_intro (fun h => ?_) (fun h => ?_) | refine cond_intro rfl ?_ | (refine cond_intro ⟨rfl, ?_⟩ ?_; (first | omega | (dsimp only; omega) | decide)) | (refine cond_intro ?_ ?_; (first | omega | (dsimp only; omega) | decide | (simp only [Nat.add_zero, Int.toNat_natCast, *]; omega))))
  all_goals (conv => whnf)
  all_goals first
    | (exfalso; first | omega | contradiction)
    | skip
  refine vloop_lp (fun k : Nat => ⟨[(1, .sl 2 0 0 n), (5, .ptr 3 0 0 0), (7, .ptr 6 0 0 0), (9, .int .i64 k)], orH l0 ps n mf mt ma mc ++ (orA l0 sp b0 ++ orB l0 sp b0), 9⟩) (fun k => k ≤ n ∧ ∀ i, i < k → ma.getD i 0 ≤ 1000000000000) (fun k => n - k) 0 [0, 1, 2, 3, 4, 5, 6, 7, 8] [] ⟨rfl, ⟨rfl, rfl, rfl, rfl, trivial⟩, ⟨gwk rfl, rfl, rfl, rfl, rfl, rfl, rfl, rfl, rfl, trivial⟩⟩ ⟨Nat.zero_le _, fun i hi => absurd hi (Nat.not_lt_zero _)⟩ ?_
  rintro k ⟨hk, hA⟩
  by_cases hk2 : k < n
  · have hA2 : ma.getD k 0 ≤ 1000000000000 → ∀ i, i < k + 1 → ma.getD i 0 ≤ 1000000000000 := fun w i hi => by
      by_cases e : i = k
      · rw [e]; exact w
      · exact hA i (by omega)
    by_cases g : ma.getD k 0 ≤ 1000000000000
    · have hA3 := hA2 g
      repeat' ((conv => whnf); first | (refine vcall_out (l :=  [0]) (cw ) ⟨rfl, rfl, rfl, rfl, (by (repeat' (first | exact trivial | exact GB_wf | exact fun _ _ => rfl | constructor)); first | done | fail), (by (repeat' (first | exact trivial | exact GB_fits rfl | constructor)); first | done | fail)⟩ ?_) | (refine vcallD_out (l :=  [0]) (cw ) ⟨rfl, rfl, rfl, rfl, (by (repeat' (first | exact trivial | exact GB_wf | exact fun _ _ => rfl | constructor)); first | done | fail), (by (repeat' (first | exact trivial | exact GB_fits rfl | constructor)); first | done | fail)⟩ ?_) | (refine br_dec (fun h => ?_) (fun h => ?_) <;> try (exfalso; (try dsimp only at h); omega)) | (refine br_ndec (fun h => ?_) (fun h => ?_) <;> try (exfalso; (try dsimp only at h); omega)) | refine br_seq (fun h => ?_) (fun h => ?_) | refine br_nseq (fun h => ?_) (fun h => ?_) | refine br_not (fun h => ?_) (fun h => ?_) | refine br_intro (fun h => ?_) (fun h => ?_) | refine cond_intro rfl ?_ | (refine cond_intro ⟨rfl, ?_⟩ ?_; (first | omega | (dsimp only; omega) | decide)) | (refine cond_intro ?_ ?_; (first | omega | (dsimp only; omega) | decide | (simp only [Nat.add_zero, Int.toNat_natCast, *]; omega))))
      all_goals (conv => whnf)
      all_goals (try simp only [toNat0, Int.toNat_natCast, Nat.add_zero] at *)
      all_goals first
        | exact ⟨k + 1, [0, 1, 2, 3, 4, 5, 6, 7, 8], [], ⟨hk2, hA3⟩, (show n - (k + 1) < n - k by omega), ⟨rfl, ⟨rfl, rfl, rfl, congrArg (fun z => some (SV.int .i64 z)) (i64_succ (by omega)), trivial⟩, ⟨gwk rfl, rfl, rfl, rfl, rfl, rfl, rfl, rfl, rfl, trivial⟩⟩⟩
        | (exfalso; first | omega | contradiction)
        | trace_state
    · repeat' ((conv => whnf); first | (refine vcall_out (l :=  [0]) (cw ) ⟨rfl, rfl, rfl, rfl, (by (repeat' (first | exact trivial | exact GB_wf | exact fun _ _ => rfl | constructor)); first | done | fail), (by (repeat' (first | exact trivial | exact GB_fits rfl | constructor)); first | done | fail)⟩ ?_) | (refine vcallD_out (l :=  [0]) (cw ) ⟨rfl, rfl, rfl, rfl, (by (repeat' (first | exact trivial | exact GB_wf | exact fun _ _ => rfl | constructor)); first | done | fail), (by (repeat' (first | exact trivial | exact GB_fits rfl | constructor)); first | done | fail)⟩ ?_) | (refine br_dec (fun h => ?_) (fun h => ?_) <;> try (exfalso; (try dsimp only at h); omega)) | (refine br_ndec (fun h => ?_) (fun h => ?_) <;> try (exfalso; (try dsimp only at h); omega)) | refine br_seq (fun h => ?_) (fun h => ?_) | refine br_nseq (fun h => ?_) (fun h => ?_) | refine br_not (fun h => ?_) (fun h => ?_) | refine br_intro (fun h => ?_) (fun h => ?_) | refine cond_intro rfl ?_ | (refine cond_intro ⟨rfl, ?_⟩ ?_; (first | omega | (dsimp only; omega) | decide)) | (refine cond_intro ?_ ?_; (first | omega | (dsimp only; omega) | decide | (simp only [Nat.add_zero, Int.toNat_natCast, *]; omega))))
      all_goals (conv => whnf)
      all_goals (try simp only [toNat0, Int.toNat_natCast, Nat.add_zero] at *)
      all_goals first
        | exact ret_out (l := [0, 1, 2]) rfl rfl trivial allRw_nil
        | (exfalso; first | omega | contradiction)
        | trace_state
  have ek : k = n := by omega
  subst ek
  have hcl : ∀ j, j < k → 0 ≤ j := fun j _ => Nat.zero_le _
  have hp := fun M => all_ps b0 M
  have hI := fun M => all_I (hI0.up (B' := 4503599627370496) (by decide)) M
  have hM := fun M => all_m b0 M
  repeat' ((conv => whnf); first | (refine br_dec (fun h => ?_) (fun h => ?_) <;> try (exfalso; (try dsimp only at h); omega)) | (refine br_ndec (fun h => ?_) (fun h => ?_) <;> try (exfalso; (try dsimp only at h); omega)) | refine br_seq (fun h => ?_) (fun h => ?_) | refine br_nseq (fun h => ?_) (fun h => ?_) | refine br_not (fun h => ?_) (fun h => ?_) | refine br_intro (fun h => ?_) (fun h => ?_) | refine cond_intro rfl ?_ | (refine cond_intro ⟨rfl, ?_⟩ ?_; (first | omega | (dsimp only; omega) | decide)) | (refine cond_intro ?_ ?_; (first | omega | (dsimp only; omega) | decide | (simp only [Nat.add_zero, Int.toNat_natCast, *]; omega))))
  all_goals (conv => whnf)
  all_goals first
    | (exfalso; first | omega | contradiction)
    | skip
  refine vloop_lp (fun i : Nat => ⟨[(1, .sl 2 0 0 k), (5, .ptr 3 0 0 0), (7, .ptr 6 0 0 0), (10, .int .i64 i)], orH l0 ps k mf mt ma mc ++ (orA l0 sp (b0.all (mvTo mf mt ma mc id i)) ++ orB l0 sp (b0.all (mvTo mf mt ma mc (fun i => k - 1 - i) i))), 9⟩) (fun i => i ≤ k) (fun i => k - i) 0 [0, 1, 2, 3, 4, 5, 6, 7, 8] [] ⟨rfl, ⟨rfl, rfl, rfl, rfl, trivial⟩, ⟨gwk rfl, rfl, rfl, rfl, rfl, rfl, rfl, rfl, rfl, trivial⟩⟩ (Nat.zero_le _) ?_
  intro i hi
  by_cases hi2 : i < k
  · have e1 : IntKind.i64.wrap (IntKind.i64.wrap ((k : Int) - 1) - (i : Int)) = ((k - 1 - i : Nat) : Int) := by
      rw [w64_in (n := (k : Int) - 1) (by omega) (by omega), w64_in (by omega) (by omega)]; omega
    have hlt : k - 1 - i < k := by omega
    have d1 := pos_MoveX (hI (mvTo mf mt ma mc id i)) ((hp _).2.trans hn0) ((hp _).1.trans hps0) (mf.getD i ⟨#[]⟩) (mt.getD i ⟨#[]⟩) (mc.getD i ⟨#[]⟩) (ma.getD i 0)
    have d2 := pos_MoveX (hI (mvTo mf mt ma mc (fun i => k - 1 - i) i)) ((hp _).2.trans hn0) ((hp _).1.trans hps0) (mf.getD (k - 1 - i) ⟨#[]⟩) (mt.getD (k - 1 - i) ⟨#[]⟩) (mc.getD (k - 1 - i) ⟨#[]⟩) (ma.getD (k - 1 - i) 0)
    rw [go_of] at d1 d2
    have s1 : mvTo mf mt ma mc id (i + 1) = mvTo mf mt ma mc id i ++ [mvAt mf mt ma mc i] := mvTo_succ _ _ _ _ _ _
    have s2 : mvTo mf mt ma mc (fun i => k - 1 - i) (i + 1) = mvTo mf mt ma mc (fun i => k - 1 - i) i ++ [mvAt mf mt ma mc (k - 1 - i)] := mvTo_succ _ _ _ _ _ _
    rw [← s1] at d1
    rw [← s2] at d2
    repeat' ((conv => whnf); first | (refine vcall_out (l :=  [0, 3, 4, 5]) (d1 ) ⟨rfl, rfl, rfl, rfl, (by (repeat' (first | exact trivial | exact GB_wf | exact fun _ _ => rfl | constructor)); first | done | fail), (by (repeat' (first | exact trivial | exact GB_fits rfl | constructor)); first | done | fail)⟩ ?_) | (refine vcall_out (l :=  [0, 6, 7, 8]) (d2 ) ⟨rfl, rfl, rfl, rfl, (by (repeat' (first | exact trivial | exact GB_wf | exact fun _ _ => rfl | constructor)); first | done | fail), (by (repeat' (first | exact trivial | exact GB_fits rfl | constructor)); first | done | fail)⟩ ?_) | (simp only [e1]) | (refine br_dec (fun h => ?_) (fun h => ?_) <;> try (exfalso; (try dsimp only at h); omega)) | (refine br_ndec (fun h => ?_) (fun h => ?_) <;> try (exfalso; (try dsimp only at h); omega)) | refine br_seq (fun h => ?_) (fun h => ?_) | refine br_nseq (fun h => ?_) (fun h => ?_) | refine br_not (fun h => ?_) (fun h => ?_) | refine br_intro (fun h => ?_) (fun h => ?_) | refine cond_intro rfl ?_ | (refine cond_intro ⟨rfl, ?_⟩ ?_; (first | omega | (dsimp only; omega) | decide)) | (refine cond_intro ?_ ?_; (first | omega | (dsimp only; omega) | decide | (simp only [Nat.add_zero, Int.toNat_natCast, *]; omega))))
    all_goals (conv => whnf)
    all_goals first
      | exact ⟨i + 1, [0, 1, 2, 3, 4, 5, 6, 7, 8], [], hi2, (show k - (i + 1) < k - i by omega), ⟨rfl, ⟨rfl, rfl, rfl, congrArg (fun z => some (SV.int .i64 z)) (i64_succ (by omega)), trivial⟩, ⟨gwk rfl, rfl, rfl, rfl, rfl, rfl, rfl, rfl, rfl, trivial⟩⟩⟩
      | (exfalso; first | omega | contradiction)
      | trace_state
  have ei : i = k := by omega
  subst ei
  have hsmall : ∀ m ∈ mvTo mf mt ma mc id i, m.a ≤ 1000000000000 := fun m hm => by
    unfold mvTo at hm
    obtain ⟨j, hj, rfl⟩ := List.mem_map.1 hm
    exact hA j (List.mem_range.1 hj)
  have hlist := (all_perm hI0 (mvTo_rev mf mt ma mc i) hsmall (by rw [mvTo_len]; exact h60)).1
  have hAI := hI (mvTo mf mt ma mc id i)
  have hAn := (hp (mvTo mf mt ma mc id i)).2.trans hn0
  have hAp := (hp (mvTo mf mt ma mc id i)).1.trans hps0
  have hAm := hM (mvTo mf mt ma mc id i)
  have hBI := hI (mvTo mf mt ma mc (fun j => i - 1 - j) i)
  have hBn := (hp (mvTo mf mt ma mc (fun j => i - 1 - j) i)).2.trans hn0
  have hBp := (hp (mvTo mf mt ma mc (fun j => i - 1 - j) i)).1.trans hps0
  have hBm := hM (mvTo mf mt ma mc (fun j => i - 1 - j) i)
  rw [mvTo_len, hm0] at hAm hBm
  have la := pos_ListX hAI hAn hAp (by omega)
  have lb := pos_ListX hBI hBn hBp (by omega)
  rw [← hlist] at lb
  generalize b0.all (mvTo mf mt ma mc (fun j => i - 1 - j) i) = BB at *
  generalize b0.all (mvTo mf mt ma mc id i) = AA at *
  have hLL := list_le AA hAI.n16 (by omega)
  have hLc : ∀ b, BkI b 4503599627370496 → b.n = AA.n → b.ps = AA.ps → (∀ c j, (b.row c).getD j 0 = (AA.row c).getD j 0) → b.list = AA.list := fun b h1 h2 h3 h4 => (list_congr h1 hAI h2 h3 h4).1
  generalize AA.list = LL at *
  have cS := law_same (pxOf LL) LL.length hLL
  repeat' ((conv => whnf); first | (refine vcall_out (l :=  [0, 3, 4, 5]) (la ) ⟨rfl, rfl, rfl, rfl, (by (repeat' (first | exact trivial | exact GB_wf | exact fun _ _ => rfl | constructor)); first | done | fail), (by (repeat' (first | exact trivial | exact GB_fits rfl | constructor)); first | done | fail)⟩ ?_) | (refine vcall_out (l :=  [0, 6, 7, 8]) (lb ) ⟨rfl, rfl, rfl, rfl, (by (repeat' (first | exact trivial | exact GB_wf | exact fun _ _ => rfl | constructor)); first | done | fail), (by (repeat' (first | exact trivial | exact GB_fits rfl | constructor)); first | done | fail)⟩ ?_) | (refine vcall_out (l :=  [0, 9, 10]) (cS ) ⟨rfl, rfl, rfl, rfl, (by (repeat' (first | exact trivial | exact GB_wf | exact fun _ _ => rfl | constructor)); first | done | fail), (by (repeat' (first | exact trivial | exact GB_fits rfl | constructor)); first | done | fail)⟩ ?_) | (refine br_dec (fun h => ?_) (fun h => ?_) <;> try (exfalso; (try dsimp only at h); omega)) | (refine br_ndec (fun h => ?_) (fun h => ?_) <;> try (exfalso; (try dsimp only at h); omega)) | refine br_seq (fun h => ?_) (fun h => ?_) | refine br_nseq (fun h => ?_) (fun h => ?_) | refine br_not (fun h => ?_) (fun h => ?_) | refine br_intro (fun h => ?_) (fun h => ?_) | refine cond_intro rfl ?_ | (refine cond_intro ⟨rfl, ?_⟩ ?_; (first | omega | (dsimp only; omega) | decide)) | (refine cond_intro ?_ ?_; (first | omega | (dsimp only; omega) | decide | (simp only [Nat.add_zero, Int.toNat_natCast, *]; omega))))
  all_goals (conv => whnf)
  all_goals first
    | (exfalso; first | omega | contradiction)
    | skip
  refine vloop_lp (fun x : Nat × Bk => ⟨[(1, .sl 2 0 0 i), (5, .ptr 3 0 0 0), (13, .sl 6 0 0 LL.length), (14, .int .i64 x.1)], orH l0 ps i mf mt ma mc ++ (orA l0 sp x.2 ++ orW LL.length (pxOf LL)), 7⟩) (fun x => x.1 ≤ i ∧ BkI x.2 4503599627370496 ∧ x.2.n = AA.n ∧ x.2.ps = AA.ps ∧ (∀ c j, (x.2.row c).getD j 0 = (AA.row c).getD j 0) ∧ x.2.m ≤ 60 + 2 * x.1) (fun x => i - x.1) (0, AA) [0, 1, 2, 3, 4, 5, 11] [] ⟨rfl, ⟨rfl, rfl, rfl, rfl, trivial⟩, ⟨gwk rfl, rfl, rfl, rfl, rfl, rfl, rfl, trivial⟩⟩ ⟨Nat.zero_le _, hAI, rfl, rfl, fun c j => rfl, by dsimp only; omega⟩ ?_
  rintro ⟨j, b⟩ ⟨hj, hbI, hbn, hbp, hbr, hbm⟩
  dsimp only at hj hbI hbn hbp hbr hbm
  by_cases hj2 : j < i
  · have d1 := pos_MoveX hbI (hbn.trans hAn) (hbp.trans hAp) (mf.getD j ⟨#[]⟩) (mt.getD j ⟨#[]⟩) (mc.getD j ⟨#[]⟩) (ma.getD j 0)
    by_cases g : mvE b (mf.getD j ⟨#[]⟩) (mt.getD j ⟨#[]⟩) (mc.getD j ⟨#[]⟩) (ma.getD j 0) = 0
    · rw [g] at d1
      have hb2 := mv_I hbI (mf.getD j ⟨#[]⟩) (mt.getD j ⟨#[]⟩) (mc.getD j ⟨#[]⟩) (ma.getD j 0)
      have hp2 := mv_ps b (mf.getD j ⟨#[]⟩) (mt.getD j ⟨#[]⟩) (mc.getD j ⟨#[]⟩) (ma.getD j 0)
      have hm2 := mv_m b (mf.getD j ⟨#[]⟩) (mt.getD j ⟨#[]⟩) (mc.getD j ⟨#[]⟩) (ma.getD j 0)
      obtain ⟨hk1, hk2⟩ := mv_back hbI g
      have d2 := pos_MoveX hb2 (hp2.2.trans (hbn.trans hAn)) (hp2.1.trans (hbp.trans hAp)) (mt.getD j ⟨#[]⟩) (mf.getD j ⟨#[]⟩) (mc.getD j ⟨#[]⟩) (ma.getD j 0)
      rw [hk1] at d2
      have hb3 := mv_I hb2 (mt.getD j ⟨#[]⟩) (mf.getD j ⟨#[]⟩) (mc.getD j ⟨#[]⟩) (ma.getD j 0)
      have hp3 := mv_ps (b.mv (mf.getD j ⟨#[]⟩) (mt.getD j ⟨#[]⟩) (mc.getD j ⟨#[]⟩) (ma.getD j 0)) (mt.getD j ⟨#[]⟩) (mf.getD j ⟨#[]⟩) (mc.getD j ⟨#[]⟩) (ma.getD j 0)
      have hm3 := mv_m (b.mv (mf.getD j ⟨#[]⟩) (mt.getD j ⟨#[]⟩) (mc.getD j ⟨#[]⟩) (ma.getD j 0)) (mt.getD j ⟨#[]⟩) (mf.getD j ⟨#[]⟩) (mc.getD j ⟨#[]⟩) (ma.getD j 0)
      generalize (b.mv (mf.getD j ⟨#[]⟩) (mt.getD j ⟨#[]⟩) (mc.getD j ⟨#[]⟩) (ma.getD j 0)).mv (mt.getD j ⟨#[]⟩) (mf.getD j ⟨#[]⟩) (mc.getD j ⟨#[]⟩) (ma.getD j 0) = b3 at *
      generalize b.mv (mf.getD j ⟨#[]⟩) (mt.getD j ⟨#[]⟩) (mc.getD j ⟨#[]⟩) (ma.getD j 0) = b2 at *
      have hinv : j + 1 ≤ i ∧ BkI b3 4503599627370496 ∧ b3.n = AA.n ∧ b3.ps = AA.ps ∧ (∀ c l, (b3.row c).getD l 0 = (AA.row c).getD l 0) ∧ b3.m ≤ 60 + 2 * (j + 1) := ⟨hj2, hb3, hp3.2.trans (hp2.2.trans hbn), hp3.1.trans (hp2.1.trans hbp), fun c l => (hk2 c l).trans (hbr c l), by omega⟩
      repeat' ((conv => whnf); first | (refine vcall_out (l :=  [0, 3, 4, 5]) (d1 ) ⟨rfl, rfl, rfl, rfl, (by (repeat' (first | exact trivial | exact GB_wf | exact fun _ _ => rfl | constructor)); first | done | fail), (by (repeat' (first | exact trivial | exact GB_fits rfl | constructor)); first | done | fail)⟩ ?_) | (refine vcall_out (l :=  [0, 3, 4, 5]) (d2 ) ⟨rfl, rfl, rfl, rfl, (by (repeat' (first | exact trivial | exact GB_wf | exact fun _ _ => rfl | constructor)); first | done | fail), (by (repeat' (first | exact trivial | exact GB_fits rfl | constructor)); first | done | fail)⟩ ?_) | (refine vcallD_out (l :=  [0, 3, 4, 5]) (d1 ) ⟨rfl, rfl, rfl, rfl, (by (repeat' (first | exact trivial | exact GB_wf | exact fun _ _ => rfl | constructor)); first | done | fail), (by (repeat' (first | exact trivial | exact GB_fits rfl | constructor)); first | done | fail)⟩ ?_) | (refine vcallD_out (l :=  [0, 3, 4, 5]) (d2 ) ⟨rfl, rfl, rfl, rfl, (by (repeat' (first | exact trivial | exact GB_wf | exact fun _ _ => rfl | constructor)); first | done | fail), (by (repeat' (first | exact trivial | exact GB_fits rfl | constructor)); first | done | fail)⟩ ?_) | (refine br_dec (fun h => ?_) (fun h => ?_) <;> try (exfalso; (try dsimp only at h); omega)) | (refine br_ndec (fun h => ?_) (fun h => ?_) <;> try (exfalso; (try dsimp only at h); omega)) | refine br_seq (fun h => ?_) (fun h => ?_) | refine br_nseq (fun h => ?_) (fun h => ?_) | refine br_not (fun h => ?_) (fun h => ?_) | refine br_intro (fun h => ?_) (fun h => ?_) | refine cond_intro rfl ?_ | (refine cond_intro ⟨rfl, ?_⟩ ?_; (first | omega | (dsimp only; omega) | decide)) | (refine cond_intro ?_ ?_; (first | omega | (dsimp only; omega) | decide | (simp only [Nat.add_zero, Int.toNat_natCast, *]; omega))))
      all_goals (conv => whnf)
      all_goals first
        | exact ⟨(j + 1, b3), [0, 1, 2, 3, 4, 5, 6], [], hinv, (show i - (j + 1) < i - j by omega), ⟨rfl, ⟨rfl, rfl, rfl, congrArg (fun z => some (SV.int .i64 z)) (i64_succ (by omega)), trivial⟩, ⟨gwk rfl, rfl, rfl, rfl, rfl, rfl, rfl, trivial⟩⟩⟩
        | (exfalso; first | omega | contradiction)
        | trace_state
    · rw [mv_err g] at d1
      have hinv : j + 1 ≤ i ∧ BkI b 4503599627370496 ∧ b.n = AA.n ∧ b.ps = AA.ps ∧ (∀ c l, (b.row c).getD l 0 = (AA.row c).getD l 0) ∧ b.m ≤ 60 + 2 * (j + 1) := ⟨hj2, hbI, hbn, hbp, hbr, by omega⟩
      generalize mvE b (mf.getD j ⟨#[]⟩) (mt.getD j ⟨#[]⟩) (mc.getD j ⟨#[]⟩) (ma.getD j 0) = e at *
      repeat' ((conv => whnf); first | (refine vcall_out (l :=  [0, 3, 4, 5]) (d1 ) ⟨rfl, rfl, rfl, rfl, (by (repeat' (first | exact trivial | exact GB_wf | exact fun _ _ => rfl | constructor)); first | done | fail), (by (repeat' (first | exact trivial | exact GB_fits rfl | constructor)); first | done | fail)⟩ ?_) | (refine vcallD_out (l :=  [0, 3, 4, 5]) (d1 ) ⟨rfl, rfl, rfl, rfl, (by (repeat' (first | exact trivial | exact GB_wf | exact fun _ _ => rfl | constructor)); first | done | fail), (by (repeat' (first | exact trivial | exact GB_fits rfl | constructor)); first | done | fail)⟩ ?_) | (refine br_dec (fun h => ?_) (fun h => ?_) <;> try (exfalso; (try dsimp only at h); omega)) | (refine br_ndec (fun h => ?_) (fun h => ?_) <;> try (exfalso; (try dsimp only at h); omega)) | refine br_seq (fun h => ?_) (fun h => ?_) | refine br_nseq (fun h => ?_) (fun h => ?_) | refine br_not (fun h => ?_) (fun h => ?_) | refine br_intro (fun h => ?_) (fun h => ?_) | refine cond_intro rfl ?_ | (refine cond_intro ⟨rfl, ?_⟩ ?_; (first | omega | (dsimp only; omega) | decide)) | (refine cond_intro ?_ ?_; (first | omega | (dsimp only; omega) | decide | (simp only [Nat.add_zero, Int.toNat_natCast, *]; omega))))
      all_goals (conv => whnf)
      all_goals first
        | exact ⟨(j + 1, b), [0, 1, 2, 3, 4, 5, 6], [], hinv, (show i - (j + 1) < i - j by omega), ⟨rfl, ⟨rfl, rfl, rfl, congrArg (fun z => some (SV.int .i64 z)) (i64_succ (by omega)), trivial⟩, ⟨gwk rfl, rfl, rfl, rfl, rfl, rfl, rfl, trivial⟩⟩⟩
        | (exfalso; first | omega | contradiction)
        | trace_state
  · have lc := pos_ListX hbI (hbn.trans hAn) (hbp.trans hAp) (by omega)
    rw [hLc b hbI hbn hbp hbr] at lc
    repeat' ((conv => whnf); first | (refine vcall_out (l :=  [0, 3, 4, 5]) (lc ) ⟨rfl, rfl, rfl, rfl, (by (repeat' (first | exact trivial | exact GB_wf | exact fun _ _ => rfl | constructor)); first | done | fail), (by (repeat' (first | exact trivial | exact GB_fits rfl | constructor)); first | done | fail)⟩ ?_) | (refine vcallD_out (l :=  [0, 3, 4, 5]) (lc ) ⟨rfl, rfl, rfl, rfl, (by (repeat' (first | exact trivial | exact GB_wf | exact fun _ _ => rfl | constructor)); first | done | fail), (by (repeat' (first | exact trivial | exact GB_fits rfl | constructor)); first | done | fail)⟩ ?_) | (refine vcall_out (l :=  [0, 7, 6]) (cS ) ⟨rfl, rfl, rfl, rfl, (by (repeat' (first | exact trivial | exact GB_wf | exact fun _ _ => rfl | constructor)); first | done | fail), (by (repeat' (first | exact trivial | exact GB_fits rfl | constructor)); first | done | fail)⟩ ?_) | (refine vcallD_out (l :=  [0, 7, 6]) (cS ) ⟨rfl, rfl, rfl, rfl, (by (repeat' (first | exact trivial | exact GB_wf | exact fun _ _ => rfl | constructor)); first | done | fail), (by (repeat' (first | exact trivial | exact GB_fits rfl | constructor)); first | done | fail)⟩ ?_) | (refine vcall_out (l :=  [0]) (cw ) ⟨rfl, rfl, rfl, rfl, (by (repeat' (first | exact trivial | exact GB_wf | exact fun _ _ => rfl | constructor)); first | done | fail), (by (repeat' (first | exact trivial | exact GB_fits rfl | constructor)); first | done | fail)⟩ ?_) | (refine vcallD_out (l :=  [0]) (cw ) ⟨rfl, rfl, rfl, rfl, (by (repeat' (first | exact trivial | exact GB_wf | exact fun _ _ => rfl | constructor)); first | done | fail), (by (repeat' (first | exact trivial | exact GB_fits rfl | constructor)); first | done | fail)⟩ ?_) | (refine br_dec (fun h => ?_) (fun h => ?_) <;> try (exfalso; (try dsimp only at h); omega)) | (refine br_ndec (fun h => ?_) (fun h => ?_) <;> try (exfalso; (try dsimp only at h); omega)) | refine br_seq (fun h => ?_) (fun h => ?_) | refine br_nseq (fun h => ?_) (fun h => ?_) | refine br_not (fun h => ?_) (fun h => ?_) | refine br_intro (fun h => ?_) (fun h => ?_) | refine cond_intro rfl ?_ | (refine cond_intro ⟨rfl, ?_⟩ ?_; (first | omega | (dsimp only; omega) | decide)) | (refine cond_intro ?_ ?_; (first | omega | (dsimp only; omega) | decide | (simp only [Nat.add_zero, Int.toNat_natCast, *]; omega))))
    all_goals (conv => whnf)
    all_goals first
      | exact ret_out (l := [0, 1, 2]) rfl rfl trivial allRw_nil
      | (exfalso; first | omega | contradiction)
      | trace_state
end Go.Proofs.YtkbidlijinclcaaDoor

/- Plain facts: positions add up to zero, also after conversion. No program in sight. -/
namespace Go.Proofs.YtkbidlijinclcaaDoor
open Go.RowKit Go.Sy
set_option linter.unusedVariables false
set_option linter.unusedSimpArgs false

def psK (P : List Int) : Nat → Int
  | 0 => 0
  | k + 1 => psK P k + P.getD k 0
theorem psK_cons (x : Int) (P : List Int) : ∀ k, psK (x :: P) (k + 1) = x + psK P k
  | 0 => by simp [psK]
  | k + 1 => by
    have ih := psK_cons x P k
    simp only [psK] at ih ⊢
    rw [List.getD_cons_succ]; omega
theorem psK_sum (P : List Int) : psK P P.length = P.sum := by
  induction P with
  | nil => rfl
  | cons x P ih => rw [List.length_cons, psK_cons, List.sum_cons, ih]
theorem psK_more {P : List Int} {n : Nat} (h : ∀ j, n ≤ j → P.getD j 0 = 0) : ∀ d, psK P (n + d) = psK P n
  | 0 => rfl
  | d + 1 => by
    have e : psK P (n + (d + 1)) = psK P (n + d) + P.getD (n + d) 0 := rfl
    rw [e, psK_more h d, h _ (by omega)]; omega
theorem psK_row {r : List Int} {n : Nat} (hl : r.length = 16) (hn : n ≤ 16) (h : ∀ j, n ≤ j → r.getD j 0 = 0) : psK r n = r.sum := by
  have := psK_more h (16 - n)
  rw [show n + (16 - n) = 16 by omega] at this
  rw [← this, ← psK_sum, hl]
/-- The sum of the positions of a currency in a list. -/
def smL (L : List Px) (c : ByteArray) : Int := (L.map (fun x => if x.c = c then x.a else 0)).sum
theorem smL_app (L M : List Px) (c : ByteArray) : smL (L ++ M) c = smL L c + smL M c := by unfold smL; rw [List.map_append, List.sum_append]
theorem smA_take (L : List Px) (c : ByteArray) : ∀ k, k ≤ L.length → smA (pxOf L).a (pxOf L).c c k = smL (L.take k) c
  | 0, _ => rfl
  | k + 1, h => by
    have hk : k < L.length := h
    simp only [smA]
    rw [smA_take L c k (by omega), List.take_succ_eq_append_getElem hk, smL_app]
    have e1 : (pxOf L).c.getD k ⟨#[]⟩ = L[k].c := by simp [pxOf, List.getD, hk]
    have e2 : (pxOf L).a.getD k 0 = L[k].a := by simp [pxOf, List.getD, hk]
    rw [e1, e2]
    simp [smL]
theorem smA_all (L : List Px) (c : ByteArray) : smA (pxOf L).a (pxOf L).c c L.length = smL L c := by
  rw [smA_take L c _ (Nat.le_refl _), List.take_length]
theorem liR_sum (r : List Int) (ps : List ByteArray) (c c' : ByteArray) : ∀ i, smL (liR r ps c i) c' = if c = c' then psK r i else 0
  | 0 => by simp [liR, smL, psK]
  | i + 1 => by
    have ih := liR_sum r ps c c' i
    simp only [liR, psK]
    by_cases z : r.getD i 0 = 0
    · rw [if_pos z, ih, z, Int.add_zero]
    · rw [if_neg z, smL_app, ih]
      by_cases q : c = c'
      · simp [smL, q]
      · simp [smL, q]
theorem list_zero {b : Bk} {B : Int} (h : BkI b B) (c : ByteArray) : smL b.list c = 0 := by
  have : ∀ cs k, smL (liA b cs k) c = 0 := by
    intro cs k
    induction k with
    | zero => rfl
    | succ k ih =>
      simp only [liA]
      rw [smL_app, ih, liR_sum, psK_row (h.rl _) h.n16 (h.rt _), h.rs]
      simp
  exact this _ _
/-- What the first parties owe. -/
def ntK (b : Bk) (ps : List ByteArray) (c : ByteArray) : Nat → Int
  | 0 => 0
  | k + 1 => ntK b ps c k + netI b (ps.getD k ⟨#[]⟩) c
theorem ntK_bd {b : Bk} (h : BkI b 4503599627370496) (ps : List ByteArray) (c : ByteArray) : ∀ k : Nat, -4503599627370496 * (k : Int) ≤ ntK b ps c k ∧ ntK b ps c k ≤ 4503599627370496 * (k : Int)
  | 0 => by simp [ntK]
  | k + 1 => by
    have ih := ntK_bd h ps c k
    have := h.rb c (sidx b.ps (ps.getD k ⟨#[]⟩))
    simp only [ntK, netI]
    split <;> omega
theorem ntK_take (b : Bk) (ps : List ByteArray) (c : ByteArray) : ∀ k, k ≤ ps.length → ntK b ps c k = ((ps.take k).map (fun p => netI b p c)).sum
  | 0, _ => rfl
  | k + 1, h => by
    have hk : k < ps.length := h
    simp only [ntK]
    rw [ntK_take b ps c k (by omega), List.take_succ_eq_append_getElem hk, List.map_append, List.sum_append]
    have e1 : ps.getD k ⟨#[]⟩ = ps[k] := by rw [List.getD, List.getElem?_eq_getElem hk]; rfl
    rw [e1]; simp
theorem ntK_zero {b : Bk} {B : Int} (h : BkI b B) {ps : List ByteArray} (hp : b.ps.Perm ps) (hd : ps.Nodup) (c : ByteArray) : ntK b ps c ps.length = 0 := by
  rw [ntK_take b ps c _ (Nat.le_refl _), List.take_length, ← psum (hp.map _)]
  have hd2 : b.ps.Nodup := hp.symm.nodup hd
  rw [← List.take_length (l := b.ps), ← ntK_take b b.ps c _ (Nat.le_refl _)]
  have : ∀ k, k ≤ b.ps.length → ntK b b.ps c k = psK (b.row c) k := by
    intro k
    induction k with
    | zero => intro _; rfl
    | succ k ih =>
      intro hk
      simp only [ntK, psK]
      rw [ih (by omega)]
      have e1 : b.ps.getD k ⟨#[]⟩ = b.ps[k] := by rw [List.getD, List.getElem?_eq_getElem hk]; rfl
      have e2 := Go.Sy.sidx_of_get hd2 (List.getElem?_eq_getElem (show k < b.ps.length from hk))
      unfold netI
      rw [e1, e2, if_pos (by rw [← h.psl]; exact hk)]
  rw [this _ (Nat.le_refl _), h.psl, psK_row (h.rl c) h.n16 (h.rt c), h.rs]
theorem fillK_rest {f : Nat → Int} {n : Nat} : ∀ k i, k ≤ i → (fillK f 0 n k).getD i 0 = 0
  | 0, i, _ => by simp only [fillK]; rw [List.getD, List.getElem?_replicate]; split <;> rfl
  | k + 1, i, h => by
    simp only [fillK]
    by_cases e : k < n
    · rw [set_getD2 _ _ _ _ (by rw [fillK_len]; exact e), if_neg (by omega)]; exact fillK_rest k i (by omega)
    · rw [List.set_eq_of_length_le (by rw [fillK_len]; omega)]; exact fillK_rest k i (by omega)
theorem spQ_sum (A : Nat) (ws : List Int) (n : Nat) : ∀ k, k ≤ n → (fillK (fun i => (qN A ws n i : Int)) 0 n k).sum = qsK A ws n k
  | 0, _ => by simp only [fillK, qsK]; induction n with
    | zero => rfl
    | succ n ih => rw [List.replicate_succ, List.sum_cons, ih (Nat.zero_le _)]; rfl
  | k + 1, h => by
    simp only [fillK, qsK]
    rw [sum_set _ _ _ (by rw [fillK_len]; omega), spQ_sum A ws n k (by omega), fillK_rest k k (Nat.le_refl _)]
    omega
theorem bumpK_sum {P ord : List Int} {n : Nat} (hP : P.length = n) (ho : inR n ord) : ∀ k, k ≤ n → (bumpK P ord k).sum = P.sum + k
  | 0, _ => by simp [bumpK]
  | k + 1, h => by
    have := ho.2 k (by omega)
    simp only [bumpK]
    rw [sum_set _ _ _ (by rw [bumpK_len, hP]; omega), bumpK_sum hP ho k (by omega)]
    omega
def swN (ws : List Int) : Nat → Nat
  | 0 => 0
  | k + 1 => swN ws k + (ws.getD k 0).toNat
theorem swN_eq {ws : List Int} {n : Nat} (hw : ∀ k, k < n → 1 ≤ ws.getD k 0) : ∀ k, k ≤ n → (swN ws k : Int) = swK ws k
  | 0, _ => rfl
  | k + 1, h => by
    have := hw k (by omega)
    have ih := swN_eq hw k (by omega)
    simp only [swN, swK]
    omega
def rsK (A : Nat) (ws : List Int) (n : Nat) : Nat → Nat
  | 0 => 0
  | k + 1 => rsK A ws n k + rN A ws n k
theorem qr_sum (A : Nat) (ws : List Int) (n : Nat) : ∀ k, A * swN ws k = qsK A ws n k * (swK ws n).toNat + rsK A ws n k
  | 0 => by simp [swN, qsK, rsK]
  | k + 1 => by
    have ih := qr_sum A ws n k
    have : A * (ws.getD k 0).toNat = qN A ws n k * (swK ws n).toNat + rN A ws n k := by
      unfold qN rN
      have := Nat.div_add_mod (A * (ws.getD k 0).toNat) (swK ws n).toNat
      rw [Nat.mul_comm] at this; exact this.symm
    simp only [swN, qsK, rsK]
    rw [Nat.mul_add, Nat.add_mul, ih, this]; omega
theorem rs_bd (A : Nat) (ws : List Int) (n : Nat) (hS : 0 < (swK ws n).toNat) : ∀ k, rsK A ws n k + k ≤ k * (swK ws n).toNat
  | 0 => by simp [rsK]
  | k + 1 => by
    have ih := rs_bd A ws n hS k
    have : rN A ws n k < (swK ws n).toNat := Nat.mod_lt _ hS
    simp only [rsK]
    rw [Nat.succ_mul]; omega
/-- All of an amount is split. -/
theorem sp_sum {A : Nat} {ws : List Int} {n : Nat} (hw : ∀ k, k < n → 1 ≤ ws.getD k 0) (hn : 1 ≤ n) : (spP A ws n).sum = A := by
  have hO := spO_in A ws n hn
  have hle := qs_leA (A := A) hw (k := n) (Nat.le_refl _) hn
  have hS1 := sw_mono hw n 0 (by omega)
  rw [Nat.zero_add] at hS1
  have e0 : swK ws 0 = 0 := rfl
  have hS : 0 < (swK ws n).toNat := by omega
  have hN : swN ws n = (swK ws n).toNat := by have := swN_eq hw n (Nat.le_refl _); omega
  have h1 := qr_sum A ws n n
  have h2 := rs_bd A ws n hS n
  rw [hN] at h1
  have h3 : A < qsK A ws n n + n := by
    refine Nat.lt_of_mul_lt_mul_right (a := (swK ws n).toNat) ?_
    rw [Nat.add_mul, h1]; omega
  unfold spP
  rw [bumpK_sum (by unfold spQ; exact fillK_len _ _ _ _) hO (spL A ws n) (Nat.min_le_right _ _)]
  unfold spQ
  rw [spQ_sum A ws n n (Nat.le_refl _)]
  unfold spL
  omega
theorem pl_asc (r : List Int) (s : Int) : ∀ k i j, i < j → j < (plK r s k).length → (plK r s k).getD i 0 < (plK r s k).getD j 0
  | 0, i, j, _, h => by simp [plK] at h
  | k + 1, i, j, hij, h => by
    simp only [plK] at h ⊢
    by_cases q : 0 < r.getD k 0 * s
    · rw [if_pos q] at h ⊢
      rw [List.length_append, List.length_singleton] at h
      rw [snoc_getD, snoc_getD, if_neg (by omega)]
      split
      · exact (pl_bd r s k i (by omega)).2
      · exact pl_asc r s k i j hij (by omega)
    · rw [if_neg q] at h ⊢
      exact pl_asc r s k i j hij h
theorem pl_pos (r : List Int) (s : Int) : ∀ k i, i < (plK r s k).length → 0 < r.getD ((plK r s k).getD i 0).toNat 0 * s
  | 0, i, h => by simp [plK] at h
  | k + 1, i, h => by
    simp only [plK] at h ⊢
    by_cases q : 0 < r.getD k 0 * s
    · rw [if_pos q] at h ⊢
      rw [List.length_append, List.length_singleton] at h
      rw [snoc_getD]
      split
      · rw [Int.toNat_natCast]; exact q
      · exact pl_pos r s k i (by omega)
    · rw [if_neg q] at h ⊢
      exact pl_pos r s k i h
theorem dvK_get {row pl P : List Int} {s : Int} {j : Nat} : ∀ k, (∀ i, i < k → (pl.getD i 0).toNat ≠ j) → (dvK row pl P s k).getD j 0 = row.getD j 0
  | 0, _ => rfl
  | k + 1, h => by
    have ih := dvK_get (row := row) (P := P) (s := s) k (fun i hi => h i (by omega))
    have hk := h k (by omega)
    simp only [dvK]
    rw [List.getD, List.getElem?_set_ne hk]; exact ih
theorem dvK_sum {row pl P : List Int} {s : Int} {N : Nat} (hl : ∀ i, i < N → (pl.getD i 0).toNat < row.length) (hz : ∀ i, i < N → row.getD (pl.getD i 0).toNat 0 = 0) (hd : ∀ i j, i < j → j < N → (pl.getD i 0).toNat ≠ (pl.getD j 0).toNat) : ∀ k, k ≤ N → (dvK row pl P s k).sum = row.sum + psK P k * s
  | 0, _ => by simp [dvK, psK]
  | k + 1, h => by
    have ih := dvK_sum (P := P) (s := s) hl hz hd k (by omega)
    simp only [dvK, psK]
    rw [sum_set _ _ _ (by rw [dvK_len]; exact hl k (by omega)), ih, dvK_get k (fun i hi => hd i k hi (by omega)), hz k (by omega), Int.add_mul]
    omega
theorem dvE_ok {A : Nat} {c : ByteArray} {r : List Int} {s : Int} (h : dvE A c r s = 0) : 1 ≤ dvN r s := by
  unfold dvE spE at h
  split at h
  · contradiction
  · split at h
    · rename_i q
      rcases Nat.eq_zero_or_pos (dvN r s) with w | w
      · rw [w] at q; exact absurd q.2 (by simp [swK])
      · exact w
    · cases h
theorem wt_pos (r : List Int) (s : Int) (i : Nat) (hi : i < dvN r s) : 1 ≤ (wtK r s 16).getD i 0 := by
  have : ∀ l : List Int, ∃ M, ∀ j, l.getD j 0 * s ≤ M := by
    intro l
    have : ∃ M, 0 ≤ M ∧ ∀ j, l.getD j 0 * s ≤ M := by
      induction l with
      | nil => exact ⟨0, Int.le_refl _, fun j => by simp⟩
      | cons x l ih =>
        obtain ⟨M, h0, h⟩ := ih
        refine ⟨max M (x * s), by omega, fun j => ?_⟩
        cases j with
        | zero => rw [List.getD_cons_zero]; omega
        | succ j => rw [List.getD_cons_succ]; have := h j; omega
    obtain ⟨M, _, h⟩ := this
    exact ⟨M, h⟩
  obtain ⟨M, hM⟩ := this r
  exact (wt_bd hM 16 i hi).1
theorem spP_len (A : Nat) (ws : List Int) (n : Nat) : (spP A ws n).length = n := by
  unfold spP
  rw [bumpK_len]; unfold spQ; exact fillK_len _ _ _ _
/-- What a division changes: only places of the sign; in sum, the amount. -/
theorem dvR_get {row r : List Int} {A : Nat} {s : Int} {j : Nat} (h : ¬ 0 < r.getD j 0 * s) : (dvR row A r s).getD j 0 = row.getD j 0 := by
  unfold dvR
  refine dvK_get _ fun i hi e => h ?_
  rw [← e]
  exact pl_pos r s 16 i (by rw [pl_len]; exact hi)
theorem dvR_sum {row r : List Int} {A : Nat} {c : ByteArray} {s : Int} (he : dvE A c r s = 0) (hl : row.length = 16) (hz : ∀ j, 0 < r.getD j 0 * s → row.getD j 0 = 0) : (dvR row A r s).sum = row.sum + A * s := by
  have hn := dvE_ok he
  unfold dvR
  have hpl : (plK r s 16).length = dvN r s := pl_len r s 16
  rw [dvK_sum (N := dvN r s) (fun i hi => ?_) (fun i hi => hz _ (pl_pos r s 16 i (by rw [hpl]; exact hi))) (fun i j hij hj => ?_) _ (Nat.le_refl _)]
  · have e : psK (spP A (wtK r s 16) (dvN r s)) (dvN r s) = A := by
      have := psK_sum (spP A (wtK r s 16) (dvN r s))
      rw [spP_len] at this
      rw [this]; exact sp_sum (fun k hk => wt_pos r s k hk) hn
    rw [e]
  · have := pl_bd r s 16 i (by rw [hpl]; exact hi)
    rw [hl]; omega
  · have h1 := pl_asc r s 16 i j hij (by rw [hpl]; exact hj)
    have h2 := pl_bd r s 16 i (by rw [hpl]; omega)
    omega
theorem cwE_dv {q : RL} {r : List Int} {f t p : ByteArray} (h : cwE q r f t p = 0) : dvE (cwA q r f t p) t r 1 = 0 ∧ dvE (cwA q r f t p) t r (-1) = 0 := by
  unfold cwE at h
  split at h
  · contradiction
  · split at h
    · contradiction
    · split at h
      · contradiction
      · rename_i g; exact ⟨by simpa using g, h⟩
theorem cwR_zero {q : RL} {r : List Int} {f t p : ByteArray} (h : cwE q r f t p = 0) : (cwR q r f t p).sum = 0 ∧ (cwR q r f t p).length = 16 ∧ ∀ j, r.getD j 0 = 0 → (cwR q r f t p).getD j 0 = 0 := by
  obtain ⟨h1, h2⟩ := cwE_dv h
  unfold cwR
  refine ⟨?_, by rw [dvR_len, dvR_len]; rfl, fun j hj => ?_⟩
  · rw [dvR_sum h2 (by rw [dvR_len]; rfl) (fun j hj => ?_), dvR_sum h1 rfl (fun j _ => z16_get j)]
    · have : z16.sum = 0 := rfl
      rw [this]; omega
    · rw [dvR_get (by omega), z16_get]
  · rw [dvR_get (by rw [hj]; simp), dvR_get (by rw [hj]; simp), z16_get]
theorem addK_sum {SS r : List Int} (h1 : SS.length = 16) (h2 : r.length = 16) : (addK SS r 16).sum = SS.sum + r.sum := by
  have : ∀ i, i ≤ 16 → (addK SS r i).sum = SS.sum + psK r i := by
    intro i
    induction i with
    | zero => intro _; simp [addK, psK]
    | succ i ih =>
      intro hi
      simp only [addK, psK]
      rw [sum_set _ _ _ (by rw [addK_len, h1]; omega), ih (by omega), addK_get h1 i i (by omega), if_neg (by omega)]
      omega
  rw [this 16 (Nat.le_refl _), ← h2, psK_sum]
/-- The sums of all converted rows add up to zero. -/
theorem cvS_zero {q : RL} {b : Bk} {B : Int} (h : BkI b B) {cs : List ByteArray} {t p : ByteArray} : ∀ k, cvEK q b cs t p k = 0 → (cvSK q b cs t p k).sum = 0 ∧ ∀ j, b.n ≤ j → (cvSK q b cs t p k).getD j 0 = 0
  | 0, _ => ⟨rfl, fun j _ => z16_get j⟩
  | k + 1, he => by
    simp only [cvEK] at he
    by_cases h0 : cvEK q b cs t p k = 0
    case neg => rw [if_pos h0] at he; exact absurd he h0
    rw [if_neg (by simpa using h0)] at he
    obtain ⟨i1, i2⟩ := cvS_zero h k h0
    have hl := cvSK_len q b cs t p k
    have hR : (cvR q b t p (cs.getD k ⟨#[]⟩)).sum = 0 ∧ (cvR q b t p (cs.getD k ⟨#[]⟩)).length = 16 ∧ ∀ j, b.n ≤ j → (cvR q b t p (cs.getD k ⟨#[]⟩)).getD j 0 = 0 := by
      unfold cvR
      by_cases g : cs.getD k ⟨#[]⟩ = t
      · rw [if_pos g]; exact ⟨h.rs _, h.rl _, h.rt _⟩
      · rw [if_neg g] at he ⊢
        have := cwR_zero he
        exact ⟨this.1, this.2.1, fun j hj => this.2.2 j (h.rt _ j hj)⟩
    simp only [cvSK]
    refine ⟨by rw [addK_sum hl hR.2.1, i1, hR.1]; rfl, fun j hj => ?_⟩
    rw [addK_get hl _ _ (Nat.le_refl _), i2 j hj, hR.2.2 j hj]
    split <;> rfl
theorem liR_mem {r : List Int} {ps : List ByteArray} {c : ByteArray} : ∀ i x, x ∈ liR r ps c i → x.c = c ∧ x.a ≠ 0 ∧ ∃ j, j < i ∧ x.p = ps.getD j ⟨#[]⟩ ∧ x.a = r.getD j 0
  | 0, x, h => by simp [liR] at h
  | i + 1, x, h => by
    simp only [liR] at h
    by_cases z : r.getD i 0 = 0
    · rw [if_pos z] at h
      obtain ⟨h1, h2, j, h3, h4⟩ := liR_mem i x h
      exact ⟨h1, h2, j, by omega, h4⟩
    · rw [if_neg z] at h
      rcases List.mem_append.1 h with h | h
      · obtain ⟨h1, h2, j, h3, h4⟩ := liR_mem i x h
        exact ⟨h1, h2, j, by omega, h4⟩
      · rw [List.mem_singleton] at h
        subst h
        exact ⟨rfl, z, i, by omega, rfl, rfl⟩
theorem liR_asc {r : List Int} {ps : List ByteArray} {c : ByteArray} {n : Nat} (h : ∀ i j, i < j → j < n → strLt (ps.getD i ⟨#[]⟩) (ps.getD j ⟨#[]⟩) = true) : ∀ i, i ≤ n → (liR r ps c i).Pairwise (fun x y => strLt x.p y.p = true)
  | 0, _ => List.Pairwise.nil
  | i + 1, hi => by
    have ih := liR_asc (r := r) (c := c) h i (by omega)
    simp only [liR]
    split
    · exact ih
    · refine List.pairwise_append.2 ⟨ih, List.pairwise_singleton _ _, fun x hx y hy => ?_⟩
      rw [List.mem_singleton] at hy
      subst hy
      obtain ⟨_, _, j, hj, e, _⟩ := liR_mem i x hx
      rw [e]; exact h j i hj hi
/-- The columns of a converted list. -/
theorem liR_at {r : List Int} {ps : List ByteArray} {c : ByteArray} {n : Nat} (h : ∀ i j, i < j → j < n → strLt (ps.getD i ⟨#[]⟩) (ps.getD j ⟨#[]⟩) = true) (k : Nat) (hk : k < (liR r ps c n).length) : (pxOf (liR r ps c n)).c.getD k ⟨#[]⟩ = c ∧ (pxOf (liR r ps c n)).a.getD k 0 ≠ 0 ∧ (0 < k → strLt ((pxOf (liR r ps c n)).p.getD (k - 1) ⟨#[]⟩) ((pxOf (liR r ps c n)).p.getD k ⟨#[]⟩) = true) := by
  have hm := liR_mem n _ (List.getElem_mem hk)
  have ha := liR_asc (r := r) (c := c) h n (Nat.le_refl _)
  refine ⟨?_, ?_, fun h0 => ?_⟩
  · simp only [pxOf, List.getD, List.getElem?_map, List.getElem?_eq_getElem hk, Option.map_some, Option.getD_some]; exact hm.1
  · simp only [pxOf, List.getD, List.getElem?_map, List.getElem?_eq_getElem hk, Option.map_some, Option.getD_some]; exact hm.2.1
  · simp only [pxOf, List.getD, List.getElem?_map, List.getElem?_eq_getElem hk, List.getElem?_eq_getElem (show k - 1 < (liR r ps c n).length by omega), Option.map_some, Option.getD_some]
    exact List.pairwise_iff_getElem.1 ha (k - 1) k (by omega) hk (by omega)
theorem list_bd {b : Bk} (h : BkI b 4503599627370496) (j : Nat) : inI ((pxOf b.list).a.getD j 0) := by
  have hm : ∀ cs k x, x ∈ liA b cs k → -4503599627370496 ≤ x.a ∧ x.a ≤ 4503599627370496 := by
    intro cs k
    induction k with
    | zero => intro x hx; simp [liA] at hx
    | succ k ih =>
      intro x hx
      simp only [liA] at hx
      rcases List.mem_append.1 hx with q | q
      · exact ih x q
      · obtain ⟨_, _, j, _, _, e⟩ := liR_mem _ _ q
        rw [e]; exact h.rb _ _
  unfold inI
  by_cases e : j < b.list.length
  · have := hm _ _ _ (show b.list[j] ∈ liA b (sortS b.cs) b.m from List.getElem_mem e)
    simp only [pxOf, List.getD, List.getElem?_map, List.getElem?_eq_getElem e, Option.map_some, Option.getD_some]
    omega
  · simp only [pxOf, List.getD, List.getElem?_map, List.getElem?_eq_none (show b.list.length ≤ j by omega), Option.map_none, Option.getD_none]
    omega
theorem liR_bd {r : List Int} {ps : List ByteArray} {c : ByteArray} {n : Nat} {B : Int} (hB : 0 ≤ B ∧ B ≤ 9223372036854775807) (h : ∀ j, -B ≤ r.getD j 0 ∧ r.getD j 0 ≤ B) (j : Nat) : inI ((pxOf (liR r ps c n)).a.getD j 0) := by
  unfold inI
  by_cases e : j < (liR r ps c n).length
  · obtain ⟨_, _, i, _, _, e2⟩ := liR_mem n _ (List.getElem_mem e)
    have := h i
    simp only [pxOf, List.getD, List.getElem?_map, List.getElem?_eq_getElem e, Option.map_some, Option.getD_some]
    omega
  · simp only [pxOf, List.getD, List.getElem?_map, List.getElem?_eq_none (show (liR r ps c n).length ≤ j by omega), Option.map_none, Option.getD_none]
    omega
theorem clamp_zero : clampI 0 4611686018427387904 = 0 := by decide
end Go.Proofs.YtkbidlijinclcaaDoor

/- The law PositionZero. -/
namespace Go.Proofs.YtkbidlijinclcaaDoor
open Go.RowKit Go.Sy
attribute [local irreducible] vcall vloop vcallD retP
set_option maxRecDepth 100000
set_option linter.unusedVariables false
set_option linter.unusedSimpArgs false

theorem pos_ConvertX {b : Bk} (h : BkI b 4503599627370496) {np : Nat} {ps : List ByteArray} (hn : b.n = np) (hp : b.ps = ps) (hm : b.m ≤ 100000) (q : RL) (hq : q.l ≤ 1000) (t p : ByteArray) : FC Tryd.prog 5 15 [.ptr 1 0 0 0, .sl 4 0 0 q.l, .str t, .str p] ((0, some (GB glT)) :: (4, some (.one true (rlB q))) :: bkX true np ps b) (cvOut b q t p) := by
  subst hn hp; exact pos_Convert b (h.ok (Int.le_refl _)) (h.cok hm) q hq t p
theorem cvE_X {b : Bk} {q : RL} {t p : ByteArray} (h : b.cvE q t p = 0) : b.cvX q t p = 0 := by
  unfold Bk.cvE at h
  split at h
  · cases h
  · split at h
    · contradiction
    · rename_i g; simpa using g
abbrev zeH (l0 : Nat) (ps : List ByteArray) (n : Nat) (mf mt : List ByteArray) (ma : List Int) (mc : List ByteArray) (q : RL) : Heap := [(0, some (GB glT)), (1, some (.one true (.cols l0 [.sc (.strs ps)]))), (2, some (.one true (mvB n mf mt ma mc))), (3, some (.one true (rlB q)))]
abbrev zeA (np : Nat) (sp : List ByteArray) (A : Bk) : Heap := [(4, bkC false 5 6 np), (5, some (.one false (.cols np [.sc (.strs sp)]))), (6, bkM false A)]
abbrev zeW (n : Nat) (pc : PxC) : Heap := [(4, some (.one false (pxB n pc)))]
set_option maxHeartbeats 3200000 in
theorem law_Zero (l0 : Nat) (ps : List ByteArray) (hl0 : ps.length = l0) (n : Nat) (mf mt : List ByteArray) (ma : List Int) (mc : List ByteArray) (hn : n ≤ maxLen) (q : RL) (hq : q.l ≤ maxLen) (to : ByteArray) (hto : to.size ≤ maxLen) :
    FC Tryd.prog 4 5 [.sl 1 0 0 l0, .sl 2 0 0 n, .sl 3 0 0 q.l, .str to] (zeH l0 ps n mf mt ma mc q) (isOut (.bool true) [] 4) := by
  have cw := law_awake
  have eM : maxLen = 9223372036854775807 := rfl
  have c0 := pos_NewA ps l0 hl0
  have cs := law_small n mf mt ma mc q hn hq
  unfold nwOut at c0
  by_cases he : nwErr ps = 0
  case neg =>
    rw [if_pos he] at c0
    generalize nwErr ps = er at *
    refine fc_of mixed T_ok Tryd.func5 rfl (by kernel_rfl) (by kernel_rfl) (by kernel_rfl) ?_
    repeat' ((conv => whnf); first | (refine vcall_out (l :=  [0, 1]) (c0 ) ⟨rfl, rfl, rfl, rfl, (by (repeat' (first | exact trivial | exact GB_wf | exact fun _ _ => rfl | constructor)); first | done | fail), (by (repeat' (first | exact trivial | exact GB_fits rfl | constructor)); first | done | fail)⟩ ?_) | (refine vcall_out (l :=  [0]) (cw ) ⟨rfl, rfl, rfl, rfl, (by (repeat' (first | exact trivial | exact GB_wf | exact fun _ _ => rfl | constructor)); first | done | fail), (by (repeat' (first | exact trivial | exact GB_fits rfl | constructor)); first | done | fail)⟩ ?_) | (refine vcallD_out (l :=  [0]) (cw ) ⟨rfl, rfl, rfl, rfl, (by (repeat' (first | exact trivial | exact GB_wf | exact fun _ _ => rfl | constructor)); first | done | fail), (by (repeat' (first | exact trivial | exact GB_fits rfl | constructor)); first | done | fail)⟩ ?_) | (refine br_dec (fun h => ?_) (fun h => ?_) <;> try (exfalso; (try dsimp only at h); omega)) | (refine br_ndec (fun h => ?_) (fun h => ?_) <;> try (exfalso; (try dsimp only at h); omega)) | refine br_seq (fun h => ?_) (fun h => ?_) | refine br_nseq (fun h => ?_) (fun h => ?_) | refine br_not (fun h => ?_) (fun h => ?_) | refine br_intro (fun h => ?_) (fun h => ?_) | refine cond_intro rfl ?_ | (refine cond_intro ⟨rfl, ?_⟩ ?_; (first | omega | (dsimp only; omega) | decide)) | (refine cond_intro ?_ ?_; (first | omega | (dsimp only; omega) | decide | (simp only [Nat.add_zero, Int.toNat_natCast, *]; omega))))
    all_goals (conv => whnf)
    all_goals first
      | exact ret_out (l := [0, 1, 2, 3]) rfl rfl trivial allRw_nil
      | (exfalso; first | omega | contradiction)
      | (exfalso; simp [he] at h; done)
      | trace_state
  rw [if_neg (by simpa using he), hl0] at c0
  have hI0 := nwB_I he
  have hnd := (nw_ok he).2.1
  have hpr : (nwB ps).ps.Perm ps := sortS_perm ps
  have hps0 : (nwB ps).ps = sortS ps := rfl
  have hn0 : (nwB ps).n = l0 := hl0
  have hm0 : (nwB ps).m = 0 := rfl
  have hasc : ∀ i j, i < j → j < l0 → strLt ((sortS ps).getD i ⟨#[]⟩) ((sortS ps).getD j ⟨#[]⟩) = true := fun i j hij hj => sortS_lt hnd hij (by omega)
  unfold bkP at c0
  rw [hn0, hps0] at c0
  have h16 := hI0.n16
  generalize nwB ps = b0 at *
  generalize sortS ps = sp at *
  cases hsm : smB mf mt mc n q with
  | false =>
    rw [hsm] at cs
    refine fc_of mixed T_ok Tryd.func5 rfl (by kernel_rfl) (by kernel_rfl) (by kernel_rfl) ?_
    repeat' ((conv => whnf); first | (refine vcall_out (l :=  [0, 1]) (c0 ) ⟨rfl, rfl, rfl, rfl, (by (repeat' (first | exact trivial | exact GB_wf | exact fun _ _ => rfl | constructor)); first | done | fail), (by (repeat' (first | exact trivial | exact GB_fits rfl | constructor)); first | done | fail)⟩ ?_) | (refine vcall_out (l :=  [0, 2, 3]) (cs ) ⟨rfl, rfl, rfl, rfl, (by (repeat' (first | exact trivial | exact GB_wf | exact fun _ _ => rfl | constructor)); first | done | fail), (by (repeat' (first | exact trivial | exact GB_fits rfl | constructor)); first | done | fail)⟩ ?_) | (refine vcall_out (l :=  [0]) (cw ) ⟨rfl, rfl, rfl, rfl, (by (repeat' (first | exact trivial | exact GB_wf | exact fun _ _ => rfl | constructor)); first | done | fail), (by (repeat' (first | exact trivial | exact GB_fits rfl | constructor)); first | done | fail)⟩ ?_) | (refine vcallD_out (l :=  [0]) (cw ) ⟨rfl, rfl, rfl, rfl, (by (repeat' (first | exact trivial | exact GB_wf | exact fun _ _ => rfl | constructor)); first | done | fail), (by (repeat' (first | exact trivial | exact GB_fits rfl | constructor)); first | done | fail)⟩ ?_) | (refine br_dec (fun h => ?_) (fun h => ?_) <;> try (exfalso; (try dsimp only at h); omega)) | (refine br_ndec (fun h => ?_) (fun h => ?_) <;> try (exfalso; (try dsimp only at h); omega)) | refine br_seq (fun h => ?_) (fun h => ?_) | refine br_nseq (fun h => ?_) (fun h => ?_) | refine br_not (fun h => ?_) (fun h => ?_) | refine br_intro (fun h => ?_) (fun h => ?_) | refine cond_intro rfl ?_ | (refine cond_intro ⟨rfl, ?_⟩ ?_; (first | omega | (dsimp only; omega) | decide)) | (refine cond_intro ?_ ?_; (first | omega | (dsimp only; omega) | decide | (simp only [Nat.add_zero, Int.toNat_natCast, *]; omega))))
    all_goals (conv => whnf)
    all_goals first
      | exact ret_out (l := [0, 1, 2, 3]) rfl rfl trivial allRw_nil
      | (exfalso; first | omega | contradiction)
      | trace_state
  | true =>
  rw [hsm] at cs
  have h60 := (smB_ok hsm).1
  have h20 := (smB_ok hsm).2
  have hp := fun M => all_ps b0 M
  have hI := fun M => all_I (hI0.up (B' := 4503599627370496) (by decide)) M
  have hM := fun M => all_m b0 M
  refine fc_of mixed T_ok Tryd.func5 rfl (by kernel_rfl) (by kernel_rfl) (by kernel_rfl) ?_
  repeat' ((conv => whnf); first | (refine vcall_out (l :=  [0, 1]) (c0 ) ⟨rfl, rfl, rfl, rfl, (by (repeat' (first | exact trivial | exact GB_wf | exact fun _ _ => rfl | constructor)); first | done | fail), (by (repeat' (first | exact trivial | exact GB_fits rfl | constructor)); first | done | fail)⟩ ?_) | (refine vcall_out (l :=  [0, 2, 3]) (cs ) ⟨rfl, rfl, rfl, rfl, (by (repeat' (first | exact trivial | exact GB_wf | exact fun _ _ => rfl | constructor)); first | done | fail), (by (repeat' (first | exact trivial | exact GB_fits rfl | constructor)); first | done | fail)⟩ ?_) | (refine vcall_out (l :=  [0]) (cw ) ⟨rfl, rfl, rfl, rfl, (by (repeat' (first | exact trivial | exact GB_wf | exact fun _ _ => rfl | constructor)); first | done | fail), (by (repeat' (first | exact trivial | exact GB_fits rfl | constructor)); first | done | fail)⟩ ?_) | (refine vcallD_out (l :=  [0]) (cw ) ⟨rfl, rfl, rfl, rfl, (by (repeat' (first | exact trivial | exact GB_wf | exact fun _ _ => rfl | constructor)); first | done | fail), (by (repeat' (first | exact trivial | exact GB_fits rfl | constructor)); first | done | fail)⟩ ?_) | (refine br_dec (fun h => ?_) (fun h => ?_) <;> try (exfalso; (try dsimp only at h); omega)) | (refine br_ndec (fun h => ?_) (fun h => ?_) <;> try (exfalso; (try dsimp only at h); omega)) | refine br_seq (fun h => ?_) (fun h => ?_) | refine br_nseq (fun h => ?_) (fun h => ?_) | refine br_not (fun h => ?_) (fun h => ?_) | refine br_intro (fun h => ?_) (fun h => ?_) | refine cond_intro rfl ?_ | (refine cond_intro ⟨rfl, ?_⟩ ?_; (first | omega | (dsimp only; omega) | decide)) | (refine cond_intro ?_ ?_; (first | omega | (dsimp only; omega) | decide | (simp only [Nat.add_zero, Int.toNat_natCast, *]; omega))))
  all_goals (conv => whnf)
  all_goals first
    | exact ret_out (l := [0, 1, 2, 3]) rfl rfl trivial allRw_nil
    | (exfalso; first | omega | contradiction)
    | skip
  refine vloop_lp (fun k : Nat => ⟨[(0, .sl 1 0 0 l0), (1, .sl 2 0 0 n), (2, .sl 3 0 0 q.l), (3, .str to), (9, .ptr 4 0 0 0), (11, .int .i64 k)], zeH l0 ps n mf mt ma mc q ++ zeA l0 sp (b0.all (mvTo mf mt ma mc id k)), 7⟩) (fun k => k ≤ n) (fun k => n - k) 0 [0, 1, 2, 3, 4, 5, 6] [] ⟨rfl, ⟨rfl, rfl, rfl, rfl, rfl, rfl, trivial⟩, ⟨gwk rfl, rfl, rfl, rfl, rfl, rfl, rfl, trivial⟩⟩ (Nat.zero_le _) ?_
  intro k hk
  by_cases hk2 : k < n
  · have d1 := pos_MoveX (hI (mvTo mf mt ma mc id k)) ((hp _).2.trans hn0) ((hp _).1.trans hps0) (mf.getD k ⟨#[]⟩) (mt.getD k ⟨#[]⟩) (mc.getD k ⟨#[]⟩) (ma.getD k 0)
    rw [go_of] at d1
    have s1 : mvTo mf mt ma mc id (k + 1) = mvTo mf mt ma mc id k ++ [mvAt mf mt ma mc k] := mvTo_succ _ _ _ _ _ _
    rw [← s1] at d1
    have hAI := hI (mvTo mf mt ma mc id (k + 1))
    have hAn := (hp (mvTo mf mt ma mc id (k + 1))).2.trans hn0
    have hAp := (hp (mvTo mf mt ma mc id (k + 1))).1.trans hps0
    have hAm := hM (mvTo mf mt ma mc id (k + 1))
    rw [mvTo_len, hm0] at hAm
    have hperm : (b0.all (mvTo mf mt ma mc id (k + 1))).ps.Perm ps := by rw [(hp _).1]; exact hpr
    have hz := ntK_zero hAI hperm hnd (mc.getD k ⟨#[]⟩)
    rw [hl0] at hz
    have hnb := ntK_bd hAI ps (mc.getD k ⟨#[]⟩)
    have dn := fun p => pos_NetX hAI hAn hAp p (mc.getD k ⟨#[]⟩)
    have la := pos_ListX hAI hAn hAp (by omega)
    have hlz := list_zero hAI (mc.getD k ⟨#[]⟩)
    have hlb := list_bd hAI
    have hll : (b0.all (mvTo mf mt ma mc id (k + 1))).list.length ≤ 1000 := by
      have h1 := liA_len (b0.all (mvTo mf mt ma mc id (k + 1))) (sortS (b0.all (mvTo mf mt ma mc id (k + 1))).cs) (b0.all (mvTo mf mt ma mc id (k + 1))).m
      have h2 : (b0.all (mvTo mf mt ma mc id (k + 1))).m * (b0.all (mvTo mf mt ma mc id (k + 1))).n ≤ 60 * 16 := Nat.mul_le_mul (by omega) hAI.n16
      unfold Bk.list; omega
    generalize mvE (b0.all (mvTo mf mt ma mc id k)) (mf.getD k ⟨#[]⟩) (mt.getD k ⟨#[]⟩) (mc.getD k ⟨#[]⟩) (ma.getD k 0) = e1 at *
    generalize hAA : b0.all (mvTo mf mt ma mc id (k + 1)) = AA at *
    generalize b0.all (mvTo mf mt ma mc id k) = A0 at *
    have hnt : ∀ i, ntK AA ps (mc.getD k ⟨#[]⟩) (i + 1) = ntK AA ps (mc.getD k ⟨#[]⟩) i + netI AA (ps.getD i ⟨#[]⟩) (mc.getD k ⟨#[]⟩) := fun i => rfl
    have bAA : bkM false AA = bkM false (b0.all (mvTo mf mt ma mc id (k + 1))) := by rw [hAA]
    generalize AA.list = LL at *
    have cS := pos_Sum LL.length (pxOf LL).p (pxOf LL).a (pxOf LL).c (mc.getD k ⟨#[]⟩) hll hlb
    rw [smA_all, hlz, clamp_zero] at cS
    repeat' ((conv => whnf); first | (refine vcallD_out (l :=  [0, 4, 5, 6]) (d1 ) ⟨rfl, rfl, rfl, rfl, (by (repeat' (first | exact trivial | exact GB_wf | exact fun _ _ => rfl | constructor)); first | done | fail), (by (repeat' (first | exact trivial | exact GB_fits rfl | constructor)); first | done | fail)⟩ ?_) | (refine vcall_out (l :=  [0, 4, 5, 6]) (d1 ) ⟨rfl, rfl, rfl, rfl, (by (repeat' (first | exact trivial | exact GB_wf | exact fun _ _ => rfl | constructor)); first | done | fail), (by (repeat' (first | exact trivial | exact GB_fits rfl | constructor)); first | done | fail)⟩ ?_) | (refine br_dec (fun h => ?_) (fun h => ?_) <;> try (exfalso; (try dsimp only at h); omega)) | (refine br_ndec (fun h => ?_) (fun h => ?_) <;> try (exfalso; (try dsimp only at h); omega)) | refine br_seq (fun h => ?_) (fun h => ?_) | refine br_nseq (fun h => ?_) (fun h => ?_) | refine br_not (fun h => ?_) (fun h => ?_) | refine br_intro (fun h => ?_) (fun h => ?_) | refine cond_intro rfl ?_ | (refine cond_intro ⟨rfl, ?_⟩ ?_; (first | omega | (dsimp only; omega) | decide)) | (refine cond_intro ?_ ?_; (first | omega | (dsimp only; omega) | decide | (simp only [Nat.add_zero, Int.toNat_natCast, *]; omega))))
    all_goals (conv => whnf)
    all_goals first
      | (exfalso; first | omega | contradiction)
      | skip
    refine vloop_lp (fun i : Nat => ⟨[(0, .sl 1 0 0 l0), (1, .sl 2 0 0 n), (2, .sl 3 0 0 q.l), (3, .str to), (9, .ptr 4 0 0 0), (11, .int .i64 k), (12, .str (mc.getD k ⟨#[]⟩)), (13, .int .i64 (ntK AA ps (mc.getD k ⟨#[]⟩) i)), (14, .int .i64 i)], zeH l0 ps n mf mt ma mc q ++ zeA l0 sp AA, 7⟩) (fun i => i ≤ l0) (fun i => l0 - i) 0 [0, 1, 2, 3, 4, 5, 6] [] ⟨rfl, ⟨rfl, rfl, rfl, rfl, rfl, rfl, rfl, rfl, rfl, trivial⟩, ⟨gwk rfl, rfl, rfl, rfl, rfl, rfl, rfl, trivial⟩⟩ (Nat.zero_le _) ?_
    intro i hi
    by_cases hi2 : i < l0
    · have b1 := hnb i
      have b2 := hnb (i + 1)
      have b3 := hnt i
      have dn1 := dn (ps.getD i ⟨#[]⟩)
      have e2 : IntKind.i64.wrap (ntK AA ps (mc.getD k ⟨#[]⟩) i + netI AA (ps.getD i ⟨#[]⟩) (mc.getD k ⟨#[]⟩)) = ntK AA ps (mc.getD k ⟨#[]⟩) (i + 1) := by rw [b3]; exact w64_in (by omega) (by omega)
      have e3 := congrArg (fun z => some (SV.int .i64 z)) e2
      repeat' ((conv => whnf); first | (refine vcall_out (l :=  [0, 4, 5, 6]) (dn1 ) ⟨rfl, rfl, rfl, rfl, (by (repeat' (first | exact trivial | exact GB_wf | exact fun _ _ => rfl | constructor)); first | done | fail), (by (repeat' (first | exact trivial | exact GB_fits rfl | constructor)); first | done | fail)⟩ ?_) | (refine vcallD_out (l :=  [0, 4, 5, 6]) (dn1 ) ⟨rfl, rfl, rfl, rfl, (by (repeat' (first | exact trivial | exact GB_wf | exact fun _ _ => rfl | constructor)); first | done | fail), (by (repeat' (first | exact trivial | exact GB_fits rfl | constructor)); first | done | fail)⟩ ?_) | (refine br_dec (fun h => ?_) (fun h => ?_) <;> try (exfalso; (try dsimp only at h); omega)) | (refine br_ndec (fun h => ?_) (fun h => ?_) <;> try (exfalso; (try dsimp only at h); omega)) | refine br_seq (fun h => ?_) (fun h => ?_) | refine br_nseq (fun h => ?_) (fun h => ?_) | refine br_not (fun h => ?_) (fun h => ?_) | refine br_intro (fun h => ?_) (fun h => ?_) | refine cond_intro rfl ?_ | (refine cond_intro ⟨rfl, ?_⟩ ?_; (first | omega | (dsimp only; omega) | decide)) | (refine cond_intro ?_ ?_; (first | omega | (dsimp only; omega) | decide | (simp only [Nat.add_zero, Int.toNat_natCast, *]; omega))))
      all_goals (conv => whnf)
      all_goals first
        | exact ⟨i + 1, [0, 1, 2, 3, 4, 5, 6], [], hi2, (show l0 - (i + 1) < l0 - i by omega), ⟨rfl, ⟨rfl, rfl, rfl, rfl, rfl, rfl, rfl, e3, congrArg (fun z => some (SV.int .i64 z)) (i64_succ (by omega)), trivial⟩, ⟨gwk rfl, rfl, rfl, rfl, rfl, rfl, rfl, trivial⟩⟩⟩
        | (exfalso; first | omega | contradiction)
        | trace_state
    · have ei : i = l0 := by omega
      subst ei
      rw [hz]
      repeat' ((conv => whnf); first | (refine vcall_out (l :=  [0, 4, 5, 6]) (la ) ⟨rfl, rfl, rfl, rfl, (by (repeat' (first | exact trivial | exact GB_wf | exact fun _ _ => rfl | constructor)); first | done | fail), (by (repeat' (first | exact trivial | exact GB_fits rfl | constructor)); first | done | fail)⟩ ?_) | (refine vcallD_out (l :=  [0, 4, 5, 6]) (la ) ⟨rfl, rfl, rfl, rfl, (by (repeat' (first | exact trivial | exact GB_wf | exact fun _ _ => rfl | constructor)); first | done | fail), (by (repeat' (first | exact trivial | exact GB_fits rfl | constructor)); first | done | fail)⟩ ?_) | (refine vcall_out (l :=  [0, 7]) (cS ) ⟨rfl, rfl, rfl, rfl, (by (repeat' (first | exact trivial | exact GB_wf | exact fun _ _ => rfl | constructor)); first | done | fail), (by (repeat' (first | exact trivial | exact GB_fits rfl | constructor)); first | done | fail)⟩ ?_) | (refine vcallD_out (l :=  [0, 7]) (cS ) ⟨rfl, rfl, rfl, rfl, (by (repeat' (first | exact trivial | exact GB_wf | exact fun _ _ => rfl | constructor)); first | done | fail), (by (repeat' (first | exact trivial | exact GB_fits rfl | constructor)); first | done | fail)⟩ ?_) | (refine br_dec (fun h => ?_) (fun h => ?_) <;> try (exfalso; (try dsimp only at h); omega)) | (refine br_ndec (fun h => ?_) (fun h => ?_) <;> try (exfalso; (try dsimp only at h); omega)) | refine br_seq (fun h => ?_) (fun h => ?_) | refine br_nseq (fun h => ?_) (fun h => ?_) | refine br_not (fun h => ?_) (fun h => ?_) | refine br_intro (fun h => ?_) (fun h => ?_) | refine cond_intro rfl ?_ | (refine cond_intro ⟨rfl, ?_⟩ ?_; (first | omega | (dsimp only; omega) | decide)) | (refine cond_intro ?_ ?_; (first | omega | (dsimp only; omega) | decide | (simp only [Nat.add_zero, Int.toNat_natCast, *]; omega))))
      all_goals (conv => whnf)
      all_goals first
        | exact ⟨k + 1, [0, 1, 2, 3, 4, 5, 6], [], hk2, (show n - (k + 1) < n - k by omega), ⟨rfl, ⟨rfl, rfl, rfl, rfl, rfl, congrArg (fun z => some (SV.int .i64 z)) (i64_succ (by omega)), trivial⟩, ⟨gwk rfl, rfl, rfl, rfl, rfl, rfl, bAA, trivial⟩⟩⟩
        | (exfalso; first | omega | contradiction)
        | trace_state
  have ek : k = n := by omega
  subst ek
  have hAI := hI (mvTo mf mt ma mc id k)
  have hAn := (hp (mvTo mf mt ma mc id k)).2.trans hn0
  have hAp := (hp (mvTo mf mt ma mc id k)).1.trans hps0
  have hAm := hM (mvTo mf mt ma mc id k)
  rw [mvTo_len, hm0] at hAm
  have cv := pos_ConvertX hAI hAn hAp (by omega) q (by omega) to to
  generalize b0.all (mvTo mf mt ma mc id k) = AA at *
  unfold cvOut at cv
  by_cases hE : AA.cvE q to to = 0
  case neg =>
    rw [if_pos hE] at cv
    generalize AA.cvE q to to = ee at *
    repeat' ((conv => whnf); first | (refine vcall_out (l :=  [0, 4, 5, 6, 3]) (cv ) ⟨rfl, rfl, rfl, rfl, (by (repeat' (first | exact trivial | exact GB_wf | exact fun _ _ => rfl | constructor)); first | done | fail), (by (repeat' (first | exact trivial | exact GB_fits rfl | constructor)); first | done | fail)⟩ ?_) | (refine vcall_out (l :=  [0]) (cw ) ⟨rfl, rfl, rfl, rfl, (by (repeat' (first | exact trivial | exact GB_wf | exact fun _ _ => rfl | constructor)); first | done | fail), (by (repeat' (first | exact trivial | exact GB_fits rfl | constructor)); first | done | fail)⟩ ?_) | (refine vcallD_out (l :=  [0]) (cw ) ⟨rfl, rfl, rfl, rfl, (by (repeat' (first | exact trivial | exact GB_wf | exact fun _ _ => rfl | constructor)); first | done | fail), (by (repeat' (first | exact trivial | exact GB_fits rfl | constructor)); first | done | fail)⟩ ?_) | (refine br_dec (fun h => ?_) (fun h => ?_) <;> try (exfalso; (try dsimp only at h); omega)) | (refine br_ndec (fun h => ?_) (fun h => ?_) <;> try (exfalso; (try dsimp only at h); omega)) | refine br_seq (fun h => ?_) (fun h => ?_) | refine br_nseq (fun h => ?_) (fun h => ?_) | refine br_not (fun h => ?_) (fun h => ?_) | refine br_intro (fun h => ?_) (fun h => ?_) | refine cond_intro rfl ?_ | (refine cond_intro ⟨rfl, ?_⟩ ?_; (first | omega | (dsimp only; omega) | decide)) | (refine cond_intro ?_ ?_; (first | omega | (dsimp only; omega) | decide | (simp only [Nat.add_zero, Int.toNat_natCast, *]; omega))))
    all_goals (conv => whnf)
    all_goals first
      | exact ret_out (l := [0, 1, 2, 3]) rfl rfl trivial allRw_nil
      | (exfalso; first | omega | contradiction)
      | trace_state
  rw [if_neg (by simpa using hE)] at cv
  have hX := cvE_X hE
  have hz := (cvS_zero hAI (q := q) (cs := sortS AA.cs) (t := to) (p := to) AA.m hX)
  have hSb := cvSK_bd (q := q) (cs := sortS AA.cs) (t := to) (p := to) (hAI.ok (Int.le_refl _)).bd AA.m hX
  have hSl := cvSK_len q AA (sortS AA.cs) to to AA.m
  have eL : AA.cvL q to to = liR (cvSK q AA (sortS AA.cs) to to AA.m) sp to l0 := by unfold Bk.cvL; rw [hAp, hAn]
  rw [eL] at cv
  have hAn16 := hAI.n16
  rw [hAn] at hAn16 hz
  generalize cvSK q AA (sortS AA.cs) to to AA.m = SS at *
  have hsum : smL (liR SS sp to l0) to = 0 := by
    rw [liR_sum, if_pos rfl, psK_row hSl hAn16 hz.2, hz.1]
  have hat := liR_at (r := SS) (c := to) (n := l0) hasc
  have hbd := liR_bd (r := SS) (ps := sp) (c := to) (n := l0) (B := 9007199254740992 * 60) (by decide) (fun j => by have := hSb j; omega)
  have hlen := liR_len SS sp to l0
  generalize liR SS sp to l0 = LL at *
  have cS := pos_Sum LL.length (pxOf LL).p (pxOf LL).a (pxOf LL).c to (by omega) hbd
  rw [smA_all, hsum, clamp_zero] at cS
  repeat' ((conv => whnf); first | (refine vcall_out (l :=  [0, 4, 5, 6, 3]) (cv ) ⟨rfl, rfl, rfl, rfl, (by (repeat' (first | exact trivial | exact GB_wf | exact fun _ _ => rfl | constructor)); first | done | fail), (by (repeat' (first | exact trivial | exact GB_fits rfl | constructor)); first | done | fail)⟩ ?_) | (refine br_dec (fun h => ?_) (fun h => ?_) <;> try (exfalso; (try dsimp only at h); omega)) | (refine br_ndec (fun h => ?_) (fun h => ?_) <;> try (exfalso; (try dsimp only at h); omega)) | refine br_seq (fun h => ?_) (fun h => ?_) | refine br_nseq (fun h => ?_) (fun h => ?_) | refine br_not (fun h => ?_) (fun h => ?_) | refine br_intro (fun h => ?_) (fun h => ?_) | refine cond_intro rfl ?_ | (refine cond_intro ⟨rfl, ?_⟩ ?_; (first | omega | (dsimp only; omega) | decide)) | (refine cond_intro ?_ ?_; (first | omega | (dsimp only; omega) | decide | (simp only [Nat.add_zero, Int.toNat_natCast, *]; omega))))
  all_goals (conv => whnf)
  all_goals first
    | (exfalso; first | omega | contradiction)
    | skip
  refine vloop_lp (fun i : Nat => ⟨[(3, .str to), (15, .sl 4 0 0 LL.length), (17, .int .i64 i)], (0, some (GB glT)) :: zeW LL.length (pxOf LL), 5⟩) (fun i => i ≤ LL.length) (fun i => LL.length - i) 0 [0, 1, 2, 3, 7] [] ⟨rfl, ⟨rfl, rfl, rfl, trivial⟩, ⟨gwk rfl, rfl, trivial⟩⟩ (Nat.zero_le _) ?_
  intro i hi
  by_cases hi2 : i < LL.length
  · obtain ⟨g1, g2, g3⟩ := hat i hi2
    cases i with
    | zero =>
      repeat' ((conv => whnf); first | (refine br_dec (fun h => ?_) (fun h => ?_) <;> try (exfalso; (try dsimp only at h); omega)) | (refine br_ndec (fun h => ?_) (fun h => ?_) <;> try (exfalso; (try dsimp only at h); omega)) | refine br_seq (fun h => ?_) (fun h => ?_) | refine br_nseq (fun h => ?_) (fun h => ?_) | refine br_not (fun h => ?_) (fun h => ?_) | refine br_intro (fun h => ?_) (fun h => ?_) | refine cond_intro rfl ?_ | (refine cond_intro ⟨rfl, ?_⟩ ?_; (first | omega | (dsimp only; omega) | decide)) | (refine cond_intro ?_ ?_; (first | omega | (dsimp only; omega) | decide | (simp only [Nat.add_zero, Int.toNat_natCast, *]; omega))))
      all_goals (conv => whnf)
      all_goals (try simp only [toNat0, Int.toNat_natCast, Nat.add_zero] at *)
      all_goals first
        | exact ⟨0 + 1, [0, 1, 2, 3, 4], [], hi2, (show LL.length - (0 + 1) < LL.length - 0 by omega), ⟨rfl, ⟨rfl, rfl, congrArg (fun z => some (SV.int .i64 z)) (i64_succ (by omega)), trivial⟩, ⟨gwk rfl, rfl, trivial⟩⟩⟩
        | (exfalso; first | omega | contradiction | (exact (by assumption : ¬ _ = _) g1) | (exact (by assumption : ¬ _) g1))
        | trace_state
    | succ i =>
      have g4 := g3 (by omega)
      have hpd := i64_pred (j := i) (by omega)
      rw [Nat.add_sub_cancel] at g4
      repeat' ((conv => whnf); first | (simp only [hpd]) | (refine br_dec (fun h => ?_) (fun h => ?_) <;> try (exfalso; (try dsimp only at h); omega)) | (refine br_ndec (fun h => ?_) (fun h => ?_) <;> try (exfalso; (try dsimp only at h); omega)) | refine br_seq (fun h => ?_) (fun h => ?_) | refine br_nseq (fun h => ?_) (fun h => ?_) | refine br_not (fun h => ?_) (fun h => ?_) | refine br_intro (fun h => ?_) (fun h => ?_) | refine cond_intro rfl ?_ | (refine cond_intro ⟨rfl, ?_⟩ ?_; (first | omega | (dsimp only; omega) | decide)) | (refine cond_intro ?_ ?_; (first | omega | (dsimp only; omega) | decide | (simp only [Nat.add_zero, Int.toNat_natCast, *]; omega))))
      all_goals (conv => whnf)
      all_goals (try simp only [toNat0, Int.toNat_natCast, Nat.add_zero, hpd, g4] at *)
      all_goals first
        | exact ⟨i + 1 + 1, [0, 1, 2, 3, 4], [], hi2, (show LL.length - (i + 1 + 1) < LL.length - (i + 1) by omega), ⟨rfl, ⟨rfl, rfl, congrArg (fun z => some (SV.int .i64 z)) (i64_succ (by omega)), trivial⟩, ⟨gwk rfl, rfl, trivial⟩⟩⟩
        | (exfalso; first | omega | contradiction | (simp at *; done))
        | trace_state
  · repeat' ((conv => whnf); first | (refine vcall_out (l :=  [0, 4]) (cS ) ⟨rfl, rfl, rfl, rfl, (by (repeat' (first | exact trivial | exact GB_wf | exact fun _ _ => rfl | constructor)); first | done | fail), (by (repeat' (first | exact trivial | exact GB_fits rfl | constructor)); first | done | fail)⟩ ?_) | (refine vcallD_out (l :=  [0, 4]) (cS ) ⟨rfl, rfl, rfl, rfl, (by (repeat' (first | exact trivial | exact GB_wf | exact fun _ _ => rfl | constructor)); first | done | fail), (by (repeat' (first | exact trivial | exact GB_fits rfl | constructor)); first | done | fail)⟩ ?_) | (refine vcall_out (l :=  [0]) (cw ) ⟨rfl, rfl, rfl, rfl, (by (repeat' (first | exact trivial | exact GB_wf | exact fun _ _ => rfl | constructor)); first | done | fail), (by (repeat' (first | exact trivial | exact GB_fits rfl | constructor)); first | done | fail)⟩ ?_) | (refine vcallD_out (l :=  [0]) (cw ) ⟨rfl, rfl, rfl, rfl, (by (repeat' (first | exact trivial | exact GB_wf | exact fun _ _ => rfl | constructor)); first | done | fail), (by (repeat' (first | exact trivial | exact GB_fits rfl | constructor)); first | done | fail)⟩ ?_) | (refine br_dec (fun h => ?_) (fun h => ?_) <;> try (exfalso; (try dsimp only at h); omega)) | (refine br_ndec (fun h => ?_) (fun h => ?_) <;> try (exfalso; (try dsimp only at h); omega)) | refine br_seq (fun h => ?_) (fun h => ?_) | refine br_nseq (fun h => ?_) (fun h => ?_) | refine br_not (fun h => ?_) (fun h => ?_) | refine br_intro (fun h => ?_) (fun h => ?_) | refine cond_intro rfl ?_ | (refine cond_intro ⟨rfl, ?_⟩ ?_; (first | omega | (dsimp only; omega) | decide)) | (refine cond_intro ?_ ?_; (first | omega | (dsimp only; omega) | decide | (simp only [Nat.add_zero, Int.toNat_natCast, *]; omega))))
    all_goals (conv => whnf)
    all_goals first
      | exact ret_out (l := [0, 1, 2, 3]) rfl rfl trivial allRw_nil
      | (exfalso; first | omega | contradiction)
      | trace_state
end Go.Proofs.YtkbidlijinclcaaDoor

/- The law PositionZero: positions add up to zero, also after conversion -/
namespace Go.Proofs.YtkbidlijinclcaaDoor
open Go.RowKit Go.Sy
set_option linter.unusedVariables false

theorem positionZero_fc (l0 : Nat) (hl0 : l0 ≤ maxLen) (q0_0 : List ByteArray) (eq0_0 : q0_0.length = l0) (wq0_0 : ∀ x ∈ q0_0, x.size ≤ maxLen) (l1 : Nat) (hl1 : l1 ≤ maxLen) (q1_0 : List ByteArray) (eq1_0 : q1_0.length = l1) (wq1_0 : ∀ x ∈ q1_0, x.size ≤ maxLen) (q1_1 : List ByteArray) (eq1_1 : q1_1.length = l1) (wq1_1 : ∀ x ∈ q1_1, x.size ≤ maxLen) (q1_2 : List Int) (eq1_2 : q1_2.length = l1) (wq1_2 : ∀ x ∈ q1_2, (Lit.int .i64 x).wf = true) (q1_3 : List ByteArray) (eq1_3 : q1_3.length = l1) (wq1_3 : ∀ x ∈ q1_3, x.size ≤ maxLen) (l2 : Nat) (hl2 : l2 ≤ maxLen) (q2_0 : List ByteArray) (eq2_0 : q2_0.length = l2) (wq2_0 : ∀ x ∈ q2_0, x.size ≤ maxLen) (q2_1 : List ByteArray) (eq2_1 : q2_1.length = l2) (wq2_1 : ∀ x ∈ q2_1, x.size ≤ maxLen) (q2_2 : List Int) (eq2_2 : q2_2.length = l2) (wq2_2 : ∀ x ∈ q2_2, (Lit.int .i64 x).wf = true) (q2_3 : List Int) (eq2_3 : q2_3.length = l2) (wq2_3 : ∀ x ∈ q2_3, (Lit.int .i64 x).wf = true) (s3 : ByteArray) (hs3 : s3.size ≤ maxLen) :
    FC Tryd.prog 4 5 [.sl 1 0 0 l0, .sl 2 0 0 l1, .sl 3 0 0 l2, .str s3] [(0, some (GB glT)), (1, some (.one true (.cols l0 [.sc (.strs q0_0)]))), (2, some (.one true (.cols l1 [.sc (.strs q1_0), .sc (.strs q1_1), .sc (.ints .i64 q1_2), .sc (.strs q1_3)]))), (3, some (.one true (.cols l2 [.sc (.strs q2_0), .sc (.strs q2_1), .sc (.ints .i64 q2_2), .sc (.ints .i64 q2_3)])))] (isOut (.bool true) [] 4) := law_Zero l0 q0_0 eq0_0 l1 q1_0 q1_1 q1_2 q1_3 hl1 ⟨q2_0, q2_1, q2_2, q2_3, l2⟩ hl2 s3 hs3
end Go.Proofs.YtkbidlijinclcaaDoor

