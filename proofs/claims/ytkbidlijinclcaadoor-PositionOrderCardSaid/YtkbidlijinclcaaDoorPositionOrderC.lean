/- Several texts in one: XPosT, XPosOr. -/
import Derived.Test.YtkbidlijinclcaaDoorPosC1
/- The law PositionOrder. -/
namespace Go.Proofs.YtkbidlijinclcaaDoor
open Go.RowKit Go.Sy
attribute [local irreducible] vcall vloop vcallD retP
set_option maxRecDepth 100000
set_option linter.unusedVariables false
set_option linter.unusedSimpArgs false

def mvAt (mf mt : List ByteArray) (ma : List Int) (mc : List ByteArray) (k : Nat) : Mv := ⟨mf.getD k ⟨#[]⟩, mt.getD k ⟨#[]⟩, ma.getD k 0, mc.getD k ⟨#[]⟩⟩
def mvTo (mf mt : List ByteArray) (ma : List Int) (mc : List ByteArray) (g : Nat → Nat) (k : Nat) : List Mv := (List.range k).map (fun i => mvAt mf mt ma mc (g i))
theorem mvTo_succ (mf mt : List ByteArray) (ma : List Int) (mc : List ByteArray) (g : Nat → Nat) (k : Nat) : mvTo mf mt ma mc g (k + 1) = mvTo mf mt ma mc g k ++ [mvAt mf mt ma mc (g k)] := by unfold mvTo; rw [List.range_succ, List.map_append]; rfl
theorem mvTo_len (mf mt : List ByteArray) (ma : List Int) (mc : List ByteArray) (g : Nat → Nat) (k : Nat) : (mvTo mf mt ma mc g k).length = k := by unfold mvTo; rw [List.length_map, List.length_range]
theorem mvTo_rev (mf mt : List ByteArray) (ma : List Int) (mc : List ByteArray) (n : Nat) : (mvTo mf mt ma mc id n).Perm (mvTo mf mt ma mc (fun i => n - 1 - i) n) := by
  have e : mvTo mf mt ma mc (fun i => n - 1 - i) n = (mvTo mf mt ma mc id n).reverse := by
    refine List.ext_getElem (by simp [mvTo]) fun i h1 h2 => ?_
    simp [mvTo, List.getElem_reverse]
  rw [e]; exact (List.reverse_perm _).symm
theorem go_of {b : Bk} {M : List Mv} {mf mt : List ByteArray} {ma : List Int} {mc : List ByteArray} {j : Nat} : (b.all M).mv (mf.getD j ⟨#[]⟩) (mt.getD j ⟨#[]⟩) (mc.getD j ⟨#[]⟩) (ma.getD j 0) = b.all (M ++ [mvAt mf mt ma mc j]) := (all_snoc b M (mvAt mf mt ma mc j)).symm
abbrev orH (l0 : Nat) (ps : List ByteArray) (n : Nat) (mf mt : List ByteArray) (ma : List Int) (mc : List ByteArray) : Heap := [(0, some (GB glT)), (1, some (.one true (.cols l0 [.sc (.strs ps)]))), (2, some (.one true (mvB n mf mt ma mc)))]
abbrev orA (np : Nat) (sp : List ByteArray) (A : Bk) : Heap := [(3, bkC false 4 5 np), (4, some (.one false (.cols np [.sc (.strs sp)]))), (5, bkM false A)]
abbrev orB (np : Nat) (sp : List ByteArray) (A : Bk) : Heap := [(6, bkC false 7 8 np), (7, some (.one false (.cols np [.sc (.strs sp)]))), (8, bkM false A)]
abbrev orW (n : Nat) (pc : PxC) : Heap := [(6, some (.one false (pxB n pc)))]
set_option maxHeartbeats 3200000 in
theorem law_Order (l0 : Nat) (ps : List ByteArray) (hl0 : ps.length = l0) (n : Nat) (mf mt : List ByteArray) (ma : List Int) (mc : List ByteArray) (hn : n ≤ maxLen) (hma : ∀ x ∈ ma, -9223372036854775808 ≤ x ∧ x ≤ 9223372036854775807) :
    FC Tryd.prog 3 4 [.sl 1 0 0 l0, .sl 2 0 0 n] (orH l0 ps n mf mt ma mc) (isOut (.bool true) [] 3) := by
  have cw := law_awake
  have eM : maxLen = 9223372036854775807 := rfl
  have c0 := pos_NewA ps l0 hl0
  have cs := law_smallN n mf mt ma mc hn
  unfold nwOut at c0
  by_cases he : nwErr ps = 0
  case neg =>
    rw [if_pos he] at c0
    generalize nwErr ps = er at *
    refine fc_of mixed T_ok Tryd.func4 rfl (by kernel_rfl) (by kernel_rfl) (by kernel_rfl) ?_
    repeat' ((conv => whnf); first | (refine vcall_out (l :=  [0, 1]) (c0 ) ⟨rfl, rfl, rfl, rfl, (by (repeat' (first | exact trivial | exact GB_wf | exact fun _ _ => rfl | constructor)); first | done | fail), (by (repeat' (first | exact trivial | exact GB_fits rfl | constructor)); first | done | fail)⟩ ?_) | (refine vcall_out (l :=  [0]) (cw ) ⟨rfl, rfl, rfl, rfl, (by (repeat' (first | exact trivial | exact GB_wf | exact fun _ _ => rfl | constructor)); first | done | fail), (by (repeat' (first | exact trivial | exact GB_fits rfl | constructor)); first | done | fail)⟩ ?_) | (refine vcallD_out (l :=  [0]) (cw ) ⟨rfl, rfl, rfl, rfl, (by (repeat' (first | exact trivial | exact GB_wf | exact fun _ _ => rfl | constructor)); first | done | fail), (by (repeat' (first | exact trivial | exact GB_fits rfl | constructor)); first | done | fail)⟩ ?_) | (refine br_dec (fun h => ?_) (fun h => ?_) <;> try (exfalso; (try dsimp only at h); omega)) | (refine br_ndec (fun h => ?_) (fun h => ?_) <;> try (exfalso; (try dsimp only at h); omega)) | refine br_seq (fun h => ?_) (fun h => ?_) | refine br_nseq (fun h => ?_) (fun h => ?_) | refine br_not (fun h => ?_) (fun h => ?_) | refine br_intro (fun h => ?_) (fun h => ?_) | refine cond_intro rfl ?_ | (refine cond_intro ⟨rfl, ?_⟩ ?_; (first | omega | (dsimp only; omega) | decide)) | (refine cond_intro ?_ ?_; (first | omega | (dsimp only; omega) | decide | (simp only [Nat.add_zero, Int.toNat_natCast, *]; omega))))
    all_goals (conv => whnf)
    all_goals first
      | exact ret_out (l := [0, 1, 2]) rfl rfl trivial allRw_nil
      | (exfalso; first | omega | contradiction)
      | trace_state
  rw [if_neg (by simpa using he), hl0] at c0
  have hI0 := nwB_I he
  have hps0 : (nwB ps).ps = sortS ps := rfl
  have hn0 : (nwB ps).n = l0 := hl0
  have hm0 : (nwB ps).m = 0 := rfl
  unfold bkP at c0
  rw [hn0, hps0] at c0
  have h16 := hI0.n16
  generalize nwB ps = b0 at *
  generalize sortS ps = sp at *
  cases hsm : smB mf mt mc n rl0 with
  | false =>
    rw [hsm] at cs
    refine fc_of mixed T_ok Tryd.func4 rfl (by kernel_rfl) (by kernel_rfl) (by kernel_rfl) ?_
    repeat' ((conv => whnf); first | (refine vcall_out (l :=  [0, 1]) (c0 ) ⟨rfl, rfl, rfl, rfl, (by (repeat' (first | exact trivial | exact GB_wf | exact fun _ _ => rfl | constructor)); first | done | fail), (by (repeat' (first | exact trivial | exact GB_fits rfl | constructor)); first | done | fail)⟩ ?_) | (refine vcall_out (l :=  [0, 2]) (cs ) ⟨rfl, rfl, rfl, rfl, (by (repeat' (first | exact trivial | exact GB_wf | exact fun _ _ => rfl | constructor)); first | done | fail), (by (repeat' (first | exact trivial | exact GB_fits rfl | constructor)); first | done | fail)⟩ ?_) | (refine vcall_out (l :=  [0]) (cw ) ⟨rfl, rfl, rfl, rfl, (by (repeat' (first | exact trivial | exact GB_wf | exact fun _ _ => rfl | constructor)); first | done | fail), (by (repeat' (first | exact trivial | exact GB_fits rfl | constructor)); first | done | fail)⟩ ?_) | (refine vcallD_out (l :=  [0]) (cw ) ⟨rfl, rfl, rfl, rfl, (by (repeat' (first | exact trivial | exact GB_wf | exact fun _ _ => rfl | constructor)); first | done | fail), (by (repeat' (first | exact trivial | exact GB_fits rfl | constructor)); first | done | fail)⟩ ?_) | (refine br_dec (fun h => ?_) (fun h => ?_) <;> try (exfalso; (try dsimp only at h); omega)) | (refine br_ndec (fun h => ?_) (fun h => ?_) <;> try (exfalso; (try dsimp only at h); omega)) | refine br_seq (fun h => ?_) (fun h => ?_) | refine br_nseq (fun h => ?_) (fun h => ?_) | refine br_not (fun h => ?_) (fun h => ?_) | refine br_intro (fun h => ?_) (fun h => ?_) | refine cond_intro rfl ?_ | (refine cond_intro ⟨rfl, ?_⟩ ?_; (first | omega | (dsimp only; omega) | decide)) | (refine cond_intro ?_ ?_; (first | omega | (dsimp only; omega) | decide | (simp only [Nat.add_zero, Int.toNat_natCast, *]; omega))))
    all_goals (conv => whnf)
    all_goals first
      | exact ret_out (l := [0, 1, 2]) rfl rfl trivial allRw_nil
      | (exfalso; first | omega | contradiction)
      | trace_state
  | true =>
  rw [hsm] at cs
  have h60 := (smB_ok hsm).1
  refine fc_of mixed T_ok Tryd.func4 rfl (by kernel_rfl) (by kernel_rfl) (by kernel_rfl) ?_
  repeat' ((conv => whnf); first | (refine vcall_out (l :=  [0, 1]) (c0 ) ⟨rfl, rfl, rfl, rfl, (by (repeat' (first | exact trivial | exact GB_wf | exact fun _ _ => rfl | constructor)); first | done | fail), (by (repeat' (first | exact trivial | exact GB_fits rfl | constructor)); first | done | fail)⟩ ?_) | (refine vcall_out (l :=  [0, 2]) (cs ) ⟨rfl, rfl, rfl, rfl, (by (repeat' (first | exact trivial | exact GB_wf | exact fun _ _ => rfl | constructor)); first | done | fail), (by (repeat' (first | exact trivial | exact GB_fits rfl | constructor)); first | done | fail)⟩ ?_) | (refine vcall_out (l :=  [0]) (cw ) ⟨rfl, rfl, rfl, rfl, (by (repeat' (first | exact trivial | exact GB_wf | exact fun _ _ => rfl | constructor)); first | done | fail), (by (repeat' (first | exact trivial | exact GB_fits rfl | constructor)); first | done | fail)⟩ ?_) | (refine vcallD_out (l :=  [0]) (cw ) ⟨rfl, rfl, rfl, rfl, (by (repeat' (first | exact trivial | exact GB_wf | exact fun _ _ => rfl | constructor)); first | done | fail), (by (repeat' (first | exact trivial | exact GB_fits rfl | constructor)); first | done | fail)⟩ ?_) | (refine br_dec (fun h => ?_) (fun h => ?_) <;> try (exfalso; (try dsimp only at h); omega)) | (refine br_ndec (fun h => ?_) (fun h => ?_) <;> try (exfalso; (try dsimp only at h); omega)) | refine br_seq (fun h => ?_) (fun h => ?_) | refine br_nseq (fun h => ?_) (fun h => ?_) | refine br_not (fun h => ?_) (fun h => ?_) | refine br_intro (fun h => ?_) (fun h => ?_) | refine cond_intro rfl ?_ | (refine cond_intro ⟨rfl, ?_⟩ ?_; (first | omega | (dsimp only; omega) | decide)) | (refine cond_intro ?_ ?_; (first | omega | (dsimp only; omega) | decide | (simp only [Nat.add_zero, Int.toNat_natCast, *]; omega))))
  all_goals (conv => whnf)
  all_goals first
    | (exfalso; first | omega | contradiction)
    | skip
  refine vloop_lp (fun k : Nat => ⟨[(1, .sl 2 0 0 n), (5, .ptr 3 0 0 0), (7, .ptr 6 0 0 0), (9, .int .i64 k)], orH l0 ps n mf mt ma mc ++ (orA l0 sp b0 ++ orB l0 sp b0), 9⟩) (fun k => k ≤ n ∧ ∀ i, i < k → ma.getD i 0 ≤ 1000000000000) (fun k => n - k) 0 [0, 1, 2, 3, 4, 5, 6, 7, 8] [] ⟨rfl, ⟨rfl, rfl, rfl, rfl, trivial⟩, ⟨gwk rfl, rfl, rfl, rfl, rfl, rfl, rfl, rfl, rfl, trivial⟩⟩ ⟨Nat.zero_le _, fun i hi => absurd hi (Nat.not_lt_zero _)⟩ ?_
  rintro k ⟨hk, hA⟩
  by_cases hk2 : k < n
  · have hA2 : ma.getD k 0 ≤ 1000000000000 → ∀ i, i < k + 1 → ma.getD i 0 ≤ 1000000000000 := fun w i hi => by
      by_cases e : i = k
      · rw [e]; exact w
      · exact hA i (by omega)
    by_cases g : ma.getD k 0 ≤ 1000000000000
    · have hA3 := hA2 g
      repeat' ((conv => whnf); first | (refine vcall_out (l :=  [0]) (cw ) ⟨rfl, rfl, rfl, rfl, (by (repeat' (first | exact trivial | exact GB_wf | exact fun _ _ => rfl | constructor)); first | done | fail), (by (repeat' (first | exact trivial | exact GB_fits rfl | constructor)); first | done | fail)⟩ ?_) | (refine vcallD_out (l :=  [0]) (cw ) ⟨rfl, rfl, rfl, rfl, (by (repeat' (first | exact trivial | exact GB_wf | exact fun _ _ => rfl | constructor)); first | done | fail), (by (repeat' (first | exact trivial | exact GB_fits rfl | constructor)); first | done | fail)⟩ ?_) | (refine br_dec (fun h => ?_) (fun h => ?_) <;> try (exfalso; (try dsimp only at h); omega)) | (refine br_ndec (fun h => ?_) (fun h => ?_) <;> try (exfalso; (try dsimp only at h); omega)) | refine br_seq (fun h => ?_) (fun h => ?_) | refine br_nseq (fun h => ?_) (fun h => ?_) | refine br_not (fun h => ?_) (fun h => ?_) | refine br_intro (fun h => ?_) (fun h => ?_) | refine cond_intro rfl ?_ | (refine cond_intro ⟨rfl, ?_⟩ ?_; (first | omega | (dsimp only; omega) | decide)) | (refine cond_intro ?_ ?_; (first | omega | (dsimp only; omega) | decide | (simp only [Nat.add_zero, Int.toNat_natCast, *]; omega))))
      all_goals (conv => whnf)
      all_goals (try simp only [toNat0, Int.toNat_natCast, Nat.add_zero] at *)
      all_goals first
        | exact ⟨k + 1, [0, 1, 2, 3, 4, 5, 6, 7, 8], [], ⟨hk2, hA3⟩, (show n - (k + 1) < n - k by omega), ⟨rfl, ⟨rfl, rfl, rfl, congrArg (fun z => some (SV.int .i64 z)) (i64_succ (by omega)), trivial⟩, ⟨gwk rfl, rfl, rfl, rfl, rfl, rfl, rfl, rfl, rfl, trivial⟩⟩⟩
        | (exfalso; first | omega | contradiction)
        | trace_state
    · repeat' ((conv => whnf); first | (refine vcall_out (l :=  [0]) (cw ) ⟨rfl, rfl, rfl, rfl, (by (repeat' (first | exact trivial | exact GB_wf | exact fun _ _ => rfl | constructor)); first | done | fail), (by (repeat' (first | exact trivial | exact GB_fits rfl | constructor)); first | done | fail)⟩ ?_) | (refine vcallD_out (l :=  [0]) (cw ) ⟨rfl, rfl, rfl, rfl, (by (repeat' (first | exact trivial | exact GB_wf | exact fun _ _ => rfl | constructor)); first | done | fail), (by (repeat' (first | exact trivial | exact GB_fits rfl | constructor)); first | done | fail)⟩ ?_) | (refine br_dec (fun h => ?_) (fun h => ?_) <;> try (exfalso; (try dsimp only at h); omega)) | (refine br_ndec (fun h => ?_) (fun h => ?_) <;> try (exfalso; (try dsimp only at h); omega)) | refine br_seq (fun h => ?_) (fun h => ?_) | refine br_nseq (fun h => ?_) (fun h => ?_) | refine br_not (fun h => ?_) (fun h => ?_) | refine br_intro (fun h => ?_) (fun h => ?_) | refine cond_intro rfl ?_ | (refine cond_intro ⟨rfl, ?_⟩ ?_; (first | omega | (dsimp only; omega) | decide)) | (refine cond_intro ?_ ?_; (first | omega | (dsimp only; omega) | decide | (simp only [Nat.add_zero, Int.toNat_natCast, *]; omega))))
      all_goals (conv => whnf)
      all_goals (try simp only [toNat0, Int.toNat_natCast, Nat.add_zero] at *)
      all_goals first
        | exact ret_out (l := [0, 1, 2]) rfl rfl trivial allRw_nil
        | (exfalso; first | omega | contradiction)
        | trace_state
  have ek : k = n := by omega
  subst ek
  have hcl : ∀ j, j < k → 0 ≤ j := fun j _ => Nat.zero_le _
  have hp := fun M => all_ps b0 M
  have hI := fun M => all_I (hI0.up (B' := 4503599627370496) (by decide)) M
  have hM := fun M => all_m b0 M
  repeat' ((conv => whnf); first | (refine br_dec (fun h => ?_) (fun h => ?_) <;> try (exfalso; (try dsimp only at h); omega)) | (refine br_ndec (fun h => ?_) (fun h => ?_) <;> try (exfalso; (try dsimp only at h); omega)) | refine br_seq (fun h => ?_) (fun h => ?_) | refine br_nseq (fun h => ?_) (fun h => ?_) | refine br_not (fun h => ?_) (fun h => ?_) | refine br_intro (fun h => ?_) (fun h => ?_) | refine cond_intro rfl ?_ | (refine cond_intro ⟨rfl, ?_⟩ ?_; (first | omega | (dsimp only; omega) | decide)) | (refine cond_intro ?_ ?_; (first | omega | (dsimp only; omega) | decide | (simp only [Nat.add_zero, Int.toNat_natCast, *]; omega))))
  all_goals (conv => whnf)
  all_goals first
    | (exfalso; first | omega | contradiction)
    | skip
  refine vloop_lp (fun i : Nat => ⟨[(1, .sl 2 0 0 k), (5, .ptr 3 0 0 0), (7, .ptr 6 0 0 0), (10, .int .i64 i)], orH l0 ps k mf mt ma mc ++ (orA l0 sp (b0.all (mvTo mf mt ma mc id i)) ++ orB l0 sp (b0.all (mvTo mf mt ma mc (fun i => k - 1 - i) i))), 9⟩) (fun i => i ≤ k) (fun i => k - i) 0 [0, 1, 2, 3, 4, 5, 6, 7, 8] [] ⟨rfl, ⟨rfl, rfl, rfl, rfl, trivial⟩, ⟨gwk rfl, rfl, rfl, rfl, rfl, rfl, rfl, rfl, rfl, trivial⟩⟩ (Nat.zero_le _) ?_
  intro i hi
  by_cases hi2 : i < k
  · have e1 : IntKind.i64.wrap (IntKind.i64.wrap ((k : Int) - 1) - (i : Int)) = ((k - 1 - i : Nat) : Int) := by
      rw [w64_in (n := (k : Int) - 1) (by omega) (by omega), w64_in (by omega) (by omega)]; omega
    have hlt : k - 1 - i < k := by omega
    have d1 := pos_MoveX (hI (mvTo mf mt ma mc id i)) ((hp _).2.trans hn0) ((hp _).1.trans hps0) (mf.getD i ⟨#[]⟩) (mt.getD i ⟨#[]⟩) (mc.getD i ⟨#[]⟩) (ma.getD i 0)
    have d2 := pos_MoveX (hI (mvTo mf mt ma mc (fun i => k - 1 - i) i)) ((hp _).2.trans hn0) ((hp _).1.trans hps0) (mf.getD (k - 1 - i) ⟨#[]⟩) (mt.getD (k - 1 - i) ⟨#[]⟩) (mc.getD (k - 1 - i) ⟨#[]⟩) (ma.getD (k - 1 - i) 0)
    rw [go_of] at d1 d2
    have s1 : mvTo mf mt ma mc id (i + 1) = mvTo mf mt ma mc id i ++ [mvAt mf mt ma mc i] := mvTo_succ _ _ _ _ _ _
    have s2 : mvTo mf mt ma mc (fun i => k - 1 - i) (i + 1) = mvTo mf mt ma mc (fun i => k - 1 - i) i ++ [mvAt mf mt ma mc (k - 1 - i)] := mvTo_succ _ _ _ _ _ _
    rw [← s1] at d1
    rw [← s2] at d2
    repeat' ((conv => whnf); first | (refine vcall_out (l :=  [0, 3, 4, 5]) (d1 ) ⟨rfl, rfl, rfl, rfl, (by (repeat' (first | exact trivial | exact GB_wf | exact fun _ _ => rfl | constructor)); first | done | fail), (by (repeat' (first | exact trivial | exact GB_fits rfl | constructor)); first | done | fail)⟩ ?_) | (refine vcall_out (l :=  [0, 6, 7, 8]) (d2 ) ⟨rfl, rfl, rfl, rfl, (by (repeat' (first | exact trivial | exact GB_wf | exact fun _ _ => rfl | constructor)); first | done | fail), (by (repeat' (first | exact trivial | exact GB_fits rfl | constructor)); first | done | fail)⟩ ?_) | (simp only [e1]) | (refine br_dec (fun h => ?_) (fun h => ?_) <;> try (exfalso; (try dsimp only at h); omega)) | (refine br_ndec (fun h => ?_) (fun h => ?_) <;> try (exfalso; (try dsimp only at h); omega)) | refine br_seq (fun h => ?_) (fun h => ?_) | refine br_nseq (fun h => ?_) (fun h => ?_) | refine br_not (fun h => ?_) (fun h => ?_) | refine br_intro (fun h => ?_) (fun h => ?_) | refine cond_intro rfl ?_ | (refine cond_intro ⟨rfl, ?_⟩ ?_; (first | omega | (dsimp only; omega) | decide)) | (refine cond_intro ?_ ?_; (first | omega | (dsimp only; omega) | decide | (simp only [Nat.add_zero, Int.toNat_natCast, *]; omega))))
    all_goals (conv => whnf)
    all_goals first
      | exact ⟨i + 1, [0, 1, 2, 3, 4, 5, 6, 7, 8], [], hi2, (show k - (i + 1) < k - i by omega), ⟨rfl, ⟨rfl, rfl, rfl, congrArg (fun z => some (SV.int .i64 z)) (i64_succ (by omega)), trivial⟩, ⟨gwk rfl, rfl, rfl, rfl, rfl, rfl, rfl, rfl, rfl, trivial⟩⟩⟩
      | (exfalso; first | omega | contradiction)
      | trace_state
  have ei : i = k := by omega
  subst ei
  have hsmall : ∀ m ∈ mvTo mf mt ma mc id i, m.a ≤ 1000000000000 := fun m hm => by
    unfold mvTo at hm
    obtain ⟨j, hj, rfl⟩ := List.mem_map.1 hm
    exact hA j (List.mem_range.1 hj)
  have hlist := (all_perm hI0 (mvTo_rev mf mt ma mc i) hsmall (by rw [mvTo_len]; exact h60)).1
  have hAI := hI (mvTo mf mt ma mc id i)
  have hAn := (hp (mvTo mf mt ma mc id i)).2.trans hn0
  have hAp := (hp (mvTo mf mt ma mc id i)).1.trans hps0
  have hAm := hM (mvTo mf mt ma mc id i)
  have hBI := hI (mvTo mf mt ma mc (fun j => i - 1 - j) i)
  have hBn := (hp (mvTo mf mt ma mc (fun j => i - 1 - j) i)).2.trans hn0
  have hBp := (hp (mvTo mf mt ma mc (fun j => i - 1 - j) i)).1.trans hps0
  have hBm := hM (mvTo mf mt ma mc (fun j => i - 1 - j) i)
  rw [mvTo_len, hm0] at hAm hBm
  have la := pos_ListX hAI hAn hAp (by omega)
  have lb := pos_ListX hBI hBn hBp (by omega)
  rw [← hlist] at lb
  generalize b0.all (mvTo mf mt ma mc (fun j => i - 1 - j) i) = BB at *
  generalize b0.all (mvTo mf mt ma mc id i) = AA at *
  have hLL := list_le AA hAI.n16 (by omega)
  have hLc : ∀ b, BkI b 4503599627370496 → b.n = AA.n → b.ps = AA.ps → (∀ c j, (b.row c).getD j 0 = (AA.row c).getD j 0) → b.list = AA.list := fun b h1 h2 h3 h4 => (list_congr h1 hAI h2 h3 h4).1
  generalize AA.list = LL at *
  have cS := law_same (pxOf LL) LL.length hLL
  repeat' ((conv => whnf); first | (refine vcall_out (l :=  [0, 3, 4, 5]) (la ) ⟨rfl, rfl, rfl, rfl, (by (repeat' (first | exact trivial | exact GB_wf | exact fun _ _ => rfl | constructor)); first | done | fail), (by (repeat' (first | exact trivial | exact GB_fits rfl | constructor)); first | done | fail)⟩ ?_) | (refine vcall_out (l :=  [0, 6, 7, 8]) (lb ) ⟨rfl, rfl, rfl, rfl, (by (repeat' (first | exact trivial | exact GB_wf | exact fun _ _ => rfl | constructor)); first | done | fail), (by (repeat' (first | exact trivial | exact GB_fits rfl | constructor)); first | done | fail)⟩ ?_) | (refine vcall_out (l :=  [0, 9, 10]) (cS ) ⟨rfl, rfl, rfl, rfl, (by (repeat' (first | exact trivial | exact GB_wf | exact fun _ _ => rfl | constructor)); first | done | fail), (by (repeat' (first | exact trivial | exact GB_fits rfl | constructor)); first | done | fail)⟩ ?_) | (refine br_dec (fun h => ?_) (fun h => ?_) <;> try (exfalso; (try dsimp only at h); omega)) | (refine br_ndec (fun h => ?_) (fun h => ?_) <;> try (exfalso; (try dsimp only at h); omega)) | refine br_seq (fun h => ?_) (fun h => ?_) | refine br_nseq (fun h => ?_) (fun h => ?_) | refine br_not (fun h => ?_) (fun h => ?_) | refine br_intro (fun h => ?_) (fun h => ?_) | refine cond_intro rfl ?_ | (refine cond_intro ⟨rfl, ?_⟩ ?_; (first | omega | (dsimp only; omega) | decide)) | (refine cond_intro ?_ ?_; (first | omega | (dsimp only; omega) | decide | (simp only [Nat.add_zero, Int.toNat_natCast, *]; omega))))
  all_goals (conv => whnf)
  all_goals first
    | (exfalso; first | omega | contradiction)
    | skip
  refine vloop_lp (fun x : Nat × Bk => ⟨[(1, .sl 2 0 0 i), (5, .ptr 3 0 0 0), (13, .sl 6 0 0 LL.length), (14, .int .i64 x.1)], orH l0 ps i mf mt ma mc ++ (orA l0 sp x.2 ++ orW LL.length (pxOf LL)), 7⟩) (fun x => x.1 ≤ i ∧ BkI x.2 4503599627370496 ∧ x.2.n = AA.n ∧ x.2.ps = AA.ps ∧ (∀ c j, (x.2.row c).getD j 0 = (AA.row c).getD j 0) ∧ x.2.m ≤ 60 + 2 * x.1) (fun x => i - x.1) (0, AA) [0, 1, 2, 3, 4, 5, 11] [] ⟨rfl, ⟨rfl, rfl, rfl, rfl, trivial⟩, ⟨gwk rfl, rfl, rfl, rfl, rfl, rfl, rfl, trivial⟩⟩ ⟨Nat.zero_le _, hAI, rfl, rfl, fun c j => rfl, by dsimp only; omega⟩ ?_
  rintro ⟨j, b⟩ ⟨hj, hbI, hbn, hbp, hbr, hbm⟩
  dsimp only at hj hbI hbn hbp hbr hbm
  by_cases hj2 : j < i
  · have d1 := pos_MoveX hbI (hbn.trans hAn) (hbp.trans hAp) (mf.getD j ⟨#[]⟩) (mt.getD j ⟨#[]⟩) (mc.getD j ⟨#[]⟩) (ma.getD j 0)
    by_cases g : mvE b (mf.getD j ⟨#[]⟩) (mt.getD j ⟨#[]⟩) (mc.getD j ⟨#[]⟩) (ma.getD j 0) = 0
    · rw [g] at d1
      have hb2 := mv_I hbI (mf.getD j ⟨#[]⟩) (mt.getD j ⟨#[]⟩) (mc.getD j ⟨#[]⟩) (ma.getD j 0)
      have hp2 := mv_ps b (mf.getD j ⟨#[]⟩) (mt.getD j ⟨#[]⟩) (mc.getD j ⟨#[]⟩) (ma.getD j 0)
      have hm2 := mv_m b (mf.getD j ⟨#[]⟩) (mt.getD j ⟨#[]⟩) (mc.getD j ⟨#[]⟩) (ma.getD j 0)
      obtain ⟨hk1, hk2⟩ := mv_back hbI g
      have d2 := pos_MoveX hb2 (hp2.2.trans (hbn.trans hAn)) (hp2.1.trans (hbp.trans hAp)) (mt.getD j ⟨#[]⟩) (mf.getD j ⟨#[]⟩) (mc.getD j ⟨#[]⟩) (ma.getD j 0)
      rw [hk1] at d2
      have hb3 := mv_I hb2 (mt.getD j ⟨#[]⟩) (mf.getD j ⟨#[]⟩) (mc.getD j ⟨#[]⟩) (ma.getD j 0)
      have hp3 := mv_ps (b.mv (mf.getD j ⟨#[]⟩) (mt.getD j ⟨#[]⟩) (mc.getD j ⟨#[]⟩) (ma.getD j 0)) (mt.getD j ⟨#[]⟩) (mf.getD j ⟨#[]⟩) (mc.getD j ⟨#[]⟩) (ma.getD j 0)
      have hm3 := mv_m (b.mv (mf.getD j ⟨#[]⟩) (mt.getD j ⟨#[]⟩) (mc.getD j ⟨#[]⟩) (ma.getD j 0)) (mt.getD j ⟨#[]⟩) (mf.getD j ⟨#[]⟩) (mc.getD j ⟨#[]⟩) (ma.getD j 0)
      generalize (b.mv (mf.getD j ⟨#[]⟩) (mt.getD j ⟨#[]⟩) (mc.getD j ⟨#[]⟩) (ma.getD j 0)).mv (mt.getD j ⟨#[]⟩) (mf.getD j ⟨#[]⟩) (mc.getD j ⟨#[]⟩) (ma.getD j 0) = b3 at *
      generalize b.mv (mf.getD j ⟨#[]⟩) (mt.getD j ⟨#[]⟩) (mc.getD j ⟨#[]⟩) (ma.getD j 0) = b2 at *
      have hinv : j + 1 ≤ i ∧ BkI b3 4503599627370496 ∧ b3.n = AA.n ∧ b3.ps = AA.ps ∧ (∀ c l, (b3.row c).getD l 0 = (AA.row c).getD l 0) ∧ b3.m ≤ 60 + 2 * (j + 1) := ⟨hj2, hb3, hp3.2.trans (hp2.2.trans hbn), hp3.1.trans (hp2.1.trans hbp), fun c l => (hk2 c l).trans (hbr c l), by omega⟩
      repeat' ((conv => whnf); first | (refine vcall_out (l :=  [0, 3, 4, 5]) (d1 ) ⟨rfl, rfl, rfl, rfl, (by (repeat' (first | exact trivial | exact GB_wf | exact fun _ _ => rfl | constructor)); first | done | fail), (by (repeat' (first | exact trivial | exact GB_fits rfl | constructor)); first | done | fail)⟩ ?_) | (refine vcall_out (l :=  [0, 3, 4, 5]) (d2 ) ⟨rfl, rfl, rfl, rfl, (by (repeat' (first | exact trivial | exact GB_wf | exact fun _ _ => rfl | constructor)); first | done | fail), (by (repeat' (first | exact trivial | exact GB_fits rfl | constructor)); first | done | fail)⟩ ?_) | (refine vcallD_out (l :=  [0, 3, 4, 5]) (d1 ) ⟨rfl, rfl, rfl, rfl, (by (repeat' (first | exact trivial | exact GB_wf | exact fun _ _ => rfl | constructor)); first | done | fail), (by (repeat' (first | exact trivial | exact GB_fits rfl | constructor)); first | done | fail)⟩ ?_) | (refine vcallD_out (l :=  [0, 3, 4, 5]) (d2 ) ⟨rfl, rfl, rfl, rfl, (by (repeat' (first | exact trivial | exact GB_wf | exact fun _ _ => rfl | constructor)); first | done | fail), (by (repeat' (first | exact trivial | exact GB_fits rfl | constructor)); first | done | fail)⟩ ?_) | (refine br_dec (fun h => ?_) (fun h => ?_) <;> try (exfalso; (try dsimp only at h); omega)) | (refine br_ndec (fun h => ?_) (fun h => ?_) <;> try (exfalso; (try dsimp only at h); omega)) | refine br_seq (fun h => ?_) (fun h => ?_) | refine br_nseq (fun h => ?_) (fun h => ?_) | refine br_not (fun h => ?_) (fun h => ?_) | refine br_intro (fun h => ?_) (fun h => ?_) | refine cond_intro rfl ?_ | (refine cond_intro ⟨rfl, ?_⟩ ?_; (first | omega | (dsimp only; omega) | decide)) | (refine cond_intro ?_ ?_; (first | omega | (dsimp only; omega) | decide | (simp only [Nat.add_zero, Int.toNat_natCast, *]; omega))))
      all_goals (conv => whnf)
      all_goals first
        | exact ⟨(j + 1, b3), [0, 1, 2, 3, 4, 5, 6], [], hinv, (show i - (j + 1) < i - j by omega), ⟨rfl, ⟨rfl, rfl, rfl, congrArg (fun z => some (SV.int .i64 z)) (i64_succ (by omega)), trivial⟩, ⟨gwk rfl, rfl, rfl, rfl, rfl, rfl, rfl, trivial⟩⟩⟩
        | (exfalso; first | omega | contradiction)
        | trace_state
    · rw [mv_err g] at d1
      have hinv : j + 1 ≤ i ∧ BkI b 4503599627370496 ∧ b.n = AA.n ∧ b.ps = AA.ps ∧ (∀ c l, (b.row c).getD l 0 = (AA.row c).getD l 0) ∧ b.m ≤ 60 + 2 * (j + 1) := ⟨hj2, hbI, hbn, hbp, hbr, by omega⟩
      generalize mvE b (mf.getD j ⟨#[]⟩) (mt.getD j ⟨#[]⟩) (mc.getD j ⟨#[]⟩) (ma.getD j 0) = e at *
      repeat' ((conv => whnf); first | (refine vcall_out (l :=  [0, 3, 4, 5]) (d1 ) ⟨rfl, rfl, rfl, rfl, (by (repeat' (first | exact trivial | exact GB_wf | exact fun _ _ => rfl | constructor)); first | done | fail), (by (repeat' (first | exact trivial | exact GB_fits rfl | constructor)); first | done | fail)⟩ ?_) | (refine vcallD_out (l :=  [0, 3, 4, 5]) (d1 ) ⟨rfl, rfl, rfl, rfl, (by (repeat' (first | exact trivial | exact GB_wf | exact fun _ _ => rfl | constructor)); first | done | fail), (by (repeat' (first | exact trivial | exact GB_fits rfl | constructor)); first | done | fail)⟩ ?_) | (refine br_dec (fun h => ?_) (fun h => ?_) <;> try (exfalso; (try dsimp only at h); omega)) | (refine br_ndec (fun h => ?_) (fun h => ?_) <;> try (exfalso; (try dsimp only at h); omega)) | refine br_seq (fun h => ?_) (fun h => ?_) | refine br_nseq (fun h => ?_) (fun h => ?_) | refine br_not (fun h => ?_) (fun h => ?_) | refine br_intro (fun h => ?_) (fun h => ?_) | refine cond_intro rfl ?_ | (refine cond_intro ⟨rfl, ?_⟩ ?_; (first | omega | (dsimp only; omega) | decide)) | (refine cond_intro ?_ ?_; (first | omega | (dsimp only; omega) | decide | (simp only [Nat.add_zero, Int.toNat_natCast, *]; omega))))
      all_goals (conv => whnf)
      all_goals first
        | exact ⟨(j + 1, b), [0, 1, 2, 3, 4, 5, 6], [], hinv, (show i - (j + 1) < i - j by omega), ⟨rfl, ⟨rfl, rfl, rfl, congrArg (fun z => some (SV.int .i64 z)) (i64_succ (by omega)), trivial⟩, ⟨gwk rfl, rfl, rfl, rfl, rfl, rfl, rfl, trivial⟩⟩⟩
        | (exfalso; first | omega | contradiction)
        | trace_state
  · have lc := pos_ListX hbI (hbn.trans hAn) (hbp.trans hAp) (by omega)
    rw [hLc b hbI hbn hbp hbr] at lc
    repeat' ((conv => whnf); first | (refine vcall_out (l :=  [0, 3, 4, 5]) (lc ) ⟨rfl, rfl, rfl, rfl, (by (repeat' (first | exact trivial | exact GB_wf | exact fun _ _ => rfl | constructor)); first | done | fail), (by (repeat' (first | exact trivial | exact GB_fits rfl | constructor)); first | done | fail)⟩ ?_) | (refine vcallD_out (l :=  [0, 3, 4, 5]) (lc ) ⟨rfl, rfl, rfl, rfl, (by (repeat' (first | exact trivial | exact GB_wf | exact fun _ _ => rfl | constructor)); first | done | fail), (by (repeat' (first | exact trivial | exact GB_fits rfl | constructor)); first | done | fail)⟩ ?_) | (refine vcall_out (l :=  [0, 7, 6]) (cS ) ⟨rfl, rfl, rfl, rfl, (by (repeat' (first | exact trivial | exact GB_wf | exact fun _ _ => rfl | constructor)); first | done | fail), (by (repeat' (first | exact trivial | exact GB_fits rfl | constructor)); first | done | fail)⟩ ?_) | (refine vcallD_out (l :=  [0, 7, 6]) (cS ) ⟨rfl, rfl, rfl, rfl, (by (repeat' (first | exact trivial | exact GB_wf | exact fun _ _ => rfl | constructor)); first | done | fail), (by (repeat' (first | exact trivial | exact GB_fits rfl | constructor)); first | done | fail)⟩ ?_) | (refine vcall_out (l :=  [0]) (cw ) ⟨rfl, rfl, rfl, rfl, (by (repeat' (first | exact trivial | exact GB_wf | exact fun _ _ => rfl | constructor)); first | done | fail), (by (repeat' (first | exact trivial | exact GB_fits rfl | constructor)); first | done | fail)⟩ ?_) | (refine vcallD_out (l :=  [0]) (cw ) ⟨rfl, rfl, rfl, rfl, (by (repeat' (first | exact trivial | exact GB_wf | exact fun _ _ => rfl | constructor)); first | done | fail), (by (repeat' (first | exact trivial | exact GB_fits rfl | constructor)); first | done | fail)⟩ ?_) | (refine br_dec (fun h => ?_) (fun h => ?_) <;> try (exfalso; (try dsimp only at h); omega)) | (refine br_ndec (fun h => ?_) (fun h => ?_) <;> try (exfalso; (try dsimp only at h); omega)) | refine br_seq (fun h => ?_) (fun h => ?_) | refine br_nseq (fun h => ?_) (fun h => ?_) | refine br_not (fun h => ?_) (fun h => ?_) | refine br_intro (fun h => ?_) (fun h => ?_) | refine cond_intro rfl ?_ | (refine cond_intro ⟨rfl, ?_⟩ ?_; (first | omega | (dsimp only; omega) | decide)) | (refine cond_intro ?_ ?_; (first | omega | (dsimp only; omega) | decide | (simp only [Nat.add_zero, Int.toNat_natCast, *]; omega))))
    all_goals (conv => whnf)
    all_goals first
      | exact ret_out (l := [0, 1, 2]) rfl rfl trivial allRw_nil
      | (exfalso; first | omega | contradiction)
      | trace_state
end Go.Proofs.YtkbidlijinclcaaDoor

/- The law PositionOrder: positions do not depend on the order of the moves -/
namespace Go.Proofs.YtkbidlijinclcaaDoor
open Go.RowKit Go.Sy
set_option linter.unusedVariables false

theorem positionOrder_fc (l0 : Nat) (hl0 : l0 ≤ maxLen) (q0_0 : List ByteArray) (eq0_0 : q0_0.length = l0) (wq0_0 : ∀ x ∈ q0_0, x.size ≤ maxLen) (l1 : Nat) (hl1 : l1 ≤ maxLen) (q1_0 : List ByteArray) (eq1_0 : q1_0.length = l1) (wq1_0 : ∀ x ∈ q1_0, x.size ≤ maxLen) (q1_1 : List ByteArray) (eq1_1 : q1_1.length = l1) (wq1_1 : ∀ x ∈ q1_1, x.size ≤ maxLen) (q1_2 : List Int) (eq1_2 : q1_2.length = l1) (wq1_2 : ∀ x ∈ q1_2, (Lit.int .i64 x).wf = true) (q1_3 : List ByteArray) (eq1_3 : q1_3.length = l1) (wq1_3 : ∀ x ∈ q1_3, x.size ≤ maxLen) :
    FC Tryd.prog 3 4 [.sl 1 0 0 l0, .sl 2 0 0 l1] [(0, some (GB glT)), (1, some (.one true (.cols l0 [.sc (.strs q0_0)]))), (2, some (.one true (.cols l1 [.sc (.strs q1_0), .sc (.strs q1_1), .sc (.ints .i64 q1_2), .sc (.strs q1_3)])))] (isOut (.bool true) [] 3) := law_Order l0 q0_0 eq0_0 l1 q1_0 q1_1 q1_2 q1_3 hl1 (fun x hx => wf_i64 (wq1_2 x hx))
end Go.Proofs.YtkbidlijinclcaaDoor

