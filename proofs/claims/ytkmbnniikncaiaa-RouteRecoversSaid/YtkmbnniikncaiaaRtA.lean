/- The law's own functions on routes: whether a net is small; the examples of the chapter. -/
import Derived.Test.YtkmbnniikncaiaaRtC7
namespace Go.Proofs.Ytkmbnniikncaiaa
open Go.RowKit Go.Sy
attribute [local irreducible] vcall vloop vcallD retP
set_option maxRecDepth 100000
set_option linter.unusedVariables false
set_option linter.unusedSimpArgs false

def smL (L : Rg) : Nat → Bool
  | 0 => true
  | k + 1 => smL L k && decide ((L.l k).size ≤ 100 ∧ (L.h k).size ≤ 100 ∧ (L.s k).size ≤ 100 ∧ (L.p k).size ≤ 100)
theorem smL_stop {L : Rg} {k : Nat} (h : ¬ ((L.l k).size ≤ 100 ∧ (L.h k).size ≤ 100 ∧ (L.s k).size ≤ 100 ∧ (L.p k).size ≤ 100)) : ∀ n, k < n → smL L n = false
  | 0, hh => by omega
  | n + 1, hh => by
    simp only [smL]
    by_cases e : k = n
    · subst e; rw [decide_eq_false h, Bool.and_false]
    · rw [smL_stop h n (by omega), Bool.false_and]
def smK (bi bp : List ByteArray) : Nat → Bool
  | 0 => true
  | k + 1 => smK bi bp k && decide ((bi.getD k ⟨#[]⟩).size ≤ 100 ∧ (bp.getD k ⟨#[]⟩).size ≤ 100)
theorem smK_stop {bi bp : List ByteArray} {k : Nat} (h : ¬ ((bi.getD k ⟨#[]⟩).size ≤ 100 ∧ (bp.getD k ⟨#[]⟩).size ≤ 100)) : ∀ n, k < n → smK bi bp n = false
  | 0, hh => by omega
  | n + 1, hh => by
    simp only [smK]
    by_cases e : k = n
    · subst e; rw [decide_eq_false h, Bool.and_false]
    · rw [smK_stop h n (by omega), Bool.false_and]
def smB (L : Rg) (m : Nat) (bi bp : List ByteArray) : Bool := decide (L.n ≤ 70 ∧ m ≤ 30) && (smL L L.n && smK bi bp m)
theorem law_small (L : Rg) (m : Nat) (bi bp : List ByteArray) (f : Int) : FC Try.prog 3 6 [.agg [.sl 1 0 0 L.n, .sl 2 0 0 m, .int .i64 f]] [(1, some (rgB L)), (2, some (bkB m bi bp))] (isOut (.bool (smB L m bi bp)) [] 3) := by
  by_cases hb : L.n ≤ 70 ∧ m ≤ 30
  case neg =>
    have e : smB L m bi bp = false := by unfold smB; rw [decide_eq_false hb]; rfl
    rw [e]
    by_cases hb1 : L.n ≤ 70
    · refine fc_of mixed T_ok Try.func6 rfl (by kernel_rfl) (by kernel_rfl) (by kernel_rfl) ?_
      repeat' ((conv => whnf); first | (refine br_dec (fun h => ?_) (fun h => ?_) <;> try (exfalso; (try dsimp only at h); omega)) | (refine br_ndec (fun h => ?_) (fun h => ?_) <;> try (exfalso; (try dsimp only at h); omega)) | refine br_seq (fun h => ?_) (fun h => ?_) | refine br_nseq (fun h => ?_) (fun h => ?_) | refine br_not (fun h => ?_) (fun h => ?_) | refine br_intro (fun h => ?_) (fun h => ?_) | refine cond_intro rfl ?_ | (refine cond_intro ⟨rfl, ?_⟩ ?_; (first | omega | (dsimp only; omega) | decide)) | (refine cond_intro ?_ ?_; (first | omega | (dsimp only; omega) | decide | (simp only [Nat.add_zero, Int.toNat_natCast, *]; omega))))
      all_goals (conv => whnf)
      all_goals first
        | exact ret_out (l := [0, 1, 2]) rfl rfl trivial allRw_nil
        | (exfalso; omega)
    · refine fc_of mixed T_ok Try.func6 rfl (by kernel_rfl) (by kernel_rfl) (by kernel_rfl) ?_
      repeat' ((conv => whnf); first | (refine br_dec (fun h => ?_) (fun h => ?_) <;> try (exfalso; (try dsimp only at h); omega)) | (refine br_ndec (fun h => ?_) (fun h => ?_) <;> try (exfalso; (try dsimp only at h); omega)) | refine br_seq (fun h => ?_) (fun h => ?_) | refine br_nseq (fun h => ?_) (fun h => ?_) | refine br_not (fun h => ?_) (fun h => ?_) | refine br_intro (fun h => ?_) (fun h => ?_) | refine cond_intro rfl ?_ | (refine cond_intro ⟨rfl, ?_⟩ ?_; (first | omega | (dsimp only; omega) | decide)) | (refine cond_intro ?_ ?_; (first | omega | (dsimp only; omega) | decide | (simp only [Nat.add_zero, Int.toNat_natCast, *]; omega))))
      all_goals (conv => whnf)
      all_goals first
        | exact ret_out (l := [0, 1, 2]) rfl rfl trivial allRw_nil
        | (exfalso; omega)
  have e0 : smB L m bi bp = (smL L L.n && smK bi bp m) := by unfold smB; rw [decide_eq_true hb]; rfl
  obtain ⟨hb1, hb2⟩ := hb
  rw [e0]
  refine fc_of mixed T_ok Try.func6 rfl (by kernel_rfl) (by kernel_rfl) (by kernel_rfl) ?_
  repeat' ((conv => whnf); first | (refine br_dec (fun h => ?_) (fun h => ?_) <;> try (exfalso; (try dsimp only at h); omega)) | (refine br_ndec (fun h => ?_) (fun h => ?_) <;> try (exfalso; (try dsimp only at h); omega)) | refine br_seq (fun h => ?_) (fun h => ?_) | refine br_nseq (fun h => ?_) (fun h => ?_) | refine br_not (fun h => ?_) (fun h => ?_) | refine br_intro (fun h => ?_) (fun h => ?_) | refine cond_intro rfl ?_ | (refine cond_intro ⟨rfl, ?_⟩ ?_; (first | omega | (dsimp only; omega) | decide)) | (refine cond_intro ?_ ?_; (first | omega | (dsimp only; omega) | decide | (simp only [Nat.add_zero, Int.toNat_natCast, *]; omega))))
  all_goals (conv => whnf)
  refine vloop_of (fun k : Nat => ⟨[(1, .ptr 3 0 0 0), (3, .int .i64 k)], [(3, some (.one false (.cells [.sl 1 0 0 L.n, .sl 2 0 0 m, .int .i64 f]))), (1, some (rgB L)), (2, some (bkB m bi bp))], 4⟩) (fun k => k ≤ L.n ∧ smL L k = true) (fun k => L.n - k) 0 [0, 1, 2, 3] [] ⟨rfl, ⟨rfl, rfl, trivial⟩, ⟨rfl, rfl, rfl, trivial⟩⟩ ⟨by omega, rfl⟩ ?_
  rintro k ⟨hk, hs⟩
  by_cases hk2 : k < L.n
  · by_cases hz : (L.l k).size ≤ 100 ∧ (L.h k).size ≤ 100 ∧ (L.s k).size ≤ 100 ∧ (L.p k).size ≤ 100
    · have e1 : smL L (k + 1) = true := by simp only [smL, hs, decide_eq_true hz]; rfl
      unfold Rg.l Rg.h Rg.s Rg.p at hz
      obtain ⟨z1, z2, z3, z4⟩ := hz
      repeat' ((conv => whnf); first | (refine br_dec (fun h => absurd (show (100 : Int) < (((_ : ByteArray).size : Nat) : Int) from h) (by simp only [Nat.add_zero, Int.toNat_natCast]; omega)) (fun h => ?_)) | (refine br_dec (fun h => ?_) (fun h => ?_) <;> try (exfalso; (try dsimp only at h); omega)) | (refine br_ndec (fun h => ?_) (fun h => ?_) <;> try (exfalso; (try dsimp only at h); omega)) | refine br_seq (fun h => ?_) (fun h => ?_) | refine br_nseq (fun h => ?_) (fun h => ?_) | refine br_not (fun h => ?_) (fun h => ?_) | refine br_intro (fun h => ?_) (fun h => ?_) | refine cond_intro rfl ?_ | (refine cond_intro ⟨rfl, ?_⟩ ?_; (first | omega | (dsimp only; omega) | decide)) | (refine cond_intro ?_ ?_; (first | omega | (dsimp only; omega) | decide | (simp only [Nat.add_zero, Int.toNat_natCast, *]; omega))))
      all_goals (conv => whnf)
      all_goals first
        | exact ⟨k + 1, [0, 1, 2, 3], [], ⟨by omega, e1⟩, by omega, ⟨rfl, ⟨rfl, congrArg (fun z => some (SV.int .i64 z)) (i64_succ (by omega)), trivial⟩, ⟨rfl, rfl, rfl, trivial⟩⟩⟩
        | (exfalso; simp only [Nat.add_zero, Int.toNat_natCast] at *; omega)
    · have e1 := smL_stop hz L.n hk2
      rw [e1]
      unfold Rg.l Rg.h Rg.s Rg.p at hz
      repeat' ((conv => whnf); first | (refine br_dec (fun h => ?_) (fun h => ?_) <;> try (exfalso; (try dsimp only at h); omega)) | (refine br_ndec (fun h => ?_) (fun h => ?_) <;> try (exfalso; (try dsimp only at h); omega)) | refine br_seq (fun h => ?_) (fun h => ?_) | refine br_nseq (fun h => ?_) (fun h => ?_) | refine br_not (fun h => ?_) (fun h => ?_) | refine br_intro (fun h => ?_) (fun h => ?_) | refine cond_intro rfl ?_ | (refine cond_intro ⟨rfl, ?_⟩ ?_; (first | omega | (dsimp only; omega) | decide)) | (refine cond_intro ?_ ?_; (first | omega | (dsimp only; omega) | decide | (simp only [Nat.add_zero, Int.toNat_natCast, *]; omega))))
      all_goals (conv => whnf)
      all_goals first
        | exact ret_out (l := [0, 1, 2]) rfl rfl trivial allRw_nil
        | (exfalso; simp only [Nat.add_zero, Int.toNat_natCast] at *; omega)
  · have e : k = L.n := by omega
    subst e
    rw [hs]
    repeat' ((conv => whnf); first | (refine br_dec (fun h => ?_) (fun h => ?_) <;> try (exfalso; (try dsimp only at h); omega)) | (refine br_ndec (fun h => ?_) (fun h => ?_) <;> try (exfalso; (try dsimp only at h); omega)) | refine br_seq (fun h => ?_) (fun h => ?_) | refine br_nseq (fun h => ?_) (fun h => ?_) | refine br_not (fun h => ?_) (fun h => ?_) | refine br_intro (fun h => ?_) (fun h => ?_) | refine cond_intro rfl ?_ | (refine cond_intro ⟨rfl, ?_⟩ ?_; (first | omega | (dsimp only; omega) | decide)) | (refine cond_intro ?_ ?_; (first | omega | (dsimp only; omega) | decide | (simp only [Nat.add_zero, Int.toNat_natCast, *]; omega))))
    all_goals (conv => whnf)
    refine vloop_of (fun k : Nat => ⟨[(1, .ptr 3 0 0 0), (4, .int .i64 k)], [(3, some (.one false (.cells [.sl 1 0 0 L.n, .sl 2 0 0 m, .int .i64 f]))), (1, some (rgB L)), (2, some (bkB m bi bp))], 4⟩) (fun k => k ≤ m ∧ smK bi bp k = true) (fun k => m - k) 0 [0, 1, 2, 3] [] ⟨rfl, ⟨rfl, rfl, trivial⟩, ⟨rfl, rfl, rfl, trivial⟩⟩ ⟨by omega, rfl⟩ ?_
    rintro k ⟨hk, hs⟩
    by_cases hk2 : k < m
    · by_cases hz : (bi.getD k ⟨#[]⟩).size ≤ 100 ∧ (bp.getD k ⟨#[]⟩).size ≤ 100
      · have e1 : smK bi bp (k + 1) = true := by simp only [smK, hs, decide_eq_true hz]; rfl
        repeat' ((conv => whnf); first | (refine br_dec (fun h => ?_) (fun h => ?_) <;> try (exfalso; (try dsimp only at h); omega)) | (refine br_ndec (fun h => ?_) (fun h => ?_) <;> try (exfalso; (try dsimp only at h); omega)) | refine br_seq (fun h => ?_) (fun h => ?_) | refine br_nseq (fun h => ?_) (fun h => ?_) | refine br_not (fun h => ?_) (fun h => ?_) | refine br_intro (fun h => ?_) (fun h => ?_) | refine cond_intro rfl ?_ | (refine cond_intro ⟨rfl, ?_⟩ ?_; (first | omega | (dsimp only; omega) | decide)) | (refine cond_intro ?_ ?_; (first | omega | (dsimp only; omega) | decide | (simp only [Nat.add_zero, Int.toNat_natCast, *]; omega))))
        all_goals (conv => whnf)
        all_goals first
          | exact ⟨k + 1, [0, 1, 2, 3], [], ⟨by omega, e1⟩, by omega, ⟨rfl, ⟨rfl, congrArg (fun z => some (SV.int .i64 z)) (i64_succ (by omega)), trivial⟩, ⟨rfl, rfl, rfl, trivial⟩⟩⟩
          | (exfalso; simp only [Nat.add_zero, Int.toNat_natCast] at *; omega)
      · have e1 := smK_stop hz m hk2
        rw [e1]
        repeat' ((conv => whnf); first | (refine br_dec (fun h => ?_) (fun h => ?_) <;> try (exfalso; (try dsimp only at h); omega)) | (refine br_ndec (fun h => ?_) (fun h => ?_) <;> try (exfalso; (try dsimp only at h); omega)) | refine br_seq (fun h => ?_) (fun h => ?_) | refine br_nseq (fun h => ?_) (fun h => ?_) | refine br_not (fun h => ?_) (fun h => ?_) | refine br_intro (fun h => ?_) (fun h => ?_) | refine cond_intro rfl ?_ | (refine cond_intro ⟨rfl, ?_⟩ ?_; (first | omega | (dsimp only; omega) | decide)) | (refine cond_intro ?_ ?_; (first | omega | (dsimp only; omega) | decide | (simp only [Nat.add_zero, Int.toNat_natCast, *]; omega))))
        all_goals (conv => whnf)
        all_goals first
          | exact ret_out (l := [0, 1, 2]) rfl rfl trivial allRw_nil
          | (exfalso; simp only [Nat.add_zero, Int.toNat_natCast] at *; omega)
    · have e : k = m := by omega
      subst e
      rw [hs]
      repeat' ((conv => whnf); first | (refine br_dec (fun h => ?_) (fun h => ?_) <;> try (exfalso; (try dsimp only at h); omega)) | (refine br_ndec (fun h => ?_) (fun h => ?_) <;> try (exfalso; (try dsimp only at h); omega)) | refine br_seq (fun h => ?_) (fun h => ?_) | refine br_nseq (fun h => ?_) (fun h => ?_) | refine br_not (fun h => ?_) (fun h => ?_) | refine br_intro (fun h => ?_) (fun h => ?_) | refine cond_intro rfl ?_ | (refine cond_intro ⟨rfl, ?_⟩ ?_; (first | omega | (dsimp only; omega) | decide)) | (refine cond_intro ?_ ?_; (first | omega | (dsimp only; omega) | decide | (simp only [Nat.add_zero, Int.toNat_natCast, *]; omega))))
      all_goals (conv => whnf)
      all_goals first
        | exact ret_out (l := [0, 1, 2]) rfl rfl trivial allRw_nil
        | (exfalso; omega)

abbrev aL : Rg := ⟨1, [⟨#[52, 48, 48, 48, 48, 48]⟩], [⟨#[52, 48, 48, 57, 57, 57]⟩], [⟨#[104, 111, 109, 101, 98, 97, 110, 107]⟩], [⟨#[103, 111, 108, 100]⟩]⟩
abbrev aR (x y z : Int) : Rt := ⟨aL, 2, [⟨#[104, 111, 109, 101, 98, 97, 110, 107]⟩, ⟨#[104, 111, 109, 101, 98, 97, 110, 107]⟩], [⟨#[104, 101, 108, 112, 101, 114]⟩, ⟨#[115, 101, 99, 111, 110, 100]⟩], 2, 3, [⟨#[104, 111, 109, 101, 98, 97, 110, 107]⟩, ⟨#[104, 101, 108, 112, 101, 114]⟩, ⟨#[115, 101, 99, 111, 110, 100]⟩], [x, y, z], [0, 1, 2], 3⟩
theorem a_sort : sortS [(⟨#[104, 111, 109, 101, 98, 97, 110, 107]⟩ : ByteArray), ⟨#[104, 101, 108, 112, 101, 114]⟩, ⟨#[115, 101, 99, 111, 110, 100]⟩] = [⟨#[104, 101, 108, 112, 101, 114]⟩, ⟨#[104, 111, 109, 101, 98, 97, 110, 107]⟩, ⟨#[115, 101, 99, 111, 110, 100]⟩] := sortS_of (List.Perm.swap _ _ _) (by
  simp only [List.pairwise_cons, List.mem_cons, List.not_mem_nil, or_false, forall_eq_or_imp, forall_eq, strLt_eq, ofB, false_implies, implies_true, List.Pairwise.nil, and_true]
  decide)
theorem rt_awake : Pure Try.prog 7 [] (.bool true) := by
  have c0 : FC Try.prog 3 8 [.sl 1 0 0 1, .sl 2 0 0 2, .int .i64 2] [(1, some (rgB aL)), (2, some (bkB 2 [⟨#[104, 111, 109, 101, 98, 97, 110, 107]⟩, ⟨#[104, 111, 109, 101, 98, 97, 110, 107]⟩] [⟨#[104, 101, 108, 112, 101, 114]⟩, ⟨#[115, 101, 99, 111, 110, 100]⟩]))] (isOut (.tup [.ptr 3 0 0 0, .int .i64 0]) (nwO aL 2 [⟨#[104, 111, 109, 101, 98, 97, 110, 107]⟩, ⟨#[104, 111, 109, 101, 98, 97, 110, 107]⟩] [⟨#[104, 101, 108, 112, 101, 114]⟩, ⟨#[115, 101, 99, 111, 110, 100]⟩] 2 (aR 0 0 0)) 7) := fcEq (rt_New_ok aL 2 [⟨#[104, 111, 109, 101, 98, 97, 110, 107]⟩, ⟨#[104, 111, 109, 101, 98, 97, 110, 107]⟩] [⟨#[104, 101, 108, 112, 101, 114]⟩, ⟨#[115, 101, 99, 111, 110, 100]⟩] 2 (by decide) (by decide) (by kernel_rfl) rfl rfl rfl rfl rfl rfl) rfl (by kernel_rfl)
  have h1 : FC Try.prog 5 10 [.ptr 1 0 0 0, .str ⟨#[52, 48, 48, 48, 48, 48, 48, 48, 48, 48, 48, 48, 48, 48, 55, 55]⟩] (rtR (aR 0 0 0)) (isOut (.tup [.agg [.str ⟨#[104, 111, 109, 101, 98, 97, 110, 107]⟩, .str ⟨#[103, 111, 108, 100]⟩, .str ⟨#[104, 111, 109, 101, 98, 97, 110, 107]⟩, .int .i64 1], .int .i64 0]) ([]) 5) := fcEq (rt_Choose (aR 0 0 0) _ (by decide) (by decide)) (by kernel_rfl) (by kernel_rfl)
  have h2 : FC Try.prog 5 12 [.ptr 1 0 0 0, .agg [.str ⟨#[104, 111, 109, 101, 98, 97, 110, 107]⟩, .str ⟨#[103, 111, 108, 100]⟩, .str ⟨#[104, 111, 109, 101, 98, 97, 110, 107]⟩, .int .i64 1]] (rtR (aR 0 0 0)) (isOut (.tup [.agg [.str ⟨#[104, 111, 109, 101, 98, 97, 110, 107]⟩, .str ⟨#[103, 111, 108, 100]⟩, .str ⟨#[104, 101, 108, 112, 101, 114]⟩, .int .i64 2], .int .i64 0]) ([]) 5) := fcEq (rt_After (aR 0 0 0) _ _ _ _ (by decide) (by decide)) (by kernel_rfl) (by kernel_rfl)
  have h3 : FC Try.prog 5 12 [.ptr 1 0 0 0, .agg [.str ⟨#[104, 111, 109, 101, 98, 97, 110, 107]⟩, .str ⟨#[103, 111, 108, 100]⟩, .str ⟨#[104, 101, 108, 112, 101, 114]⟩, .int .i64 2]] (rtR (aR 0 0 0)) (isOut (.tup [.agg [.str ⟨#[104, 111, 109, 101, 98, 97, 110, 107]⟩, .str ⟨#[103, 111, 108, 100]⟩, .str ⟨#[115, 101, 99, 111, 110, 100]⟩, .int .i64 2], .int .i64 0]) ([]) 5) := fcEq (rt_After (aR 0 0 0) _ _ _ _ (by decide) (by decide)) (by kernel_rfl) (by kernel_rfl)
  have h4 : FC Try.prog 5 12 [.ptr 1 0 0 0, .agg [.str ⟨#[104, 111, 109, 101, 98, 97, 110, 107]⟩, .str ⟨#[103, 111, 108, 100]⟩, .str ⟨#[115, 101, 99, 111, 110, 100]⟩, .int .i64 2]] (rtR (aR 0 0 0)) (isOut (.tup [.agg [.str ⟨#[104, 111, 109, 101, 98, 97, 110, 107]⟩, .str ⟨#[103, 111, 108, 100]⟩, .str ⟨#[]⟩, .int .i64 3], .int .i64 0]) ([]) 5) := fcEq (rt_After (aR 0 0 0) _ _ _ _ (by decide) (by decide)) (by kernel_rfl) (by kernel_rfl)
  have h5 : FC Try.prog 5 12 [.ptr 1 0 0 0, .agg [.str ⟨#[104, 111, 109, 101, 98, 97, 110, 107]⟩, .str ⟨#[103, 111, 108, 100]⟩, .str ⟨#[]⟩, .int .i64 3]] (rtR (aR 0 0 0)) (isOut (.tup [.agg [.str ⟨#[]⟩, .str ⟨#[]⟩, .str ⟨#[]⟩, .int .i64 0], .int .i64 6]) ([]) 5) := fcEq (rt_After (aR 0 0 0) _ _ _ _ (by decide) (by decide)) (by kernel_rfl) (by kernel_rfl)
  have h6 : FC Try.prog 5 10 [.ptr 1 0 0 0, .str ⟨#[53, 48, 48, 48, 48, 48, 48, 48, 48, 48, 48, 48, 48, 48, 48, 57]⟩] (rtR (aR 0 0 0)) (isOut (.tup [.agg [.str ⟨#[]⟩, .str ⟨#[]⟩, .str ⟨#[]⟩, .int .i64 0], .int .i64 20]) ([]) 5) := fcEq (rt_Choose (aR 0 0 0) _ (by decide) (by decide)) (by kernel_rfl) (by kernel_rfl)
  have k0 : FC Try.prog 5 9 [.ptr 1 0 0 0, .str ⟨#[104, 111, 109, 101, 98, 97, 110, 107]⟩] (ctW (aR 0 0 0)) (isOut (.int .i64 0) (ctO (aR 1 0 0)) 5) := fcEq (rt_Fail (aR 0 0 0) _) (by kernel_rfl) (by kernel_rfl)
  have k1 : FC Try.prog 5 9 [.ptr 1 0 0 0, .str ⟨#[104, 111, 109, 101, 98, 97, 110, 107]⟩] (ctW (aR 1 0 0)) (isOut (.int .i64 0) (ctO (aR 2 0 0)) 5) := fcEq (rt_Fail (aR 1 0 0) _) (by kernel_rfl) (by kernel_rfl)
  have k2 : FC Try.prog 5 9 [.ptr 1 0 0 0, .str ⟨#[104, 101, 108, 112, 101, 114]⟩] (ctW (aR 2 0 0)) (isOut (.int .i64 0) (ctO (aR 2 1 0)) 5) := fcEq (rt_Fail (aR 2 0 0) _) (by kernel_rfl) (by kernel_rfl)
  have k3 : FC Try.prog 5 14 [.ptr 1 0 0 0, .str ⟨#[104, 101, 108, 112, 101, 114]⟩] (ctW (aR 2 1 0)) (isOut (.int .i64 0) (ctO (aR 2 0 0)) 5) := fcEq (rt_Good (aR 2 1 0) _) (by kernel_rfl) (by kernel_rfl)
  have k4 : FC Try.prog 5 9 [.ptr 1 0 0 0, .str ⟨#[104, 101, 108, 112, 101, 114]⟩] (ctW (aR 2 0 0)) (isOut (.int .i64 0) (ctO (aR 2 1 0)) 5) := fcEq (rt_Fail (aR 2 0 0) _) (by kernel_rfl) (by kernel_rfl)
  have m1 : FC Try.prog 5 10 [.ptr 1 0 0 0, .str ⟨#[52, 48, 48, 48, 48, 48, 48, 48, 48, 48, 48, 48, 48, 48, 55, 55]⟩] (rtR (aR 2 1 0)) (isOut (.tup [.agg [.str ⟨#[104, 111, 109, 101, 98, 97, 110, 107]⟩, .str ⟨#[103, 111, 108, 100]⟩, .str ⟨#[104, 101, 108, 112, 101, 114]⟩, .int .i64 2], .int .i64 0]) ([]) 5) := fcEq (rt_Choose (aR 2 1 0) _ (by decide) (by decide)) (by kernel_rfl) (by kernel_rfl)
  have m2 : FC Try.prog 5 11 [.ptr 1 0 0 0, .str ⟨#[104, 111, 109, 101, 98, 97, 110, 107]⟩] (ctR (aR 2 1 0)) (isOut (.bool true) ([]) 5) := fcEq (rt_Down (aR 2 1 0) _) (by kernel_rfl) (by kernel_rfl)
  have m3 : FC Try.prog 5 11 [.ptr 1 0 0 0, .str ⟨#[104, 101, 108, 112, 101, 114]⟩] (ctR (aR 2 1 0)) (isOut (.bool false) ([]) 5) := fcEq (rt_Down (aR 2 1 0) _) (by kernel_rfl) (by kernel_rfl)
  have m4 : FC Try.prog 5 9 [.ptr 1 0 0 0, .str ⟨#[110, 111, 98, 111, 100, 121]⟩] (ctW (aR 2 1 0)) (isOut (.int .i64 6) (ctO (aR 2 1 0)) 5) := fcEq (rt_Fail (aR 2 1 0) _) (by kernel_rfl) (by kernel_rfl)
  have m5 := rt_Parties (aR 2 1 0) (by decide) rfl
  rw [a_sort] at m5
  have m6 := ref13_SameTexts 3 3 [⟨#[104, 101, 108, 112, 101, 114]⟩, ⟨#[104, 111, 109, 101, 98, 97, 110, 107]⟩, ⟨#[115, 101, 99, 111, 110, 100]⟩] [⟨#[104, 101, 108, 112, 101, 114]⟩, ⟨#[104, 111, 109, 101, 98, 97, 110, 107]⟩, ⟨#[115, 101, 99, 111, 110, 100]⟩] rfl rfl (by decide)
  rw [decide_eq_true rfl] at m6
  refine fc_of mixed T_ok Try.func7 rfl (by kernel_rfl) (by kernel_rfl) (by kernel_rfl) ?_
  repeat' ((conv => whnf); first | (refine vcall_out (l :=  [0, 1, 2]) (c0 ) ⟨rfl, rfl, rfl, rfl, (by (repeat' (first | exact trivial | exact GB_wf | constructor)); first | done | fail), (by (repeat' (first | exact trivial | exact GB_fits rfl | constructor)); first | done | fail)⟩ ?_) | (refine vcall_out (l :=  [0, 3, 4, 5, 6]) (h1 ) ⟨rfl, rfl, rfl, rfl, (by (repeat' (first | exact trivial | exact GB_wf | constructor)); first | done | fail), (by (repeat' (first | exact trivial | exact GB_fits rfl | constructor)); first | done | fail)⟩ ?_) | (refine vcall_out (l :=  [0, 3, 4, 5, 6]) (h2 ) ⟨rfl, rfl, rfl, rfl, (by (repeat' (first | exact trivial | exact GB_wf | constructor)); first | done | fail), (by (repeat' (first | exact trivial | exact GB_fits rfl | constructor)); first | done | fail)⟩ ?_) | (refine vcall_out (l :=  [0, 3, 4, 5, 6]) (h3 ) ⟨rfl, rfl, rfl, rfl, (by (repeat' (first | exact trivial | exact GB_wf | constructor)); first | done | fail), (by (repeat' (first | exact trivial | exact GB_fits rfl | constructor)); first | done | fail)⟩ ?_) | (refine vcall_out (l :=  [0, 3, 4, 5, 6]) (h4 ) ⟨rfl, rfl, rfl, rfl, (by (repeat' (first | exact trivial | exact GB_wf | constructor)); first | done | fail), (by (repeat' (first | exact trivial | exact GB_fits rfl | constructor)); first | done | fail)⟩ ?_) | (refine vcall_out (l :=  [0, 3, 4, 5, 6]) (h5 ) ⟨rfl, rfl, rfl, rfl, (by (repeat' (first | exact trivial | exact GB_wf | constructor)); first | done | fail), (by (repeat' (first | exact trivial | exact GB_fits rfl | constructor)); first | done | fail)⟩ ?_) | (refine vcall_out (l :=  [0, 3, 4, 5, 6]) (h6 ) ⟨rfl, rfl, rfl, rfl, (by (repeat' (first | exact trivial | exact GB_wf | constructor)); first | done | fail), (by (repeat' (first | exact trivial | exact GB_fits rfl | constructor)); first | done | fail)⟩ ?_) | (refine vcall_out (l :=  [0, 3, 4, 5, 6]) (k0 ) ⟨rfl, rfl, rfl, rfl, (by (repeat' (first | exact trivial | exact GB_wf | constructor)); first | done | fail), (by (repeat' (first | exact trivial | exact GB_fits rfl | constructor)); first | done | fail)⟩ ?_) | (refine vcall_out (l :=  [0, 3, 4, 5, 6]) (k1 ) ⟨rfl, rfl, rfl, rfl, (by (repeat' (first | exact trivial | exact GB_wf | constructor)); first | done | fail), (by (repeat' (first | exact trivial | exact GB_fits rfl | constructor)); first | done | fail)⟩ ?_) | (refine vcall_out (l :=  [0, 3, 4, 5, 6]) (k2 ) ⟨rfl, rfl, rfl, rfl, (by (repeat' (first | exact trivial | exact GB_wf | constructor)); first | done | fail), (by (repeat' (first | exact trivial | exact GB_fits rfl | constructor)); first | done | fail)⟩ ?_) | (refine vcall_out (l :=  [0, 3, 4, 5, 6]) (k3 ) ⟨rfl, rfl, rfl, rfl, (by (repeat' (first | exact trivial | exact GB_wf | constructor)); first | done | fail), (by (repeat' (first | exact trivial | exact GB_fits rfl | constructor)); first | done | fail)⟩ ?_) | (refine vcall_out (l :=  [0, 3, 4, 5, 6]) (k4 ) ⟨rfl, rfl, rfl, rfl, (by (repeat' (first | exact trivial | exact GB_wf | constructor)); first | done | fail), (by (repeat' (first | exact trivial | exact GB_fits rfl | constructor)); first | done | fail)⟩ ?_) | (refine vcall_out (l :=  [0, 3, 4, 5, 6]) (m1 ) ⟨rfl, rfl, rfl, rfl, (by (repeat' (first | exact trivial | exact GB_wf | constructor)); first | done | fail), (by (repeat' (first | exact trivial | exact GB_fits rfl | constructor)); first | done | fail)⟩ ?_) | (refine vcall_out (l :=  [0, 3, 4, 5, 6]) (m2 ) ⟨rfl, rfl, rfl, rfl, (by (repeat' (first | exact trivial | exact GB_wf | constructor)); first | done | fail), (by (repeat' (first | exact trivial | exact GB_fits rfl | constructor)); first | done | fail)⟩ ?_) | (refine vcall_out (l :=  [0, 3, 4, 5, 6]) (m3 ) ⟨rfl, rfl, rfl, rfl, (by (repeat' (first | exact trivial | exact GB_wf | constructor)); first | done | fail), (by (repeat' (first | exact trivial | exact GB_fits rfl | constructor)); first | done | fail)⟩ ?_) | (refine vcall_out (l :=  [0, 3, 4, 5, 6]) (m4 ) ⟨rfl, rfl, rfl, rfl, (by (repeat' (first | exact trivial | exact GB_wf | constructor)); first | done | fail), (by (repeat' (first | exact trivial | exact GB_fits rfl | constructor)); first | done | fail)⟩ ?_) | (refine vcall_out (l :=  [0, 3, 4, 5, 6]) (m5 ) ⟨rfl, rfl, rfl, rfl, (by (repeat' (first | exact trivial | exact GB_wf | constructor)); first | done | fail), (by (repeat' (first | exact trivial | exact GB_fits rfl | constructor)); first | done | fail)⟩ ?_) | (refine vcallD_out (l :=  [0, 3, 4, 5, 6]) (m2 ) ⟨rfl, rfl, rfl, rfl, (by (repeat' (first | exact trivial | exact GB_wf | constructor)); first | done | fail), (by (repeat' (first | exact trivial | exact GB_fits rfl | constructor)); first | done | fail)⟩ ?_) | (refine vcallD_out (l :=  [0, 3, 4, 5, 6]) (m3 ) ⟨rfl, rfl, rfl, rfl, (by (repeat' (first | exact trivial | exact GB_wf | constructor)); first | done | fail), (by (repeat' (first | exact trivial | exact GB_fits rfl | constructor)); first | done | fail)⟩ ?_) | (refine vcallD_out (l :=  [0, 3, 4, 5, 6]) (m4 ) ⟨rfl, rfl, rfl, rfl, (by (repeat' (first | exact trivial | exact GB_wf | constructor)); first | done | fail), (by (repeat' (first | exact trivial | exact GB_fits rfl | constructor)); first | done | fail)⟩ ?_) | (refine vcallD_out (l :=  [0, 3, 4, 5, 6]) (m5 ) ⟨rfl, rfl, rfl, rfl, (by (repeat' (first | exact trivial | exact GB_wf | constructor)); first | done | fail), (by (repeat' (first | exact trivial | exact GB_fits rfl | constructor)); first | done | fail)⟩ ?_) | (refine vcall_out (l :=  [0, 14, 15]) (m6 ) ⟨rfl, rfl, rfl, rfl, (by (repeat' (first | exact trivial | exact GB_wf | constructor)); first | done | fail), (by (repeat' (first | exact trivial | exact GB_fits rfl | constructor)); first | done | fail)⟩ ?_) | (refine vcallD_out (l :=  [0, 14, 15]) (m6 ) ⟨rfl, rfl, rfl, rfl, (by (repeat' (first | exact trivial | exact GB_wf | constructor)); first | done | fail), (by (repeat' (first | exact trivial | exact GB_fits rfl | constructor)); first | done | fail)⟩ ?_) | (refine br_dec (fun h => ?_) (fun h => ?_) <;> try (exfalso; (try dsimp only at h); omega)) | (refine br_ndec (fun h => ?_) (fun h => ?_) <;> try (exfalso; (try dsimp only at h); omega)) | refine br_seq (fun h => ?_) (fun h => ?_) | refine br_nseq (fun h => ?_) (fun h => ?_) | refine br_not (fun h => ?_) (fun h => ?_) | refine br_intro (fun h => ?_) (fun h => ?_) | refine cond_intro rfl ?_ | (refine cond_intro ⟨rfl, ?_⟩ ?_; (first | omega | (dsimp only; omega) | decide)) | (refine cond_intro ?_ ?_; (first | omega | (dsimp only; omega) | decide | (simp only [Nat.add_zero, Int.toNat_natCast, *]; omega))))
  all_goals (conv => whnf)
  all_goals exact ret_pure rfl
end Go.Proofs.Ytkmbnniikncaiaa
