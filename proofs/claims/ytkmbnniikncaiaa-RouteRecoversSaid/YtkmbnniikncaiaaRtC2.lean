/- Contracts of package route: copies of the tables, backups. -/
import Derived.Test.YtkmbnniikncaiaaRtC
import Derived.Test.YtkmbnniikncaiaaYNil
namespace Go.Proofs.Ytkmbnniikncaiaa
open Go.RowKit Go.Sy
attribute [local irreducible] vcall vloop vcallD retP
set_option maxRecDepth 100000
set_option linter.unusedVariables false
set_option linter.unusedSimpArgs false

def rgW (L : Rg) : HB := .one false (.cols L.n [.sc (.strs L.lo), .sc (.strs L.hi), .sc (.strs L.is), .sc (.strs L.pr)])
/-- The backups, by columns. -/
def bkB (m : Nat) (bi bp : List ByteArray) : HB := .one true (.cols m [.sc (.strs bi), .sc (.strs bp)])
def bkX (bi bp : List ByteArray) (x y : ByteArray) : Nat → Int
  | 0 => -1
  | k + 1 => if 0 ≤ bkX bi bp x y k then bkX bi bp x y k else if (seq x (bi.getD k ⟨#[]⟩) && (seq y (bp.getD k ⟨#[]⟩) && true)) = true then (k : Int) else -1
theorem bkX_stop {bi bp : List ByteArray} {x y : ByteArray} {k : Nat} (h0 : bkX bi bp x y k = -1) (h : (seq x (bi.getD k ⟨#[]⟩) && (seq y (bp.getD k ⟨#[]⟩) && true)) = true) : ∀ n, k < n → bkX bi bp x y n = k
  | 0, hh => by omega
  | n + 1, hh => by
    simp only [bkX]
    by_cases e : k = n
    · subst e; rw [h0, if_neg (by omega), if_pos h]
    · rw [bkX_stop h0 h n (by omega), if_pos (by omega)]
theorem bk_Index (m : Nat) (bi bp : List ByteArray) (x y : ByteArray) (i : Nat) (hi : i ≤ m) (hm : m ≤ 1000000) : FC Try.prog 2 31 [.sl 1 0 0 i, .agg [.str x, .str y]] [(1, some (bkB m bi bp))] (isOut (.int .i64 (bkX bi bp x y i)) [] 2) := by
  refine fc_of mixed T_ok Try.func31 rfl (by kernel_rfl) (by kernel_rfl) (by kernel_rfl) ?_
  (conv => whnf)
  refine vloop_of (fun k : Nat => ⟨[(0, .sl 1 0 0 i), (3, .ptr 2 0 0 0), (6, .sl 1 0 0 i), (7, .int .i64 i), (8, .int .i64 k)], [(2, some (.one false (.cells [.str x, .str y]))), (1, some (bkB m bi bp))], 3⟩) (fun k => k ≤ i ∧ bkX bi bp x y k = -1) (fun k => i - k) 0 [0, 1, 2] [] ⟨rfl, ⟨rfl, rfl, rfl, rfl, rfl, trivial⟩, ⟨rfl, rfl, trivial⟩⟩ ⟨by omega, rfl⟩ ?_
  rintro k ⟨hk, hx⟩
  by_cases hk2 : k < i
  · cases hq : (seq x (bi.getD k ⟨#[]⟩) && (seq y (bp.getD k ⟨#[]⟩) && true)) with
    | true =>
      rw [bkX_stop hx hq _ hk2]
      repeat' ((conv => whnf); first | (refine br_intro (fun h => ?_) (fun h => absurd (hq.symm.trans h) (by decide))) | (refine br_dec (fun h => ?_) (fun h => ?_) <;> try (exfalso; (try dsimp only at h); omega)) | (refine br_ndec (fun h => ?_) (fun h => ?_) <;> try (exfalso; (try dsimp only at h); omega)) | refine br_seq (fun h => ?_) (fun h => ?_) | refine br_nseq (fun h => ?_) (fun h => ?_) | refine br_not (fun h => ?_) (fun h => ?_) | refine br_intro (fun h => ?_) (fun h => ?_) | refine cond_intro rfl ?_ | (refine cond_intro ⟨rfl, ?_⟩ ?_; (first | omega | (dsimp only; omega) | decide)) | (refine cond_intro ?_ ?_; (first | omega | (dsimp only; omega) | decide | (simp only [Nat.add_zero, Int.toNat_natCast, *]; omega))))
      all_goals (conv => whnf)
      all_goals first
        | exact ret_out (l := [0, 1]) rfl rfl trivial allRw_nil
        | (exfalso; omega)
    | false =>
      have e : bkX bi bp x y (k + 1) = -1 := by simp only [bkX, hx, hq]; rfl
      repeat' ((conv => whnf); first | (refine br_intro (fun h => absurd (hq.symm.trans h) (by decide)) (fun h => ?_)) | (refine br_dec (fun h => ?_) (fun h => ?_) <;> try (exfalso; (try dsimp only at h); omega)) | (refine br_ndec (fun h => ?_) (fun h => ?_) <;> try (exfalso; (try dsimp only at h); omega)) | refine br_seq (fun h => ?_) (fun h => ?_) | refine br_nseq (fun h => ?_) (fun h => ?_) | refine br_not (fun h => ?_) (fun h => ?_) | refine br_intro (fun h => ?_) (fun h => ?_) | refine cond_intro rfl ?_ | (refine cond_intro ⟨rfl, ?_⟩ ?_; (first | omega | (dsimp only; omega) | decide)) | (refine cond_intro ?_ ?_; (first | omega | (dsimp only; omega) | decide | (simp only [Nat.add_zero, Int.toNat_natCast, *]; omega))))
      all_goals (conv => whnf)
      all_goals first
        | exact ⟨k + 1, [0, 1, 2], [], ⟨by omega, e⟩, by omega, ⟨rfl, ⟨rfl, rfl, rfl, rfl, congrArg (fun z => some (SV.int .i64 z)) (i64_succ (by omega)), trivial⟩, ⟨rfl, rfl, trivial⟩⟩⟩
        | (exfalso; omega)
  · have e : k = i := by omega
    subst e
    rw [hx]
    repeat' ((conv => whnf); first | (refine br_dec (fun h => ?_) (fun h => ?_) <;> try (exfalso; (try dsimp only at h); omega)) | (refine br_ndec (fun h => ?_) (fun h => ?_) <;> try (exfalso; (try dsimp only at h); omega)) | refine br_seq (fun h => ?_) (fun h => ?_) | refine br_nseq (fun h => ?_) (fun h => ?_) | refine br_not (fun h => ?_) (fun h => ?_) | refine br_intro (fun h => ?_) (fun h => ?_) | refine cond_intro rfl ?_ | (refine cond_intro ⟨rfl, ?_⟩ ?_; (first | omega | (dsimp only; omega) | decide)) | (refine cond_intro ?_ ?_; (first | omega | (dsimp only; omega) | decide | (simp only [Nat.add_zero, Int.toNat_natCast, *]; omega))))
    all_goals (conv => whnf)
    all_goals first
      | exact ret_out (l := [0, 1]) rfl rfl trivial allRw_nil
      | (exfalso; omega)

theorem seg_all {α : Type} {l : List α} {n : Nat} (h : l.length = n) : seg 0 n l = l := by
  unfold seg; rw [List.drop_zero, List.take_of_length_le (by omega)]
theorem rg_Clone (L : Rg) (hn : L.n ≤ 1000000) (h1 : L.lo.length = L.n) (h2 : L.hi.length = L.n) (h3 : L.is.length = L.n) (h4 : L.pr.length = L.n) : FC Try.prog 2 20 [.sl 1 0 0 L.n] [(1, some (rgB L))] (isOut (.sl 2 0 0 L.n) [(2, some (rgW L))] 3) := by
  obtain ⟨n, lo, hi, is, pr⟩ := L
  unfold rgB rgW
  dsimp only at *
  cases n with
  | zero =>
    obtain rfl := List.eq_nil_of_length_eq_zero h1
    obtain rfl := List.eq_nil_of_length_eq_zero h2
    obtain rfl := List.eq_nil_of_length_eq_zero h3
    obtain rfl := List.eq_nil_of_length_eq_zero h4
    refine fc_nil rfl ?_
    refine fc_of mixed T_ok Try.func20 rfl (by kernel_rfl) (by kernel_rfl) (by kernel_rfl) ?_
    repeat' ((conv => whnf); first | (refine br_dec (fun h => ?_) (fun h => ?_) <;> try (exfalso; (try dsimp only at h); omega)) | (refine br_ndec (fun h => ?_) (fun h => ?_) <;> try (exfalso; (try dsimp only at h); omega)) | refine br_seq (fun h => ?_) (fun h => ?_) | refine br_nseq (fun h => ?_) (fun h => ?_) | refine br_not (fun h => ?_) (fun h => ?_) | refine br_intro (fun h => ?_) (fun h => ?_) | refine cond_intro rfl ?_ | (refine cond_intro ⟨rfl, ?_⟩ ?_; (first | omega | (dsimp only; omega) | decide)) | (refine cond_intro ?_ ?_; (first | omega | (dsimp only; omega) | decide | (simp only [Nat.add_zero, Int.toNat_natCast, *]; omega))) | (refine And.intro ?_ ?_))
    all_goals (conv => whnf)
    all_goals first
      | exact retP_mono (fun _ _ _ h => .inl h) (ret_out (l := [0, 1]) rfl rfl trivial allRw_nil)
      | exact retP_mono (fun _ _ _ h => .inr h) (ret_out (l := [0, 1, 3]) rfl rfl ⟨rfl, trivial⟩ (allRw_cons allRw_nil))
      | decide
  | succ n =>
    refine fc_of mixed T_ok Try.func20 rfl (by kernel_rfl) (by kernel_rfl) (by kernel_rfl) ?_
    repeat' ((conv => whnf); first | (refine br_dec (fun h => ?_) (fun h => ?_) <;> try (exfalso; (try dsimp only at h); omega)) | (refine br_ndec (fun h => ?_) (fun h => ?_) <;> try (exfalso; (try dsimp only at h); omega)) | refine br_seq (fun h => ?_) (fun h => ?_) | refine br_nseq (fun h => ?_) (fun h => ?_) | refine br_not (fun h => ?_) (fun h => ?_) | refine br_intro (fun h => ?_) (fun h => ?_) | refine cond_intro rfl ?_ | (refine cond_intro ⟨rfl, ?_⟩ ?_; (first | omega | (dsimp only; omega) | decide)) | (refine cond_intro ?_ ?_; (first | omega | (dsimp only; omega) | decide | (simp only [Nat.add_zero, Int.toNat_natCast, *]; omega))))
    all_goals (conv => whnf)
    all_goals (rw [Nat.zero_add (n + 1), seg_all h1, seg_all h2, seg_all h3, seg_all h4]; exact ret_out (l := [0, 1, 3]) rfl rfl ⟨rfl, trivial⟩ (allRw_cons allRw_nil))

def bkW (m : Nat) (bi bp : List ByteArray) : HB := .one false (.cols m [.sc (.strs bi), .sc (.strs bp)])
theorem bk_Clone (n : Nat) (bi bp : List ByteArray) (hn : n ≤ 1000000) (h1 : bi.length = n) (h2 : bp.length = n) : FC Try.prog 2 21 [.sl 1 0 0 n] [(1, some (bkB n bi bp))] (isOut (.sl 2 0 0 n) [(2, some (bkW n bi bp))] 3) := by
  unfold bkB bkW
  cases n with
  | zero =>
    obtain rfl := List.eq_nil_of_length_eq_zero h1
    obtain rfl := List.eq_nil_of_length_eq_zero h2
    refine fc_nil rfl ?_
    refine fc_of mixed T_ok Try.func21 rfl (by kernel_rfl) (by kernel_rfl) (by kernel_rfl) ?_
    repeat' ((conv => whnf); first | (refine br_dec (fun h => ?_) (fun h => ?_) <;> try (exfalso; (try dsimp only at h); omega)) | (refine br_ndec (fun h => ?_) (fun h => ?_) <;> try (exfalso; (try dsimp only at h); omega)) | refine br_seq (fun h => ?_) (fun h => ?_) | refine br_nseq (fun h => ?_) (fun h => ?_) | refine br_not (fun h => ?_) (fun h => ?_) | refine br_intro (fun h => ?_) (fun h => ?_) | refine cond_intro rfl ?_ | (refine cond_intro ⟨rfl, ?_⟩ ?_; (first | omega | (dsimp only; omega) | decide)) | (refine cond_intro ?_ ?_; (first | omega | (dsimp only; omega) | decide | (simp only [Nat.add_zero, Int.toNat_natCast, *]; omega))) | (refine And.intro ?_ ?_))
    all_goals (conv => whnf)
    all_goals first
      | exact retP_mono (fun _ _ _ h => .inl h) (ret_out (l := [0, 1]) rfl rfl trivial allRw_nil)
      | exact retP_mono (fun _ _ _ h => .inr h) (ret_out (l := [0, 1, 3]) rfl rfl ⟨rfl, trivial⟩ (allRw_cons allRw_nil))
      | decide
  | succ n =>
    refine fc_of mixed T_ok Try.func21 rfl (by kernel_rfl) (by kernel_rfl) (by kernel_rfl) ?_
    repeat' ((conv => whnf); first | (refine br_dec (fun h => ?_) (fun h => ?_) <;> try (exfalso; (try dsimp only at h); omega)) | (refine br_ndec (fun h => ?_) (fun h => ?_) <;> try (exfalso; (try dsimp only at h); omega)) | refine br_seq (fun h => ?_) (fun h => ?_) | refine br_nseq (fun h => ?_) (fun h => ?_) | refine br_not (fun h => ?_) (fun h => ?_) | refine br_intro (fun h => ?_) (fun h => ?_) | refine cond_intro rfl ?_ | (refine cond_intro ⟨rfl, ?_⟩ ?_; (first | omega | (dsimp only; omega) | decide)) | (refine cond_intro ?_ ?_; (first | omega | (dsimp only; omega) | decide | (simp only [Nat.add_zero, Int.toNat_natCast, *]; omega))))
    all_goals (conv => whnf)
    all_goals (rw [Nat.zero_add (n + 1), seg_all h1, seg_all h2]; exact ret_out (l := [0, 1, 3]) rfl rfl ⟨rfl, trivial⟩ (allRw_cons allRw_nil))
theorem bk_Contains (m : Nat) (bi bp : List ByteArray) (x y : ByteArray) (i : Nat) (hi : i ≤ m) (hm : m ≤ 1000000) : FC Try.prog 2 19 [.sl 1 0 0 i, .agg [.str x, .str y]] [(1, some (bkB m bi bp))] (isOut (.bool (decide (0 ≤ bkX bi bp x y i))) [] 2) := by
  have c := bk_Index m bi bp x y i hi hm
  generalize bkX bi bp x y i = z at *
  refine fc_of mixed T_ok Try.func19 rfl (by kernel_rfl) (by kernel_rfl) (by kernel_rfl) ?_
  repeat' ((conv => whnf); first | (refine vcall_out (l :=  [0, 1]) (c ) ⟨rfl, rfl, rfl, rfl, (by (repeat' (first | exact trivial | exact GB_wf | constructor)); first | done | fail), (by (repeat' (first | exact trivial | exact GB_fits rfl | constructor)); first | done | fail)⟩ ?_) | (refine vcallD_out (l :=  [0, 1]) (c ) ⟨rfl, rfl, rfl, rfl, (by (repeat' (first | exact trivial | exact GB_wf | constructor)); first | done | fail), (by (repeat' (first | exact trivial | exact GB_fits rfl | constructor)); first | done | fail)⟩ ?_) | (refine br_dec (fun h => ?_) (fun h => ?_) <;> try (exfalso; (try dsimp only at h); omega)) | (refine br_ndec (fun h => ?_) (fun h => ?_) <;> try (exfalso; (try dsimp only at h); omega)) | refine br_seq (fun h => ?_) (fun h => ?_) | refine br_nseq (fun h => ?_) (fun h => ?_) | refine br_not (fun h => ?_) (fun h => ?_) | refine br_intro (fun h => ?_) (fun h => ?_) | refine cond_intro rfl ?_ | (refine cond_intro ⟨rfl, ?_⟩ ?_; (first | omega | (dsimp only; omega) | decide)) | (refine cond_intro ?_ ?_; (first | omega | (dsimp only; omega) | decide | (simp only [Nat.add_zero, Int.toNat_natCast, *]; omega))))
  all_goals (conv => whnf)
  all_goals exact ret_out (l := [0, 1]) rfl rfl trivial allRw_nil
end Go.Proofs.Ytkmbnniikncaiaa
