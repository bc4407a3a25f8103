/- Contracts of package route: the failures of the parties; whether a name is an issuer. -/
import Derived.Test.YtkmbnniikncaiaaBinC5
namespace Go.Proofs.Ytkmbnniikncaiaa
open Go.RowKit Go.Sy
attribute [local irreducible] vcall vloop vcallD retP
set_option maxRecDepth 100000
set_option linter.unusedVariables false
set_option linter.unusedSimpArgs false

/-- A router: the ranges; the backups by columns; the failures; the counts of the parties. -/
structure Rt where
  L : Rg
  m : Nat
  bi : List ByteArray
  bp : List ByteArray
  f : Int
  n : Nat
  ks : List ByteArray
  vs : List Int
  bs : List Nat
  ck : Nat
abbrev rtR (r : Rt) : Heap := [(1, some (.one true (.cells [.sl 2 0 0 r.L.n, .sl 3 0 0 r.m, .int .i64 r.f, .map 4 0]))), (2, some (rgB r.L)), (3, some (.one true (.cols r.m [.sc (.strs r.bi), .sc (.strs r.bp)]))), (4, some (.one true (.obj (.map false false r.n [.strs r.ks] [.sc (.ints .i64 r.vs)] r.bs r.ck))))]
/-- The part of a router that counts. -/
abbrev ctR (r : Rt) : Heap := [(1, some (.one true (.cells [.sl 2 0 0 r.L.n, .sl 3 0 0 r.m, .int .i64 r.f, .map 4 0]))), (4, some (.one true (.obj (.map false false r.n [.strs r.ks] [.sc (.ints .i64 r.vs)] r.bs r.ck))))]
abbrev ctW (r : Rt) : Heap := [(1, some (.one true (.cells [.sl 2 0 0 r.L.n, .sl 3 0 0 r.m, .int .i64 r.f, .map 4 0]))), (4, some (.one false (.obj (.map false false r.n [.strs r.ks] [.sc (.ints .i64 r.vs)] r.bs r.ck))))]
abbrev ctO (r : Rt) : Heap := [(4, some (.one false (.obj (.map false false r.n [.strs r.ks] [.sc (.ints .i64 r.vs)] r.bs r.ck))))]

def Rt.dn (r : Rt) (p : ByteArray) : Bool := decide (sidx r.ks p < r.n ∧ r.f ≤ r.vs.getD (sidx r.ks p) 0)
theorem rt_DownN (p : ByteArray) : Pure Try.prog 11 [.nptr, .str p] (.bool false) := by
  refine fc_of mixed T_ok Try.func11 rfl (by kernel_rfl) (by kernel_rfl) (by kernel_rfl) ?_
  repeat' ((conv => whnf); first | (refine br_dec (fun h => ?_) (fun h => ?_) <;> try (exfalso; (try dsimp only at h); omega)) | (refine br_ndec (fun h => ?_) (fun h => ?_) <;> try (exfalso; (try dsimp only at h); omega)) | refine br_seq (fun h => ?_) (fun h => ?_) | refine br_nseq (fun h => ?_) (fun h => ?_) | refine br_not (fun h => ?_) (fun h => ?_) | refine br_intro (fun h => ?_) (fun h => ?_) | refine cond_intro rfl ?_ | (refine cond_intro ⟨rfl, ?_⟩ ?_; (first | omega | (dsimp only; omega) | decide)) | (refine cond_intro ?_ ?_; (first | omega | (dsimp only; omega) | decide | (simp only [Nat.add_zero, Int.toNat_natCast, *]; omega))))
  all_goals (conv => whnf)
  all_goals exact ret_pure rfl
theorem rt_Down (r : Rt) (p : ByteArray) : FC Try.prog 5 11 [.ptr 1 0 0 0, .str p] (ctR r) (isOut (.bool (r.dn p)) [] 5) := by
  unfold Rt.dn
  by_cases hk : sidx r.ks p < r.n
  · rw [show decide (sidx r.ks p < r.n ∧ r.f ≤ r.vs.getD (sidx r.ks p) 0) = decide (r.f ≤ r.vs.getD (sidx r.ks p) 0) from decide_eq_decide.2 ⟨fun h => h.2, fun h => ⟨hk, h⟩⟩]
    refine fc_of mixed T_ok Try.func11 rfl (by kernel_rfl) (by kernel_rfl) (by kernel_rfl) ?_
    repeat' ((conv => whnf); first | (refine br_dec (fun h => ?_) (fun h => ?_) <;> try (exfalso; (try dsimp only at h); omega)) | (refine br_ndec (fun h => ?_) (fun h => ?_) <;> try (exfalso; (try dsimp only at h); omega)) | refine br_seq (fun h => ?_) (fun h => ?_) | refine br_nseq (fun h => ?_) (fun h => ?_) | refine br_not (fun h => ?_) (fun h => ?_) | refine br_intro (fun h => ?_) (fun h => ?_) | refine cond_intro rfl ?_ | (refine cond_intro ⟨rfl, ?_⟩ ?_; (first | omega | (dsimp only; omega) | decide)) | (refine cond_intro ?_ ?_; (first | omega | (dsimp only; omega) | decide | (simp only [Nat.add_zero, Int.toNat_natCast, *]; omega))))
    all_goals (conv => whnf)
    all_goals first
      | exact ret_out (l := [0, 1, 2, 3, 4]) rfl rfl trivial allRw_nil
      | (exfalso; omega)
  · rw [show decide (sidx r.ks p < r.n ∧ r.f ≤ r.vs.getD (sidx r.ks p) 0) = false from decide_eq_false (fun h => hk h.1)]
    refine fc_of mixed T_ok Try.func11 rfl (by kernel_rfl) (by kernel_rfl) (by kernel_rfl) ?_
    repeat' ((conv => whnf); first | (refine br_dec (fun h => ?_) (fun h => ?_) <;> try (exfalso; (try dsimp only at h); omega)) | (refine br_ndec (fun h => ?_) (fun h => ?_) <;> try (exfalso; (try dsimp only at h); omega)) | refine br_seq (fun h => ?_) (fun h => ?_) | refine br_nseq (fun h => ?_) (fun h => ?_) | refine br_not (fun h => ?_) (fun h => ?_) | refine br_intro (fun h => ?_) (fun h => ?_) | refine cond_intro rfl ?_ | (refine cond_intro ⟨rfl, ?_⟩ ?_; (first | omega | (dsimp only; omega) | decide)) | (refine cond_intro ?_ ?_; (first | omega | (dsimp only; omega) | decide | (simp only [Nat.add_zero, Int.toNat_natCast, *]; omega))))
    all_goals (conv => whnf)
    all_goals first
      | exact ret_out (l := [0, 1, 2, 3, 4]) rfl rfl trivial allRw_nil
      | (exfalso; omega)
theorem rt_FailN (p : ByteArray) : Pure Try.prog 9 [.nptr, .str p] (.int .i64 6) := by
  refine fc_of mixed T_ok Try.func9 rfl (by kernel_rfl) (by kernel_rfl) (by kernel_rfl) ?_
  repeat' ((conv => whnf); first | (refine br_dec (fun h => ?_) (fun h => ?_) <;> try (exfalso; (try dsimp only at h); omega)) | (refine br_ndec (fun h => ?_) (fun h => ?_) <;> try (exfalso; (try dsimp only at h); omega)) | refine br_seq (fun h => ?_) (fun h => ?_) | refine br_nseq (fun h => ?_) (fun h => ?_) | refine br_not (fun h => ?_) (fun h => ?_) | refine br_intro (fun h => ?_) (fun h => ?_) | refine cond_intro rfl ?_ | (refine cond_intro ⟨rfl, ?_⟩ ?_; (first | omega | (dsimp only; omega) | decide)) | (refine cond_intro ?_ ?_; (first | omega | (dsimp only; omega) | decide | (simp only [Nat.add_zero, Int.toNat_natCast, *]; omega))))
  all_goals (conv => whnf)
  all_goals exact ret_pure rfl
theorem rt_GoodN (p : ByteArray) : Pure Try.prog 14 [.nptr, .str p] (.int .i64 6) := by
  refine fc_of mixed T_ok Try.func14 rfl (by kernel_rfl) (by kernel_rfl) (by kernel_rfl) ?_
  repeat' ((conv => whnf); first | (refine br_dec (fun h => ?_) (fun h => ?_) <;> try (exfalso; (try dsimp only at h); omega)) | (refine br_ndec (fun h => ?_) (fun h => ?_) <;> try (exfalso; (try dsimp only at h); omega)) | refine br_seq (fun h => ?_) (fun h => ?_) | refine br_nseq (fun h => ?_) (fun h => ?_) | refine br_not (fun h => ?_) (fun h => ?_) | refine br_intro (fun h => ?_) (fun h => ?_) | refine cond_intro rfl ?_ | (refine cond_intro ⟨rfl, ?_⟩ ?_; (first | omega | (dsimp only; omega) | decide)) | (refine cond_intro ?_ ?_; (first | omega | (dsimp only; omega) | decide | (simp only [Nat.add_zero, Int.toNat_natCast, *]; omega))))
  all_goals (conv => whnf)
  all_goals exact ret_pure rfl
/-- A count is set. -/
def Rt.put (r : Rt) (p : ByteArray) (x : Int) : Rt := { r with n := if sidx r.ks p < r.n then r.n else r.n + 1, ks := putL (sidx r.ks p) p r.ks, vs := putL (sidx r.ks p) x r.vs, bs := if sidx r.ks p < r.n then r.bs else r.bs ++ [r.ck], ck := if sidx r.ks p < r.n then r.ck else r.ck + 1 }
def Rt.fl (r : Rt) (p : ByteArray) : Rt := if sidx r.ks p < r.n then r.put p (min (IntKind.i64.wrap (r.vs.getD (sidx r.ks p) 0 + 1)) r.f) else r
def Rt.gd (r : Rt) (p : ByteArray) : Rt := if sidx r.ks p < r.n then r.put p 0 else r
def Rt.kE (r : Rt) (p : ByteArray) : Int := if sidx r.ks p < r.n then 0 else 6
theorem rt_Fail (r : Rt) (p : ByteArray) : FC Try.prog 5 9 [.ptr 1 0 0 0, .str p] (ctW r) (isOut (.int .i64 (r.kE p)) (ctO (r.fl p)) 5) := by
  unfold Rt.kE Rt.fl
  by_cases hk : sidx r.ks p < r.n
  · rw [if_pos hk, if_pos hk]
    refine fc_of mixed T_ok Try.func9 rfl (by kernel_rfl) (by kernel_rfl) (by kernel_rfl) ?_
    repeat' ((conv => whnf); first | (refine br_dec (fun h => ?_) (fun h => ?_) <;> try (exfalso; (try dsimp only at h); omega)) | (refine br_ndec (fun h => ?_) (fun h => ?_) <;> try (exfalso; (try dsimp only at h); omega)) | refine br_seq (fun h => ?_) (fun h => ?_) | refine br_nseq (fun h => ?_) (fun h => ?_) | refine br_not (fun h => ?_) (fun h => ?_) | refine br_intro (fun h => ?_) (fun h => ?_) | refine cond_intro rfl ?_ | (refine cond_intro ⟨rfl, ?_⟩ ?_; (first | omega | (dsimp only; omega) | decide)) | (refine cond_intro ?_ ?_; (first | omega | (dsimp only; omega) | decide | (simp only [Nat.add_zero, Int.toNat_natCast, *]; omega))))
    all_goals (conv => whnf)
    all_goals first
      | exact ret_out (l := [0, 1, 2, 3, 4]) rfl rfl ⟨rfl, trivial⟩ (allRw_cons allRw_nil)
      | (exfalso; omega)
  · rw [if_neg hk, if_neg hk]
    refine fc_of mixed T_ok Try.func9 rfl (by kernel_rfl) (by kernel_rfl) (by kernel_rfl) ?_
    repeat' ((conv => whnf); first | (refine br_dec (fun h => ?_) (fun h => ?_) <;> try (exfalso; (try dsimp only at h); omega)) | (refine br_ndec (fun h => ?_) (fun h => ?_) <;> try (exfalso; (try dsimp only at h); omega)) | refine br_seq (fun h => ?_) (fun h => ?_) | refine br_nseq (fun h => ?_) (fun h => ?_) | refine br_not (fun h => ?_) (fun h => ?_) | refine br_intro (fun h => ?_) (fun h => ?_) | refine cond_intro rfl ?_ | (refine cond_intro ⟨rfl, ?_⟩ ?_; (first | omega | (dsimp only; omega) | decide)) | (refine cond_intro ?_ ?_; (first | omega | (dsimp only; omega) | decide | (simp only [Nat.add_zero, Int.toNat_natCast, *]; omega))))
    all_goals (conv => whnf)
    all_goals first
      | exact ret_out (l := [0, 1, 2, 3, 4]) rfl rfl ⟨rfl, trivial⟩ (allRw_cons allRw_nil)
      | (exfalso; omega)
theorem rt_Good (r : Rt) (p : ByteArray) : FC Try.prog 5 14 [.ptr 1 0 0 0, .str p] (ctW r) (isOut (.int .i64 (r.kE p)) (ctO (r.gd p)) 5) := by
  unfold Rt.kE Rt.gd
  by_cases hk : sidx r.ks p < r.n
  · rw [if_pos hk, if_pos hk]
    refine fc_of mixed T_ok Try.func14 rfl (by kernel_rfl) (by kernel_rfl) (by kernel_rfl) ?_
    repeat' ((conv => whnf); first | (refine br_dec (fun h => ?_) (fun h => ?_) <;> try (exfalso; (try dsimp only at h); omega)) | (refine br_ndec (fun h => ?_) (fun h => ?_) <;> try (exfalso; (try dsimp only at h); omega)) | refine br_seq (fun h => ?_) (fun h => ?_) | refine br_nseq (fun h => ?_) (fun h => ?_) | refine br_not (fun h => ?_) (fun h => ?_) | refine br_intro (fun h => ?_) (fun h => ?_) | refine cond_intro rfl ?_ | (refine cond_intro ⟨rfl, ?_⟩ ?_; (first | omega | (dsimp only; omega) | decide)) | (refine cond_intro ?_ ?_; (first | omega | (dsimp only; omega) | decide | (simp only [Nat.add_zero, Int.toNat_natCast, *]; omega))))
    all_goals (conv => whnf)
    all_goals first
      | exact ret_out (l := [0, 1, 2, 3, 4]) rfl rfl ⟨rfl, trivial⟩ (allRw_cons allRw_nil)
      | (exfalso; omega)
  · rw [if_neg hk, if_neg hk]
    refine fc_of mixed T_ok Try.func14 rfl (by kernel_rfl) (by kernel_rfl) (by kernel_rfl) ?_
    repeat' ((conv => whnf); first | (refine br_dec (fun h => ?_) (fun h => ?_) <;> try (exfalso; (try dsimp only at h); omega)) | (refine br_ndec (fun h => ?_) (fun h => ?_) <;> try (exfalso; (try dsimp only at h); omega)) | refine br_seq (fun h => ?_) (fun h => ?_) | refine br_nseq (fun h => ?_) (fun h => ?_) | refine br_not (fun h => ?_) (fun h => ?_) | refine br_intro (fun h => ?_) (fun h => ?_) | refine cond_intro rfl ?_ | (refine cond_intro ⟨rfl, ?_⟩ ?_; (first | omega | (dsimp only; omega) | decide)) | (refine cond_intro ?_ ?_; (first | omega | (dsimp only; omega) | decide | (simp only [Nat.add_zero, Int.toNat_natCast, *]; omega))))
    all_goals (conv => whnf)
    all_goals first
      | exact ret_out (l := [0, 1, 2, 3, 4]) rfl rfl ⟨rfl, trivial⟩ (allRw_cons allRw_nil)
      | (exfalso; omega)
theorem rt_ChooseN (s : ByteArray) : Pure Try.prog 10 [.nptr, .str s] (.tup [.agg [.str ⟨#[]⟩, .str ⟨#[]⟩, .str ⟨#[]⟩, .int .i64 0], .int .i64 6]) := by
  refine fc_of mixed T_ok Try.func10 rfl (by kernel_rfl) (by kernel_rfl) (by kernel_rfl) ?_
  repeat' ((conv => whnf); first | (refine br_dec (fun h => ?_) (fun h => ?_) <;> try (exfalso; (try dsimp only at h); omega)) | (refine br_ndec (fun h => ?_) (fun h => ?_) <;> try (exfalso; (try dsimp only at h); omega)) | refine br_seq (fun h => ?_) (fun h => ?_) | refine br_nseq (fun h => ?_) (fun h => ?_) | refine br_not (fun h => ?_) (fun h => ?_) | refine br_intro (fun h => ?_) (fun h => ?_) | refine cond_intro rfl ?_ | (refine cond_intro ⟨rfl, ?_⟩ ?_; (first | omega | (dsimp only; omega) | decide)) | (refine cond_intro ?_ ?_; (first | omega | (dsimp only; omega) | decide | (simp only [Nat.add_zero, Int.toNat_natCast, *]; omega))))
  all_goals (conv => whnf)
  all_goals exact ret_pure rfl
theorem rt_AfterN (a b c : ByteArray) (m : Int) : Pure Try.prog 12 [.nptr, .agg [.str a, .str b, .str c, .int .i64 m]] (.tup [.agg [.str ⟨#[]⟩, .str ⟨#[]⟩, .str ⟨#[]⟩, .int .i64 0], .int .i64 6]) := by
  refine fc_of mixed T_ok Try.func12 rfl (by kernel_rfl) (by kernel_rfl) (by kernel_rfl) ?_
  repeat' ((conv => whnf); first | (refine br_dec (fun h => ?_) (fun h => ?_) <;> try (exfalso; (try dsimp only at h); omega)) | (refine br_ndec (fun h => ?_) (fun h => ?_) <;> try (exfalso; (try dsimp only at h); omega)) | refine br_seq (fun h => ?_) (fun h => ?_) | refine br_nseq (fun h => ?_) (fun h => ?_) | refine br_not (fun h => ?_) (fun h => ?_) | refine br_intro (fun h => ?_) (fun h => ?_) | refine cond_intro rfl ?_ | (refine cond_intro ⟨rfl, ?_⟩ ?_; (first | omega | (dsimp only; omega) | decide)) | (refine cond_intro ?_ ?_; (first | omega | (dsimp only; omega) | decide | (simp only [Nat.add_zero, Int.toNat_natCast, *]; omega))))
  all_goals (conv => whnf)
  all_goals exact ret_pure rfl

theorem iss_fn (a b c d nm : ByteArray) : FC Try.prog 2 30 [.agg [.str a, .str b, .str c, .str d], .ptr 1 0 0 0] [(1, some (.one true (.cells [.str nm])))] (isOut (.bool (seq c nm)) [] 2) := by
  refine fc_of mixed T_ok Try.func30 rfl (by kernel_rfl) (by kernel_rfl) (by kernel_rfl) ?_
  repeat' ((conv => whnf); first | (refine br_dec (fun h => ?_) (fun h => ?_) <;> try (exfalso; (try dsimp only at h); omega)) | (refine br_ndec (fun h => ?_) (fun h => ?_) <;> try (exfalso; (try dsimp only at h); omega)) | refine br_seq (fun h => ?_) (fun h => ?_) | refine br_nseq (fun h => ?_) (fun h => ?_) | refine br_not (fun h => ?_) (fun h => ?_) | refine br_intro (fun h => ?_) (fun h => ?_) | refine cond_intro rfl ?_ | (refine cond_intro ⟨rfl, ?_⟩ ?_; (first | omega | (dsimp only; omega) | decide)) | (refine cond_intro ?_ ?_; (first | omega | (dsimp only; omega) | decide | (simp only [Nat.add_zero, Int.toNat_natCast, *]; omega))))
  all_goals (conv => whnf)
  all_goals exact ret_out (l := [0, 1]) rfl rfl trivial allRw_nil

/-- The index of the first range of an issuer, or -1. -/
def isX (L : Rg) (nm : ByteArray) : Nat → Int
  | 0 => -1
  | k + 1 => if 0 ≤ isX L nm k then isX L nm k else if seq (L.s k) nm = true then (k : Int) else -1
theorem isX_stop {L : Rg} {nm : ByteArray} {k : Nat} (h0 : isX L nm k = -1) (h : seq (L.s k) nm = true) : ∀ n, k < n → isX L nm n = k
  | 0, hh => by omega
  | n + 1, hh => by
    simp only [isX]
    by_cases e : k = n
    · subst e; rw [h0, if_neg (by omega), if_pos h]
    · rw [isX_stop h0 h n (by omega), if_pos (by omega)]
theorem iss_IndexFunc (L : Rg) (nm : ByteArray) (hn : L.n ≤ 1000000) : FC Try.prog 3 40 [.sl 1 0 0 L.n, .fn 30 [.ptr 2 0 0 0]] [(1, some (rgB L)), (2, some (.one true (.cells [.str nm])))] (isOut (.int .i64 (isX L nm L.n)) [] 3) := by
  refine fc_of mixed T_ok Try.func40 rfl (by kernel_rfl) (by kernel_rfl) (by kernel_rfl) ?_
  (conv => whnf)
  refine vloop_of (fun k : Nat => ⟨[(0, .sl 1 0 0 L.n), (1, .fn 30 [.ptr 2 0 0 0]), (6, .sl 1 0 0 L.n), (7, .int .i64 L.n), (8, .int .i64 k)], [(1, some (rgB L)), (2, some (.one true (.cells [.str nm])))], 3⟩) (fun k => k ≤ L.n ∧ isX L nm k = -1) (fun k => L.n - k) 0 [0, 1, 2] [] ⟨rfl, ⟨rfl, rfl, rfl, rfl, rfl, trivial⟩, ⟨rfl, rfl, trivial⟩⟩ ⟨by omega, rfl⟩ ?_
  rintro k ⟨hk, hx⟩
  by_cases hk2 : k < L.n
  · have c := iss_fn (L.l k) (L.h k) (L.s k) (L.p k) nm
    cases hq : seq (L.s k) nm with
    | true =>
      rw [hq] at c
      rw [isX_stop hx hq _ hk2]
      repeat' ((conv => whnf); first | (refine vcall_out (l :=  [0, 2]) (c ) ⟨rfl, rfl, rfl, rfl, (by (repeat' (first | exact trivial | exact GB_wf | constructor)); first | done | fail), (by (repeat' (first | exact trivial | exact GB_fits rfl | constructor)); first | done | fail)⟩ ?_) | (refine vcallD_out (l :=  [0, 2]) (c ) ⟨rfl, rfl, rfl, rfl, (by (repeat' (first | exact trivial | exact GB_wf | constructor)); first | done | fail), (by (repeat' (first | exact trivial | exact GB_fits rfl | constructor)); first | done | fail)⟩ ?_) | (refine br_dec (fun h => ?_) (fun h => ?_) <;> try (exfalso; (try dsimp only at h); omega)) | (refine br_ndec (fun h => ?_) (fun h => ?_) <;> try (exfalso; (try dsimp only at h); omega)) | refine br_seq (fun h => ?_) (fun h => ?_) | refine br_nseq (fun h => ?_) (fun h => ?_) | refine br_not (fun h => ?_) (fun h => ?_) | refine br_intro (fun h => ?_) (fun h => ?_) | refine cond_intro rfl ?_ | (refine cond_intro ⟨rfl, ?_⟩ ?_; (first | omega | (dsimp only; omega) | decide)) | (refine cond_intro ?_ ?_; (first | omega | (dsimp only; omega) | decide | (simp only [Nat.add_zero, Int.toNat_natCast, *]; omega))))
      all_goals (conv => whnf)
      all_goals first
        | exact ret_out (l := [0, 1, 2]) rfl rfl trivial allRw_nil
        | (exfalso; omega)
    | false =>
      rw [hq] at c
      have e : isX L nm (k + 1) = -1 := by simp only [isX, hx, hq]; rfl
      repeat' ((conv => whnf); first | (refine vcall_out (l :=  [0, 2]) (c ) ⟨rfl, rfl, rfl, rfl, (by (repeat' (first | exact trivial | exact GB_wf | constructor)); first | done | fail), (by (repeat' (first | exact trivial | exact GB_fits rfl | constructor)); first | done | fail)⟩ ?_) | (refine vcallD_out (l :=  [0, 2]) (c ) ⟨rfl, rfl, rfl, rfl, (by (repeat' (first | exact trivial | exact GB_wf | constructor)); first | done | fail), (by (repeat' (first | exact trivial | exact GB_fits rfl | constructor)); first | done | fail)⟩ ?_) | (refine br_dec (fun h => ?_) (fun h => ?_) <;> try (exfalso; (try dsimp only at h); omega)) | (refine br_ndec (fun h => ?_) (fun h => ?_) <;> try (exfalso; (try dsimp only at h); omega)) | refine br_seq (fun h => ?_) (fun h => ?_) | refine br_nseq (fun h => ?_) (fun h => ?_) | refine br_not (fun h => ?_) (fun h => ?_) | refine br_intro (fun h => ?_) (fun h => ?_) | refine cond_intro rfl ?_ | (refine cond_intro ⟨rfl, ?_⟩ ?_; (first | omega | (dsimp only; omega) | decide)) | (refine cond_intro ?_ ?_; (first | omega | (dsimp only; omega) | decide | (simp only [Nat.add_zero, Int.toNat_natCast, *]; omega))))
      all_goals (conv => whnf)
      all_goals first
        | exact ⟨k + 1, [0, 1, 2], [], ⟨by omega, e⟩, by omega, ⟨rfl, ⟨rfl, rfl, rfl, rfl, congrArg (fun z => some (SV.int .i64 z)) (i64_succ (by omega)), trivial⟩, ⟨rfl, rfl, trivial⟩⟩⟩
        | (exfalso; omega)
  · have e : k = L.n := by omega
    subst e
    rw [hx]
    repeat' ((conv => whnf); first | (refine br_dec (fun h => ?_) (fun h => ?_) <;> try (exfalso; (try dsimp only at h); omega)) | (refine br_ndec (fun h => ?_) (fun h => ?_) <;> try (exfalso; (try dsimp only at h); omega)) | refine br_seq (fun h => ?_) (fun h => ?_) | refine br_nseq (fun h => ?_) (fun h => ?_) | refine br_not (fun h => ?_) (fun h => ?_) | refine br_intro (fun h => ?_) (fun h => ?_) | refine cond_intro rfl ?_ | (refine cond_intro ⟨rfl, ?_⟩ ?_; (first | omega | (dsimp only; omega) | decide)) | (refine cond_intro ?_ ?_; (first | omega | (dsimp only; omega) | decide | (simp only [Nat.add_zero, Int.toNat_natCast, *]; omega))))
    all_goals (conv => whnf)
    all_goals first
      | exact ret_out (l := [0, 1, 2]) rfl rfl trivial allRw_nil
      | (exfalso; omega)
theorem iss_ContainsFunc (L : Rg) (nm : ByteArray) (hn : L.n ≤ 1000000) : FC Try.prog 3 29 [.sl 1 0 0 L.n, .fn 30 [.ptr 2 0 0 0]] [(1, some (rgB L)), (2, some (.one true (.cells [.str nm])))] (isOut (.bool (decide (0 ≤ isX L nm L.n))) [] 3) := by
  have c := iss_IndexFunc L nm hn
  generalize isX L nm L.n = x at *
  refine fc_of mixed T_ok Try.func29 rfl (by kernel_rfl) (by kernel_rfl) (by kernel_rfl) ?_
  repeat' ((conv => whnf); first | (refine vcall_out (l :=  [0, 1, 2]) (c ) ⟨rfl, rfl, rfl, rfl, (by (repeat' (first | exact trivial | exact GB_wf | constructor)); first | done | fail), (by (repeat' (first | exact trivial | exact GB_fits rfl | constructor)); first | done | fail)⟩ ?_) | (refine vcallD_out (l :=  [0, 1, 2]) (c ) ⟨rfl, rfl, rfl, rfl, (by (repeat' (first | exact trivial | exact GB_wf | constructor)); first | done | fail), (by (repeat' (first | exact trivial | exact GB_fits rfl | constructor)); first | done | fail)⟩ ?_) | (refine br_dec (fun h => ?_) (fun h => ?_) <;> try (exfalso; (try dsimp only at h); omega)) | (refine br_ndec (fun h => ?_) (fun h => ?_) <;> try (exfalso; (try dsimp only at h); omega)) | refine br_seq (fun h => ?_) (fun h => ?_) | refine br_nseq (fun h => ?_) (fun h => ?_) | refine br_not (fun h => ?_) (fun h => ?_) | refine br_intro (fun h => ?_) (fun h => ?_) | refine cond_intro rfl ?_ | (refine cond_intro ⟨rfl, ?_⟩ ?_; (first | omega | (dsimp only; omega) | decide)) | (refine cond_intro ?_ ?_; (first | omega | (dsimp only; omega) | decide | (simp only [Nat.add_zero, Int.toNat_natCast, *]; omega))))
  all_goals (conv => whnf)
  all_goals exact ret_out (l := [0, 1, 2]) rfl rfl trivial allRw_nil
theorem rt_isIssuer (L : Rg) (nm : ByteArray) (hn : L.n ≤ 1000000) : FC Try.prog 2 18 [.sl 1 0 0 L.n, .str nm] [(1, some (rgB L))] (isOut (.bool (decide (0 ≤ isX L nm L.n))) [] 2) := by
  have c := iss_ContainsFunc L nm hn
  generalize isX L nm L.n = x at *
  refine fc_of mixed T_ok Try.func18 rfl (by kernel_rfl) (by kernel_rfl) (by kernel_rfl) ?_
  repeat' ((conv => whnf); first | (refine vcall_out (l :=  [0, 1, 2]) (c ) ⟨rfl, rfl, rfl, rfl, (by (repeat' (first | exact trivial | exact GB_wf | constructor)); first | done | fail), (by (repeat' (first | exact trivial | exact GB_fits rfl | constructor)); first | done | fail)⟩ ?_) | (refine vcallD_out (l :=  [0, 1, 2]) (c ) ⟨rfl, rfl, rfl, rfl, (by (repeat' (first | exact trivial | exact GB_wf | constructor)); first | done | fail), (by (repeat' (first | exact trivial | exact GB_fits rfl | constructor)); first | done | fail)⟩ ?_) | (refine br_dec (fun h => ?_) (fun h => ?_) <;> try (exfalso; (try dsimp only at h); omega)) | (refine br_ndec (fun h => ?_) (fun h => ?_) <;> try (exfalso; (try dsimp only at h); omega)) | refine br_seq (fun h => ?_) (fun h => ?_) | refine br_nseq (fun h => ?_) (fun h => ?_) | refine br_not (fun h => ?_) (fun h => ?_) | refine br_intro (fun h => ?_) (fun h => ?_) | refine cond_intro rfl ?_ | (refine cond_intro ⟨rfl, ?_⟩ ?_; (first | omega | (dsimp only; omega) | decide)) | (refine cond_intro ?_ ?_; (first | omega | (dsimp only; omega) | decide | (simp only [Nat.add_zero, Int.toNat_natCast, *]; omega))))
  all_goals (conv => whnf)
  all_goals exact ret_out (l := [0, 1]) rfl rfl trivial allRw_nil
end Go.Proofs.Ytkmbnniikncaiaa
