/- Contracts of package link: a link, what is under way, the next arrival. -/
import Derived.Test.YtpconbdoackcfaaLkC
import Derived.Test.YtpconbdoackcfaaYGrp
import Derived.Test.YtpconbdoackcfaaYSum
namespace Go.Proofs.Ytpconbdoackcfaa
open Go.RowKit Go.Sy
attribute [local irreducible] vcall vloop vcallD retP
set_option maxRecDepth 100000
set_option linter.unusedVariables false
set_option linter.unusedSimpArgs false

/-- Arrivals, by columns. -/
structure Ar where
  t : List Int
  f : List Int
  o : List Int
  k : List Int
  x : List ByteArray
abbrev ar0 : Ar := ⟨[], [], [], [], []⟩
def arB (n : Nat) (r : Ar) : Blk := .cols n [.sc (.ints .i64 r.t), .sc (.ints .i64 r.f), .sc (.ints .i64 r.o), .sc (.ints .i64 r.k), .sc (.strs r.x)]
/-- What is under way: times, and for each the arrivals. -/
structure Wy where
  n : Nat
  ks : List Int
  ns : List Nat
  rs : List Ar
  bs : List Nat
  ck : Nat
structure Lk where
  pa : Int
  la : Int
  F : Fa
  nw : Int
  se : Int
  W : Wy
abbrev wyM (ro : Bool) (h : Nat) (W : Wy) : HB := .one ro (.obj (.map false false W.n [.ints .i64 W.ks] [.own h W.ns] W.bs W.ck))
abbrev wyF (ro : Bool) (W : Wy) : HB := .fam ro (fun x => x < W.n) (fun x => arB (W.ns.getD x 0) (W.rs.getD x ar0))
abbrev lkC (ro : Bool) (L : Lk) : HB := .one ro (.cells [.int .i64 L.pa, .int .i64 L.la, .sl 2 0 0 L.F.n, .int .i64 L.nw, .int .i64 L.se, .map 3 0])
/-- A link that is only read, with its table; and one that turns. -/
abbrev lkR (L : Lk) : Heap := [(1, some (lkC true L)), (2, some (faB true L.F)), (3, some (wyM true 4 L.W))]
abbrev lkH (L : Lk) : Heap := [(1, some (lkC false L)), (2, some (faB true L.F)), (3, some (wyM false 4 L.W)), (4, some (wyF false L.W))]

theorem lk_party (L : Lk) (x : Int) : FC Try.prog 5 25 [.ptr 1 0 0 0, .int .i64 x] (lkR L) (isOut (.bool (decide (0 ≤ x ∧ x < L.pa))) [] 5) := by
  refine fc_of mixed T_ok Try.func25 rfl (by kernel_rfl) (by kernel_rfl) (by kernel_rfl) ?_
  repeat' ((conv => whnf); first | (refine br_dec (fun h => ?_) (fun h => ?_) <;> try (exfalso; (try dsimp only at h); omega)) | (refine br_ndec (fun h => ?_) (fun h => ?_) <;> try (exfalso; (try dsimp only at h); omega)) | refine br_seq (fun h => ?_) (fun h => ?_) | refine br_nseq (fun h => ?_) (fun h => ?_) | refine br_not (fun h => ?_) (fun h => ?_) | refine br_intro (fun h => ?_) (fun h => ?_) | refine cond_intro rfl ?_ | (refine cond_intro ⟨rfl, ?_⟩ ?_; (first | omega | (dsimp only; omega) | decide)) | (refine cond_intro ?_ ?_; (first | omega | (dsimp only; omega) | decide | (simp only [Nat.add_zero, Int.toNat_natCast, *]; omega))))
  all_goals (conv => whnf)
  all_goals first
    | (rw [show decide (0 ≤ x ∧ x < L.pa) = decide (x < L.pa) from decide_eq_decide.2 (by omega)]; exact ret_out (l := [0, 1, 2, 3, 4]) rfl rfl trivial allRw_nil)
    | (rw [show decide (0 ≤ x ∧ x < L.pa) = false from decide_eq_false (by omega)]; exact ret_out (l := [0, 1, 2, 3, 4]) rfl rfl trivial allRw_nil)
theorem lk_SentN : Pure Try.prog 11 [.nptr] (.int .i64 0) := by
  refine fc_of mixed T_ok Try.func11 rfl (by kernel_rfl) (by kernel_rfl) (by kernel_rfl) ?_
  repeat' ((conv => whnf); first | (refine br_dec (fun h => ?_) (fun h => ?_) <;> try (exfalso; (try dsimp only at h); omega)) | (refine br_ndec (fun h => ?_) (fun h => ?_) <;> try (exfalso; (try dsimp only at h); omega)) | refine br_seq (fun h => ?_) (fun h => ?_) | refine br_nseq (fun h => ?_) (fun h => ?_) | refine br_not (fun h => ?_) (fun h => ?_) | refine br_intro (fun h => ?_) (fun h => ?_) | refine cond_intro rfl ?_ | (refine cond_intro ⟨rfl, ?_⟩ ?_; (first | omega | (dsimp only; omega) | decide)) | (refine cond_intro ?_ ?_; (first | omega | (dsimp only; omega) | decide | (simp only [Nat.add_zero, Int.toNat_natCast, *]; omega))))
  all_goals (conv => whnf)
  all_goals exact ret_pure rfl
theorem lk_Sent (L : Lk) : FC Try.prog 5 11 [.ptr 1 0 0 0] (lkR L) (isOut (.int .i64 L.se) [] 5) := by
  refine fc_of mixed T_ok Try.func11 rfl (by kernel_rfl) (by kernel_rfl) (by kernel_rfl) ?_
  repeat' ((conv => whnf); first | (refine br_dec (fun h => ?_) (fun h => ?_) <;> try (exfalso; (try dsimp only at h); omega)) | (refine br_ndec (fun h => ?_) (fun h => ?_) <;> try (exfalso; (try dsimp only at h); omega)) | refine br_seq (fun h => ?_) (fun h => ?_) | refine br_nseq (fun h => ?_) (fun h => ?_) | refine br_not (fun h => ?_) (fun h => ?_) | refine br_intro (fun h => ?_) (fun h => ?_) | refine cond_intro rfl ?_ | (refine cond_intro ⟨rfl, ?_⟩ ?_; (first | omega | (dsimp only; omega) | decide)) | (refine cond_intro ?_ ?_; (first | omega | (dsimp only; omega) | decide | (simp only [Nat.add_zero, Int.toNat_natCast, *]; omega))))
  all_goals (conv => whnf)
  all_goals exact ret_out (l := [0, 1, 2, 3, 4]) rfl rfl trivial allRw_nil

def Wy.sum (W : Wy) : Int := IntKind.i64.wrap ((W.ns.map (fun (n : Nat) => (n : Int))).sum)
theorem lk_underWay (L : Lk) (hl : L.W.ns.length = L.W.n) : FC Try.prog 5 27 [.ptr 1 0 0 0] (lkR L) (isOut (.int .i64 L.W.sum) [] 5) := by
  refine fc_of mixed T_ok Try.func27 rfl (by kernel_rfl) (by kernel_rfl) (by kernel_rfl) ?_
  repeat' ((conv => whnf); first | (refine br_dec (fun h => ?_) (fun h => ?_) <;> try (exfalso; (try dsimp only at h); omega)) | (refine br_ndec (fun h => ?_) (fun h => ?_) <;> try (exfalso; (try dsimp only at h); omega)) | refine br_seq (fun h => ?_) (fun h => ?_) | refine br_nseq (fun h => ?_) (fun h => ?_) | refine br_not (fun h => ?_) (fun h => ?_) | refine br_intro (fun h => ?_) (fun h => ?_) | refine cond_intro rfl ?_ | (refine cond_intro ⟨rfl, ?_⟩ ?_; (first | omega | (dsimp only; omega) | decide)) | (refine cond_intro ?_ ?_; (first | omega | (dsimp only; omega) | decide | (simp only [Nat.add_zero, Int.toNat_natCast, *]; omega))))
  all_goals (conv => whnf)
  refine vloop_of (fun sn : List Nat => ⟨[(10, .ptr 5 0 0 0), (3, .int .i64 (IntKind.i64.wrap (sumAt (L.W.ns.map (fun (n : Nat) => (n : Int))) sn)))], (5, some (.one false (.obj (.iter 3 0 L.W.bs L.W.ck sn)))) :: lkR L, 6⟩) (fun sn => sn.Nodup ∧ ∀ i ∈ sn, i < L.W.n) (fun sn => L.W.n - sn.length) [] [0, 1, 2, 3, 4, 5] [] ⟨rfl, ⟨rfl, rfl, trivial⟩, ⟨rfl, rfl, rfl, rfl, trivial⟩⟩ ⟨List.nodup_nil, by simp⟩ ?_
  rintro sn ⟨hd, hb⟩
  repeat' ((conv => whnf); first | (refine ⟨⟨rfl, rfl⟩, fun i hi hni => ?_, fun hall => ?_⟩) | (refine br_dec (fun h => ?_) (fun h => ?_) <;> try (exfalso; (try dsimp only at h); omega)) | (refine br_ndec (fun h => ?_) (fun h => ?_) <;> try (exfalso; (try dsimp only at h); omega)) | refine br_seq (fun h => ?_) (fun h => ?_) | refine br_nseq (fun h => ?_) (fun h => ?_) | refine br_not (fun h => ?_) (fun h => ?_) | refine br_intro (fun h => ?_) (fun h => ?_) | refine cond_intro rfl ?_ | (refine cond_intro ⟨rfl, ?_⟩ ?_; (first | omega | (dsimp only; omega) | decide)) | (refine cond_intro ?_ ?_; (first | omega | (dsimp only; omega) | decide | (simp only [Nat.add_zero, Int.toNat_natCast, *]; omega))))
  all_goals (conv => whnf)
  · have := nodup_cons_lt hd hb hi hni
    refine ⟨i :: sn, [0, 1, 2, 3, 4, 5], [], ⟨List.nodup_cons.2 ⟨hni, hd⟩, fun x hx => ?_⟩, by simp only [List.length_cons]; omega, ⟨rfl, ⟨rfl, ?_, trivial⟩, ⟨rfl, rfl, rfl, rfl, trivial⟩⟩⟩
    · rcases List.mem_cons.1 hx with rfl | hx
      · exact hi
      · exact hb x hx
    · refine congrArg (fun z => some (SV.int .i64 z)) ?_
      show IntKind.i64.wrap (IntKind.i64.wrap (sumAt (L.W.ns.map (fun (n : Nat) => (n : Int))) sn) + ((L.W.ns.getD i 0 : Nat) : Int)) = _
      rw [wrap_add]
      unfold sumAt
      rw [List.map_cons, List.sum_cons, Int.add_comm]
      congr 2
      simp [List.getD, hl ▸ hi]
  · have e : L.W.sum = IntKind.i64.wrap (sumAt (L.W.ns.map (fun (n : Nat) => (n : Int))) sn) := by unfold Wy.sum; rw [sumAt_all (by simpa using hl) hd hb hall]
    rw [e]
    exact ret_out (l := [0, 1, 2, 3, 4]) rfl rfl trivial allRw_nil

/-- The least of the times that were visited. -/
def minAt (ks : List Int) : List Nat → Int
  | [] => 0
  | [i] => ks.getD i 0
  | i :: sn => min (ks.getD i 0) (minAt ks sn)
theorem lk_NextN : Pure Try.prog 10 [.nptr] (.tup [.int .i64 0, .bool false]) := by
  refine fc_of mixed T_ok Try.func10 rfl (by kernel_rfl) (by kernel_rfl) (by kernel_rfl) ?_
  repeat' ((conv => whnf); first | (refine br_dec (fun h => ?_) (fun h => ?_) <;> try (exfalso; (try dsimp only at h); omega)) | (refine br_ndec (fun h => ?_) (fun h => ?_) <;> try (exfalso; (try dsimp only at h); omega)) | refine br_seq (fun h => ?_) (fun h => ?_) | refine br_nseq (fun h => ?_) (fun h => ?_) | refine br_not (fun h => ?_) (fun h => ?_) | refine br_intro (fun h => ?_) (fun h => ?_) | refine cond_intro rfl ?_ | (refine cond_intro ⟨rfl, ?_⟩ ?_; (first | omega | (dsimp only; omega) | decide)) | (refine cond_intro ?_ ?_; (first | omega | (dsimp only; omega) | decide | (simp only [Nat.add_zero, Int.toNat_natCast, *]; omega))))
  all_goals (conv => whnf)
  all_goals exact ret_pure rfl
end Go.Proofs.Ytpconbdoackcfaa
