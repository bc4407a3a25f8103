/- Several texts in one: XLkC, XLkC2, XLkC3, XLkC4, XLkC5, XLkC6, XLkC7, XLkC8, XLkA, XLkP, XLkD, XLkE, XLkF. -/
import Derived.Test.YtpconbdoackcfaaYPlain
import Derived.Test.YtpconbdoackcfaaYNil
import Derived.Test.YtpconbdoackcfaaTab
import Derived.Test.YtpconbdoackcfaaYGrp
import Derived.Test.YtpconbdoackcfaaYSum
import Derived.Test.YtpconbdoackcfaaYIdx
import Derived.Test.YtpconbdoackcfaaLay
import Derived.Test.YtpconbdoackcfaaYLaw
import Derived.Test.YtpconbdoackcfaaYLaid
/- Contracts of package link: faults. -/
namespace Go.Proofs.Ytpconbdoackcfaa
open Go.RowKit Go.Sy
attribute [local irreducible] vcall vloop vcallD retP
set_option maxRecDepth 100000
set_option linter.unusedVariables false
set_option linter.unusedSimpArgs false

theorem i64_succ {k : Nat} (h : k < 9223372036854775806) : IntKind.i64.wrap ((k : Int) + 1) = ((k + 1 : Nat) : Int) := by rw [w64_in (by omega) (by omega)]; rfl

/-- The error of a fault. -/
def ckE (p k a b f u e : Int) : Int := if p < 1 ∨ 16 < p ∨ k < 1 ∨ 4 < k then 4 else if a < 0 ∨ p ≤ a ∨ b < 0 ∨ p ≤ b ∨ a = b then 4 else if e < 0 ∨ (k = 2 ∨ k = 3) ∧ 100000 < e ∨ ¬ (k = 2 ∨ k = 3) ∧ 0 < e then 4 else if f < 0 ∨ u < f ∨ 1099511627776 < u then 14 else 0
theorem lk_Check (p k a b f u e : Int) : Pure Try.prog 13 [.int .i64 p, .agg [.int .i64 k, .int .i64 a, .int .i64 b, .int .i64 f, .int .i64 u, .int .i64 e]] (.int .i64 (ckE p k a b f u e)) := by
  refine fc_of mixed T_ok Try.func13 rfl (by kernel_rfl) (by kernel_rfl) (by kernel_rfl) ?_
  repeat' ((conv => whnf); first | (refine br_dec (fun h => ?_) (fun h => ?_) <;> try (exfalso; (try dsimp only at h); omega)) | (refine br_ndec (fun h => ?_) (fun h => ?_) <;> try (exfalso; (try dsimp only at h); omega)) | refine br_seq (fun h => ?_) (fun h => ?_) | refine br_nseq (fun h => ?_) (fun h => ?_) | refine br_not (fun h => ?_) (fun h => ?_) | refine br_intro (fun h => ?_) (fun h => ?_) | refine cond_intro rfl ?_ | (refine cond_intro ⟨rfl, ?_⟩ ?_; (first | omega | (dsimp only; omega) | decide)) | (refine cond_intro ?_ ?_; (first | omega | (dsimp only; omega) | decide | (simp only [Nat.add_zero, Int.toNat_natCast, *]; omega))))
  all_goals (conv => whnf)
  all_goals first
    | (have e0 : ckE p k a b f u e = 4 := (by unfold ckE; (repeat (first | rw [if_pos (by omega)] | rw [if_neg (by omega)] | rw [if_pos (by assumption)] | rw [if_neg (by assumption)] | rw [if_neg (bnf (by assumption))]))); rw [e0]; exact ret_pure rfl)
    | (have e0 : ckE p k a b f u e = 14 := (by unfold ckE; (repeat (first | rw [if_pos (by omega)] | rw [if_neg (by omega)] | rw [if_pos (by assumption)] | rw [if_neg (by assumption)] | rw [if_neg (bnf (by assumption))]))); rw [e0]; exact ret_pure rfl)
    | (have e0 : ckE p k a b f u e = 0 := (by unfold ckE; (repeat (first | rw [if_pos (by omega)] | rw [if_neg (by omega)] | rw [if_pos (by assumption)] | rw [if_neg (by assumption)] | rw [if_neg (bnf (by assumption))]))); rw [e0]; exact ret_pure rfl)
    | (exfalso; omega)
/-- Whether a fault is in force. -/
def ifB (f u t : Int) : Bool := decide (f ≤ t ∧ t < u)
theorem lk_inForce (k a b f u e t : Int) : Pure Try.prog 33 [.agg [.int .i64 k, .int .i64 a, .int .i64 b, .int .i64 f, .int .i64 u, .int .i64 e], .int .i64 t] (.bool (ifB f u t)) := by
  unfold ifB
  refine fc_of mixed T_ok Try.func33 rfl (by kernel_rfl) (by kernel_rfl) (by kernel_rfl) ?_
  repeat' ((conv => whnf); first | (refine br_dec (fun h => ?_) (fun h => ?_) <;> try (exfalso; (try dsimp only at h); omega)) | (refine br_ndec (fun h => ?_) (fun h => ?_) <;> try (exfalso; (try dsimp only at h); omega)) | refine br_seq (fun h => ?_) (fun h => ?_) | refine br_nseq (fun h => ?_) (fun h => ?_) | refine br_not (fun h => ?_) (fun h => ?_) | refine br_intro (fun h => ?_) (fun h => ?_) | refine cond_intro rfl ?_ | (refine cond_intro ⟨rfl, ?_⟩ ?_; (first | omega | (dsimp only; omega) | decide)) | (refine cond_intro ?_ ?_; (first | omega | (dsimp only; omega) | decide | (simp only [Nat.add_zero, Int.toNat_natCast, *]; omega))))
  all_goals (conv => whnf)
  all_goals exact ret_pure (by show SV.bool _ = SV.bool _; congr 1; (first | exact (decide_eq_true (by omega)).symm | exact (decide_eq_false (by omega)).symm | exact decide_eq_decide.2 (by omega)))
/-- Whether a fault concerns a transmission. -/
def cnB (k a b x y : Int) : Bool := decide (a = x ∧ b = y ∨ k = 4 ∧ a = y ∧ b = x)
theorem lk_concerns (k a b f u e x y : Int) : Pure Try.prog 34 [.agg [.int .i64 k, .int .i64 a, .int .i64 b, .int .i64 f, .int .i64 u, .int .i64 e], .int .i64 x, .int .i64 y] (.bool (cnB k a b x y)) := by
  unfold cnB
  refine fc_of mixed T_ok Try.func34 rfl (by kernel_rfl) (by kernel_rfl) (by kernel_rfl) ?_
  repeat' ((conv => whnf); first | (refine br_dec (fun h => ?_) (fun h => ?_) <;> try (exfalso; (try dsimp only at h); omega)) | (refine br_ndec (fun h => ?_) (fun h => ?_) <;> try (exfalso; (try dsimp only at h); omega)) | refine br_seq (fun h => ?_) (fun h => ?_) | refine br_nseq (fun h => ?_) (fun h => ?_) | refine br_not (fun h => ?_) (fun h => ?_) | refine br_intro (fun h => ?_) (fun h => ?_) | refine cond_intro rfl ?_ | (refine cond_intro ⟨rfl, ?_⟩ ?_; (first | omega | (dsimp only; omega) | decide)) | (refine cond_intro ?_ ?_; (first | omega | (dsimp only; omega) | decide | (simp only [Nat.add_zero, Int.toNat_natCast, *]; omega))))
  all_goals (conv => whnf)
  all_goals exact ret_pure (by show SV.bool _ = SV.bool _; congr 1; (first | exact (decide_eq_true (by omega)).symm | exact (decide_eq_false (by omega)).symm | exact decide_eq_decide.2 (by omega)))

/-- Faults, by columns. -/
structure Fa where
  n : Nat
  k : List Int
  a : List Int
  b : List Int
  f : List Int
  u : List Int
  e : List Int
structure Fa.Ok (F : Fa) : Prop where
  k : F.k.length = F.n
  a : F.a.length = F.n
  b : F.b.length = F.n
  f : F.f.length = F.n
  u : F.u.length = F.n
  e : F.e.length = F.n
def faB (ro : Bool) (F : Fa) : HB := .one ro (.cols F.n [.sc (.ints .i64 F.k), .sc (.ints .i64 F.a), .sc (.ints .i64 F.b), .sc (.ints .i64 F.f), .sc (.ints .i64 F.u), .sc (.ints .i64 F.e)])
def Fa.err (F : Fa) (p : Int) (i : Nat) : Int := ckE p (F.k.getD i 0) (F.a.getD i 0) (F.b.getD i 0) (F.f.getD i 0) (F.u.getD i 0) (F.e.getD i 0)
def Fa.errs (F : Fa) (p : Int) : Nat → Int
  | 0 => 0
  | k + 1 => if F.errs p k ≠ 0 then F.errs p k else F.err p k
theorem errs_stop {F : Fa} {p : Int} {k : Nat} (h0 : F.errs p k = 0) (h1 : F.err p k ≠ 0) : ∀ n, k < n → F.errs p n = F.err p k
  | 0, hh => by omega
  | n + 1, hh => by
    simp only [Fa.errs]
    by_cases e : k = n
    · subst e; rw [h0, if_neg (by decide)]
    · rw [errs_stop h0 h1 n (by omega), if_pos h1]
theorem errs_zero {F : Fa} {p : Int} {k : Nat} : ∀ n, F.errs p n = 0 → k < n → F.err p k = 0
  | 0, _, hh => by omega
  | n + 1, h, hh => by
    simp only [Fa.errs] at h
    by_cases e : F.errs p n ≠ 0
    · rw [if_pos e] at h; exact absurd h e
    · rw [if_neg e] at h
      by_cases e2 : k = n
      · subst e2; exact h
      · exact errs_zero n (Classical.not_not.1 e) (by omega)
def lnE (p l : Int) (F : Fa) : Int := if p < 1 ∨ 16 < p ∨ l < 1 ∨ 1000 < l then 4 else if 32 < F.n then 3 else F.errs p F.n

theorem seg_all {α : Type} {l : List α} {n : Nat} (h : l.length = n) : seg 0 n l = l := by
  unfold seg; rw [List.drop_zero, List.take_of_length_le (by omega)]
theorem fa_Clone (F : Fa) (hn : F.n ≤ 1000000) (ho : F.Ok) : FC Try.prog 2 24 [.sl 1 0 0 F.n] [(1, some (faB true F))] (isOut (.sl 2 0 0 F.n) [(2, some (faB false F))] 3) := by
  obtain ⟨h1, h2, h3, h4, h5, h6⟩ := ho
  obtain ⟨n, k, a, b, f, u, e⟩ := F
  unfold faB
  dsimp only at *
  cases n with
  | zero =>
    obtain rfl := List.eq_nil_of_length_eq_zero h1
    obtain rfl := List.eq_nil_of_length_eq_zero h2
    obtain rfl := List.eq_nil_of_length_eq_zero h3
    obtain rfl := List.eq_nil_of_length_eq_zero h4
    obtain rfl := List.eq_nil_of_length_eq_zero h5
    obtain rfl := List.eq_nil_of_length_eq_zero h6
    refine fc_nil rfl ?_
    refine fc_of mixed T_ok Try.func24 rfl (by kernel_rfl) (by kernel_rfl) (by kernel_rfl) ?_
    repeat' ((conv => whnf); first | (refine br_dec (fun h => ?_) (fun h => ?_) <;> try (exfalso; (try dsimp only at h); omega)) | (refine br_ndec (fun h => ?_) (fun h => ?_) <;> try (exfalso; (try dsimp only at h); omega)) | refine br_seq (fun h => ?_) (fun h => ?_) | refine br_nseq (fun h => ?_) (fun h => ?_) | refine br_not (fun h => ?_) (fun h => ?_) | refine br_intro (fun h => ?_) (fun h => ?_) | refine cond_intro rfl ?_ | (refine cond_intro ⟨rfl, ?_⟩ ?_; (first | omega | (dsimp only; omega) | decide)) | (refine cond_intro ?_ ?_; (first | omega | (dsimp only; omega) | decide | (simp only [Nat.add_zero, Int.toNat_natCast, *]; omega))) | (refine And.intro ?_ ?_))
    all_goals (conv => whnf)
    all_goals first
      | exact retP_mono (fun _ _ _ h => .inl h) (ret_out (l := [0, 1]) rfl rfl trivial allRw_nil)
      | exact retP_mono (fun _ _ _ h => .inr h) (ret_out (l := [0, 1, 3]) rfl rfl ⟨rfl, trivial⟩ (allRw_cons allRw_nil))
      | decide
  | succ n =>
    refine fc_of mixed T_ok Try.func24 rfl (by kernel_rfl) (by kernel_rfl) (by kernel_rfl) ?_
    repeat' ((conv => whnf); first | (refine br_dec (fun h => ?_) (fun h => ?_) <;> try (exfalso; (try dsimp only at h); omega)) | (refine br_ndec (fun h => ?_) (fun h => ?_) <;> try (exfalso; (try dsimp only at h); omega)) | refine br_seq (fun h => ?_) (fun h => ?_) | refine br_nseq (fun h => ?_) (fun h => ?_) | refine br_not (fun h => ?_) (fun h => ?_) | refine br_intro (fun h => ?_) (fun h => ?_) | refine cond_intro rfl ?_ | (refine cond_intro ⟨rfl, ?_⟩ ?_; (first | omega | (dsimp only; omega) | decide)) | (refine cond_intro ?_ ?_; (first | omega | (dsimp only; omega) | decide | (simp only [Nat.add_zero, Int.toNat_natCast, *]; omega))))
    all_goals (conv => whnf)
    all_goals (rw [Nat.zero_add (n + 1), seg_all h1, seg_all h2, seg_all h3, seg_all h4, seg_all h5, seg_all h6]; exact ret_out (l := [0, 1, 3]) rfl rfl ⟨rfl, trivial⟩ (allRw_cons allRw_nil))
end Go.Proofs.Ytpconbdoackcfaa

/- Contracts of package link: a link, what is under way, the next arrival. -/
namespace Go.Proofs.Ytpconbdoackcfaa
open Go.RowKit Go.Sy
attribute [local irreducible] vcall vloop vcallD retP
set_option maxRecDepth 100000
set_option linter.unusedVariables false
set_option linter.unusedSimpArgs false

/-- Arrivals, by columns. -/
structure Ar where
  t : List Int
  f : List Int
  o : List Int
  k : List Int
  x : List ByteArray
abbrev ar0 : Ar := ⟨[], [], [], [], []⟩
def arB (n : Nat) (r : Ar) : Blk := .cols n [.sc (.ints .i64 r.t), .sc (.ints .i64 r.f), .sc (.ints .i64 r.o), .sc (.ints .i64 r.k), .sc (.strs r.x)]
/-- What is under way: times, and for each the arrivals. -/
structure Wy where
  n : Nat
  ks : List Int
  ns : List Nat
  rs : List Ar
  bs : List Nat
  ck : Nat
structure Lk where
  pa : Int
  la : Int
  F : Fa
  nw : Int
  se : Int
  W : Wy
abbrev wyM (ro : Bool) (h : Nat) (W : Wy) : HB := .one ro (.obj (.map false false W.n [.ints .i64 W.ks] [.own h W.ns] W.bs W.ck))
abbrev wyF (ro : Bool) (W : Wy) : HB := .fam ro (fun x => x < W.n) (fun x => arB (W.ns.getD x 0) (W.rs.getD x ar0))
abbrev lkC (ro : Bool) (L : Lk) : HB := .one ro (.cells [.int .i64 L.pa, .int .i64 L.la, .sl 2 0 0 L.F.n, .int .i64 L.nw, .int .i64 L.se, .map 3 0])
/-- A link that is only read, with its table; and one that turns. -/
abbrev lkR (L : Lk) : Heap := [(1, some (lkC true L)), (2, some (faB true L.F)), (3, some (wyM true 4 L.W))]
abbrev lkH (L : Lk) : Heap := [(1, some (lkC false L)), (2, some (faB true L.F)), (3, some (wyM false 4 L.W)), (4, some (wyF false L.W))]

theorem lk_party (L : Lk) (x : Int) : FC Try.prog 5 25 [.ptr 1 0 0 0, .int .i64 x] (lkR L) (isOut (.bool (decide (0 ≤ x ∧ x < L.pa))) [] 5) := by
  refine fc_of mixed T_ok Try.func25 rfl (by kernel_rfl) (by kernel_rfl) (by kernel_rfl) ?_
  repeat' ((conv => whnf); first | (refine br_dec (fun h => ?_) (fun h => ?_) <;> try (exfalso; (try dsimp only at h); omega)) | (refine br_ndec (fun h => ?_) (fun h => ?_) <;> try (exfalso; (try dsimp only at h); omega)) | refine br_seq (fun h => ?_) (fun h => ?_) | refine br_nseq (fun h => ?_) (fun h => ?_) | refine br_not (fun h => ?_) (fun h => ?_) | refine br_intro (fun h => ?_) (fun h => ?_) | refine cond_intro rfl ?_ | (refine cond_intro ⟨rfl, ?_⟩ ?_; (first | omega | (dsimp only; omega) | decide)) | (refine cond_intro ?_ ?_; (first | omega | (dsimp only; omega) | decide | (simp only [Nat.add_zero, Int.toNat_natCast, *]; omega))))
  all_goals (conv => whnf)
  all_goals first
    | (rw [show decide (0 ≤ x ∧ x < L.pa) = decide (x < L.pa) from decide_eq_decide.2 (by omega)]; exact ret_out (l := [0, 1, 2, 3, 4]) rfl rfl trivial allRw_nil)
    | (rw [show decide (0 ≤ x ∧ x < L.pa) = false from decide_eq_false (by omega)]; exact ret_out (l := [0, 1, 2, 3, 4]) rfl rfl trivial allRw_nil)
theorem lk_SentN : Pure Try.prog 11 [.nptr] (.int .i64 0) := by
  refine fc_of mixed T_ok Try.func11 rfl (by kernel_rfl) (by kernel_rfl) (by kernel_rfl) ?_
  repeat' ((conv => whnf); first | (refine br_dec (fun h => ?_) (fun h => ?_) <;> try (exfalso; (try dsimp only at h); omega)) | (refine br_ndec (fun h => ?_) (fun h => ?_) <;> try (exfalso; (try dsimp only at h); omega)) | refine br_seq (fun h => ?_) (fun h => ?_) | refine br_nseq (fun h => ?_) (fun h => ?_) | refine br_not (fun h => ?_) (fun h => ?_) | refine br_intro (fun h => ?_) (fun h => ?_) | refine cond_intro rfl ?_ | (refine cond_intro ⟨rfl, ?_⟩ ?_; (first | omega | (dsimp only; omega) | decide)) | (refine cond_intro ?_ ?_; (first | omega | (dsimp only; omega) | decide | (simp only [Nat.add_zero, Int.toNat_natCast, *]; omega))))
  all_goals (conv => whnf)
  all_goals exact ret_pure rfl
theorem lk_Sent (L : Lk) : FC Try.prog 5 11 [.ptr 1 0 0 0] (lkR L) (isOut (.int .i64 L.se) [] 5) := by
  refine fc_of mixed T_ok Try.func11 rfl (by kernel_rfl) (by kernel_rfl) (by kernel_rfl) ?_
  repeat' ((conv => whnf); first | (refine br_dec (fun h => ?_) (fun h => ?_) <;> try (exfalso; (try dsimp only at h); omega)) | (refine br_ndec (fun h => ?_) (fun h => ?_) <;> try (exfalso; (try dsimp only at h); omega)) | refine br_seq (fun h => ?_) (fun h => ?_) | refine br_nseq (fun h => ?_) (fun h => ?_) | refine br_not (fun h => ?_) (fun h => ?_) | refine br_intro (fun h => ?_) (fun h => ?_) | refine cond_intro rfl ?_ | (refine cond_intro ⟨rfl, ?_⟩ ?_; (first | omega | (dsimp only; omega) | decide)) | (refine cond_intro ?_ ?_; (first | omega | (dsimp only; omega) | decide | (simp only [Nat.add_zero, Int.toNat_natCast, *]; omega))))
  all_goals (conv => whnf)
  all_goals exact ret_out (l := [0, 1, 2, 3, 4]) rfl rfl trivial allRw_nil

def Wy.sum (W : Wy) : Int := IntKind.i64.wrap ((W.ns.map (fun (n : Nat) => (n : Int))).sum)
theorem lk_underWay (L : Lk) (hl : L.W.ns.length = L.W.n) : FC Try.prog 5 27 [.ptr 1 0 0 0] (lkR L) (isOut (.int .i64 L.W.sum) [] 5) := by
  refine fc_of mixed T_ok Try.func27 rfl (by kernel_rfl) (by kernel_rfl) (by kernel_rfl) ?_
  repeat' ((conv => whnf); first | (refine br_dec (fun h => ?_) (fun h => ?_) <;> try (exfalso; (try dsimp only at h); omega)) | (refine br_ndec (fun h => ?_) (fun h => ?_) <;> try (exfalso; (try dsimp only at h); omega)) | refine br_seq (fun h => ?_) (fun h => ?_) | refine br_nseq (fun h => ?_) (fun h => ?_) | refine br_not (fun h => ?_) (fun h => ?_) | refine br_intro (fun h => ?_) (fun h => ?_) | refine cond_intro rfl ?_ | (refine cond_intro ⟨rfl, ?_⟩ ?_; (first | omega | (dsimp only; omega) | decide)) | (refine cond_intro ?_ ?_; (first | omega | (dsimp only; omega) | decide | (simp only [Nat.add_zero, Int.toNat_natCast, *]; omega))))
  all_goals (conv => whnf)
  refine vloop_of (fun sn : List Nat => ⟨[(10, .ptr 5 0 0 0), (3, .int .i64 (IntKind.i64.wrap (sumAt (L.W.ns.map (fun (n : Nat) => (n : Int))) sn)))], (5, some (.one false (.obj (.iter 3 0 L.W.bs L.W.ck sn)))) :: lkR L, 6⟩) (fun sn => sn.Nodup ∧ ∀ i ∈ sn, i < L.W.n) (fun sn => L.W.n - sn.length) [] [0, 1, 2, 3, 4, 5] [] ⟨rfl, ⟨rfl, rfl, trivial⟩, ⟨rfl, rfl, rfl, rfl, trivial⟩⟩ ⟨List.nodup_nil, by simp⟩ ?_
  rintro sn ⟨hd, hb⟩
  repeat' ((conv => whnf); first | (refine ⟨⟨rfl, rfl⟩, fun i hi hni => ?_, fun hall => ?_⟩) | (refine br_dec (fun h => ?_) (fun h => ?_) <;> try (exfalso; (try dsimp only at h); omega)) | (refine br_ndec (fun h => ?_) (fun h => ?_) <;> try (exfalso; (try dsimp only at h); omega)) | refine br_seq (fun h => ?_) (fun h => ?_) | refine br_nseq (fun h => ?_) (fun h => ?_) | refine br_not (fun h => ?_) (fun h => ?_) | refine br_intro (fun h => ?_) (fun h => ?_) | refine cond_intro rfl ?_ | (refine cond_intro ⟨rfl, ?_⟩ ?_; (first | omega | (dsimp only; omega) | decide)) | (refine cond_intro ?_ ?_; (first | omega | (dsimp only; omega) | decide | (simp only [Nat.add_zero, Int.toNat_natCast, *]; omega))))
  all_goals (conv => whnf)
  · have := nodup_cons_lt hd hb hi hni
    refine ⟨i :: sn, [0, 1, 2, 3, 4, 5], [], ⟨List.nodup_cons.2 ⟨hni, hd⟩, fun x hx => ?_⟩, by simp only [List.length_cons]; omega, ⟨rfl, ⟨rfl, ?_, trivial⟩, ⟨rfl, rfl, rfl, rfl, trivial⟩⟩⟩
    · rcases List.mem_cons.1 hx with rfl | hx
      · exact hi
      · exact hb x hx
    · refine congrArg (fun z => some (SV.int .i64 z)) ?_
      show IntKind.i64.wrap (IntKind.i64.wrap (sumAt (L.W.ns.map (fun (n : Nat) => (n : Int))) sn) + ((L.W.ns.getD i 0 : Nat) : Int)) = _
      rw [wrap_add]
      unfold sumAt
      rw [List.map_cons, List.sum_cons, Int.add_comm]
      congr 2
      simp [List.getD, hl ▸ hi]
  · have e : L.W.sum = IntKind.i64.wrap (sumAt (L.W.ns.map (fun (n : Nat) => (n : Int))) sn) := by unfold Wy.sum; rw [sumAt_all (by simpa using hl) hd hb hall]
    rw [e]
    exact ret_out (l := [0, 1, 2, 3, 4]) rfl rfl trivial allRw_nil

/-- The least of the times that were visited. -/
def minAt (ks : List Int) : List Nat → Int
  | [] => 0
  | [i] => ks.getD i 0
  | i :: sn => min (ks.getD i 0) (minAt ks sn)
theorem lk_NextN : Pure Try.prog 10 [.nptr] (.tup [.int .i64 0, .bool false]) := by
  refine fc_of mixed T_ok Try.func10 rfl (by kernel_rfl) (by kernel_rfl) (by kernel_rfl) ?_
  repeat' ((conv => whnf); first | (refine br_dec (fun h => ?_) (fun h => ?_) <;> try (exfalso; (try dsimp only at h); omega)) | (refine br_ndec (fun h => ?_) (fun h => ?_) <;> try (exfalso; (try dsimp only at h); omega)) | refine br_seq (fun h => ?_) (fun h => ?_) | refine br_nseq (fun h => ?_) (fun h => ?_) | refine br_not (fun h => ?_) (fun h => ?_) | refine br_intro (fun h => ?_) (fun h => ?_) | refine cond_intro rfl ?_ | (refine cond_intro ⟨rfl, ?_⟩ ?_; (first | omega | (dsimp only; omega) | decide)) | (refine cond_intro ?_ ?_; (first | omega | (dsimp only; omega) | decide | (simp only [Nat.add_zero, Int.toNat_natCast, *]; omega))))
  all_goals (conv => whnf)
  all_goals exact ret_pure rfl
end Go.Proofs.Ytpconbdoackcfaa

/- Contracts of package link: a new link, the times of arrival, the next arrival. -/
namespace Go.Proofs.Ytpconbdoackcfaa
open Go.RowKit Go.Sy
attribute [local irreducible] vcall vloop vcallD retP
set_option maxRecDepth 100000
set_option linter.unusedVariables false
set_option linter.unusedSimpArgs false

theorem lk_New_err (p l : Int) (F : Fa) (he : lnE p l F ≠ 0) : FC Try.prog 2 6 [.int .i64 p, .int .i64 l, .sl 1 0 0 F.n] [(1, some (faB true F))] (isOut (.tup [.nptr, .int .i64 (lnE p l F)]) [] 2) := by
  unfold lnE at he ⊢
  by_cases h1 : p < 1 ∨ 16 < p ∨ l < 1 ∨ 1000 < l
  · rw [if_pos h1] at he ⊢
    refine fc_of mixed T_ok Try.func6 rfl (by kernel_rfl) (by kernel_rfl) (by kernel_rfl) ?_
    repeat' ((conv => whnf); first | (refine br_dec (fun h => ?_) (fun h => ?_) <;> try (exfalso; (try dsimp only at h); omega)) | (refine br_ndec (fun h => ?_) (fun h => ?_) <;> try (exfalso; (try dsimp only at h); omega)) | refine br_seq (fun h => ?_) (fun h => ?_) | refine br_nseq (fun h => ?_) (fun h => ?_) | refine br_not (fun h => ?_) (fun h => ?_) | refine br_intro (fun h => ?_) (fun h => ?_) | refine cond_intro rfl ?_ | (refine cond_intro ⟨rfl, ?_⟩ ?_; (first | omega | (dsimp only; omega) | decide)) | (refine cond_intro ?_ ?_; (first | omega | (dsimp only; omega) | decide | (simp only [Nat.add_zero, Int.toNat_natCast, *]; omega))))
    all_goals (conv => whnf)
    all_goals first
      | exact ret_out (l := [0, 1]) rfl rfl trivial allRw_nil
      | (exfalso; omega)
  rw [if_neg h1] at he ⊢
  by_cases h2 : 32 < F.n
  · rw [if_pos h2] at he ⊢
    refine fc_of mixed T_ok Try.func6 rfl (by kernel_rfl) (by kernel_rfl) (by kernel_rfl) ?_
    repeat' ((conv => whnf); first | (refine br_dec (fun h => ?_) (fun h => ?_) <;> try (exfalso; (try dsimp only at h); omega)) | (refine br_ndec (fun h => ?_) (fun h => ?_) <;> try (exfalso; (try dsimp only at h); omega)) | refine br_seq (fun h => ?_) (fun h => ?_) | refine br_nseq (fun h => ?_) (fun h => ?_) | refine br_not (fun h => ?_) (fun h => ?_) | refine br_intro (fun h => ?_) (fun h => ?_) | refine cond_intro rfl ?_ | (refine cond_intro ⟨rfl, ?_⟩ ?_; (first | omega | (dsimp only; omega) | decide)) | (refine cond_intro ?_ ?_; (first | omega | (dsimp only; omega) | decide | (simp only [Nat.add_zero, Int.toNat_natCast, *]; omega))))
    all_goals (conv => whnf)
    all_goals first
      | exact ret_out (l := [0, 1]) rfl rfl trivial allRw_nil
      | (exfalso; omega)
  rw [if_neg h2] at he ⊢
  refine fc_of mixed T_ok Try.func6 rfl (by kernel_rfl) (by kernel_rfl) (by kernel_rfl) ?_
  repeat' ((conv => whnf); first | (refine br_dec (fun h => ?_) (fun h => ?_) <;> try (exfalso; (try dsimp only at h); omega)) | (refine br_ndec (fun h => ?_) (fun h => ?_) <;> try (exfalso; (try dsimp only at h); omega)) | refine br_seq (fun h => ?_) (fun h => ?_) | refine br_nseq (fun h => ?_) (fun h => ?_) | refine br_not (fun h => ?_) (fun h => ?_) | refine br_intro (fun h => ?_) (fun h => ?_) | refine cond_intro rfl ?_ | (refine cond_intro ⟨rfl, ?_⟩ ?_; (first | omega | (dsimp only; omega) | decide)) | (refine cond_intro ?_ ?_; (first | omega | (dsimp only; omega) | decide | (simp only [Nat.add_zero, Int.toNat_natCast, *]; omega))))
  all_goals (conv => whnf)
  refine vloop_of (fun k : Nat => ⟨[(0, .int .i64 p), (1, .int .i64 l), (2, .sl 1 0 0 F.n), (28, .sl 1 0 0 F.n), (29, .int .i64 F.n), (30, .int .i64 k)], [(1, some (faB true F))], 2⟩) (fun k => k ≤ F.n ∧ F.errs p k = 0) (fun k => F.n - k) 0 [0, 1] [] ⟨rfl, ⟨rfl, rfl, rfl, rfl, rfl, rfl, trivial⟩, ⟨rfl, trivial⟩⟩ ⟨by omega, rfl⟩ ?_
  rintro k ⟨hk, hc⟩
  by_cases hk2 : k < F.n
  · have c := lk_Check p (F.k.getD k 0) (F.a.getD k 0) (F.b.getD k 0) (F.f.getD k 0) (F.u.getD k 0) (F.e.getD k 0)
    by_cases hz : F.err p k = 0
    · have e1 : F.errs p (k + 1) = 0 := by simp only [Fa.errs, hc, hz]; rfl
      unfold Fa.err at hz
      rw [hz] at c
      repeat' ((conv => whnf); first | (refine vcall_pure (c) rfl rfl rfl ?_) | (refine vcallD_pure (c) rfl rfl rfl ?_) | (refine br_dec (fun h => ?_) (fun h => ?_) <;> try (exfalso; (try dsimp only at h); omega)) | (refine br_ndec (fun h => ?_) (fun h => ?_) <;> try (exfalso; (try dsimp only at h); omega)) | refine br_seq (fun h => ?_) (fun h => ?_) | refine br_nseq (fun h => ?_) (fun h => ?_) | refine br_not (fun h => ?_) (fun h => ?_) | refine br_intro (fun h => ?_) (fun h => ?_) | refine cond_intro rfl ?_ | (refine cond_intro ⟨rfl, ?_⟩ ?_; (first | omega | (dsimp only; omega) | decide)) | (refine cond_intro ?_ ?_; (first | omega | (dsimp only; omega) | decide | (simp only [Nat.add_zero, Int.toNat_natCast, *]; omega))))
      all_goals (conv => whnf)
      all_goals first
        | exact ⟨k + 1, [0, 1], [], ⟨by omega, e1⟩, by omega, ⟨rfl, ⟨rfl, rfl, rfl, rfl, rfl, congrArg (fun z => some (SV.int .i64 z)) (i64_succ (by omega)), trivial⟩, ⟨rfl, trivial⟩⟩⟩
        | (exfalso; omega)
    · rw [errs_stop hc hz F.n hk2]
      unfold Fa.err at hz ⊢
      generalize ckE p (F.k.getD k 0) (F.a.getD k 0) (F.b.getD k 0) (F.f.getD k 0) (F.u.getD k 0) (F.e.getD k 0) = e at *
      repeat' ((conv => whnf); first | (refine vcall_pure (c) rfl rfl rfl ?_) | (refine vcallD_pure (c) rfl rfl rfl ?_) | (refine br_dec (fun h => ?_) (fun h => ?_) <;> try (exfalso; (try dsimp only at h); omega)) | (refine br_ndec (fun h => ?_) (fun h => ?_) <;> try (exfalso; (try dsimp only at h); omega)) | refine br_seq (fun h => ?_) (fun h => ?_) | refine br_nseq (fun h => ?_) (fun h => ?_) | refine br_not (fun h => ?_) (fun h => ?_) | refine br_intro (fun h => ?_) (fun h => ?_) | refine cond_intro rfl ?_ | (refine cond_intro ⟨rfl, ?_⟩ ?_; (first | omega | (dsimp only; omega) | decide)) | (refine cond_intro ?_ ?_; (first | omega | (dsimp only; omega) | decide | (simp only [Nat.add_zero, Int.toNat_natCast, *]; omega))))
      all_goals (conv => whnf)
      all_goals first
        | exact ret_out (l := [0, 1]) rfl rfl trivial allRw_nil
        | (exfalso; omega)
  · have e : k = F.n := by omega
    subst e
    exact absurd hc he
abbrev wy0 : Wy := ⟨0, [], [], [], [], 0⟩
theorem lk_New_ok (p l : Int) (F : Fa) (he : lnE p l F = 0) (ho : F.Ok) : FC Try.prog 2 6 [.int .i64 p, .int .i64 l, .sl 1 0 0 F.n] [(1, some (faB true F))] (isOut (.tup [.ptr 2 0 0 0, .int .i64 0]) [(2, some (.one false (.cells [.int .i64 p, .int .i64 l, .sl 3 0 0 F.n, .int .i64 0, .int .i64 0, .map 4 0]))), (3, some (faB false F)), (4, some (wyM false 5 wy0)), (5, some (wyF false wy0))] 6) := by
  unfold lnE at he
  by_cases h1 : p < 1 ∨ 16 < p ∨ l < 1 ∨ 1000 < l
  · rw [if_pos h1] at he; omega
  rw [if_neg h1] at he
  by_cases h2 : 32 < F.n
  · rw [if_pos h2] at he; omega
  rw [if_neg h2] at he
  have cc := fa_Clone F (by omega) ho
  refine fc_of mixed T_ok Try.func6 rfl (by kernel_rfl) (by kernel_rfl) (by kernel_rfl) ?_
  repeat' ((conv => whnf); first | (refine br_dec (fun h => ?_) (fun h => ?_) <;> try (exfalso; (try dsimp only at h); omega)) | (refine br_ndec (fun h => ?_) (fun h => ?_) <;> try (exfalso; (try dsimp only at h); omega)) | refine br_seq (fun h => ?_) (fun h => ?_) | refine br_nseq (fun h => ?_) (fun h => ?_) | refine br_not (fun h => ?_) (fun h => ?_) | refine br_intro (fun h => ?_) (fun h => ?_) | refine cond_intro rfl ?_ | (refine cond_intro ⟨rfl, ?_⟩ ?_; (first | omega | (dsimp only; omega) | decide)) | (refine cond_intro ?_ ?_; (first | omega | (dsimp only; omega) | decide | (simp only [Nat.add_zero, Int.toNat_natCast, *]; omega))))
  all_goals (conv => whnf)
  refine vloop_of (fun k : Nat => ⟨[(0, .int .i64 p), (1, .int .i64 l), (2, .sl 1 0 0 F.n), (28, .sl 1 0 0 F.n), (29, .int .i64 F.n), (30, .int .i64 k)], [(1, some (faB true F))], 2⟩) (fun k => k ≤ F.n) (fun k => F.n - k) 0 [0, 1] [] ⟨rfl, ⟨rfl, rfl, rfl, rfl, rfl, rfl, trivial⟩, ⟨rfl, trivial⟩⟩ (by omega) ?_
  intro k hk
  by_cases hk2 : k < F.n
  · have c := lk_Check p (F.k.getD k 0) (F.a.getD k 0) (F.b.getD k 0) (F.f.getD k 0) (F.u.getD k 0) (F.e.getD k 0)
    have hz := errs_zero F.n he hk2
    unfold Fa.err at hz
    rw [hz] at c
    clear cc
    repeat' ((conv => whnf); first | (refine vcall_pure (c) rfl rfl rfl ?_) | (refine vcallD_pure (c) rfl rfl rfl ?_) | (refine br_dec (fun h => ?_) (fun h => ?_) <;> try (exfalso; (try dsimp only at h); omega)) | (refine br_ndec (fun h => ?_) (fun h => ?_) <;> try (exfalso; (try dsimp only at h); omega)) | refine br_seq (fun h => ?_) (fun h => ?_) | refine br_nseq (fun h => ?_) (fun h => ?_) | refine br_not (fun h => ?_) (fun h => ?_) | refine br_intro (fun h => ?_) (fun h => ?_) | refine cond_intro rfl ?_ | (refine cond_intro ⟨rfl, ?_⟩ ?_; (first | omega | (dsimp only; omega) | decide)) | (refine cond_intro ?_ ?_; (first | omega | (dsimp only; omega) | decide | (simp only [Nat.add_zero, Int.toNat_natCast, *]; omega))))
    all_goals (conv => whnf)
    all_goals first
      | exact ⟨k + 1, [0, 1], [], by omega, by omega, ⟨rfl, ⟨rfl, rfl, rfl, rfl, rfl, congrArg (fun z => some (SV.int .i64 z)) (i64_succ (by omega)), trivial⟩, ⟨rfl, trivial⟩⟩⟩
      | (exfalso; omega)
  · have e : k = F.n := by omega
    subst e
    repeat' ((conv => whnf); first | (refine vcall_out (l :=  [0, 1]) (cc ) ⟨rfl, rfl, rfl, rfl, (by (repeat' (first | exact trivial | exact GB_wf | exact fun _ _ => rfl | constructor)); first | done | fail), (by (repeat' (first | exact trivial | exact GB_fits rfl | constructor)); first | done | fail)⟩ ?_) | (refine vcallD_out (l :=  [0, 1]) (cc ) ⟨rfl, rfl, rfl, rfl, (by (repeat' (first | exact trivial | exact GB_wf | exact fun _ _ => rfl | constructor)); first | done | fail), (by (repeat' (first | exact trivial | exact GB_fits rfl | constructor)); first | done | fail)⟩ ?_) | (refine br_dec (fun h => ?_) (fun h => ?_) <;> try (exfalso; (try dsimp only at h); omega)) | (refine br_ndec (fun h => ?_) (fun h => ?_) <;> try (exfalso; (try dsimp only at h); omega)) | refine br_seq (fun h => ?_) (fun h => ?_) | refine br_nseq (fun h => ?_) (fun h => ?_) | refine br_not (fun h => ?_) (fun h => ?_) | refine br_intro (fun h => ?_) (fun h => ?_) | refine cond_intro rfl ?_ | (refine cond_intro ⟨rfl, ?_⟩ ?_; (first | omega | (dsimp only; omega) | decide)) | (refine cond_intro ?_ ?_; (first | omega | (dsimp only; omega) | decide | (simp only [Nat.add_zero, Int.toNat_natCast, *]; omega))))
    all_goals (conv => whnf)
    all_goals first
      | (exfalso; omega)
      | exact ret_up (l := [0, 1, 4, 2, 3, 5]) [.relab (fun h q => if h = 5 ∧ q < 0 then none else none) (fun _ => 0) [(3, some (wyM false 5 wy0)), (5, some (wyF false wy0))] [] 1] ⟨relab_map_start (n := 5) (bh := 3) (fun x => arB (([] : List Nat).getD x 0) (([] : List Ar).getD x ar0)) rfl (by decide), rfl, rfl, ⟨rfl, rfl, rfl, rfl, trivial⟩⟩ (allRw_cons (allRw_cons (allRw_cons (allRw_fam allRw_nil))))

/-- Whether fault k is in force and concerns a transmission. -/
def Fa.act (F : Fa) (t x y : Int) (k : Nat) : Bool := ifB (F.f.getD k 0) (F.u.getD k 0) t && cnB (F.k.getD k 0) (F.a.getD k 0) (F.b.getD k 0) x y
def Fa.lost (F : Fa) (t x y : Int) : Nat → Bool
  | 0 => false
  | k + 1 => F.lost t x y k || (F.act t x y k && decide (F.k.getD k 0 = 1 ∨ F.k.getD k 0 = 4))
def Fa.arr (F : Fa) (t x y a : Int) : Nat → Int
  | 0 => a
  | k + 1 => if (F.act t x y k && decide (F.k.getD k 0 = 2)) = true then IntKind.i64.wrap (F.arr t x y a k + F.e.getD k 0) else F.arr t x y a k
def Fa.cp (F : Fa) (t x y : Int) : Nat → List Int
  | 0 => []
  | k + 1 => if (F.act t x y k && decide (F.k.getD k 0 = 3)) = true then F.cp t x y k ++ [F.e.getD k 0] else F.cp t x y k
def Fa.cn (F : Fa) (t x y : Int) : Nat → Nat
  | 0 => 0
  | k + 1 => if (F.act t x y k && decide (F.k.getD k 0 = 3)) = true then F.cn t x y k + 1 else F.cn t x y k
theorem cn_le (F : Fa) (t x y : Int) : ∀ k, F.cn t x y k ≤ k
  | 0 => Nat.le_refl _
  | k + 1 => by
    have := cn_le F t x y k
    simp only [Fa.cn]
    split <;> omega
theorem cp_len (F : Fa) (t x y : Int) : ∀ k, (F.cp t x y k).length = F.cn t x y k
  | 0 => rfl
  | k + 1 => by
    have := cp_len F t x y k
    simp only [Fa.cn, Fa.cp]
    split
    · simp [this]
    · exact this
theorem lost_mono {F : Fa} {t x y : Int} {k : Nat} (h : F.lost t x y k = true) : ∀ n, k ≤ n → F.lost t x y n = true
  | 0, hh => by have : k = 0 := by omega
                subst this; exact h
  | n + 1, hh => by
    by_cases e : k = n + 1
    · subst e; exact h
    · simp only [Fa.lost, lost_mono h n (by omega), Bool.true_or]
end Go.Proofs.Ytpconbdoackcfaa

/- Contracts of package link: the times of arrival. -/
namespace Go.Proofs.Ytpconbdoackcfaa
open Go.RowKit Go.Sy
attribute [local irreducible] vcall vloop vcallD retP
set_option maxRecDepth 100000
set_option linter.unusedVariables false
set_option linter.unusedSimpArgs false

theorem act_split {F : Fa} {t x y : Int} {k : Nat} : (F.act t x y k = true ∧ ifB (F.f.getD k 0) (F.u.getD k 0) t = true ∧ cnB (F.k.getD k 0) (F.a.getD k 0) (F.b.getD k 0) x y = true) ∨ (F.act t x y k = false ∧ (ifB (F.f.getD k 0) (F.u.getD k 0) t = false ∨ (ifB (F.f.getD k 0) (F.u.getD k 0) t = true ∧ cnB (F.k.getD k 0) (F.a.getD k 0) (F.b.getD k 0) x y = false))) := by
  unfold Fa.act
  cases ifB (F.f.getD k 0) (F.u.getD k 0) t <;> cases cnB (F.k.getD k 0) (F.a.getD k 0) (F.b.getD k 0) x y <;> simp
abbrev tmS (L : Lk) (t x y : Int) (k : Nat) : VS := ⟨[(1, .int .i64 t), (2, .int .i64 x), (3, .int .i64 y), (9, .int .i64 (L.F.arr t x y (IntKind.i64.wrap (t + L.la)) k)), (10, .sl 5 0 0 (L.F.cn t x y k)), (25, .sl 2 0 0 L.F.n), (26, .int .i64 L.F.n), (27, .int .i64 k)], (5, some (.one false (.cols (L.F.cn t x y k) [.sc (.ints .i64 (L.F.cp t x y k))]))) :: lkR L, 6⟩
/-- A round of the faults, where the text is not lost. -/
theorem tm_round (L : Lk) (t x y : Int) (hn : L.F.n ≤ 1000) (k : Nat) (hk2 : k < L.F.n) (hl : L.F.lost t x y k = false) (K : Exit → VS → Prop) (hN : L.F.lost t x y (k + 1) = false → ∀ v, (∃ l u, upK u v (fun v => Weak 5 l v (tmS L t x y (k + 1)))) → K .normal v) (hR : L.F.lost t x y (k + 1) = true → ∀ v, retK T 5 [.tmp 8] (isOut .nsl [] 5) .ret v → K .ret v) : vcode Try.prog T 5 (lpc Try.f26 0) (tmS L t x y k) K := by
  have c1 := lk_inForce (L.F.k.getD k 0) (L.F.a.getD k 0) (L.F.b.getD k 0) (L.F.f.getD k 0) (L.F.u.getD k 0) (L.F.e.getD k 0) t
  have c2 := lk_concerns (L.F.k.getD k 0) (L.F.a.getD k 0) (L.F.b.getD k 0) (L.F.f.getD k 0) (L.F.u.getD k 0) (L.F.e.getD k 0) x y
  have hcn := cn_le L.F t x y k
  have e1 : L.F.lost t x y (k + 1) = (L.F.act t x y k && decide (L.F.k.getD k 0 = 1 ∨ L.F.k.getD k 0 = 4)) := by simp only [Fa.lost, hl, Bool.false_or]
  have e2 : L.F.arr t x y (IntKind.i64.wrap (t + L.la)) (k + 1) = if (L.F.act t x y k && decide (L.F.k.getD k 0 = 2)) = true then IntKind.i64.wrap (L.F.arr t x y (IntKind.i64.wrap (t + L.la)) k + L.F.e.getD k 0) else L.F.arr t x y (IntKind.i64.wrap (t + L.la)) k := rfl
  have e3 : L.F.cp t x y (k + 1) = if (L.F.act t x y k && decide (L.F.k.getD k 0 = 3)) = true then L.F.cp t x y k ++ [L.F.e.getD k 0] else L.F.cp t x y k := rfl
  have e4 : L.F.cn t x y (k + 1) = if (L.F.act t x y k && decide (L.F.k.getD k 0 = 3)) = true then L.F.cn t x y k + 1 else L.F.cn t x y k := rfl
  unfold tmS at hN ⊢
  rw [e2, e3, e4, e1] at hN
  rw [e1] at hR
  clear e1 e2 e3 e4
  have hk0 : L.F.k.getD ((k : Int).toNat + 0) 0 = L.F.k.getD k 0 := rfl
  obtain ⟨kd, hkd⟩ : ∃ kd, kd = L.F.k.getD k 0 := ⟨_, rfl⟩
  rw [← hkd] at hN hR
  generalize L.F.arr t x y (IntKind.i64.wrap (t + L.la)) k = ar at *
  generalize L.F.cp t x y k = cp at *
  generalize L.F.cn t x y k = cn at *
  rcases act_split (F := L.F) (t := t) (x := x) (y := y) (k := k) with ⟨ha, hi, hc⟩ | ⟨ha, hi | ⟨hi, hc⟩⟩
  · rw [hi] at c1
    rw [hc] at c2
    rw [ha] at hN hR
    simp only [Bool.true_and] at hN hR
    by_cases k1 : kd = 1 ∨ kd = 4
    · replace hR := hR (decide_eq_true k1)
      clear hN
      repeat' ((conv => whnf); first | (refine vcall_pure (c1) rfl rfl rfl ?_) | (refine vcallD_pure (c1) rfl rfl rfl ?_) | (refine vcall_pure (c2) rfl rfl rfl ?_) | (refine vcallD_pure (c2) rfl rfl rfl ?_) | (refine br_dec (fun h => ?_) (fun h => ?_) <;> try (exfalso; (try dsimp only at h); omega)) | (refine br_ndec (fun h => ?_) (fun h => ?_) <;> try (exfalso; (try dsimp only at h); omega)) | refine br_seq (fun h => ?_) (fun h => ?_) | refine br_nseq (fun h => ?_) (fun h => ?_) | refine br_not (fun h => ?_) (fun h => ?_) | refine br_intro (fun h => ?_) (fun h => ?_) | refine cond_intro rfl ?_ | (refine cond_intro ⟨rfl, ?_⟩ ?_; (first | omega | (dsimp only; omega) | decide)) | (refine cond_intro ?_ ?_; (first | omega | (dsimp only; omega) | decide | (simp only [Nat.add_zero, Int.toNat_natCast, *]; omega))))
      all_goals (conv => whnf)
      all_goals first
        | (exfalso; omega)
        | (refine hR _ ?_; (conv => whnf); exact ret_out (l := [0, 1, 2, 3, 4]) rfl rfl trivial allRw_nil)
    · replace hN := hN (decide_eq_false k1)
      clear hR
      by_cases k2 : kd = 2
      · rw [if_pos (decide_eq_true k2), if_neg (by simp [k2]), if_neg (by simp [k2])] at hN
        repeat' ((conv => whnf); first | (refine vcall_pure (c1) rfl rfl rfl ?_) | (refine vcallD_pure (c1) rfl rfl rfl ?_) | (refine vcall_pure (c2) rfl rfl rfl ?_) | (refine vcallD_pure (c2) rfl rfl rfl ?_) | (refine br_dec (fun h => ?_) (fun h => ?_) <;> try (exfalso; (try dsimp only at h); omega)) | (refine br_ndec (fun h => ?_) (fun h => ?_) <;> try (exfalso; (try dsimp only at h); omega)) | refine br_seq (fun h => ?_) (fun h => ?_) | refine br_nseq (fun h => ?_) (fun h => ?_) | refine br_not (fun h => ?_) (fun h => ?_) | refine br_intro (fun h => ?_) (fun h => ?_) | refine cond_intro rfl ?_ | (refine cond_intro ⟨rfl, ?_⟩ ?_; (first | omega | (dsimp only; omega) | decide)) | (refine cond_intro ?_ ?_; (first | omega | (dsimp only; omega) | decide | (simp only [Nat.add_zero, Int.toNat_natCast, *]; omega))))
        all_goals (conv => whnf)
        all_goals first
          | (exfalso; omega)
          | exact hN _ ⟨[0, 1, 2, 3, 4, 5], [], ⟨rfl, ⟨rfl, rfl, rfl, rfl, rfl, rfl, rfl, congrArg (fun z => some (SV.int .i64 z)) (i64_succ (by omega)), trivial⟩, ⟨rfl, rfl, rfl, rfl, trivial⟩⟩⟩
      · by_cases k3 : kd = 3
        · rw [if_neg (by simp [k3]), if_pos (decide_eq_true k3), if_pos (decide_eq_true k3)] at hN
          repeat' ((conv => whnf); first | (refine vcall_pure (c1) rfl rfl rfl ?_) | (refine vcallD_pure (c1) rfl rfl rfl ?_) | (refine vcall_pure (c2) rfl rfl rfl ?_) | (refine vcallD_pure (c2) rfl rfl rfl ?_) | (refine br_dec (fun h => ?_) (fun h => ?_) <;> try (exfalso; (try dsimp only at h); omega)) | (refine br_ndec (fun h => ?_) (fun h => ?_) <;> try (exfalso; (try dsimp only at h); omega)) | refine br_seq (fun h => ?_) (fun h => ?_) | refine br_nseq (fun h => ?_) (fun h => ?_) | refine br_not (fun h => ?_) (fun h => ?_) | refine br_intro (fun h => ?_) (fun h => ?_) | refine cond_intro rfl ?_ | (refine cond_intro ⟨rfl, ?_⟩ ?_; (first | omega | (dsimp only; omega) | decide)) | (refine cond_intro ?_ ?_; (first | omega | (dsimp only; omega) | decide | (simp only [Nat.add_zero, Int.toNat_natCast, *]; omega))))
          all_goals (conv => whnf)
          all_goals first
            | (exfalso; omega)
            | exact hN _ ⟨[0, 1, 2, 3, 4, 8], [], ⟨rfl, ⟨rfl, rfl, rfl, rfl, rfl, rfl, rfl, congrArg (fun z => some (SV.int .i64 z)) (i64_succ (by omega)), trivial⟩, ⟨rfl, rfl, rfl, rfl, trivial⟩⟩⟩
        · rw [if_neg (by simpa using k2), if_neg (by simpa using k3), if_neg (by simpa using k3)] at hN
          repeat' ((conv => whnf); first | (refine vcall_pure (c1) rfl rfl rfl ?_) | (refine vcallD_pure (c1) rfl rfl rfl ?_) | (refine vcall_pure (c2) rfl rfl rfl ?_) | (refine vcallD_pure (c2) rfl rfl rfl ?_) | (refine br_dec (fun h => ?_) (fun h => ?_) <;> try (exfalso; (try dsimp only at h); omega)) | (refine br_ndec (fun h => ?_) (fun h => ?_) <;> try (exfalso; (try dsimp only at h); omega)) | refine br_seq (fun h => ?_) (fun h => ?_) | refine br_nseq (fun h => ?_) (fun h => ?_) | refine br_not (fun h => ?_) (fun h => ?_) | refine br_intro (fun h => ?_) (fun h => ?_) | refine cond_intro rfl ?_ | (refine cond_intro ⟨rfl, ?_⟩ ?_; (first | omega | (dsimp only; omega) | decide)) | (refine cond_intro ?_ ?_; (first | omega | (dsimp only; omega) | decide | (simp only [Nat.add_zero, Int.toNat_natCast, *]; omega))))
          all_goals (conv => whnf)
          all_goals first
            | (exfalso; omega)
            | exact hN _ ⟨[0, 1, 2, 3, 4, 5], [], ⟨rfl, ⟨rfl, rfl, rfl, rfl, rfl, rfl, rfl, congrArg (fun z => some (SV.int .i64 z)) (i64_succ (by omega)), trivial⟩, ⟨rfl, rfl, rfl, rfl, trivial⟩⟩⟩
  · rw [hi] at c1
    rw [ha] at hN
    simp only [Bool.false_and] at hN
    replace hN := hN trivial
    rw [if_neg (by decide), if_neg (by decide), if_neg (by decide)] at hN
    clear hR
    repeat' ((conv => whnf); first | (refine vcall_pure (c1) rfl rfl rfl ?_) | (refine vcallD_pure (c1) rfl rfl rfl ?_) | (refine vcall_pure (c2) rfl rfl rfl ?_) | (refine vcallD_pure (c2) rfl rfl rfl ?_) | (refine br_dec (fun h => ?_) (fun h => ?_) <;> try (exfalso; (try dsimp only at h); omega)) | (refine br_ndec (fun h => ?_) (fun h => ?_) <;> try (exfalso; (try dsimp only at h); omega)) | refine br_seq (fun h => ?_) (fun h => ?_) | refine br_nseq (fun h => ?_) (fun h => ?_) | refine br_not (fun h => ?_) (fun h => ?_) | refine br_intro (fun h => ?_) (fun h => ?_) | refine cond_intro rfl ?_ | (refine cond_intro ⟨rfl, ?_⟩ ?_; (first | omega | (dsimp only; omega) | decide)) | (refine cond_intro ?_ ?_; (first | omega | (dsimp only; omega) | decide | (simp only [Nat.add_zero, Int.toNat_natCast, *]; omega))))
    all_goals (conv => whnf)
    all_goals first
      | exact hN _ ⟨[0, 1, 2, 3, 4, 5], [], ⟨rfl, ⟨rfl, rfl, rfl, rfl, rfl, rfl, rfl, congrArg (fun z => some (SV.int .i64 z)) (i64_succ (by omega)), trivial⟩, ⟨rfl, rfl, rfl, rfl, trivial⟩⟩⟩
      | (exfalso; omega)
  · rw [hi] at c1
    rw [hc] at c2
    rw [ha] at hN
    simp only [Bool.false_and] at hN
    replace hN := hN trivial
    rw [if_neg (by decide), if_neg (by decide), if_neg (by decide)] at hN
    clear hR
    repeat' ((conv => whnf); first | (refine vcall_pure (c1) rfl rfl rfl ?_) | (refine vcallD_pure (c1) rfl rfl rfl ?_) | (refine vcall_pure (c2) rfl rfl rfl ?_) | (refine vcallD_pure (c2) rfl rfl rfl ?_) | (refine br_dec (fun h => ?_) (fun h => ?_) <;> try (exfalso; (try dsimp only at h); omega)) | (refine br_ndec (fun h => ?_) (fun h => ?_) <;> try (exfalso; (try dsimp only at h); omega)) | refine br_seq (fun h => ?_) (fun h => ?_) | refine br_nseq (fun h => ?_) (fun h => ?_) | refine br_not (fun h => ?_) (fun h => ?_) | refine br_intro (fun h => ?_) (fun h => ?_) | refine cond_intro rfl ?_ | (refine cond_intro ⟨rfl, ?_⟩ ?_; (first | omega | (dsimp only; omega) | decide)) | (refine cond_intro ?_ ?_; (first | omega | (dsimp only; omega) | decide | (simp only [Nat.add_zero, Int.toNat_natCast, *]; omega))))
    all_goals (conv => whnf)
    all_goals first
      | exact hN _ ⟨[0, 1, 2, 3, 4, 5], [], ⟨rfl, ⟨rfl, rfl, rfl, rfl, rfl, rfl, rfl, congrArg (fun z => some (SV.int .i64 z)) (i64_succ (by omega)), trivial⟩, ⟨rfl, rfl, rfl, rfl, trivial⟩⟩⟩
      | (exfalso; omega)
theorem lk_times_lost (L : Lk) (t x y : Int) (hn : L.F.n ≤ 1000) (hl : L.F.lost t x y L.F.n = true) : FC Try.prog 5 26 [.ptr 1 0 0 0, .int .i64 t, .int .i64 x, .int .i64 y] (lkR L) (isOut .nsl [] 5) := by
  refine fc_of mixed T_ok Try.func26 rfl (by kernel_rfl) (by kernel_rfl) (by kernel_rfl) ?_
  repeat' ((conv => whnf); first | (refine br_dec (fun h => ?_) (fun h => ?_) <;> try (exfalso; (try dsimp only at h); omega)) | (refine br_ndec (fun h => ?_) (fun h => ?_) <;> try (exfalso; (try dsimp only at h); omega)) | refine br_seq (fun h => ?_) (fun h => ?_) | refine br_nseq (fun h => ?_) (fun h => ?_) | refine br_not (fun h => ?_) (fun h => ?_) | refine br_intro (fun h => ?_) (fun h => ?_) | refine cond_intro rfl ?_ | (refine cond_intro ⟨rfl, ?_⟩ ?_; (first | omega | (dsimp only; omega) | decide)) | (refine cond_intro ?_ ?_; (first | omega | (dsimp only; omega) | decide | (simp only [Nat.add_zero, Int.toNat_natCast, *]; omega))))
  all_goals (conv => whnf)
  refine vloop_lp (tmS L t x y) (fun k => k ≤ L.F.n ∧ L.F.lost t x y k = false) (fun k => L.F.n - k) 0 [0, 1, 2, 3, 4, 5] [.slot 10 [.sc (.ints .i64 [])]] ⟨rfl, ⟨rfl, rfl, rfl, rfl, rfl, rfl, rfl, rfl, trivial⟩, ⟨rfl, rfl, rfl, rfl, trivial⟩⟩ ⟨Nat.zero_le _, rfl⟩ ?_
  rintro k ⟨hk, hf⟩
  by_cases hk2 : k < L.F.n
  · exact tm_round L t x y hn k hk2 hf _ (fun h v ⟨l, u, hw⟩ => ⟨k + 1, l, u, ⟨hk2, h⟩, (show L.F.n - (k + 1) < L.F.n - k by omega), hw⟩) (fun _ v h => h)
  · obtain rfl : k = L.F.n := by omega
    rw [hl] at hf; cases hf
/-- The times of arrival: of the text, then of the copies. -/
def Fa.al (a : Int) (cp : List Int) (k : Nat) : List Int := a :: (cp.take k).map (fun e => IntKind.i64.wrap (a + e))
theorem al_step {a : Int} {cp : List Int} {k : Nat} (h : k < cp.length) : Fa.al a cp (k + 1) = Fa.al a cp k ++ [IntKind.i64.wrap (a + cp.getD k 0)] := by
  unfold Fa.al
  rw [List.take_succ_eq_append_getElem h, List.map_append, List.cons_append]
  simp [List.getD, h]
theorem lk_times (L : Lk) (t x y : Int) (hn : L.F.n ≤ 1000) (hl : L.F.lost t x y L.F.n = false) : FC Try.prog 5 26 [.ptr 1 0 0 0, .int .i64 t, .int .i64 x, .int .i64 y] (lkR L) (isOut (.sl 5 0 0 (L.F.cn t x y L.F.n + 1)) [(5, some (.one false (.cols (L.F.cn t x y L.F.n + 1) [.sc (.ints .i64 (Fa.al (L.F.arr t x y (IntKind.i64.wrap (t + L.la)) L.F.n) (L.F.cp t x y L.F.n) (L.F.cn t x y L.F.n)))])))] 6) := by
  refine fc_of mixed T_ok Try.func26 rfl (by kernel_rfl) (by kernel_rfl) (by kernel_rfl) ?_
  repeat' ((conv => whnf); first | (refine br_dec (fun h => ?_) (fun h => ?_) <;> try (exfalso; (try dsimp only at h); omega)) | (refine br_ndec (fun h => ?_) (fun h => ?_) <;> try (exfalso; (try dsimp only at h); omega)) | refine br_seq (fun h => ?_) (fun h => ?_) | refine br_nseq (fun h => ?_) (fun h => ?_) | refine br_not (fun h => ?_) (fun h => ?_) | refine br_intro (fun h => ?_) (fun h => ?_) | refine cond_intro rfl ?_ | (refine cond_intro ⟨rfl, ?_⟩ ?_; (first | omega | (dsimp only; omega) | decide)) | (refine cond_intro ?_ ?_; (first | omega | (dsimp only; omega) | decide | (simp only [Nat.add_zero, Int.toNat_natCast, *]; omega))))
  all_goals (conv => whnf)
  refine vloop_lp (tmS L t x y) (fun k => k ≤ L.F.n ∧ L.F.lost t x y k = false) (fun k => L.F.n - k) 0 [0, 1, 2, 3, 4, 5] [.slot 10 [.sc (.ints .i64 [])]] ⟨rfl, ⟨rfl, rfl, rfl, rfl, rfl, rfl, rfl, rfl, trivial⟩, ⟨rfl, rfl, rfl, rfl, trivial⟩⟩ ⟨Nat.zero_le _, rfl⟩ ?_
  rintro k ⟨hk, hf⟩
  by_cases hk2 : k < L.F.n
  · exact tm_round L t x y hn k hk2 hf _ (fun h v ⟨l, u, hw⟩ => ⟨k + 1, l, u, ⟨hk2, h⟩, (show L.F.n - (k + 1) < L.F.n - k by omega), hw⟩) (fun h v hr => by
      have := lost_mono h L.F.n (by omega)
      rw [hl] at this; cases this)
  · obtain rfl : k = L.F.n := by omega
    have hcn := cn_le L.F t x y L.F.n
    have hcl := cp_len L.F t x y L.F.n
    unfold tmS
    generalize L.F.arr t x y (IntKind.i64.wrap (t + L.la)) L.F.n = ar at *
    generalize L.F.cp t x y L.F.n = cp at *
    generalize L.F.cn t x y L.F.n = cn at *
    repeat' ((conv => whnf); first | (refine br_dec (fun h => ?_) (fun h => ?_) <;> try (exfalso; (try dsimp only at h); omega)) | (refine br_ndec (fun h => ?_) (fun h => ?_) <;> try (exfalso; (try dsimp only at h); omega)) | refine br_seq (fun h => ?_) (fun h => ?_) | refine br_nseq (fun h => ?_) (fun h => ?_) | refine br_not (fun h => ?_) (fun h => ?_) | refine br_intro (fun h => ?_) (fun h => ?_) | refine cond_intro rfl ?_ | (refine cond_intro ⟨rfl, ?_⟩ ?_; (first | omega | (dsimp only; omega) | decide)) | (refine cond_intro ?_ ?_; (first | omega | (dsimp only; omega) | decide | (simp only [Nat.add_zero, Int.toNat_natCast, *]; omega))))
    all_goals (conv => whnf)
    refine vloop_of (fun k : Nat => ⟨[(9, .int .i64 ar), (13, .sl 6 0 0 (1 + k)), (63, .sl 5 0 0 cn), (64, .int .i64 cn), (65, .int .i64 k)], (6, some (.one false (.cols (1 + k) [.sc (.ints .i64 (Fa.al ar cp k))]))) :: (5, some (.one false (.cols cn [.sc (.ints .i64 cp)]))) :: lkR L, 7⟩) (fun k => k ≤ cn) (fun k => cn - k) 0 [0, 1, 2, 3, 4, 5, 6] [] ⟨rfl, ⟨rfl, rfl, rfl, rfl, rfl, trivial⟩, ⟨rfl, rfl, rfl, rfl, rfl, trivial⟩⟩ (Nat.zero_le _) ?_
    intro k hk
    by_cases hk2 : k < cn
    · have e := al_step (a := ar) (show k < cp.length by omega)
      generalize Fa.al ar cp k = al at *
      repeat' ((conv => whnf); first | (refine br_dec (fun h => ?_) (fun h => ?_) <;> try (exfalso; (try dsimp only at h); omega)) | (refine br_ndec (fun h => ?_) (fun h => ?_) <;> try (exfalso; (try dsimp only at h); omega)) | refine br_seq (fun h => ?_) (fun h => ?_) | refine br_nseq (fun h => ?_) (fun h => ?_) | refine br_not (fun h => ?_) (fun h => ?_) | refine br_intro (fun h => ?_) (fun h => ?_) | refine cond_intro rfl ?_ | (refine cond_intro ⟨rfl, ?_⟩ ?_; (first | omega | (dsimp only; omega) | decide)) | (refine cond_intro ?_ ?_; (first | omega | (dsimp only; omega) | decide | (simp only [Nat.add_zero, Int.toNat_natCast, *]; omega))))
      all_goals (conv => whnf)
      all_goals first
        | (refine ⟨k + 1, [0, 1, 2, 3, 4, 5, 8], [], by omega, by omega, ?_⟩; rw [e]; exact ⟨rfl, ⟨rfl, rfl, rfl, rfl, congrArg (fun z => some (SV.int .i64 z)) (i64_succ (by omega)), trivial⟩, ⟨rfl, rfl, rfl, rfl, rfl, trivial⟩⟩)
        | (exfalso; omega)
    · obtain rfl : k = cn := by omega
      rw [Nat.add_comm k 1]
      generalize Fa.al ar cp k = al at *
      repeat' ((conv => whnf); first | (refine br_dec (fun h => ?_) (fun h => ?_) <;> try (exfalso; (try dsimp only at h); omega)) | (refine br_ndec (fun h => ?_) (fun h => ?_) <;> try (exfalso; (try dsimp only at h); omega)) | refine br_seq (fun h => ?_) (fun h => ?_) | refine br_nseq (fun h => ?_) (fun h => ?_) | refine br_not (fun h => ?_) (fun h => ?_) | refine br_intro (fun h => ?_) (fun h => ?_) | refine cond_intro rfl ?_ | (refine cond_intro ⟨rfl, ?_⟩ ?_; (first | omega | (dsimp only; omega) | decide)) | (refine cond_intro ?_ ?_; (first | omega | (dsimp only; omega) | decide | (simp only [Nat.add_zero, Int.toNat_natCast, *]; omega))))
      all_goals (conv => whnf)
      all_goals first
        | exact ret_out (l := [0, 1, 2, 3, 4, 6]) rfl rfl ⟨rfl, trivial⟩ (allRw_cons allRw_nil)
        | (exfalso; omega)
end Go.Proofs.Ytpconbdoackcfaa

/- Contracts of package link: sending. -/
namespace Go.Proofs.Ytpconbdoackcfaa
open Go.RowKit Go.Sy
attribute [local irreducible] vcall vloop vcallD retP
set_option maxRecDepth 100000
set_option linter.unusedVariables false
set_option linter.unusedSimpArgs false

theorem lk_SendN (t x y : Int) (s : ByteArray) : Pure Try.prog 8 [.nptr, .int .i64 t, .int .i64 x, .int .i64 y, .str s] (.tup [.int .i64 0, .int .i64 6]) := by
  refine fc_of mixed T_ok Try.func8 rfl (by kernel_rfl) (by kernel_rfl) (by kernel_rfl) ?_
  repeat' ((conv => whnf); first | (refine br_dec (fun h => ?_) (fun h => ?_) <;> try (exfalso; (try dsimp only at h); omega)) | (refine br_ndec (fun h => ?_) (fun h => ?_) <;> try (exfalso; (try dsimp only at h); omega)) | refine br_seq (fun h => ?_) (fun h => ?_) | refine br_nseq (fun h => ?_) (fun h => ?_) | refine br_not (fun h => ?_) (fun h => ?_) | refine br_intro (fun h => ?_) (fun h => ?_) | refine cond_intro rfl ?_ | (refine cond_intro ⟨rfl, ?_⟩ ?_; (first | omega | (dsimp only; omega) | decide)) | (refine cond_intro ?_ ?_; (first | omega | (dsimp only; omega) | decide | (simp only [Nat.add_zero, Int.toNat_natCast, *]; omega))))
  all_goals (conv => whnf)
  all_goals exact ret_pure rfl
def Lk.tn (L : Lk) (t x y : Int) : Nat := if L.F.lost t x y L.F.n = true then 0 else L.F.cn t x y L.F.n + 1
def Lk.sdE (L : Lk) (t x y : Int) (s : ByteArray) : Int := if ¬ ((0 ≤ x ∧ x < L.pa) ∧ (0 ≤ y ∧ y < L.pa)) ∨ x = y then 4 else if 4000 < s.size then 3 else if t < L.nw ∨ 1099511627776 < t then 14 else if 256 < L.W.sum + L.tn t x y then 12 else 0
/-- The table has so many arrivals as its rows say, and not too many. -/
structure Wy.Ok (W : Wy) : Prop where
  kl : W.ks.length = W.n
  nl : W.ns.length = W.n
  rl : W.rs.length = W.n
  lim : (W.ns.map (fun (n : Nat) => (n : Int))).sum ≤ 1000
theorem sum_nonneg : ∀ (l : List Nat), 0 ≤ (l.map (fun (n : Nat) => (n : Int))).sum
  | [] => by simp
  | a :: l => by have := sum_nonneg l; simp only [List.map_cons, List.sum_cons]; omega
theorem sum_ge : ∀ (l : List Nat) (i : Nat), ((l.getD i 0 : Nat) : Int) ≤ (l.map (fun (n : Nat) => (n : Int))).sum
  | [], i => by simp
  | a :: l, 0 => by have := sum_nonneg l; simp only [List.map_cons, List.sum_cons, List.getD_cons_zero]; omega
  | a :: l, i + 1 => by have := sum_ge l i; simp only [List.map_cons, List.sum_cons, List.getD_cons_succ]; omega
theorem Wy.Ok.sum {W : Wy} (h : W.Ok) : W.sum = (W.ns.map (fun (n : Nat) => (n : Int))).sum := by
  have := sum_nonneg W.ns
  have := h.lim
  unfold Wy.sum
  exact w64_in (by omega) (by omega)
theorem lk_Send_err (L : Lk) (t x y : Int) (s : ByteArray) (hn : L.F.n ≤ 1000) (hw : L.W.Ok) (he : L.sdE t x y s ≠ 0) : FC Try.prog 5 8 [.ptr 1 0 0 0, .int .i64 t, .int .i64 x, .int .i64 y, .str s] (lkR L) (isOut (.tup [.int .i64 0, .int .i64 (L.sdE t x y s)]) [] 5) := by
  have c1 := lk_party L x
  have c2 := lk_party L y
  have cu := lk_underWay L hw.nl
  have hs := hw.sum
  have hs0 := sum_nonneg L.W.ns
  have hs1 := hw.lim
  have hcn := cn_le L.F t x y L.F.n
  unfold Lk.sdE at he ⊢
  by_cases h1 : ¬ ((0 ≤ x ∧ x < L.pa) ∧ (0 ≤ y ∧ y < L.pa)) ∨ x = y
  · rw [if_pos h1]
    refine fc_of mixed T_ok Try.func8 rfl (by kernel_rfl) (by kernel_rfl) (by kernel_rfl) ?_
    repeat' ((conv => whnf); first | (refine vcall_out (l :=  [0, 1, 2, 3, 4]) (c1 ) ⟨rfl, rfl, rfl, rfl, (by (repeat' (first | exact trivial | exact GB_wf | exact fun _ _ => rfl | constructor)); first | done | fail), (by (repeat' (first | exact trivial | exact GB_fits rfl | constructor)); first | done | fail)⟩ ?_) | (refine vcallD_out (l :=  [0, 1, 2, 3, 4]) (c1 ) ⟨rfl, rfl, rfl, rfl, (by (repeat' (first | exact trivial | exact GB_wf | exact fun _ _ => rfl | constructor)); first | done | fail), (by (repeat' (first | exact trivial | exact GB_fits rfl | constructor)); first | done | fail)⟩ ?_) | (refine vcall_out (l :=  [0, 1, 2, 3, 4]) (c2 ) ⟨rfl, rfl, rfl, rfl, (by (repeat' (first | exact trivial | exact GB_wf | exact fun _ _ => rfl | constructor)); first | done | fail), (by (repeat' (first | exact trivial | exact GB_fits rfl | constructor)); first | done | fail)⟩ ?_) | (refine vcallD_out (l :=  [0, 1, 2, 3, 4]) (c2 ) ⟨rfl, rfl, rfl, rfl, (by (repeat' (first | exact trivial | exact GB_wf | exact fun _ _ => rfl | constructor)); first | done | fail), (by (repeat' (first | exact trivial | exact GB_fits rfl | constructor)); first | done | fail)⟩ ?_) | (refine br_dec (fun h => ?_) (fun h => ?_) <;> try (exfalso; (try dsimp only at h); omega)) | (refine br_ndec (fun h => ?_) (fun h => ?_) <;> try (exfalso; (try dsimp only at h); omega)) | refine br_seq (fun h => ?_) (fun h => ?_) | refine br_nseq (fun h => ?_) (fun h => ?_) | refine br_not (fun h => ?_) (fun h => ?_) | refine br_intro (fun h => ?_) (fun h => ?_) | refine cond_intro rfl ?_ | (refine cond_intro ⟨rfl, ?_⟩ ?_; (first | omega | (dsimp only; omega) | decide)) | (refine cond_intro ?_ ?_; (first | omega | (dsimp only; omega) | decide | (simp only [Nat.add_zero, Int.toNat_natCast, *]; omega))))
    all_goals (conv => whnf)
    all_goals first
      | exact ret_out (l := [0, 1, 2, 3, 4]) rfl rfl trivial allRw_nil
      | (exfalso; omega)
  rw [if_neg h1] at he ⊢
  by_cases h2 : 4000 < s.size
  · rw [if_pos h2]
    refine fc_of mixed T_ok Try.func8 rfl (by kernel_rfl) (by kernel_rfl) (by kernel_rfl) ?_
    repeat' ((conv => whnf); first | (refine vcall_out (l :=  [0, 1, 2, 3, 4]) (c1 ) ⟨rfl, rfl, rfl, rfl, (by (repeat' (first | exact trivial | exact GB_wf | exact fun _ _ => rfl | constructor)); first | done | fail), (by (repeat' (first | exact trivial | exact GB_fits rfl | constructor)); first | done | fail)⟩ ?_) | (refine vcallD_out (l :=  [0, 1, 2, 3, 4]) (c1 ) ⟨rfl, rfl, rfl, rfl, (by (repeat' (first | exact trivial | exact GB_wf | exact fun _ _ => rfl | constructor)); first | done | fail), (by (repeat' (first | exact trivial | exact GB_fits rfl | constructor)); first | done | fail)⟩ ?_) | (refine vcall_out (l :=  [0, 1, 2, 3, 4]) (c2 ) ⟨rfl, rfl, rfl, rfl, (by (repeat' (first | exact trivial | exact GB_wf | exact fun _ _ => rfl | constructor)); first | done | fail), (by (repeat' (first | exact trivial | exact GB_fits rfl | constructor)); first | done | fail)⟩ ?_) | (refine vcallD_out (l :=  [0, 1, 2, 3, 4]) (c2 ) ⟨rfl, rfl, rfl, rfl, (by (repeat' (first | exact trivial | exact GB_wf | exact fun _ _ => rfl | constructor)); first | done | fail), (by (repeat' (first | exact trivial | exact GB_fits rfl | constructor)); first | done | fail)⟩ ?_) | (refine br_dec (fun h => ?_) (fun h => ?_) <;> try (exfalso; (try dsimp only at h); omega)) | (refine br_ndec (fun h => ?_) (fun h => ?_) <;> try (exfalso; (try dsimp only at h); omega)) | refine br_seq (fun h => ?_) (fun h => ?_) | refine br_nseq (fun h => ?_) (fun h => ?_) | refine br_not (fun h => ?_) (fun h => ?_) | refine br_intro (fun h => ?_) (fun h => ?_) | refine cond_intro rfl ?_ | (refine cond_intro ⟨rfl, ?_⟩ ?_; (first | omega | (dsimp only; omega) | decide)) | (refine cond_intro ?_ ?_; (first | omega | (dsimp only; omega) | decide | (simp only [Nat.add_zero, Int.toNat_natCast, *]; omega))))
    all_goals (conv => whnf)
    all_goals first
      | exact ret_out (l := [0, 1, 2, 3, 4]) rfl rfl trivial allRw_nil
      | (exfalso; omega)
  rw [if_neg h2] at he ⊢
  by_cases h3 : t < L.nw ∨ 1099511627776 < t
  · rw [if_pos h3]
    refine fc_of mixed T_ok Try.func8 rfl (by kernel_rfl) (by kernel_rfl) (by kernel_rfl) ?_
    repeat' ((conv => whnf); first | (refine vcall_out (l :=  [0, 1, 2, 3, 4]) (c1 ) ⟨rfl, rfl, rfl, rfl, (by (repeat' (first | exact trivial | exact GB_wf | exact fun _ _ => rfl | constructor)); first | done | fail), (by (repeat' (first | exact trivial | exact GB_fits rfl | constructor)); first | done | fail)⟩ ?_) | (refine vcallD_out (l :=  [0, 1, 2, 3, 4]) (c1 ) ⟨rfl, rfl, rfl, rfl, (by (repeat' (first | exact trivial | exact GB_wf | exact fun _ _ => rfl | constructor)); first | done | fail), (by (repeat' (first | exact trivial | exact GB_fits rfl | constructor)); first | done | fail)⟩ ?_) | (refine vcall_out (l :=  [0, 1, 2, 3, 4]) (c2 ) ⟨rfl, rfl, rfl, rfl, (by (repeat' (first | exact trivial | exact GB_wf | exact fun _ _ => rfl | constructor)); first | done | fail), (by (repeat' (first | exact trivial | exact GB_fits rfl | constructor)); first | done | fail)⟩ ?_) | (refine vcallD_out (l :=  [0, 1, 2, 3, 4]) (c2 ) ⟨rfl, rfl, rfl, rfl, (by (repeat' (first | exact trivial | exact GB_wf | exact fun _ _ => rfl | constructor)); first | done | fail), (by (repeat' (first | exact trivial | exact GB_fits rfl | constructor)); first | done | fail)⟩ ?_) | (refine br_dec (fun h => ?_) (fun h => ?_) <;> try (exfalso; (try dsimp only at h); omega)) | (refine br_ndec (fun h => ?_) (fun h => ?_) <;> try (exfalso; (try dsimp only at h); omega)) | refine br_seq (fun h => ?_) (fun h => ?_) | refine br_nseq (fun h => ?_) (fun h => ?_) | refine br_not (fun h => ?_) (fun h => ?_) | refine br_intro (fun h => ?_) (fun h => ?_) | refine cond_intro rfl ?_ | (refine cond_intro ⟨rfl, ?_⟩ ?_; (first | omega | (dsimp only; omega) | decide)) | (refine cond_intro ?_ ?_; (first | omega | (dsimp only; omega) | decide | (simp only [Nat.add_zero, Int.toNat_natCast, *]; omega))))
    all_goals (conv => whnf)
    all_goals first
      | exact ret_out (l := [0, 1, 2, 3, 4]) rfl rfl trivial allRw_nil
      | (exfalso; omega)
  rw [if_neg h3] at he ⊢
  by_cases h4 : 256 < L.W.sum + L.tn t x y
  · rw [if_pos h4]
    unfold Lk.tn at h4
    cases hl : L.F.lost t x y L.F.n with
    | true =>
      rw [if_pos hl] at h4
      have ct := lk_times_lost L t x y hn hl
      have w1 : IntKind.i64.wrap (L.W.sum + 0) = L.W.sum := by rw [hs]; rw [w64_in (by omega) (by omega)]; omega
      generalize L.W.sum = su at *
      refine fc_of mixed T_ok Try.func8 rfl (by kernel_rfl) (by kernel_rfl) (by kernel_rfl) ?_
      repeat' ((conv => whnf); first | (refine vcall_out (l :=  [0, 1, 2, 3, 4]) (c1 ) ⟨rfl, rfl, rfl, rfl, (by (repeat' (first | exact trivial | exact GB_wf | exact fun _ _ => rfl | constructor)); first | done | fail), (by (repeat' (first | exact trivial | exact GB_fits rfl | constructor)); first | done | fail)⟩ ?_) | (refine vcallD_out (l :=  [0, 1, 2, 3, 4]) (c1 ) ⟨rfl, rfl, rfl, rfl, (by (repeat' (first | exact trivial | exact GB_wf | exact fun _ _ => rfl | constructor)); first | done | fail), (by (repeat' (first | exact trivial | exact GB_fits rfl | constructor)); first | done | fail)⟩ ?_) | (refine vcall_out (l :=  [0, 1, 2, 3, 4]) (c2 ) ⟨rfl, rfl, rfl, rfl, (by (repeat' (first | exact trivial | exact GB_wf | exact fun _ _ => rfl | constructor)); first | done | fail), (by (repeat' (first | exact trivial | exact GB_fits rfl | constructor)); first | done | fail)⟩ ?_) | (refine vcallD_out (l :=  [0, 1, 2, 3, 4]) (c2 ) ⟨rfl, rfl, rfl, rfl, (by (repeat' (first | exact trivial | exact GB_wf | exact fun _ _ => rfl | constructor)); first | done | fail), (by (repeat' (first | exact trivial | exact GB_fits rfl | constructor)); first | done | fail)⟩ ?_) | (refine vcall_out (l :=  [0, 1, 2, 3, 4]) (ct ) ⟨rfl, rfl, rfl, rfl, (by (repeat' (first | exact trivial | exact GB_wf | exact fun _ _ => rfl | constructor)); first | done | fail), (by (repeat' (first | exact trivial | exact GB_fits rfl | constructor)); first | done | fail)⟩ ?_) | (refine vcallD_out (l :=  [0, 1, 2, 3, 4]) (ct ) ⟨rfl, rfl, rfl, rfl, (by (repeat' (first | exact trivial | exact GB_wf | exact fun _ _ => rfl | constructor)); first | done | fail), (by (repeat' (first | exact trivial | exact GB_fits rfl | constructor)); first | done | fail)⟩ ?_) | (refine vcall_out (l :=  [0, 1, 2, 3, 4]) (cu ) ⟨rfl, rfl, rfl, rfl, (by (repeat' (first | exact trivial | exact GB_wf | exact fun _ _ => rfl | constructor)); first | done | fail), (by (repeat' (first | exact trivial | exact GB_fits rfl | constructor)); first | done | fail)⟩ ?_) | (refine vcallD_out (l :=  [0, 1, 2, 3, 4]) (cu ) ⟨rfl, rfl, rfl, rfl, (by (repeat' (first | exact trivial | exact GB_wf | exact fun _ _ => rfl | constructor)); first | done | fail), (by (repeat' (first | exact trivial | exact GB_fits rfl | constructor)); first | done | fail)⟩ ?_) | (refine br_dec (fun h => ?_) (fun h => ?_) <;> try (exfalso; (try dsimp only at h); omega)) | (refine br_ndec (fun h => ?_) (fun h => ?_) <;> try (exfalso; (try dsimp only at h); omega)) | refine br_seq (fun h => ?_) (fun h => ?_) | refine br_nseq (fun h => ?_) (fun h => ?_) | refine br_not (fun h => ?_) (fun h => ?_) | refine br_intro (fun h => ?_) (fun h => ?_) | refine cond_intro rfl ?_ | (refine cond_intro ⟨rfl, ?_⟩ ?_; (first | omega | (dsimp only; omega) | decide)) | (refine cond_intro ?_ ?_; (first | omega | (dsimp only; omega) | decide | (simp only [Nat.add_zero, Int.toNat_natCast, *]; omega))))
      all_goals (conv => whnf)
      all_goals first
        | exact ret_out (l := [0, 1, 2, 3, 4]) rfl rfl trivial allRw_nil
        | (exfalso; omega)
    | false =>
      rw [if_neg (by rw [hl]; decide)] at h4
      have ct := lk_times L t x y hn hl
      have w1 : IntKind.i64.wrap (L.W.sum + ((L.F.cn t x y L.F.n + 1 : Nat) : Int)) = L.W.sum + ((L.F.cn t x y L.F.n + 1 : Nat) : Int) := by rw [hs]; exact w64_in (by omega) (by omega)
      generalize L.W.sum = su at *
      generalize L.F.cn t x y L.F.n = cn at *
      generalize L.F.arr t x y (IntKind.i64.wrap (t + L.la)) L.F.n = ar at *
      generalize L.F.cp t x y L.F.n = cp at *
      refine fc_of mixed T_ok Try.func8 rfl (by kernel_rfl) (by kernel_rfl) (by kernel_rfl) ?_
      repeat' ((conv => whnf); first | (refine vcall_out (l :=  [0, 1, 2, 3, 4]) (c1 ) ⟨rfl, rfl, rfl, rfl, (by (repeat' (first | exact trivial | exact GB_wf | exact fun _ _ => rfl | constructor)); first | done | fail), (by (repeat' (first | exact trivial | exact GB_fits rfl | constructor)); first | done | fail)⟩ ?_) | (refine vcallD_out (l :=  [0, 1, 2, 3, 4]) (c1 ) ⟨rfl, rfl, rfl, rfl, (by (repeat' (first | exact trivial | exact GB_wf | exact fun _ _ => rfl | constructor)); first | done | fail), (by (repeat' (first | exact trivial | exact GB_fits rfl | constructor)); first | done | fail)⟩ ?_) | (refine vcall_out (l :=  [0, 1, 2, 3, 4]) (c2 ) ⟨rfl, rfl, rfl, rfl, (by (repeat' (first | exact trivial | exact GB_wf | exact fun _ _ => rfl | constructor)); first | done | fail), (by (repeat' (first | exact trivial | exact GB_fits rfl | constructor)); first | done | fail)⟩ ?_) | (refine vcallD_out (l :=  [0, 1, 2, 3, 4]) (c2 ) ⟨rfl, rfl, rfl, rfl, (by (repeat' (first | exact trivial | exact GB_wf | exact fun _ _ => rfl | constructor)); first | done | fail), (by (repeat' (first | exact trivial | exact GB_fits rfl | constructor)); first | done | fail)⟩ ?_) | (refine vcall_out (l :=  [0, 1, 2, 3, 4]) (ct ) ⟨rfl, rfl, rfl, rfl, (by (repeat' (first | exact trivial | exact GB_wf | exact fun _ _ => rfl | constructor)); first | done | fail), (by (repeat' (first | exact trivial | exact GB_fits rfl | constructor)); first | done | fail)⟩ ?_) | (refine vcallD_out (l :=  [0, 1, 2, 3, 4]) (ct ) ⟨rfl, rfl, rfl, rfl, (by (repeat' (first | exact trivial | exact GB_wf | exact fun _ _ => rfl | constructor)); first | done | fail), (by (repeat' (first | exact trivial | exact GB_fits rfl | constructor)); first | done | fail)⟩ ?_) | (refine vcall_out (l :=  [0, 1, 2, 3, 4]) (cu ) ⟨rfl, rfl, rfl, rfl, (by (repeat' (first | exact trivial | exact GB_wf | exact fun _ _ => rfl | constructor)); first | done | fail), (by (repeat' (first | exact trivial | exact GB_fits rfl | constructor)); first | done | fail)⟩ ?_) | (refine vcallD_out (l :=  [0, 1, 2, 3, 4]) (cu ) ⟨rfl, rfl, rfl, rfl, (by (repeat' (first | exact trivial | exact GB_wf | exact fun _ _ => rfl | constructor)); first | done | fail), (by (repeat' (first | exact trivial | exact GB_fits rfl | constructor)); first | done | fail)⟩ ?_) | (refine br_dec (fun h => ?_) (fun h => ?_) <;> try (exfalso; (try dsimp only at h); omega)) | (refine br_ndec (fun h => ?_) (fun h => ?_) <;> try (exfalso; (try dsimp only at h); omega)) | refine br_seq (fun h => ?_) (fun h => ?_) | refine br_nseq (fun h => ?_) (fun h => ?_) | refine br_not (fun h => ?_) (fun h => ?_) | refine br_intro (fun h => ?_) (fun h => ?_) | refine cond_intro rfl ?_ | (refine cond_intro ⟨rfl, ?_⟩ ?_; (first | omega | (dsimp only; omega) | decide)) | (refine cond_intro ?_ ?_; (first | omega | (dsimp only; omega) | decide | (simp only [Nat.add_zero, Int.toNat_natCast, *]; omega))))
      all_goals (conv => whnf)
      all_goals first
        | exact ret_out (l := [0, 1, 2, 3, 4]) rfl rfl trivial allRw_nil
        | (exfalso; omega)
  · rw [if_neg h4] at he; exact absurd rfl he
theorem sdE_zero {L : Lk} {t x y : Int} {s : ByteArray} (h : L.sdE t x y s = 0) : ((0 ≤ x ∧ x < L.pa) ∧ (0 ≤ y ∧ y < L.pa)) ∧ x ≠ y ∧ s.size ≤ 4000 ∧ L.nw ≤ t ∧ t ≤ 1099511627776 ∧ L.W.sum + L.tn t x y ≤ 256 := by
  unfold Lk.sdE at h
  by_cases h1 : ¬ ((0 ≤ x ∧ x < L.pa) ∧ (0 ≤ y ∧ y < L.pa)) ∨ x = y
  · rw [if_pos h1] at h; omega
  rw [if_neg h1] at h
  by_cases h2 : 4000 < s.size
  · rw [if_pos h2] at h; omega
  rw [if_neg h2] at h
  by_cases h3 : t < L.nw ∨ 1099511627776 < t
  · rw [if_pos h3] at h; omega
  rw [if_neg h3] at h
  by_cases h4 : 256 < L.W.sum + L.tn t x y
  · rw [if_pos h4] at h; omega
  omega
abbrev lkS1 (L : Lk) : Heap := [(1, some (lkC false L)), (2, some (faB true L.F)), (3, some (wyM true 4 L.W))]
/-- A text that is lost. -/
theorem lk_Send_lost (L : Lk) (t x y : Int) (s : ByteArray) (hn : L.F.n ≤ 1000) (hw : L.W.Ok) (he : L.sdE t x y s = 0) (hl : L.F.lost t x y L.F.n = true) : FC Try.prog 5 8 [.ptr 1 0 0 0, .int .i64 t, .int .i64 x, .int .i64 y, .str s] (lkS1 L) (isOut (.tup [.int .i64 (IntKind.i64.wrap (L.se + 1)), .int .i64 0]) [(1, some (lkC false { L with nw := t, se := IntKind.i64.wrap (L.se + 1) }))] 5) := by
  obtain ⟨⟨⟨k1, k2⟩, k3, k4⟩, k5, k6, k7, k8, k9⟩ := sdE_zero he
  have c1 := lk_party L x
  have c2 := lk_party L y
  have cu := lk_underWay L hw.nl
  have ct := lk_times_lost L t x y hn hl
  have hs := hw.sum
  have hs0 := sum_nonneg L.W.ns
  have hs1 := hw.lim
  unfold Lk.tn at k9
  rw [if_pos hl] at k9
  have w1 : IntKind.i64.wrap (L.W.sum + 0) = L.W.sum := by rw [hs]; rw [w64_in (by omega) (by omega)]; omega
  generalize L.W.sum = su at *
  refine fc_of mixed T_ok Try.func8 rfl (by kernel_rfl) (by kernel_rfl) (by kernel_rfl) ?_
  repeat' ((conv => whnf); first | (refine vcall_out (l :=  [0, 1, 2, 3, 4]) (c1 ) ⟨rfl, rfl, rfl, rfl, (by (repeat' (first | exact trivial | exact GB_wf | exact fun _ _ => rfl | constructor)); first | done | fail), (by (repeat' (first | exact trivial | exact GB_fits rfl | constructor)); first | done | fail)⟩ ?_) | (refine vcallD_out (l :=  [0, 1, 2, 3, 4]) (c1 ) ⟨rfl, rfl, rfl, rfl, (by (repeat' (first | exact trivial | exact GB_wf | exact fun _ _ => rfl | constructor)); first | done | fail), (by (repeat' (first | exact trivial | exact GB_fits rfl | constructor)); first | done | fail)⟩ ?_) | (refine vcall_out (l :=  [0, 1, 2, 3, 4]) (c2 ) ⟨rfl, rfl, rfl, rfl, (by (repeat' (first | exact trivial | exact GB_wf | exact fun _ _ => rfl | constructor)); first | done | fail), (by (repeat' (first | exact trivial | exact GB_fits rfl | constructor)); first | done | fail)⟩ ?_) | (refine vcallD_out (l :=  [0, 1, 2, 3, 4]) (c2 ) ⟨rfl, rfl, rfl, rfl, (by (repeat' (first | exact trivial | exact GB_wf | exact fun _ _ => rfl | constructor)); first | done | fail), (by (repeat' (first | exact trivial | exact GB_fits rfl | constructor)); first | done | fail)⟩ ?_) | (refine vcall_out (l :=  [0, 1, 2, 3, 4]) (ct ) ⟨rfl, rfl, rfl, rfl, (by (repeat' (first | exact trivial | exact GB_wf | exact fun _ _ => rfl | constructor)); first | done | fail), (by (repeat' (first | exact trivial | exact GB_fits rfl | constructor)); first | done | fail)⟩ ?_) | (refine vcallD_out (l :=  [0, 1, 2, 3, 4]) (ct ) ⟨rfl, rfl, rfl, rfl, (by (repeat' (first | exact trivial | exact GB_wf | exact fun _ _ => rfl | constructor)); first | done | fail), (by (repeat' (first | exact trivial | exact GB_fits rfl | constructor)); first | done | fail)⟩ ?_) | (refine vcall_out (l :=  [0, 1, 2, 3, 4]) (cu ) ⟨rfl, rfl, rfl, rfl, (by (repeat' (first | exact trivial | exact GB_wf | exact fun _ _ => rfl | constructor)); first | done | fail), (by (repeat' (first | exact trivial | exact GB_fits rfl | constructor)); first | done | fail)⟩ ?_) | (refine vcallD_out (l :=  [0, 1, 2, 3, 4]) (cu ) ⟨rfl, rfl, rfl, rfl, (by (repeat' (first | exact trivial | exact GB_wf | exact fun _ _ => rfl | constructor)); first | done | fail), (by (repeat' (first | exact trivial | exact GB_fits rfl | constructor)); first | done | fail)⟩ ?_) | (refine br_dec (fun h => ?_) (fun h => ?_) <;> try (exfalso; (try dsimp only at h); omega)) | (refine br_ndec (fun h => ?_) (fun h => ?_) <;> try (exfalso; (try dsimp only at h); omega)) | refine br_seq (fun h => ?_) (fun h => ?_) | refine br_nseq (fun h => ?_) (fun h => ?_) | refine br_not (fun h => ?_) (fun h => ?_) | refine br_intro (fun h => ?_) (fun h => ?_) | refine cond_intro rfl ?_ | (refine cond_intro ⟨rfl, ?_⟩ ?_; (first | omega | (dsimp only; omega) | decide)) | (refine cond_intro ?_ ?_; (first | omega | (dsimp only; omega) | decide | (simp only [Nat.add_zero, Int.toNat_natCast, *]; omega))))
  all_goals (conv => whnf)
  all_goals first
    | (exfalso; omega)
    | skip
  refine vloop_of (fun _ : Unit => ⟨[(0, .ptr 1 0 0 0), (67, .nsl), (68, .int .i64 0), (69, .int .i64 0)], lkS1 { L with nw := t, se := IntKind.i64.wrap (L.se + 1) }, 5⟩) (fun _ => True) (fun _ => 0) () [0, 1, 2, 3, 4] [] ⟨rfl, ⟨rfl, rfl, rfl, rfl, trivial⟩, ⟨rfl, rfl, rfl, trivial⟩⟩ trivial ?_
  intro _ _
  repeat' ((conv => whnf); first | (refine br_dec (fun h => ?_) (fun h => ?_) <;> try (exfalso; (try dsimp only at h); omega)) | (refine br_ndec (fun h => ?_) (fun h => ?_) <;> try (exfalso; (try dsimp only at h); omega)) | refine br_seq (fun h => ?_) (fun h => ?_) | refine br_nseq (fun h => ?_) (fun h => ?_) | refine br_not (fun h => ?_) (fun h => ?_) | refine br_intro (fun h => ?_) (fun h => ?_) | refine cond_intro rfl ?_ | (refine cond_intro ⟨rfl, ?_⟩ ?_; (first | omega | (dsimp only; omega) | decide)) | (refine cond_intro ?_ ?_; (first | omega | (dsimp only; omega) | decide | (simp only [Nat.add_zero, Int.toNat_natCast, *]; omega))))
  all_goals (conv => whnf)
  all_goals first
    | exact ret_out (l := [0, 1, 2, 3, 4]) rfl rfl ⟨rfl, trivial⟩ (allRw_cons allRw_nil)
    | (exfalso; omega)
end Go.Proofs.Ytpconbdoackcfaa

/- Contracts of package link: a text that is under way. -/
namespace Go.Proofs.Ytpconbdoackcfaa
open Go.RowKit Go.Sy
attribute [local irreducible] vcall vloop vcallD retP
set_option maxRecDepth 100000
set_option linter.unusedVariables false
set_option linter.unusedSimpArgs false

def Ar.add (r : Ar) (t x y k : Int) (s : ByteArray) : Ar := ⟨r.t ++ [t], r.f ++ [x], r.o ++ [y], r.k ++ [k], r.x ++ [s]⟩
/-- An arrival is laid into the table. -/
def Wy.put (W : Wy) (t x y k : Int) (s : ByteArray) : Wy := ⟨if iidx W.ks t < W.n then W.n else W.n + 1, putL (iidx W.ks t) t W.ks, putL (iidx W.ks t) (W.ns.getD (iidx W.ks t) 0 + 1) W.ns, putL (iidx W.ks t) ((W.rs.getD (iidx W.ks t) ar0).add t x y k s) W.rs, if iidx W.ks t < W.n then W.bs else W.bs ++ [W.ck], if iidx W.ks t < W.n then W.ck else W.ck + 1⟩
theorem iidx_le (l : List Int) (x : Int) : iidx l x ≤ l.length := by
  induction l with
  | nil => simp [iidx]
  | cons a l ih =>
    simp only [iidx]
    cases decide (a = x) <;> simp
    exact ih
/-- Arrivals one after the other. -/
def Wy.puts (W : Wy) (al : List Int) (x y k : Int) (s : ByteArray) : Nat → Wy
  | 0 => W
  | i + 1 => (W.puts al x y k s i).put (al.getD i 0) x y k s
theorem put_fam (W : Wy) (ho : W.ns.length = W.n) (hr : W.rs.length = W.n) (hk : W.ks.length = W.n) (ro : Bool) (t x y k : Int) (s : ByteArray) : wyF ro (W.put t x y k s) = .fam ro (fun q => q < (if iidx W.ks t < W.n then W.n else W.n + 1)) (fun q => if q = iidx W.ks t then arB (W.ns.getD (iidx W.ks t) 0 + 1) ((W.rs.getD (iidx W.ks t) ar0).add t x y k s) else arB (W.ns.getD q 0) (W.rs.getD q ar0)) := by
  have hle := iidx_le W.ks t
  unfold wyF Wy.put
  dsimp only
  congr 1
  funext q
  rw [putL_at (by omega), putL_at (by omega)]
  split <;> rfl
theorem put_len (W : Wy) (ho : W.ns.length = W.n) (hr : W.rs.length = W.n) (hk : W.ks.length = W.n) (t x y k : Int) (s : ByteArray) : (W.put t x y k s).ns.length = (W.put t x y k s).n ∧ (W.put t x y k s).rs.length = (W.put t x y k s).n ∧ (W.put t x y k s).ks.length = (W.put t x y k s).n := by
  unfold Wy.put
  dsimp only
  rw [putL_length, putL_length, putL_length, ho, hr, hk]
  exact ⟨rfl, rfl, rfl⟩
theorem sum_put : ∀ (l : List Nat) (i : Nat), i ≤ l.length → ((putL i (l.getD i 0 + 1) l).map (fun (n : Nat) => (n : Int))).sum = (l.map (fun (n : Nat) => (n : Int))).sum + 1 := by
  intro l i hi
  unfold putL
  by_cases h : i < l.length
  · rw [if_pos h]
    induction l generalizing i with
    | nil => simp at h
    | cons a l ih =>
      cases i with
      | zero => simp only [List.getD_cons_zero, List.set_cons_zero, List.map_cons, List.sum_cons]; omega
      | succ i =>
        simp only [List.getD_cons_succ, List.set_cons_succ, List.map_cons, List.sum_cons]
        have := ih i (by simp at hi; omega) (by simp at h; omega)
        omega
  · rw [if_neg h]
    have : i = l.length := by omega
    subst this
    simp [List.getD]
theorem puts_ok {W : Wy} (ho : W.ns.length = W.n) (hr : W.rs.length = W.n) (hk : W.ks.length = W.n) (al : List Int) (x y k : Int) (s : ByteArray) : ∀ i, (W.puts al x y k s i).ns.length = (W.puts al x y k s i).n ∧ (W.puts al x y k s i).rs.length = (W.puts al x y k s i).n ∧ (W.puts al x y k s i).ks.length = (W.puts al x y k s i).n ∧ ((W.puts al x y k s i).ns.map (fun (n : Nat) => (n : Int))).sum = (W.ns.map (fun (n : Nat) => (n : Int))).sum + i
  | 0 => ⟨ho, hr, hk, by simp [Wy.puts]⟩
  | i + 1 => by
    obtain ⟨h1, h2, h3, h4⟩ := puts_ok ho hr hk al x y k s i
    obtain ⟨a1, a2, a3⟩ := put_len _ h1 h2 h3 (al.getD i 0) x y k s
    refine ⟨a1, a2, a3, ?_⟩
    have hle := iidx_le (W.puts al x y k s i).ks (al.getD i 0)
    have := sum_put (W.puts al x y k s i).ns (iidx (W.puts al x y k s i).ks (al.getD i 0)) (by omega)
    simp only [Wy.puts, Wy.put]
    rw [this, h4]
    omega
abbrev sdH (L : Lk) (t : Int) (al : List Int) (c : Nat) (h : Nat) (W : Wy) : Heap := [(1, some (.one false (.cells [.int .i64 L.pa, .int .i64 L.la, .sl 2 0 0 L.F.n, .int .i64 t, .int .i64 (IntKind.i64.wrap (L.se + 1)), .map 3 0]))), (2, some (faB true L.F)), (3, some (wyM false h W)), (h, some (wyF false W)), (5, some (.one false (.cols c [.sc (.ints .i64 al)])))]
set_option maxHeartbeats 1000000 in
/-- A round of the times. -/
theorem sd_round (L : Lk) (t x y : Int) (s : ByteArray) (al : List Int) (c : Nat) (hc : c ≤ 1000) (W : Wy) (h1 : W.ns.length = W.n) (h2 : W.rs.length = W.n) (h3 : W.ks.length = W.n) (hlim : (W.ns.map (fun (n : Nat) => (n : Int))).sum ≤ 2000) (i : Nat) (hi : i < c) (K : Exit → VS → Prop)
    (hN : ∀ v, (∃ l u, upK u v (fun v => Weak 5 l v ⟨[(0, .ptr 1 0 0 0), (2, .int .i64 x), (3, .int .i64 y), (4, .str s), (67, .sl 5 0 0 c), (68, .int .i64 c), (69, .int .i64 ((i + 1 : Nat) : Int))], sdH L t al c 6 (W.put (al.getD i 0) x y (IntKind.i64.wrap (L.se + 1)) s), 7⟩)) → K .normal v) :
    vcode Try.prog T 5 (lpc Try.f8 0) ⟨[(0, .ptr 1 0 0 0), (2, .int .i64 x), (3, .int .i64 y), (4, .str s), (67, .sl 5 0 0 c), (68, .int .i64 c), (69, .int .i64 i)], sdH L t al c 6 W, 7⟩ K := by
  have hle := iidx_le W.ks (al.getD i 0)
  have hge := sum_ge W.ns (iidx W.ks (al.getD i 0))
  have efam := put_fam W h1 h2 h3 false (al.getD i 0) x y (IntKind.i64.wrap (L.se + 1)) s
  by_cases hin : iidx W.ks (al.getD i 0) < W.n
  · have hfd : foundS false W.n [.own 6 W.ns] (iidx W.ks (al.getD ((i : Int).toNat + 0) 0)) = .sl 6 (iidx W.ks (al.getD i 0)) 0 (W.ns.getD (iidx W.ks (al.getD i 0)) 0) := by
      show (bif decide (iidx W.ks (al.getD i 0) < W.n) then SV.sl 6 (iidx W.ks (al.getD i 0)) 0 (W.ns.getD (iidx W.ks (al.getD i 0)) 0) else .nsl) = _
      rw [decide_eq_true hin]; rfl
    repeat' ((conv => whnf); first | (rw [hfd]) | (refine br_dec (fun h => ?_) (fun h => ?_) <;> try (exfalso; (try dsimp only at h); omega)) | (refine br_ndec (fun h => ?_) (fun h => ?_) <;> try (exfalso; (try dsimp only at h); omega)) | refine br_seq (fun h => ?_) (fun h => ?_) | refine br_nseq (fun h => ?_) (fun h => ?_) | refine br_not (fun h => ?_) (fun h => ?_) | refine br_intro (fun h => ?_) (fun h => ?_) | refine cond_intro rfl ?_ | (refine cond_intro ⟨rfl, ?_⟩ ?_; (first | omega | (dsimp only; omega) | decide)) | (refine cond_intro ?_ ?_; (first | omega | (dsimp only; omega) | decide | (simp only [Nat.add_zero, Int.toNat_natCast, *]; omega))))
    all_goals (conv => whnf)
    all_goals first
      | (exfalso; omega)
      | (refine hN _ ⟨[0, 1, 2, 3, 4, 5, 9], [.relab (fun h' q => if h' = 9 ∧ q < (if iidx W.ks (al.getD i 0) < W.n then W.n else W.n + 1) then (if q = iidx W.ks (al.getD i 0) then some (8, 0) else some (6, q)) else none) (fun _ => 0) [(3, some (wyM false 9 (W.put (al.getD i 0) x y (IntKind.i64.wrap (L.se + 1)) s))), (9, some (wyF false (W.put (al.getD i 0) x y (IntKind.i64.wrap (L.se + 1)) s)))] [6, 8] 1], ⟨by rw [efam]; exact relab_map_put (n := 9) (bh := 3) (h := 6) (a := 8) (k := W.ns.getD (iidx W.ks (al.getD i 0)) 0 + 1) (i := iidx W.ks (al.getD i 0)) (ns := W.ns) (dom := fun q => q < W.n ∧ q ≠ iidx W.ks (al.getD i 0)) rfl (by decide) (by omega) (by rw [h1]) rfl rfl (fun q hq hne => ⟨by omega, hne⟩) (by decide) (by decide) (by decide), ?_⟩⟩
         exact ⟨rfl, ⟨rfl, rfl, rfl, rfl, rfl, rfl, congrArg (fun z => some (SV.int .i64 z)) (i64_succ (by omega)), trivial⟩, ⟨rfl, rfl, rfl, rfl, rfl, trivial⟩⟩)
  · have hfd : foundS false W.n [.own 6 W.ns] (iidx W.ks (al.getD ((i : Int).toNat + 0) 0)) = .nsl := by
      show (bif decide (iidx W.ks (al.getD i 0) < W.n) then SV.sl 6 (iidx W.ks (al.getD i 0)) 0 (W.ns.getD (iidx W.ks (al.getD i 0)) 0) else .nsl) = _
      rw [decide_eq_false hin]; rfl
    have z0 : W.ns.getD (iidx W.ks (al.getD i 0)) 0 = 0 := by rw [List.getD, List.getElem?_eq_none (by omega)]; rfl
    have z1 : W.rs.getD (iidx W.ks (al.getD i 0)) ar0 = ar0 := by rw [List.getD, List.getElem?_eq_none (by omega)]; rfl
    have eput : W.put (al.getD i 0) x y (IntKind.i64.wrap (L.se + 1)) s = ⟨if iidx W.ks (al.getD i 0) < W.n then W.n else W.n + 1, putL (iidx W.ks (al.getD i 0)) (al.getD i 0) W.ks, putL (iidx W.ks (al.getD i 0)) 1 W.ns, putL (iidx W.ks (al.getD i 0)) (ar0.add (al.getD i 0) x y (IntKind.i64.wrap (L.se + 1)) s) W.rs, if iidx W.ks (al.getD i 0) < W.n then W.bs else W.bs ++ [W.ck], if iidx W.ks (al.getD i 0) < W.n then W.ck else W.ck + 1⟩ := by
      unfold Wy.put; rw [z0, z1]
    rw [z0, z1] at efam
    rw [eput] at efam hN
    repeat' ((conv => whnf); first | (rw [hfd]) | (refine br_dec (fun h => ?_) (fun h => ?_) <;> try (exfalso; (try dsimp only at h); omega)) | (refine br_ndec (fun h => ?_) (fun h => ?_) <;> try (exfalso; (try dsimp only at h); omega)) | refine br_seq (fun h => ?_) (fun h => ?_) | refine br_nseq (fun h => ?_) (fun h => ?_) | refine br_not (fun h => ?_) (fun h => ?_) | refine br_intro (fun h => ?_) (fun h => ?_) | refine cond_intro rfl ?_ | (refine cond_intro ⟨rfl, ?_⟩ ?_; (first | omega | (dsimp only; omega) | decide)) | (refine cond_intro ?_ ?_; (first | omega | (dsimp only; omega) | decide | (simp only [Nat.add_zero, Int.toNat_natCast, *]; omega))))
    all_goals (conv => whnf)
    all_goals first
      | (exfalso; omega)
      | (refine hN _ ⟨[0, 1, 2, 3, 4, 5, 9], [.relab (fun h' q => if h' = 9 ∧ q < (if iidx W.ks (al.getD i 0) < W.n then W.n else W.n + 1) then (if q = iidx W.ks (al.getD i 0) then some (8, 0) else some (6, q)) else none) (fun _ => 0) [(3, some (wyM false 9 ⟨if iidx W.ks (al.getD i 0) < W.n then W.n else W.n + 1, putL (iidx W.ks (al.getD i 0)) (al.getD i 0) W.ks, putL (iidx W.ks (al.getD i 0)) 1 W.ns, putL (iidx W.ks (al.getD i 0)) (ar0.add (al.getD i 0) x y (IntKind.i64.wrap (L.se + 1)) s) W.rs, if iidx W.ks (al.getD i 0) < W.n then W.bs else W.bs ++ [W.ck], if iidx W.ks (al.getD i 0) < W.n then W.ck else W.ck + 1⟩)), (9, some (wyF false ⟨if iidx W.ks (al.getD i 0) < W.n then W.n else W.n + 1, putL (iidx W.ks (al.getD i 0)) (al.getD i 0) W.ks, putL (iidx W.ks (al.getD i 0)) 1 W.ns, putL (iidx W.ks (al.getD i 0)) (ar0.add (al.getD i 0) x y (IntKind.i64.wrap (L.se + 1)) s) W.rs, if iidx W.ks (al.getD i 0) < W.n then W.bs else W.bs ++ [W.ck], if iidx W.ks (al.getD i 0) < W.n then W.ck else W.ck + 1⟩))] [6, 8] 1], ⟨by rw [efam]; exact relab_map_put (n := 9) (bh := 3) (h := 6) (a := 8) (k := 1) (i := iidx W.ks (al.getD i 0)) (ns := W.ns) (dom := fun q => q < W.n) rfl (by decide) (by omega) (by rw [h1]) rfl rfl (fun q hq hne => (show q < W.n by omega)) (by decide) (by decide) (by decide), ?_⟩⟩
         exact ⟨rfl, ⟨rfl, rfl, rfl, rfl, rfl, rfl, congrArg (fun z => some (SV.int .i64 z)) (i64_succ (by omega)), trivial⟩, ⟨rfl, rfl, rfl, rfl, rfl, trivial⟩⟩)
/-- The table when a text is under way. -/
def Lk.al (L : Lk) (t x y : Int) : List Int := Fa.al (L.F.arr t x y (IntKind.i64.wrap (t + L.la)) L.F.n) (L.F.cp t x y L.F.n) (L.F.cn t x y L.F.n)
def Lk.sdW (L : Lk) (t x y : Int) (s : ByteArray) : Wy := L.W.puts (L.al t x y) x y (IntKind.i64.wrap (L.se + 1)) s (L.F.cn t x y L.F.n + 1)
abbrev lkO (L : Lk) (t : Int) (W : Wy) : Heap := [(1, some (.one false (.cells [.int .i64 L.pa, .int .i64 L.la, .sl 2 0 0 L.F.n, .int .i64 t, .int .i64 (IntKind.i64.wrap (L.se + 1)), .map 3 0]))), (3, some (wyM false 5 W)), (5, some (wyF false W))]
theorem lk_Send_ok (L : Lk) (t x y : Int) (s : ByteArray) (hn : L.F.n ≤ 999) (hw : L.W.Ok) (he : L.sdE t x y s = 0) (hl : L.F.lost t x y L.F.n = false) : FC Try.prog 5 8 [.ptr 1 0 0 0, .int .i64 t, .int .i64 x, .int .i64 y, .str s] (lkH L) (isOut (.tup [.int .i64 (IntKind.i64.wrap (L.se + 1)), .int .i64 0]) (lkO L t (L.sdW t x y s)) 6) := by
  obtain ⟨⟨⟨k1, k2⟩, k3, k4⟩, k5, k6, k7, k8, k9⟩ := sdE_zero he
  have c1 := lk_party L x
  have c2 := lk_party L y
  have cu := lk_underWay L hw.nl
  have ct := lk_times L t x y (by omega) hl
  have hs := hw.sum
  have hs0 := sum_nonneg L.W.ns
  have hs1 := hw.lim
  have hcn := cn_le L.F t x y L.F.n
  unfold Lk.tn at k9
  rw [if_neg (by rw [hl]; decide)] at k9
  have w1 : IntKind.i64.wrap (L.W.sum + ((L.F.cn t x y L.F.n + 1 : Nat) : Int)) = L.W.sum + ((L.F.cn t x y L.F.n + 1 : Nat) : Int) := by rw [hs]; exact w64_in (by omega) (by omega)
  unfold Lk.sdW
  change FC _ _ _ _ _ (isOut (.sl 5 0 0 (L.F.cn t x y L.F.n + 1)) [(5, some (.one false (.cols (L.F.cn t x y L.F.n + 1) [.sc (.ints .i64 (L.al t x y))])))] 6) at ct
  have pk := puts_ok hw.nl hw.rl hw.kl (L.al t x y) x y (IntKind.i64.wrap (L.se + 1)) s
  generalize L.al t x y = al at *
  generalize L.F.cn t x y L.F.n + 1 = c at *
  generalize L.W.sum = su at *
  refine fc_of mixed T_ok Try.func8 rfl (by kernel_rfl) (by kernel_rfl) (by kernel_rfl) ?_
  repeat' ((conv => whnf); first | (refine vcall_out (l :=  [0, 1, 2, 3, 4]) (c1 ) ⟨rfl, rfl, rfl, rfl, (by (repeat' (first | exact trivial | exact GB_wf | exact fun _ _ => rfl | constructor)); first | done | fail), (by (repeat' (first | exact trivial | exact GB_fits rfl | constructor)); first | done | fail)⟩ ?_) | (refine vcallD_out (l :=  [0, 1, 2, 3, 4]) (c1 ) ⟨rfl, rfl, rfl, rfl, (by (repeat' (first | exact trivial | exact GB_wf | exact fun _ _ => rfl | constructor)); first | done | fail), (by (repeat' (first | exact trivial | exact GB_fits rfl | constructor)); first | done | fail)⟩ ?_) | (refine vcall_out (l :=  [0, 1, 2, 3, 4]) (c2 ) ⟨rfl, rfl, rfl, rfl, (by (repeat' (first | exact trivial | exact GB_wf | exact fun _ _ => rfl | constructor)); first | done | fail), (by (repeat' (first | exact trivial | exact GB_fits rfl | constructor)); first | done | fail)⟩ ?_) | (refine vcallD_out (l :=  [0, 1, 2, 3, 4]) (c2 ) ⟨rfl, rfl, rfl, rfl, (by (repeat' (first | exact trivial | exact GB_wf | exact fun _ _ => rfl | constructor)); first | done | fail), (by (repeat' (first | exact trivial | exact GB_fits rfl | constructor)); first | done | fail)⟩ ?_) | (refine vcall_out (l :=  [0, 1, 2, 3, 4]) (ct ) ⟨rfl, rfl, rfl, rfl, (by (repeat' (first | exact trivial | exact GB_wf | exact fun _ _ => rfl | constructor)); first | done | fail), (by (repeat' (first | exact trivial | exact GB_fits rfl | constructor)); first | done | fail)⟩ ?_) | (refine vcallD_out (l :=  [0, 1, 2, 3, 4]) (ct ) ⟨rfl, rfl, rfl, rfl, (by (repeat' (first | exact trivial | exact GB_wf | exact fun _ _ => rfl | constructor)); first | done | fail), (by (repeat' (first | exact trivial | exact GB_fits rfl | constructor)); first | done | fail)⟩ ?_) | (refine vcall_out (l :=  [0, 1, 2, 3, 4]) (cu ) ⟨rfl, rfl, rfl, rfl, (by (repeat' (first | exact trivial | exact GB_wf | exact fun _ _ => rfl | constructor)); first | done | fail), (by (repeat' (first | exact trivial | exact GB_fits rfl | constructor)); first | done | fail)⟩ ?_) | (refine vcallD_out (l :=  [0, 1, 2, 3, 4]) (cu ) ⟨rfl, rfl, rfl, rfl, (by (repeat' (first | exact trivial | exact GB_wf | exact fun _ _ => rfl | constructor)); first | done | fail), (by (repeat' (first | exact trivial | exact GB_fits rfl | constructor)); first | done | fail)⟩ ?_) | (refine br_dec (fun h => ?_) (fun h => ?_) <;> try (exfalso; (try dsimp only at h); omega)) | (refine br_ndec (fun h => ?_) (fun h => ?_) <;> try (exfalso; (try dsimp only at h); omega)) | refine br_seq (fun h => ?_) (fun h => ?_) | refine br_nseq (fun h => ?_) (fun h => ?_) | refine br_not (fun h => ?_) (fun h => ?_) | refine br_intro (fun h => ?_) (fun h => ?_) | refine cond_intro rfl ?_ | (refine cond_intro ⟨rfl, ?_⟩ ?_; (first | omega | (dsimp only; omega) | decide)) | (refine cond_intro ?_ ?_; (first | omega | (dsimp only; omega) | decide | (simp only [Nat.add_zero, Int.toNat_natCast, *]; omega))))
  all_goals (conv => whnf)
  all_goals first
    | (exfalso; omega)
    | skip
  refine vloop_lp (fun i : Nat => ⟨[(0, .ptr 1 0 0 0), (2, .int .i64 x), (3, .int .i64 y), (4, .str s), (67, .sl 5 0 0 c), (68, .int .i64 c), (69, .int .i64 i)], sdH L t al c 6 (L.W.puts al x y (IntKind.i64.wrap (L.se + 1)) s i), 7⟩) (fun i => i ≤ c) (fun i => c - i) 0 [0, 1, 2, 3, 4, 5, 4] [] ⟨rfl, ⟨rfl, rfl, rfl, rfl, rfl, rfl, rfl, trivial⟩, ⟨rfl, rfl, rfl, rfl, rfl, trivial⟩⟩ (Nat.zero_le _) ?_
  intro i hi
  by_cases hi2 : i < c
  · obtain ⟨p1, p2, p3, p4⟩ := pk i
    exact sd_round L t x y s al c (by omega) _ p1 p2 p3 (by omega) i hi2 _ (fun v ⟨l, u, h⟩ => ⟨i + 1, l, u, (show i + 1 ≤ c by omega), (show c - (i + 1) < c - i by omega), h⟩)
  · obtain rfl : i = c := by omega
    generalize L.W.puts al x y (IntKind.i64.wrap (L.se + 1)) s i = W at *
    repeat' ((conv => whnf); first | (refine br_dec (fun h => ?_) (fun h => ?_) <;> try (exfalso; (try dsimp only at h); omega)) | (refine br_ndec (fun h => ?_) (fun h => ?_) <;> try (exfalso; (try dsimp only at h); omega)) | refine br_seq (fun h => ?_) (fun h => ?_) | refine br_nseq (fun h => ?_) (fun h => ?_) | refine br_not (fun h => ?_) (fun h => ?_) | refine br_intro (fun h => ?_) (fun h => ?_) | refine cond_intro rfl ?_ | (refine cond_intro ⟨rfl, ?_⟩ ?_; (first | omega | (dsimp only; omega) | decide)) | (refine cond_intro ?_ ?_; (first | omega | (dsimp only; omega) | decide | (simp only [Nat.add_zero, Int.toNat_natCast, *]; omega))))
    all_goals (conv => whnf)
    all_goals first
      | exact ret_out (l := [0, 1, 2, 3, 4, 6]) rfl rfl ⟨rfl, rfl, rfl, trivial⟩ (allRw_cons (allRw_cons (allRw_fam allRw_nil)))
      | (exfalso; omega)
end Go.Proofs.Ytpconbdoackcfaa

/- Contracts of package link: receiving. -/
namespace Go.Proofs.Ytpconbdoackcfaa
open Go.RowKit Go.Sy
attribute [local irreducible] vcall vloop vcallD retP sortI
set_option maxRecDepth 100000
set_option linter.unusedVariables false
set_option linter.unusedSimpArgs false

theorem int_Sort (n : Nat) (l : List Int) (hn : n < 4611686018427387904) : FC Try.prog 2 28 [.sl 1 0 0 n] [(1, some (.one false (.cols n [.sc (.ints .i64 l)])))] (isOut (.tup []) [(1, some (.one false (.cols n [.sc (.ints .i64 (sortI l))])))] 2) :=
  fc_sortI ⟨fun blk off cap ss W hH hblk hsz => AnyM.slices_Sort_int Try.sortI blk off cap ss W hH hblk hsz, fun p cap W => AnyM.slices_Sort_int_none Try.sortI p cap W⟩ (bodied_of Try.func28 (by kernel_rfl) (by kernel_rfl)) n l hn

theorem lk_ReceiveN (u : Int) : Pure Try.prog 9 [.nptr, .int .i64 u] .nsl := by
  refine fc_of mixed T_ok Try.func9 rfl (by kernel_rfl) (by kernel_rfl) (by kernel_rfl) ?_
  repeat' ((conv => whnf); first | (refine br_dec (fun h => ?_) (fun h => ?_) <;> try (exfalso; (try dsimp only at h); omega)) | (refine br_ndec (fun h => ?_) (fun h => ?_) <;> try (exfalso; (try dsimp only at h); omega)) | refine br_seq (fun h => ?_) (fun h => ?_) | refine br_nseq (fun h => ?_) (fun h => ?_) | refine br_not (fun h => ?_) (fun h => ?_) | refine br_intro (fun h => ?_) (fun h => ?_) | refine cond_intro rfl ?_ | (refine cond_intro ⟨rfl, ?_⟩ ?_; (first | omega | (dsimp only; omega) | decide)) | (refine cond_intro ?_ ?_; (first | omega | (dsimp only; omega) | decide | (simp only [Nat.add_zero, Int.toNat_natCast, *]; omega))))
  all_goals (conv => whnf)
  all_goals exact ret_pure rfl
/-- The times up to one, of the rows that were visited. -/
def tiL (ks : List Int) (u : Int) (sn : List Nat) : List Int := (sn.reverse.map (fun i => ks.getD i 0)).filter (fun t => decide (t ≤ u))
theorem tiL_yes {ks : List Int} {u : Int} {i : Nat} {sn : List Nat} (h : ks.getD i 0 ≤ u) : tiL ks u (i :: sn) = tiL ks u sn ++ [ks.getD i 0] := by
  unfold tiL
  rw [List.reverse_cons, List.map_append, List.filter_append]
  simp only [List.map_cons, List.map_nil, List.filter_cons, List.filter_nil, decide_eq_true h, if_true]
theorem tiL_no {ks : List Int} {u : Int} {i : Nat} {sn : List Nat} (h : ¬ ks.getD i 0 ≤ u) : tiL ks u (i :: sn) = tiL ks u sn := by
  unfold tiL
  rw [List.reverse_cons, List.map_append, List.filter_append]
  simp only [List.map_cons, List.map_nil, List.filter_cons, List.filter_nil, decide_eq_false h, Bool.false_eq_true, if_false, List.append_nil]
theorem tiL_len (ks : List Int) (u : Int) (sn : List Nat) : (tiL ks u sn).length ≤ sn.length := by
  unfold tiL
  refine Nat.le_trans (List.length_filter_le _ _) ?_
  simp
/-- The times that arrive, in order. -/
def Wy.due (W : Wy) (u : Int) : List Int := sortI (W.ks.filter (fun t => decide (t ≤ u)))
theorem due_eq {W : Wy} {u : Int} {sn : List Nat} (hk : W.ks.length = W.n) (hd : sn.Nodup) (hl : ∀ i ∈ sn, i < W.n) (ha : ∀ i, i < W.n → i ∈ sn) : sortI (tiL W.ks u sn) = W.due u := by
  unfold Wy.due tiL
  refine sortI_congr (List.Perm.filter _ ?_)
  have := ((List.reverse_perm sn).trans (perm_range hd hl ha)).map (fun i => W.ks.getD i 0)
  rwa [← hk, map_range_getD] at this

def Ar.cat (a : Ar) (n : Nat) (r : Ar) : Ar := ⟨a.t ++ seg 0 n r.t, a.f ++ seg 0 n r.f, a.o ++ seg 0 n r.o, a.k ++ seg 0 n r.k, a.x ++ seg 0 n r.x⟩
def Wy.del (W : Wy) (t : Int) : Wy := ⟨if iidx W.ks t < W.n then W.n - 1 else W.n, W.ks.eraseIdx (iidx W.ks t), W.ns.eraseIdx (iidx W.ks t), W.rs.eraseIdx (iidx W.ks t), W.bs.eraseIdx (iidx W.ks t), W.ck⟩
def Wy.dels (W : Wy) (S : List Int) : Nat → Wy
  | 0 => W
  | k + 1 => (W.dels S k).del (S.getD k 0)
/-- How many have arrived, and which. -/
def Wy.gn (W : Wy) (S : List Int) : Nat → Nat
  | 0 => 0
  | k + 1 => W.gn S k + (W.dels S k).ns.getD (iidx (W.dels S k).ks (S.getD k 0)) 0
def Wy.got (W : Wy) (S : List Int) : Nat → Ar
  | 0 => ar0
  | k + 1 => (W.got S k).cat ((W.dels S k).ns.getD (iidx (W.dels S k).ks (S.getD k 0)) 0) ((W.dels S k).rs.getD (iidx (W.dels S k).ks (S.getD k 0)) ar0)
theorem del_fam (W : Wy) (ro : Bool) (t : Int) : wyF ro (W.del t) = .fam ro (fun q => q < (if iidx W.ks t < W.n then W.n - 1 else W.n)) (fun q => arB (W.ns.getD (if q < iidx W.ks t then q else q + 1) 0) (W.rs.getD (if q < iidx W.ks t then q else q + 1) ar0)) := by
  unfold wyF Wy.del
  dsimp only
  congr 1
  funext q
  rw [eraseIdx_getD, eraseIdx_getD]
abbrev rvH (L : Lk) (S : List Int) (c : Nat) (W : Wy) (gn : Nat) (g : Ar) : Heap := [(1, some (lkC false L)), (2, some (faB true L.F)), (3, some (wyM false 6 W)), (6, some (wyF false W)), (5, some (.one false (.cols c [.sc (.ints .i64 S)]))), (7, some (.one false (arB gn g)))]
set_option maxHeartbeats 1000000 in
/-- A round of the times that arrive. -/
theorem rv_round (L : Lk) (u : Int) (S : List Int) (c : Nat) (hc : c ≤ 100000) (W : Wy) (h1 : W.ns.length = W.n) (i : Nat) (hi : i < c) (hin : iidx W.ks (S.getD i 0) < W.n) (gn : Nat) (g : Ar) (hg : gn ≤ 100000) (hg2 : W.ns.getD (iidx W.ks (S.getD i 0)) 0 ≤ 100000) (K : Exit → VS → Prop)
    (hN : ∀ v, (∃ l us, upK us v (fun v => Weak 5 l v ⟨[(0, .ptr 1 0 0 0), (1, .int .i64 u), (30, .sl 5 0 0 c), (31, .int .i64 c), (32, .int .i64 ((i + 1 : Nat) : Int)), (7, .sl 7 0 0 (gn + W.ns.getD (iidx W.ks (S.getD i 0)) 0))], rvH L S c (W.del (S.getD i 0)) (gn + W.ns.getD (iidx W.ks (S.getD i 0)) 0) (g.cat (W.ns.getD (iidx W.ks (S.getD i 0)) 0) (W.rs.getD (iidx W.ks (S.getD i 0)) ar0)), 8⟩)) → K .normal v) :
    vcode Try.prog T 5 (lpc Try.f9 1) ⟨[(0, .ptr 1 0 0 0), (1, .int .i64 u), (30, .sl 5 0 0 c), (31, .int .i64 c), (32, .int .i64 i), (7, .sl 7 0 0 gn)], rvH L S c W gn g, 8⟩ K := by
  have efam := del_fam W false (S.getD i 0)
  have hfd : foundS false W.n [.own 6 W.ns] (iidx W.ks (S.getD ((i : Int).toNat + 0) 0)) = .sl 6 (iidx W.ks (S.getD i 0)) 0 (W.ns.getD (iidx W.ks (S.getD i 0)) 0) := by
    show (bif decide (iidx W.ks (S.getD i 0) < W.n) then SV.sl 6 (iidx W.ks (S.getD i 0)) 0 (W.ns.getD (iidx W.ks (S.getD i 0)) 0) else .nsl) = _
    rw [decide_eq_true hin]; rfl
  repeat' ((conv => whnf); first | (rw [hfd]) | (refine br_dec (fun h => ?_) (fun h => ?_) <;> try (exfalso; (try dsimp only at h); omega)) | (refine br_ndec (fun h => ?_) (fun h => ?_) <;> try (exfalso; (try dsimp only at h); omega)) | refine br_seq (fun h => ?_) (fun h => ?_) | refine br_nseq (fun h => ?_) (fun h => ?_) | refine br_not (fun h => ?_) (fun h => ?_) | refine br_intro (fun h => ?_) (fun h => ?_) | refine cond_intro rfl ?_ | (refine cond_intro ⟨rfl, ?_⟩ ?_; (first | omega | (dsimp only; omega) | decide)) | (refine cond_intro ?_ ?_; (first | omega | (dsimp only; omega) | decide | (simp only [Nat.add_zero, Int.toNat_natCast, *]; omega))))
  all_goals (conv => whnf)
  all_goals first
    | (exfalso; omega)
    | (refine hN _ ⟨[0, 1, 2, 3, 4, 5, 9, 8], [.relab (fun h' q => if h' = 9 ∧ q < (if iidx W.ks (S.getD i 0) < W.n then W.n - 1 else W.n) then some (6, if q < iidx W.ks (S.getD i 0) then q else q + 1) else none) (fun _ => 0) [(3, some (wyM false 9 (W.del (S.getD i 0)))), (9, some (wyF false (W.del (S.getD i 0))))] [6] 1], ⟨by rw [efam]; exact relab_map_del' (f := fun q => arB (W.ns.getD q 0) (W.rs.getD q ar0)) (m := if iidx W.ks (S.getD i 0) < W.n then W.n - 1 else W.n) (n := 9) (bh := 3) (h := 6) (i := iidx W.ks (S.getD i 0)) (ns := W.ns) (dom := fun q => q < W.n) rfl (by decide) (by omega) (by rw [if_pos hin]; omega) rfl (fun q hq hne => (show q < W.n by omega)) (by decide), ?_⟩⟩
       exact ⟨rfl, ⟨rfl, rfl, rfl, rfl, congrArg (fun z => some (SV.int .i64 z)) (i64_succ (by omega)), rfl, trivial⟩, ⟨rfl, rfl, rfl, rfl, rfl, rfl, trivial⟩⟩)
theorem dels_ok {W : Wy} (h1 : W.ns.length = W.n) (h2 : W.rs.length = W.n) (h3 : W.ks.length = W.n) (hd : W.ks.Nodup) (S : List Int) (hS : S.Nodup) (hm : ∀ t, t ∈ S → t ∈ W.ks) : ∀ k, k ≤ S.length → (W.dels S k).ns.length = (W.dels S k).n ∧ (W.dels S k).rs.length = (W.dels S k).n ∧ (W.dels S k).ks.length = (W.dels S k).n ∧ (W.dels S k).ks.Nodup ∧ ∀ t, t ∈ (W.dels S k).ks ↔ t ∈ W.ks ∧ ¬ t ∈ S.take k
  | 0, _ => ⟨h1, h2, h3, hd, fun t => by simp [Wy.dels]⟩
  | k + 1, hk => by
    obtain ⟨a1, a2, a3, a4, a5⟩ := dels_ok h1 h2 h3 hd S hS hm k (by omega)
    have hlt : k < S.length := by omega
    have eg : S.getD k 0 = S[k] := by simp [List.getD, hlt]
    have hin : S.getD k 0 ∈ (W.dels S k).ks := by
      rw [a5, eg]
      refine ⟨hm _ (List.getElem_mem hlt), fun h => ?_⟩
      obtain ⟨j, hj, e⟩ := List.getElem_of_mem h
      simp only [List.length_take] at hj
      rw [List.getElem_take] at e
      have := (List.getElem_inj hS).1 e
      omega
    have hi := iidx_lt.2 hin
    rw [a3] at hi
    simp only [Wy.dels, Wy.del]
    refine ⟨?_, ?_, ?_, erase_nodup a4 _, fun t => ?_⟩
    · rw [List.length_eraseIdx, if_pos hi, if_pos (by omega), a1]
    · rw [List.length_eraseIdx, if_pos hi, if_pos (by omega), a2]
    · rw [List.length_eraseIdx, if_pos hi, if_pos (by omega), a3]
    · rw [erase_mem a4, a5, List.take_succ_eq_append_getElem hlt, List.mem_append, List.mem_singleton, eg]
      exact ⟨fun h => ⟨h.1.1, fun x => x.elim h.1.2 h.2⟩, fun h => ⟨⟨h.1, fun x => h.2 (.inl x)⟩, fun x => h.2 (.inr x)⟩⟩
theorem sum_erase : ∀ (l : List Nat) (i : Nat), ((l.eraseIdx i).map (fun (n : Nat) => (n : Int))).sum + ((l.getD i 0 : Nat) : Int) = (l.map (fun (n : Nat) => (n : Int))).sum
  | [], i => by simp
  | a :: l, 0 => by simp only [List.eraseIdx_cons_zero, List.getD_cons_zero, List.map_cons, List.sum_cons]; omega
  | a :: l, i + 1 => by
    have := sum_erase l i
    simp only [List.eraseIdx_cons_succ, List.getD_cons_succ, List.map_cons, List.sum_cons]
    omega
theorem dels_sum (W : Wy) (S : List Int) : ∀ k, ((W.dels S k).ns.map (fun (n : Nat) => (n : Int))).sum + (W.gn S k : Int) = (W.ns.map (fun (n : Nat) => (n : Int))).sum
  | 0 => by simp [Wy.dels, Wy.gn]
  | k + 1 => by
    have := dels_sum W S k
    have := sum_erase (W.dels S k).ns (iidx (W.dels S k).ks (S.getD k 0))
    simp only [Wy.dels, Wy.del, Wy.gn]
    omega
end Go.Proofs.Ytpconbdoackcfaa

/- Contracts of package link: receiving, and the next arrival. -/
namespace Go.Proofs.Ytpconbdoackcfaa
open Go.RowKit Go.Sy
attribute [local irreducible] vcall vloop vcallD retP sortI
set_option maxRecDepth 100000
set_option linter.unusedVariables false
set_option linter.unusedSimpArgs false

/-- The clock behind a Receive. -/
def Lk.rnw (L : Lk) (u : Int) : Int := max L.nw (min u 1099511627776)
abbrev rvO (L : Lk) (u : Int) : Heap := [(1, some (lkC false { L with nw := L.rnw u })), (3, some (wyM false 5 (L.W.dels (L.W.due u) (L.W.due u).length))), (5, some (wyF false (L.W.dels (L.W.due u) (L.W.due u).length))), (6, some (.one false (arB (L.W.gn (L.W.due u) (L.W.due u).length) (L.W.got (L.W.due u) (L.W.due u).length))))]
set_option maxHeartbeats 1000000 in
theorem lk_Receive (L : Lk) (u : Int) (hw : L.W.Ok) (hd : L.W.ks.Nodup) (hn : L.W.n ≤ 10000) : FC Try.prog 5 9 [.ptr 1 0 0 0, .int .i64 u] (lkH L) (isOut (.sl 6 0 0 (L.W.gn (L.W.due u) (L.W.due u).length)) (rvO L u) 7) := by
  have hSn : (L.W.due u).Nodup := (sortI_perm _).symm.nodup (hd.filter _)
  have hSm : ∀ t, t ∈ L.W.due u → t ∈ L.W.ks := fun t ht => (List.mem_filter.1 ((sortI_perm _).mem_iff.1 ht)).1
  have hdk := dels_ok hw.nl hw.rl hw.kl hd (L.W.due u) hSn hSm
  have hds := dels_sum L.W (L.W.due u)
  have hlim := hw.lim
  unfold rvO
  refine fc_of mixed T_ok Try.func9 rfl (by kernel_rfl) (by kernel_rfl) (by kernel_rfl) ?_
  repeat' ((conv => whnf); first | (refine br_dec (fun h => ?_) (fun h => ?_) <;> try (exfalso; (try dsimp only at h); omega)) | (refine br_ndec (fun h => ?_) (fun h => ?_) <;> try (exfalso; (try dsimp only at h); omega)) | refine br_seq (fun h => ?_) (fun h => ?_) | refine br_nseq (fun h => ?_) (fun h => ?_) | refine br_not (fun h => ?_) (fun h => ?_) | refine br_intro (fun h => ?_) (fun h => ?_) | refine cond_intro rfl ?_ | (refine cond_intro ⟨rfl, ?_⟩ ?_; (first | omega | (dsimp only; omega) | decide)) | (refine cond_intro ?_ ?_; (first | omega | (dsimp only; omega) | decide | (simp only [Nat.add_zero, Int.toNat_natCast, *]; omega))))
  all_goals (conv => whnf)
  refine vloop_of (fun sn : List Nat => ⟨[(0, .ptr 1 0 0 0), (1, .int .i64 u), (16, .ptr 5 0 0 0), (5, .sl 6 0 0 (tiL L.W.ks u sn).length)], (5, some (.one false (.obj (.iter 3 0 L.W.bs L.W.ck sn)))) :: (6, some (.one false (.cols (tiL L.W.ks u sn).length [.sc (.ints .i64 (tiL L.W.ks u sn))]))) :: lkH L, 7⟩) (fun sn => sn.Nodup ∧ ∀ i ∈ sn, i < L.W.n) (fun sn => L.W.n - sn.length) [] [0, 1, 2, 3, 4, 5, 6] [.slot 5 [.sc (.ints .i64 [])]] ⟨rfl, ⟨rfl, rfl, rfl, rfl, trivial⟩, ⟨rfl, rfl, rfl, rfl, rfl, rfl, trivial⟩⟩ ⟨List.nodup_nil, by simp⟩ ?_
  rintro sn ⟨hnd, hb⟩
  have hsl := nodup_len _ sn hnd hb
  have htl := tiL_len L.W.ks u sn
  have cs := int_Sort (tiL L.W.ks u sn).length (tiL L.W.ks u sn) (by omega)
  repeat' ((conv => whnf); first | (refine ⟨⟨rfl, rfl⟩, fun i hi hni => ?_, fun hall => ?_⟩) | (refine vcall_out (l :=  [0, 6]) (cs ) ⟨rfl, rfl, rfl, rfl, (by (repeat' (first | exact trivial | exact GB_wf | exact fun _ _ => rfl | constructor)); first | done | fail), (by (repeat' (first | exact trivial | exact GB_fits rfl | constructor)); first | done | fail)⟩ ?_) | (refine br_dec (fun h => ?_) (fun h => ?_) <;> try (exfalso; (try dsimp only at h); omega)) | (refine br_ndec (fun h => ?_) (fun h => ?_) <;> try (exfalso; (try dsimp only at h); omega)) | refine br_seq (fun h => ?_) (fun h => ?_) | refine br_nseq (fun h => ?_) (fun h => ?_) | refine br_not (fun h => ?_) (fun h => ?_) | refine br_intro (fun h => ?_) (fun h => ?_) | refine cond_intro rfl ?_ | (refine cond_intro ⟨rfl, ?_⟩ ?_; (first | omega | (dsimp only; omega) | decide)) | (refine cond_intro ?_ ?_; (first | omega | (dsimp only; omega) | decide | (simp only [Nat.add_zero, Int.toNat_natCast, *]; omega))))
  all_goals (conv => whnf)
  · have hlt := nodup_cons_lt hnd hb hi hni
    refine ⟨i :: sn, [0, 1, 2, 3, 4, 5, 8], [], ⟨List.nodup_cons.2 ⟨hni, hnd⟩, fun x hx => ?_⟩, by simp only [List.length_cons]; omega, ?_⟩
    · rcases List.mem_cons.1 hx with rfl | hx
      · exact hi
      · exact hb x hx
    · rw [tiL_yes h, List.length_append]
      exact ⟨rfl, ⟨rfl, rfl, rfl, rfl, trivial⟩, ⟨rfl, rfl, rfl, rfl, rfl, rfl, trivial⟩⟩
  · have hlt := nodup_cons_lt hnd hb hi hni
    refine ⟨i :: sn, [0, 1, 2, 3, 4, 5, 6], [], ⟨List.nodup_cons.2 ⟨hni, hnd⟩, fun x hx => ?_⟩, by simp only [List.length_cons]; omega, ?_⟩
    · rcases List.mem_cons.1 hx with rfl | hx
      · exact hi
      · exact hb x hx
    · rw [tiL_no h]
      exact ⟨rfl, ⟨rfl, rfl, rfl, rfl, trivial⟩, ⟨rfl, rfl, rfl, rfl, rfl, rfl, trivial⟩⟩
  · have ed := due_eq (u := u) hw.kl hnd hb hall
    have el : (tiL L.W.ks u sn).length = (L.W.due u).length := by rw [← ed, sortI_length]
    have hcb : (L.W.due u).length ≤ 10000 := by omega
    rw [ed, el]
    clear el ed cs htl
    generalize L.W.due u = S at *
    refine vloop_lp (fun k : Nat => ⟨[(0, .ptr 1 0 0 0), (1, .int .i64 u), (30, .sl 5 0 0 S.length), (31, .int .i64 S.length), (32, .int .i64 k), (7, .sl 7 0 0 (L.W.gn S k))], rvH L S S.length (L.W.dels S k) (L.W.gn S k) (L.W.got S k), 8⟩) (fun k => k ≤ S.length) (fun k => S.length - k) 0 [0, 1, 2, 3, 4, 6, 4, 7] [.slot 7 [.sc (.ints .i64 []), .sc (.ints .i64 []), .sc (.ints .i64 []), .sc (.ints .i64 []), .sc (.strs [])]] ⟨rfl, ⟨rfl, rfl, rfl, rfl, rfl, rfl, trivial⟩, ⟨rfl, rfl, rfl, rfl, rfl, rfl, trivial⟩⟩ (Nat.zero_le _) ?_
    intro k hk
    by_cases hk2 : k < S.length
    · obtain ⟨a1, a2, a3, a4, a5⟩ := hdk k hk
      have s1 := hds k
      have s0 := sum_nonneg (L.W.dels S k).ns
      have s2 := sum_ge (L.W.dels S k).ns (iidx (L.W.dels S k).ks (S.getD k 0))
      have hin : iidx (L.W.dels S k).ks (S.getD k 0) < (L.W.dels S k).n := by
        have hlt : k < S.length := by omega
        have eg : S.getD k 0 = S[k] := by simp [List.getD, hlt]
        rw [← a3]
        refine iidx_lt.2 ?_
        rw [a5, eg]
        refine ⟨hSm _ (List.getElem_mem hlt), fun h => ?_⟩
        obtain ⟨j, hj, e⟩ := List.getElem_of_mem h
        simp only [List.length_take] at hj
        rw [List.getElem_take] at e
        have := (List.getElem_inj hSn).1 e
        omega
      exact rv_round L u S S.length (by omega) (L.W.dels S k) a1 k hk2 hin (L.W.gn S k) (L.W.got S k) (by omega) (by omega) _ (fun v ⟨l, us, h⟩ => ⟨k + 1, l, us, (show k + 1 ≤ S.length by omega), (show S.length - (k + 1) < S.length - k by omega), h⟩)
    · have hkk : k = S.length := by omega
      rw [hkk]
      generalize L.W.dels S S.length = W at *
      generalize L.W.gn S S.length = gn at *
      generalize L.W.got S S.length = gt at *
      repeat' ((conv => whnf); first | (refine br_dec (fun h => ?_) (fun h => ?_) <;> try (exfalso; (try dsimp only at h); omega)) | (refine br_ndec (fun h => ?_) (fun h => ?_) <;> try (exfalso; (try dsimp only at h); omega)) | refine br_seq (fun h => ?_) (fun h => ?_) | refine br_nseq (fun h => ?_) (fun h => ?_) | refine br_not (fun h => ?_) (fun h => ?_) | refine br_intro (fun h => ?_) (fun h => ?_) | refine cond_intro rfl ?_ | (refine cond_intro ⟨rfl, ?_⟩ ?_; (first | omega | (dsimp only; omega) | decide)) | (refine cond_intro ?_ ?_; (first | omega | (dsimp only; omega) | decide | (simp only [Nat.add_zero, Int.toNat_natCast, *]; omega))))
      all_goals (conv => whnf)
      all_goals first
        | exact ret_out (l := [0, 1, 2, 3, 4, 6, 7]) rfl rfl ⟨rfl, rfl, rfl, rfl, trivial⟩ (allRw_cons (allRw_cons (allRw_fam (allRw_cons allRw_nil))))
        | (exfalso; omega)

/-- What is found of the least time, when some rows were visited. -/
def nxI (ks : List Int) (sn : List Nat) (x : Int) : Prop := (sn = [] → x = 0) ∧ (sn ≠ [] → (∃ i, i ∈ sn ∧ ks.getD i 0 = x) ∧ ∀ i, i ∈ sn → x ≤ ks.getD i 0)
def lmin : List Int → Int
  | [] => 0
  | [a] => a
  | a :: b :: l => min a (lmin (b :: l))
theorem lmin_ok : ∀ (l : List Int), l ≠ [] → lmin l ∈ l ∧ ∀ y, y ∈ l → lmin l ≤ y
  | [], h => absurd rfl h
  | [a], _ => by simp [lmin]
  | a :: b :: l, _ => by
    obtain ⟨h1, h2⟩ := lmin_ok (b :: l) (by simp)
    simp only [lmin]
    refine ⟨?_, fun y hy => ?_⟩
    · by_cases h : a ≤ lmin (b :: l)
      · rw [Int.min_eq_left h]; simp
      · rw [Int.min_eq_right (by omega)]; exact List.mem_cons_of_mem _ h1
    · rcases List.mem_cons.1 hy with rfl | hy
      · omega
      · have := h2 y hy; omega
theorem lk_Next (L : Lk) (hk : L.W.ks.length = L.W.n) : FC Try.prog 5 10 [.ptr 1 0 0 0] (lkR L) (isOut (.tup [.int .i64 (lmin L.W.ks), .bool (decide (0 < L.W.n))]) [] 5) := by
  refine fc_of mixed T_ok Try.func10 rfl (by kernel_rfl) (by kernel_rfl) (by kernel_rfl) ?_
  repeat' ((conv => whnf); first | (refine br_dec (fun h => ?_) (fun h => ?_) <;> try (exfalso; (try dsimp only at h); omega)) | (refine br_ndec (fun h => ?_) (fun h => ?_) <;> try (exfalso; (try dsimp only at h); omega)) | refine br_seq (fun h => ?_) (fun h => ?_) | refine br_nseq (fun h => ?_) (fun h => ?_) | refine br_not (fun h => ?_) (fun h => ?_) | refine br_intro (fun h => ?_) (fun h => ?_) | refine cond_intro rfl ?_ | (refine cond_intro ⟨rfl, ?_⟩ ?_; (first | omega | (dsimp only; omega) | decide)) | (refine cond_intro ?_ ?_; (first | omega | (dsimp only; omega) | decide | (simp only [Nat.add_zero, Int.toNat_natCast, *]; omega))))
  all_goals (conv => whnf)
  refine vloop_of (fun x : List Nat × Int => ⟨[(13, .ptr 5 0 0 0), (4, .int .i64 x.2), (5, .bool (decide (x.1 ≠ [])))], (5, some (.one false (.obj (.iter 3 0 L.W.bs L.W.ck x.1)))) :: lkR L, 6⟩) (fun x => (x.1.Nodup ∧ ∀ i ∈ x.1, i < L.W.n) ∧ nxI L.W.ks x.1 x.2) (fun x => L.W.n - x.1.length) ([], 0) [0, 1, 2, 3, 4, 5] [] ⟨rfl, ⟨rfl, rfl, rfl, trivial⟩, ⟨rfl, rfl, rfl, rfl, trivial⟩⟩ ⟨⟨List.nodup_nil, by simp⟩, fun _ => rfl, fun h => absurd rfl h⟩ ?_
  rintro ⟨sn, x⟩ ⟨⟨hd, hb⟩, hx⟩
  dsimp only at hd hb hx
  have fin : ∀ i, i < L.W.n → ¬ i ∈ sn → ((i :: sn).Nodup ∧ ∀ j ∈ i :: sn, j < L.W.n) := fun i hi hni => ⟨List.nodup_cons.2 ⟨hni, hd⟩, fun j hj => by rcases List.mem_cons.1 hj with rfl | hj; exact hi; exact hb j hj⟩
  repeat' ((conv => whnf); first | (refine ⟨⟨rfl, rfl⟩, fun i hi hni => ?_, fun hall => ?_⟩) | (refine br_dec (fun h => ?_) (fun h => ?_) <;> try (exfalso; (try dsimp only at h); omega)) | (refine br_ndec (fun h => ?_) (fun h => ?_) <;> try (exfalso; (try dsimp only at h); omega)) | refine br_seq (fun h => ?_) (fun h => ?_) | refine br_nseq (fun h => ?_) (fun h => ?_) | refine br_not (fun h => ?_) (fun h => ?_) | refine br_intro (fun h => ?_) (fun h => ?_) | refine cond_intro rfl ?_ | (refine cond_intro ⟨rfl, ?_⟩ ?_; (first | omega | (dsimp only; omega) | decide)) | (refine cond_intro ?_ ?_; (first | omega | (dsimp only; omega) | decide | (simp only [Nat.add_zero, Int.toNat_natCast, *]; omega))))
  all_goals (conv => whnf)
  · refine ⟨(i :: sn, L.W.ks.getD i 0), [0, 1, 2, 3, 4, 5], [], ⟨fin i hi hni, fun e => absurd e (by simp), fun _ => ⟨⟨i, by simp, rfl⟩, fun j hj => ?_⟩⟩, by have := nodup_cons_lt hd hb hi hni; simp only [List.length_cons]; omega, ⟨rfl, ⟨rfl, rfl, rfl, trivial⟩, ⟨rfl, rfl, rfl, rfl, trivial⟩⟩⟩
    have e : sn = [] := Classical.not_not.1 h
    subst e
    simp at hj; subst hj; exact Int.le_refl _
  · rename_i hne
    refine ⟨(i :: sn, L.W.ks.getD i 0), [0, 1, 2, 3, 4, 5], [], ⟨fin i hi hni, fun e => absurd e (by simp), fun _ => ⟨⟨i, by simp, rfl⟩, fun j hj => ?_⟩⟩, by have := nodup_cons_lt hd hb hi hni; simp only [List.length_cons]; omega, ⟨rfl, ⟨rfl, rfl, rfl, trivial⟩, ⟨rfl, rfl, rfl, rfl, trivial⟩⟩⟩
    rcases List.mem_cons.1 hj with rfl | hj
    · exact Int.le_refl _
    · have := (hx.2 hne).2 j hj
      dsimp only at h
      omega
  · rename_i hne
    obtain ⟨⟨i0, m1, m2⟩, m3⟩ := hx.2 hne
    refine ⟨(i :: sn, x), [0, 1, 2, 3, 4, 5], [], ⟨fin i hi hni, fun e => absurd e (by simp), fun _ => ⟨⟨i0, List.mem_cons_of_mem _ m1, m2⟩, fun j hj => ?_⟩⟩, by have := nodup_cons_lt hd hb hi hni; simp only [List.length_cons]; omega, ⟨rfl, ⟨rfl, rfl, congrArg (fun z => some (SV.bool z)) ?_, trivial⟩, ⟨rfl, rfl, rfl, rfl, trivial⟩⟩⟩
    · rcases List.mem_cons.1 hj with rfl | hj
      · dsimp only at h ⊢; omega
      · exact m3 j hj
    · show decide (sn ≠ []) = decide (i :: sn ≠ [])
      exact decide_eq_decide.2 ⟨fun _ => by simp, fun _ => hne⟩
  · have e1 : x = lmin L.W.ks ∧ decide (sn ≠ []) = decide (0 < L.W.n) := by
      cases sn with
      | nil =>
        have : L.W.n = 0 := by
          rcases Nat.eq_zero_or_pos L.W.n with h | h
          · exact h
          · exact absurd (hall 0 h) (by simp)
        have hk0 : L.W.ks = [] := List.eq_nil_of_length_eq_zero (by omega)
        rw [hx.1 rfl, hk0, this]
        exact ⟨rfl, rfl⟩
      | cons a r =>
        have hpos : 0 < L.W.n := by have := hb a (by simp); omega
        have hne : L.W.ks ≠ [] := by intro e; rw [e] at hk; simp at hk; omega
        obtain ⟨h1, h2⟩ := lmin_ok L.W.ks hne
        obtain ⟨⟨i0, m1, m2⟩, m3⟩ := hx.2 (by simp)
        have hi0 := hb i0 m1
        have hx1 : x ∈ L.W.ks := by
          rw [← m2, List.getD, List.getElem?_eq_getElem (by omega)]
          exact List.getElem_mem (by omega)
        obtain ⟨j, hj, ej⟩ := List.getElem_of_mem h1
        have h3 := m3 j (hall j (by omega))
        rw [List.getD, List.getElem?_eq_getElem hj] at h3
        simp only [Option.getD_some] at h3
        have h4 := h2 x hx1
        exact ⟨by omega, decide_eq_decide.2 ⟨fun _ => hpos, fun _ => by simp⟩⟩
    show retP 5 _ (.tup [.int .i64 x, .bool (decide (sn ≠ []))]) _
    rw [e1.1, e1.2]
    exact ret_out (l := [0, 1, 2, 3, 4]) rfl rfl trivial allRw_nil
end Go.Proofs.Ytpconbdoackcfaa

/- The examples of the chapter on links. -/
namespace Go.Proofs.Ytpconbdoackcfaa
open Go.RowKit Go.Sy
attribute [local irreducible] vcall vloop vcallD retP sortI
set_option maxRecDepth 100000
set_option linter.unusedVariables false
set_option linter.unusedSimpArgs false

theorem sortI_of {l m : List Int} (hp : m.Perm l) (hm : m.Pairwise (fun a b => a ≤ b)) : sortI l = m :=
  List.Perm.eq_of_pairwise (le := fun a b : Int => a ≤ b) (fun a b _ _ h1 h2 => by omega) (sortI_pairwise l) hm ((sortI_perm l).trans hp.symm)
abbrev aF : Fa := ⟨1, [3], [0], [1], [0], [20], [2]⟩
abbrev aW1 : Wy := ⟨2, [15, 17], [1, 1], [⟨[15], [0], [1], [1], [⟨#[97]⟩]⟩, ⟨[17], [0], [1], [1], [⟨#[97]⟩]⟩], [0, 1], 2⟩
abbrev aW2 : Wy := ⟨0, [], [], [], [], 2⟩
abbrev aL (nw se : Int) (W : Wy) : Lk := ⟨2, 5, aF, nw, se, W⟩
theorem lk_awake : Pure Try.prog 7 [] (.bool true) := by
  have c0 := lk_New_ok 2 5 aF (by kernel_rfl) ⟨rfl, rfl, rfl, rfl, rfl, rfl⟩
  have o1 : (aL 10 1 aW1).W.Ok := ⟨rfl, rfl, rfl, by decide⟩
  have o0 : (aL 0 0 wy0).W.Ok := ⟨rfl, rfl, rfl, by decide⟩
  have o2 : (aL 17 1 aW2).W.Ok := ⟨rfl, rfl, rfl, by decide⟩
  have c1 : FC Try.prog 5 8 [.ptr 1 0 0 0, .int .i64 10, .int .i64 0, .int .i64 1, .str ⟨#[97]⟩] (lkH (aL 0 0 wy0)) (isOut (.tup [.int .i64 1, .int .i64 0]) [(1, some (lkC false (aL 10 1 aW1))), (3, some (wyM false 5 aW1)), (5, some (wyF false aW1))] 6) := fcEq (lk_Send_ok (aL 0 0 wy0) 10 0 1 ⟨#[97]⟩ (by decide) o0 (by kernel_rfl) (by kernel_rfl)) (by kernel_rfl) (by kernel_rfl)
  have c2 : FC Try.prog 5 10 [.ptr 1 0 0 0] (lkR (aL 10 1 aW1)) (isOut (.tup [.int .i64 15, .bool true]) [] 5) := fcEq (lk_Next (aL 10 1 aW1) rfl) (by kernel_rfl) rfl
  have d1 : aW1.due 14 = [] := sortI_of (l := [15, 17].filter (fun t => decide (t ≤ 14))) (by decide) List.Pairwise.nil
  have d2 : aW1.due 17 = [15, 17] := sortI_of (l := [15, 17].filter (fun t => decide (t ≤ 17))) (by decide) (by decide)
  have c3 := lk_Receive (aL 10 1 aW1) 14 o1 (by decide) (by decide)
  have c4 := lk_Receive (aL 14 1 aW1) 17 o1 (by decide) (by decide)
  unfold rvO at c3 c4
  rw [d1] at c3
  rw [d2] at c4
  have c3' : FC Try.prog 5 9 [.ptr 1 0 0 0, .int .i64 14] (lkH (aL 10 1 aW1)) (isOut (.sl 6 0 0 0) [(1, some (lkC false (aL 14 1 aW1))), (3, some (wyM false 5 aW1)), (5, some (wyF false aW1)), (6, some (.one false (arB 0 ar0)))] 7) := fcEq c3 (by kernel_rfl) (by kernel_rfl)
  have c4' : FC Try.prog 5 9 [.ptr 1 0 0 0, .int .i64 17] (lkH (aL 14 1 aW1)) (isOut (.sl 6 0 0 2) [(1, some (lkC false (aL 17 1 aW2))), (3, some (wyM false 5 aW2)), (5, some (wyF false aW2)), (6, some (.one false (arB 2 ⟨[15, 17], [0, 0], [1, 1], [1, 1], [⟨#[97]⟩, ⟨#[97]⟩]⟩)))] 7) := fcEq c4 (by kernel_rfl) (by kernel_rfl)
  have c5 : FC Try.prog 5 8 [.ptr 1 0 0 0, .int .i64 16, .int .i64 0, .int .i64 1, .str ⟨#[98]⟩] (lkR (aL 17 1 aW2)) (isOut (.tup [.int .i64 0, .int .i64 14]) [] 5) := fcEq (lk_Send_err (aL 17 1 aW2) 16 0 1 ⟨#[98]⟩ (by decide) o2 (by rw [show (aL 17 1 aW2).sdE 16 0 1 ⟨#[98]⟩ = 14 by kernel_rfl]; decide)) (by kernel_rfl) rfl
  have c6 := lk_Sent (aL 17 1 aW2)
  clear c3 c4
  refine fc_of mixed T_ok Try.func7 rfl (by kernel_rfl) (by kernel_rfl) (by kernel_rfl) ?_
  repeat' ((conv => whnf); first | (refine vcall_out (l :=  [0, 1]) (c0 ) ⟨rfl, rfl, rfl, rfl, (by (repeat' (first | exact trivial | exact GB_wf | exact fun _ _ => rfl | constructor)); first | done | fail), (by (repeat' (first | exact trivial | exact GB_fits rfl | constructor)); first | done | fail)⟩ ?_) | (refine vcall_out (l :=  [0, 2, 3, 4, 5]) (c1 ) ⟨rfl, rfl, rfl, rfl, (by (repeat' (first | exact trivial | exact GB_wf | exact fun _ _ => rfl | constructor)); first | done | fail), (by (repeat' (first | exact trivial | exact GB_fits rfl | constructor)); first | done | fail)⟩ ?_) | (refine vcall_out (l :=  [0, 2, 3, 4, 6]) (c2 ) ⟨rfl, rfl, rfl, rfl, (by (repeat' (first | exact trivial | exact GB_wf | exact fun _ _ => rfl | constructor)); first | done | fail), (by (repeat' (first | exact trivial | exact GB_fits rfl | constructor)); first | done | fail)⟩ ?_) | (refine vcall_out (l :=  [0, 2, 3, 4, 6]) (c3' ) ⟨rfl, rfl, rfl, rfl, (by (repeat' (first | exact trivial | exact GB_wf | exact fun _ _ => rfl | constructor)); first | done | fail), (by (repeat' (first | exact trivial | exact GB_fits rfl | constructor)); first | done | fail)⟩ ?_) | (refine vcall_out (l :=  [0, 2, 3, 4, 7]) (c4' ) ⟨rfl, rfl, rfl, rfl, (by (repeat' (first | exact trivial | exact GB_wf | exact fun _ _ => rfl | constructor)); first | done | fail), (by (repeat' (first | exact trivial | exact GB_fits rfl | constructor)); first | done | fail)⟩ ?_) | (refine vcall_out (l :=  [0, 2, 3, 4, 9]) (c5 ) ⟨rfl, rfl, rfl, rfl, (by (repeat' (first | exact trivial | exact GB_wf | exact fun _ _ => rfl | constructor)); first | done | fail), (by (repeat' (first | exact trivial | exact GB_fits rfl | constructor)); first | done | fail)⟩ ?_) | (refine vcall_out (l :=  [0, 2, 3, 4, 9]) (c6 ) ⟨rfl, rfl, rfl, rfl, (by (repeat' (first | exact trivial | exact GB_wf | exact fun _ _ => rfl | constructor)); first | done | fail), (by (repeat' (first | exact trivial | exact GB_fits rfl | constructor)); first | done | fail)⟩ ?_) | (refine vcallD_out (l :=  [0, 2, 3, 4, 9]) (c6 ) ⟨rfl, rfl, rfl, rfl, (by (repeat' (first | exact trivial | exact GB_wf | exact fun _ _ => rfl | constructor)); first | done | fail), (by (repeat' (first | exact trivial | exact GB_fits rfl | constructor)); first | done | fail)⟩ ?_) | (refine br_dec (fun h => ?_) (fun h => ?_) <;> try (exfalso; (try dsimp only at h); omega)) | (refine br_ndec (fun h => ?_) (fun h => ?_) <;> try (exfalso; (try dsimp only at h); omega)) | refine br_seq (fun h => ?_) (fun h => ?_) | refine br_nseq (fun h => ?_) (fun h => ?_) | refine br_not (fun h => ?_) (fun h => ?_) | refine br_intro (fun h => ?_) (fun h => ?_) | refine cond_intro rfl ?_ | (refine cond_intro ⟨rfl, ?_⟩ ?_; (first | omega | (dsimp only; omega) | decide)) | (refine cond_intro ?_ ?_; (first | omega | (dsimp only; omega) | decide | (simp only [Nat.add_zero, Int.toNat_natCast, *]; omega))))
  all_goals (conv => whnf)
  all_goals exact ret_pure rfl
end Go.Proofs.Ytpconbdoackcfaa

/- Plain facts on links: the table holds a queue of arrivals, grouped by time. No program in sight. -/
namespace Go.Proofs.Ytpconbdoackcfaa
open Go.RowKit Go.Sy
set_option linter.unusedVariables false
set_option linter.unusedSimpArgs false

/-- An arrival. -/
structure Av where
  t : Int
  f : Int
  o : Int
  k : Int
  x : ByteArray
/-- Arrivals as columns. -/
def arOf (l : List Av) : Ar := ⟨l.map Av.t, l.map Av.f, l.map Av.o, l.map Av.k, l.map Av.x⟩
theorem arOf_nil : arOf [] = ar0 := rfl
theorem arOf_add (l : List Av) (a : Av) : (arOf l).add a.t a.f a.o a.k a.x = arOf (l ++ [a]) := by simp [arOf, Ar.add]
theorem seg_map {α : Type} (l : List Av) (f : Av → α) : seg 0 l.length (l.map f) = l.map f := seg_all (by simp)
theorem arOf_cat (l m : List Av) : (arOf l).cat m.length (arOf m) = arOf (l ++ m) := by
  unfold Ar.cat arOf
  simp only [seg_map, List.map_append]
/-- Those that arrive at a time. -/
def atT (Q : List Av) (t : Int) : List Av := Q.filter (fun a => decide (a.t = t))
theorem atT_app (Q R : List Av) (t : Int) : atT (Q ++ R) t = atT Q t ++ atT R t := List.filter_append _ _
theorem atT_mem {Q : List Av} {t : Int} {a : Av} : a ∈ atT Q t ↔ a ∈ Q ∧ a.t = t := by simp [atT]
theorem atT_none {Q : List Av} {t : Int} (h : ∀ a, a ∈ Q → a.t ≠ t) : atT Q t = [] := by
  unfold atT
  rw [List.filter_eq_nil_iff]
  intro a ha; simpa using h a ha
/-- The table holds a queue. -/
structure Rep (W : Wy) (Q : List Av) : Prop where
  kl : W.ks.length = W.n
  nl : W.ns.length = W.n
  rl : W.rs.length = W.n
  nd : W.ks.Nodup
  mem : ∀ t, t ∈ W.ks ↔ ∃ a, a ∈ Q ∧ a.t = t
  sm : (W.ns.map (fun (n : Nat) => (n : Int))).sum = Q.length
  row : ∀ i, i < W.n → W.rs.getD i ar0 = arOf (atT Q (W.ks.getD i 0)) ∧ W.ns.getD i 0 = (atT Q (W.ks.getD i 0)).length
theorem rep_nil : Rep wy0 [] := ⟨rfl, rfl, rfl, List.nodup_nil, fun t => by simp, rfl, fun i h => by simp at h⟩
theorem filter_len (p : Av → Bool) : ∀ (Q : List Av), (Q.filter p).length + (Q.filter (fun a => !p a)).length = Q.length
  | [] => rfl
  | a :: Q => by
    have := filter_len p Q
    cases hp : p a <;> simp only [List.filter_cons, hp, Bool.not_true, Bool.not_false, if_true, Bool.false_eq_true, if_false, List.length_cons] <;> omega
theorem getD_iidx {l : List Int} {t : Int} (h : t ∈ l) : l.getD (iidx l t) 0 = t := by
  rw [List.getD, iidx_get (iidx_lt.2 h)]; rfl
theorem rep_put {W : Wy} {Q : List Av} (h : Rep W Q) (a : Av) : Rep (W.put a.t a.f a.o a.k a.x) (Q ++ [a]) := by
  have hle := iidx_le W.ks a.t
  have hkl := h.kl
  have key : putL (iidx W.ks a.t) a.t W.ks = if iidx W.ks a.t < W.n then W.ks else W.ks ++ [a.t] := by rw [iput_key, h.kl]
  obtain ⟨l1, l2, l3⟩ := put_len W h.nl h.rl h.kl a.t a.f a.o a.k a.x
  refine ⟨l3, l1, l2, ?_, ?_, ?_, ?_⟩
  · unfold Wy.put
    dsimp only
    rw [key]
    split
    · exact h.nd
    · rename_i hn
      rw [List.nodup_append]
      refine ⟨h.nd, by simp, fun x hx y hy e => ?_⟩
      simp at hy; subst hy; subst e
      have := iidx_lt.2 hx
      omega
  · intro t
    unfold Wy.put
    dsimp only
    rw [key]
    simp only [List.mem_append, List.mem_singleton]
    split
    · rename_i hin
      have hm : a.t ∈ W.ks := iidx_lt.1 (by omega)
      rw [h.mem]
      constructor
      · rintro ⟨b, hb, e⟩; exact ⟨b, .inl hb, e⟩
      · rintro ⟨b, hb | rfl, e⟩
        · exact ⟨b, hb, e⟩
        · subst e; exact (h.mem _).1 hm
    · rw [List.mem_append, List.mem_singleton, h.mem]
      constructor
      · rintro (⟨b, hb, e⟩ | e)
        · exact ⟨b, .inl hb, e⟩
        · exact ⟨a, .inr rfl, e.symm⟩
      · rintro ⟨b, hb | rfl, e⟩
        · exact .inl ⟨b, hb, e⟩
        · exact .inr e.symm
  · unfold Wy.put
    dsimp only
    rw [sum_put _ _ (by rw [h.nl]; omega), h.sm]
    simp
  · intro i hi
    unfold Wy.put at hi ⊢
    dsimp only at hi ⊢
    rw [putL_at (l := W.rs) (by rw [h.rl]; omega), putL_at (l := W.ks) hle, putL_at (l := W.ns) (by rw [h.nl]; omega)]
    by_cases e : i = iidx W.ks a.t
    · rw [if_pos e, if_pos e, if_pos e, atT_app, show atT [a] a.t = [a] by simp [atT]]
      by_cases hin : iidx W.ks a.t < W.n
      · obtain ⟨r1, r2⟩ := h.row _ hin
        rw [getD_iidx (iidx_lt.1 (by omega))] at r1 r2
        rw [r1, r2, arOf_add]
        exact ⟨rfl, by simp⟩
      · have hno : atT Q a.t = [] := atT_none fun b hb e => by
          have : a.t ∈ W.ks := (h.mem _).2 ⟨b, hb, e⟩
          have := iidx_lt.2 this
          omega
        have z0 : W.ns.getD (iidx W.ks a.t) 0 = 0 := by rw [List.getD, List.getElem?_eq_none (by rw [h.nl]; omega)]; rfl
        have z1 : W.rs.getD (iidx W.ks a.t) ar0 = ar0 := by rw [List.getD, List.getElem?_eq_none (by rw [h.rl]; omega)]; rfl
        rw [hno, z0, z1, ← arOf_nil, arOf_add]
        exact ⟨rfl, rfl⟩
    · rw [if_neg e, if_neg e, if_neg e]
      have hi2 : i < W.n := by split at hi <;> omega
      obtain ⟨r1, r2⟩ := h.row i hi2
      have hne : a.t ≠ W.ks.getD i 0 := by
        intro e2
        refine e (iidx_of_get h.nd ?_).symm
        rw [e2, List.getD, List.getElem?_eq_getElem (by omega)]; rfl
      rw [atT_app, show atT [a] (W.ks.getD i 0) = [] from atT_none (fun b hb => by simp at hb; subst hb; exact hne), List.append_nil]
      exact ⟨r1, r2⟩
theorem rep_del {W : Wy} {Q : List Av} (h : Rep W Q) {t : Int} (ht : t ∈ W.ks) : Rep (W.del t) (Q.filter (fun a => decide (a.t ≠ t))) := by
  have hi := iidx_lt.2 ht
  have hkl := h.kl
  have hin : iidx W.ks t < W.n := by omega
  unfold Wy.del
  rw [if_pos hin]
  refine ⟨?_, ?_, ?_, erase_nodup h.nd _, ?_, ?_, ?_⟩
  · show (W.ks.eraseIdx _).length = W.n - 1
    rw [List.length_eraseIdx, if_pos hi, h.kl]
  · show (W.ns.eraseIdx _).length = W.n - 1
    rw [List.length_eraseIdx, if_pos (by rw [h.nl]; exact hin), h.nl]
  · show (W.rs.eraseIdx _).length = W.n - 1
    rw [List.length_eraseIdx, if_pos (by rw [h.rl]; exact hin), h.rl]
  · intro s
    rw [erase_mem h.nd, h.mem]
    constructor
    · rintro ⟨⟨a, ha, e⟩, hs⟩
      exact ⟨a, by simp [ha, e, hs], e⟩
    · rintro ⟨a, ha, e⟩
      simp at ha
      exact ⟨⟨a, ha.1, e⟩, by rw [← e]; exact ha.2⟩
  · obtain ⟨r1, r2⟩ := h.row _ hin
    rw [getD_iidx ht] at r2
    have h1 := sum_erase W.ns (iidx W.ks t)
    have h2 := filter_len (fun a => decide (a.t = t)) Q
    have h3 : Q.filter (fun a => !decide (a.t = t)) = Q.filter (fun a => decide (a.t ≠ t)) := List.filter_congr fun a _ => by simp
    rw [h3] at h2
    have h4 := h.sm
    unfold atT at r2
    dsimp only
    omega
  · intro i hi2
    dsimp only at hi2 ⊢
    rw [eraseIdx_getD, eraseIdx_getD, eraseIdx_getD]
    have hjn : (if i < iidx W.ks t then i else i + 1) < W.n := by split <;> omega
    have hji : (if i < iidx W.ks t then i else i + 1) ≠ iidx W.ks t := by split <;> omega
    generalize (if i < iidx W.ks t then i else i + 1) = j at *
    obtain ⟨r1, r2⟩ := h.row j hjn
    have hne : W.ks.getD j 0 ≠ t := by
      intro e2
      refine hji (iidx_of_get h.nd (s := t) (i := j) ?_).symm
      rw [← e2, List.getD, List.getElem?_eq_getElem (by omega)]; rfl
    have : atT (Q.filter (fun a => decide (a.t ≠ t))) (W.ks.getD j 0) = atT Q (W.ks.getD j 0) := by
      unfold atT
      rw [List.filter_filter]
      refine List.filter_congr fun a _ => ?_
      by_cases e : a.t = W.ks.getD j 0
      · have h2 : a.t ≠ t := by rw [e]; exact hne
        rw [decide_eq_true e, decide_eq_true h2]; rfl
      · rw [decide_eq_false e]; rfl
    rw [this]
    exact ⟨r1, r2⟩
/-- The arrivals of some times, one time after the other. -/
def catT (Q : List Av) (S : List Int) : List Av := (S.map (atT Q)).flatten
theorem rep_dels {W : Wy} {Q : List Av} (h : Rep W Q) (S : List Int) (hS : S.Nodup) (hm : ∀ t, t ∈ S → t ∈ W.ks) : ∀ k, k ≤ S.length → Rep (W.dels S k) (Q.filter (fun a => decide (¬ a.t ∈ S.take k))) ∧ W.got S k = arOf (catT Q (S.take k)) ∧ W.gn S k = (catT Q (S.take k)).length
  | 0, _ => by
    refine ⟨?_, rfl, rfl⟩
    rw [show Q.filter (fun a => decide (¬ a.t ∈ S.take 0)) = Q from List.filter_eq_self.2 (fun a _ => by simp)]
    exact h
  | k + 1, hk => by
    obtain ⟨a1, a2, a3⟩ := rep_dels h S hS hm k (by omega)
    have hlt : k < S.length := by omega
    have eg : S.getD k 0 = S[k] := by simp [List.getD, hlt]
    have hnt : ¬ S[k] ∈ S.take k := by
      intro hx
      obtain ⟨j, hj, e⟩ := List.getElem_of_mem hx
      simp only [List.length_take] at hj
      rw [List.getElem_take] at e
      have := (List.getElem_inj hS).1 e
      omega
    have hin : S[k] ∈ (W.dels S k).ks := by
      rw [a1.mem]
      obtain ⟨a, ha, e⟩ := (h.mem _).1 (hm _ (List.getElem_mem hlt))
      exact ⟨a, List.mem_filter.2 ⟨ha, decide_eq_true (by rw [e]; exact hnt)⟩, e⟩
    have hi := iidx_lt.2 hin
    rw [a1.kl] at hi
    obtain ⟨r1, r2⟩ := a1.row _ hi
    rw [getD_iidx hin] at r1 r2
    have ea : atT (Q.filter (fun a => decide (¬ a.t ∈ S.take k))) S[k] = atT Q S[k] := by
      unfold atT
      rw [List.filter_filter]
      refine List.filter_congr fun a _ => ?_
      by_cases e : a.t = S[k]
      · rw [decide_eq_true e, e, decide_eq_true hnt]; rfl
      · rw [decide_eq_false e]; rfl
    rw [ea] at r1 r2
    have ec : catT Q (S.take (k + 1)) = catT Q (S.take k) ++ atT Q S[k] := by
      unfold catT
      rw [List.take_succ_eq_append_getElem hlt, List.map_append, List.flatten_append]
      simp only [List.map_cons, List.map_nil, List.flatten_cons, List.flatten_nil, List.append_nil]
    simp only [Wy.dels, Wy.got, Wy.gn, eg]
    refine ⟨?_, ?_, ?_⟩
    · have hd := rep_del a1 hin
      rw [List.filter_filter] at hd
      have : (Q.filter fun a => decide (a.t ≠ S[k]) && decide (¬ a.t ∈ S.take k)) = Q.filter (fun a => decide (¬ a.t ∈ S.take (k + 1))) := by
        refine List.filter_congr fun a _ => ?_
        rw [List.take_succ_eq_append_getElem hlt]
        simp only [List.mem_append, List.mem_singleton]
        by_cases e1 : a.t = S[k] <;> by_cases e2 : a.t ∈ S.take k <;> simp [e1, e2]
      rw [this] at hd
      exact hd
    · rw [a2, r1, r2, arOf_cat, ec]
    · rw [a3, r2, ec, List.length_append]
theorem filter_two {p q : Av → Bool} : ∀ (Q : List Av), Q.Pairwise (fun a b => a.t ≤ b.t) → (∀ a b, p a = true → q b = true → a.t < b.t) → Q.filter p ++ Q.filter q = Q.filter (fun a => p a || q a)
  | [], _, _ => rfl
  | a :: Q, hs, hpq => by
    obtain ⟨h1, h2⟩ := List.pairwise_cons.1 hs
    have ih := filter_two Q h2 hpq
    cases hp : p a with
    | true => simp only [List.filter_cons, hp, Bool.true_or, if_true]
              have hq : q a = false := by
                cases e : q a with
                | false => rfl
                | true => have := hpq a a hp e; omega
              rw [hq]
              simp only [Bool.false_eq_true, if_false, List.cons_append, ih]
    | false =>
      cases hq : q a with
      | false => simp only [List.filter_cons, hp, hq, Bool.or_self, Bool.false_eq_true, if_false, ih]
      | true =>
        have hn : Q.filter p = [] := List.filter_eq_nil_iff.2 fun b hb e => by
          have := hpq b a e hq
          have := h1 b hb
          omega
        rw [hn] at ih
        simp only [List.filter_cons, hp, hq, Bool.false_or, if_true, Bool.false_eq_true, if_false, hn, List.nil_append] at ih ⊢
        rw [← ih]
theorem catT_sorted {Q : List Av} (hQ : Q.Pairwise (fun a b => a.t ≤ b.t)) : ∀ (S : List Int), S.Pairwise (fun a b => a < b) → catT Q S = Q.filter (fun a => decide (a.t ∈ S))
  | [], _ => by simp [catT]
  | s :: S, hS => by
    obtain ⟨h1, h2⟩ := List.pairwise_cons.1 hS
    have ih := catT_sorted hQ S h2
    have e : catT Q (s :: S) = atT Q s ++ catT Q S := rfl
    rw [e, ih]
    unfold atT
    rw [filter_two Q hQ (fun a b h3 h4 => by simp at h3 h4; have := h1 _ h4; omega)]
    refine List.filter_congr fun a _ => ?_
    by_cases e1 : a.t = s <;> by_cases e2 : a.t ∈ S <;> simp [e1, e2]
theorem due_mem {W : Wy} {u t : Int} : t ∈ W.due u ↔ t ∈ W.ks ∧ t ≤ u := by
  unfold Wy.due
  rw [(sortI_perm _).mem_iff, List.mem_filter, decide_eq_true_eq]
theorem due_asc {W : Wy} (hd : W.ks.Nodup) (u : Int) : (W.due u).Pairwise (fun a b => a < b) := by
  have hn : (W.due u).Nodup := (sortI_perm _).symm.nodup (hd.filter _)
  refine ((sortI_pairwise _).and hn).imp ?_
  rintro a b ⟨h1, h2⟩
  omega
/-- What a Receive does to the queue. -/
theorem rep_recv {W : Wy} {Q : List Av} (h : Rep W Q) (u : Int) : Rep (W.dels (W.due u) (W.due u).length) (Q.filter (fun a => decide (u < a.t))) ∧ W.got (W.due u) (W.due u).length = arOf (catT Q (W.due u)) ∧ W.gn (W.due u) (W.due u).length = (catT Q (W.due u)).length := by
  have hn : (W.due u).Nodup := (sortI_perm _).symm.nodup (h.nd.filter _)
  obtain ⟨a1, a2, a3⟩ := rep_dels h (W.due u) hn (fun t ht => (due_mem.1 ht).1) _ (Nat.le_refl _)
  rw [List.take_length] at a1 a2 a3
  refine ⟨?_, a2, a3⟩
  have : Q.filter (fun a => decide (¬ a.t ∈ W.due u)) = Q.filter (fun a => decide (u < a.t)) := by
    refine List.filter_congr fun a ha => decide_eq_decide.2 ?_
    rw [due_mem, h.mem]
    exact ⟨fun x => Int.not_le.1 fun y => x ⟨⟨a, ha, rfl⟩, y⟩, fun x y => by omega⟩
  rwa [this] at a1
theorem recv_sorted {W : Wy} {Q : List Av} (h : Rep W Q) (hQ : Q.Pairwise (fun a b => a.t ≤ b.t)) (u : Int) : catT Q (W.due u) = Q.filter (fun a => decide (a.t ≤ u)) := by
  rw [catT_sorted hQ _ (due_asc h.nd u)]
  refine List.filter_congr fun a ha => decide_eq_decide.2 ?_
  rw [due_mem, h.mem]
  exact ⟨fun x => x.2, fun x => ⟨⟨a, ha, rfl⟩, x⟩⟩
theorem Rep.ok {W : Wy} {Q : List Av} (h : Rep W Q) (hq : Q.length ≤ 1000) : W.Ok := ⟨h.kl, h.nl, h.rl, by rw [h.sm]; omega⟩
theorem Rep.sum {W : Wy} {Q : List Av} (h : Rep W Q) (hq : Q.length ≤ 1000) : W.sum = Q.length := by rw [(h.ok hq).sum, h.sm]
theorem Rep.n_le {W : Wy} {Q : List Av} (h : Rep W Q) : W.n ≤ Q.length := by
  have key : ∀ (l : List Nat), (∀ x, x ∈ l → 1 ≤ x) → (l.length : Int) ≤ (l.map (fun (n : Nat) => (n : Int))).sum := by
    intro l
    induction l with
    | nil => intro _; simp
    | cons a l ih =>
      intro hx
      have h1 := hx a (by simp)
      have h2 := ih (fun x hxx => hx x (List.mem_cons_of_mem _ hxx))
      simp only [List.length_cons, List.map_cons, List.sum_cons]
      omega
  have := key W.ns (fun x hx => by
    obtain ⟨i, hi, e⟩ := List.getElem_of_mem hx
    obtain ⟨r1, r2⟩ := h.row i (by rw [← h.nl]; exact hi)
    rw [List.getD, List.getElem?_eq_getElem hi] at r2
    simp only [Option.getD_some] at r2
    rw [← e, r2]
    have hik : i < W.ks.length := by rw [h.kl, ← h.nl]; exact hi
    obtain ⟨a, ha, e2⟩ := (h.mem (W.ks.getD i 0)).1 (by rw [List.getD, List.getElem?_eq_getElem hik]; exact List.getElem_mem hik)
    exact List.length_pos_of_mem (atT_mem.2 ⟨ha, e2⟩))
  rw [h.sm, h.nl] at this
  omega
end Go.Proofs.Ytpconbdoackcfaa

/- Contracts of package link: a link without faults. -/
namespace Go.Proofs.Ytpconbdoackcfaa
open Go.RowKit Go.Sy
attribute [local irreducible] vcall vloop vcallD retP sortI
set_option maxRecDepth 100000
set_option linter.unusedVariables false
set_option linter.unusedSimpArgs false

theorem fa_CloneN : Pure Try.prog 24 [.nsl] .nsl := by
  refine fc_of mixed T_ok Try.func24 rfl (by kernel_rfl) (by kernel_rfl) (by kernel_rfl) ?_
  repeat' ((conv => whnf); first | (refine br_dec (fun h => ?_) (fun h => ?_) <;> try (exfalso; (try dsimp only at h); omega)) | (refine br_ndec (fun h => ?_) (fun h => ?_) <;> try (exfalso; (try dsimp only at h); omega)) | refine br_seq (fun h => ?_) (fun h => ?_) | refine br_nseq (fun h => ?_) (fun h => ?_) | refine br_not (fun h => ?_) (fun h => ?_) | refine br_intro (fun h => ?_) (fun h => ?_) | refine cond_intro rfl ?_ | (refine cond_intro ⟨rfl, ?_⟩ ?_; (first | omega | (dsimp only; omega) | decide)) | (refine cond_intro ?_ ?_; (first | omega | (dsimp only; omega) | decide | (simp only [Nat.add_zero, Int.toNat_natCast, *]; omega))))
  all_goals (conv => whnf)
  all_goals first
    | exact ret_pure rfl
    | trace_state
abbrev fa0 : Fa := ⟨0, [], [], [], [], [], []⟩
theorem lk_New_nil (p l : Int) (hp : 1 ≤ p ∧ p ≤ 16) (hl : 1 ≤ l ∧ l ≤ 1000) : FC Try.prog 1 6 [.int .i64 p, .int .i64 l, .nsl] [] (isOut (.tup [.ptr 1 0 0 0, .int .i64 0]) [(1, some (.one false (.cells [.int .i64 p, .int .i64 l, .sl 2 0 0 0, .int .i64 0, .int .i64 0, .map 3 0]))), (2, some (faB false fa0)), (3, some (wyM false 4 wy0)), (4, some (wyF false wy0))] 5) := by
  have cc := fa_CloneN
  refine fc_of mixed T_ok Try.func6 rfl (by kernel_rfl) (by kernel_rfl) (by kernel_rfl) ?_
  repeat' ((conv => whnf); first | (refine br_dec (fun h => ?_) (fun h => ?_) <;> try (exfalso; (try dsimp only at h); omega)) | (refine br_ndec (fun h => ?_) (fun h => ?_) <;> try (exfalso; (try dsimp only at h); omega)) | refine br_seq (fun h => ?_) (fun h => ?_) | refine br_nseq (fun h => ?_) (fun h => ?_) | refine br_not (fun h => ?_) (fun h => ?_) | refine br_intro (fun h => ?_) (fun h => ?_) | refine cond_intro rfl ?_ | (refine cond_intro ⟨rfl, ?_⟩ ?_; (first | omega | (dsimp only; omega) | decide)) | (refine cond_intro ?_ ?_; (first | omega | (dsimp only; omega) | decide | (simp only [Nat.add_zero, Int.toNat_natCast, *]; omega))))
  all_goals (conv => whnf)
  refine vloop_of (fun _ : Unit => ⟨[(0, .int .i64 p), (1, .int .i64 l), (2, .nsl), (28, .nsl), (29, .int .i64 0), (30, .int .i64 0)], [], 1⟩) (fun _ => True) (fun _ => 0) () [0] [] ⟨rfl, ⟨rfl, rfl, rfl, rfl, rfl, rfl, trivial⟩, trivial⟩ trivial ?_
  intro _ _
  repeat' ((conv => whnf); first | (refine vcall_pure (cc) rfl rfl rfl ?_) | (refine vcallD_pure (cc) rfl rfl rfl ?_) | (refine br_dec (fun h => ?_) (fun h => ?_) <;> try (exfalso; (try dsimp only at h); omega)) | (refine br_ndec (fun h => ?_) (fun h => ?_) <;> try (exfalso; (try dsimp only at h); omega)) | refine br_seq (fun h => ?_) (fun h => ?_) | refine br_nseq (fun h => ?_) (fun h => ?_) | refine br_not (fun h => ?_) (fun h => ?_) | refine br_intro (fun h => ?_) (fun h => ?_) | refine cond_intro rfl ?_ | (refine cond_intro ⟨rfl, ?_⟩ ?_; (first | omega | (dsimp only; omega) | decide)) | (refine cond_intro ?_ ?_; (first | omega | (dsimp only; omega) | decide | (simp only [Nat.add_zero, Int.toNat_natCast, *]; omega))))
  all_goals (conv => whnf)
  all_goals first
    | (exfalso; omega)
    | exact ret_up (l := [0, 2, 3, 1, 4]) [.cell 2 2 [.sc (.ints .i64 []), .sc (.ints .i64 []), .sc (.ints .i64 []), .sc (.ints .i64 []), .sc (.ints .i64 []), .sc (.ints .i64 [])], .relab (fun h q => if h = 4 ∧ q < 0 then none else none) (fun _ => 0) [(1, some (wyM false 4 wy0)), (4, some (wyF false wy0))] [] 1] ⟨relab_map_start (n := 4) (bh := 1) (fun x => arB (([] : List Nat).getD x 0) (([] : List Ar).getD x ar0)) rfl (by decide), rfl, rfl, ⟨rfl, rfl, rfl, rfl, trivial⟩⟩ (allRw_cons (allRw_cons (allRw_cons (allRw_fam allRw_nil))))
    | trace_state
end Go.Proofs.Ytpconbdoackcfaa

/- The law on delivery: without faults every text arrives once, in the order of sending. -/
namespace Go.Proofs.Ytpconbdoackcfaa
open Go.RowKit Go.Sy
attribute [local irreducible] vcall vloop vcallD retP sortI
set_option maxRecDepth 100000
set_option linter.unusedVariables false
set_option linter.unusedSimpArgs false

abbrev dvL (la nw : Int) (k : Nat) (W : Wy) : Lk := ⟨4, la, fa0, nw, (k : Int), W⟩
theorem dv_lost (la nw : Int) (k : Nat) (W : Wy) (t x y : Int) : (dvL la nw k W).F.lost t x y (dvL la nw k W).F.n = false := rfl
theorem dv_sdW (la nw : Int) (k : Nat) (W : Wy) (t x y : Int) (s : ByteArray) : (dvL la nw k W).sdW t x y s = W.put (IntKind.i64.wrap (t + la)) x y (IntKind.i64.wrap ((k : Int) + 1)) s := rfl
theorem dv_sdE (la nw : Int) (k : Nat) (W : Wy) (t x y : Int) (s : ByteArray) (h1 : (0 ≤ x ∧ x < 4) ∧ (0 ≤ y ∧ y < 4)) (h2 : x ≠ y) (h3 : s.size ≤ 4000) (h4 : nw ≤ t) (h5 : t ≤ 1099511627776) (h6 : W.sum + 1 ≤ 256) : (dvL la nw k W).sdE t x y s = 0 := by
  have e : (dvL la nw k W).tn t x y = 1 := rfl
  unfold Lk.sdE
  rw [if_neg (by rintro (h | h); exact h h1; exact h2 h), if_neg (by omega), if_neg (by show ¬ (t < nw ∨ _); omega), e, if_neg (by show ¬ (256 < W.sum + ((1 : Nat) : Int)); omega)]
theorem dv_sdE4 (la nw : Int) (k : Nat) (W : Wy) (t x : Int) (s : ByteArray) : (dvL la nw k W).sdE t x x s = 4 := by
  unfold Lk.sdE
  rw [if_pos (.inr rfl)]

/-- Where the law stands: what was sent, how much of it was received, the clocks, the table. -/
structure Dv where
  A : List Av
  k : Nat
  g : Nat
  now : Int
  nw : Int
  W : Wy
structure DOk (n0 : Int) (i : Nat) (d : Dv) : Prop where
  lk : d.A.length = d.k
  la : d.k ≤ i
  lg : d.g ≤ d.k
  rep : Rep d.W (d.A.drop d.g)
  srt : d.A.Pairwise (fun a b => a.t ≤ b.t)
  top : ∀ a, a ∈ d.A → a.t ≤ d.now + n0 + 1
  cl : 0 ≤ d.nw ∧ d.nw ≤ d.now ∧ d.now ≤ 255 * (i : Int)
theorem take_le : ∀ (Q : List Av) (u : Int), Q.Pairwise (fun a b => a.t ≤ b.t) → Q.filter (fun a => decide (a.t ≤ u)) = Q.take (Q.filter (fun a => decide (a.t ≤ u))).length ∧ Q.filter (fun a => decide (u < a.t)) = Q.drop (Q.filter (fun a => decide (a.t ≤ u))).length
  | [], u, _ => ⟨rfl, rfl⟩
  | a :: Q, u, h => by
    obtain ⟨h1, h2⟩ := List.pairwise_cons.1 h
    obtain ⟨i1, i2⟩ := take_le Q u h2
    by_cases e : a.t ≤ u
    · have e' : ¬ u < a.t := by omega
      simp only [List.filter_cons, decide_eq_true e, decide_eq_false e', if_true, Bool.false_eq_true, if_false, List.length_cons, List.take_succ_cons, List.drop_succ_cons]
      exact ⟨by rw [← i1], i2⟩
    · have e' : u < a.t := by omega
      have hn : Q.filter (fun a => decide (a.t ≤ u)) = [] := List.filter_eq_nil_iff.2 fun b hb => by have := h1 b hb; simp; omega
      simp only [List.filter_cons, decide_eq_false e, decide_eq_true e', if_true, Bool.false_eq_true, if_false, hn, List.length_nil, List.take_zero, List.drop_zero]
      refine ⟨by trivial, ?_⟩
      rw [hn] at i2
      rw [i2]; rfl
abbrev dvA (l1 : Nat) (q0 q1 q2 : List Int) (q3 : List ByteArray) : HB := .one true (.cols l1 [.sc (.ints .u8 q0), .sc (.ints .u8 q1), .sc (.ints .u8 q2), .sc (.strs q3)])
abbrev dvH (AH : HB) (la : Int) (d : Dv) : Heap := [(1, some AH), (2, some (.one false (.cells [.int .i64 4, .int .i64 la, .sl 3 0 0 0, .int .i64 d.nw, .int .i64 (d.k : Int), .map 4 0]))), (3, some (faB false fa0)), (4, some (wyM false 5 d.W)), (5, some (wyF false d.W)), (6, some (.one false (arB d.k (arOf d.A)))), (7, some (.one false (arB d.g (arOf (d.A.take d.g)))))]
abbrev dvE (n0 : Int) (l1 i : Nat) (d : Dv) : Env := [(0, .int .u8 n0), (1, .sl 1 0 0 l1), (5, .ptr 2 0 0 0), (7, .int .i64 d.now), (8, .int .i64 (d.k : Int)), (9, .sl 6 0 0 d.k), (10, .sl 7 0 0 d.g), (11, .int .i64 i)]
abbrev dvLa (n0 : Int) : Int := IntKind.i64.wrap (IntKind.i64.wrap n0 + 1)
set_option maxHeartbeats 1000000 in
theorem dv_round (n0 : Int) (hn0 : 0 ≤ n0 ∧ n0 ≤ 255) (l1 : Nat) (q0 q1 q2 : List Int) (q3 : List ByteArray) (h200 : l1 ≤ 200) (i : Nat) (hi : i < l1) (b0 : 0 ≤ q0.getD i 0 ∧ q0.getD i 0 ≤ 255) (b1 : 0 ≤ q1.getD i 0 ∧ q1.getD i 0 ≤ 255) (b2 : 0 ≤ q2.getD i 0 ∧ q2.getD i 0 ≤ 255) (d : Dv) (hd : DOk n0 i d) (K : Exit → VS → Prop)
    (hK : ∀ v, retK T 2 [.tmp 4] (isOut (.bool true) [] 2) .ret v → K .ret v)
    (hN : ∀ d', DOk n0 (i + 1) d' → ∀ v, (∃ l u, upK u v (fun v => Weak 2 l v ⟨dvE n0 l1 (i + 1) d', dvH (dvA l1 q0 q1 q2 q3) (dvLa n0) d', 8⟩)) → K .normal v) :
    vcode Try.prog T 2 (lpc Try.f3 0) ⟨dvE n0 l1 i d, dvH (dvA l1 q0 q1 q2 q3) (dvLa n0) d, 8⟩ K := by
  have aw := lk_awake
  obtain ⟨A, k, g, now, nw, W⟩ := d
  obtain ⟨e1, e2, e3, e4, e5, e6, e7⟩ := hd
  dsimp only at e1 e2 e3 e4 e5 e6 e7
  have hQ : (A.drop g).length ≤ 200 := by rw [List.length_drop]; omega
  have w0 : IntKind.i64.wrap n0 = n0 := w64_in (by omega) (by omega)
  have w1 : IntKind.i64.wrap (q0.getD i 0) = q0.getD i 0 := w64_in (by omega) (by omega)
  have wt : IntKind.i64.wrap (now + IntKind.i64.wrap (q0.getD i 0)) = now + q0.getD i 0 := by rw [w1]; exact w64_in (by omega) (by omega)
  have wla : dvLa n0 = n0 + 1 := by unfold dvLa; rw [w0]; exact w64_in (by omega) (by omega)
  have m1 : 0 ≤ (q1.getD i 0).tmod 4 ∧ (q1.getD i 0).tmod 4 < 4 := by rw [Int.tmod_eq_emod_of_nonneg b1.1]; omega
  have m2 : 0 ≤ (q2.getD i 0).tmod 4 ∧ (q2.getD i 0).tmod 4 < 4 := by rw [Int.tmod_eq_emod_of_nonneg b2.1]; omega
  have wx : IntKind.i64.wrap ((q1.getD i 0).tmod 4) = (q1.getD i 0).tmod 4 := w64_in (by omega) (by omega)
  have wy : IntKind.i64.wrap ((q2.getD i 0).tmod 4) = (q2.getD i 0).tmod 4 := w64_in (by omega) (by omega)
  by_cases hs : (q3.getD i ⟨#[]⟩).size ≤ 100
  case neg =>
    repeat' ((conv => whnf); first | (refine vcall_pure (aw) rfl rfl rfl ?_) | (refine vcallD_pure (aw) rfl rfl rfl ?_) | (refine br_dec (fun h => ?_) (fun h => ?_) <;> try (exfalso; (try dsimp only at h); omega)) | (refine br_ndec (fun h => ?_) (fun h => ?_) <;> try (exfalso; (try dsimp only at h); omega)) | refine br_seq (fun h => ?_) (fun h => ?_) | refine br_nseq (fun h => ?_) (fun h => ?_) | refine br_not (fun h => ?_) (fun h => ?_) | refine br_intro (fun h => ?_) (fun h => ?_) | refine cond_intro rfl ?_ | (refine cond_intro ⟨rfl, ?_⟩ ?_; (first | omega | (dsimp only; omega) | decide)) | (refine cond_intro ?_ ?_; (first | omega | (dsimp only; omega) | decide | (simp only [Nat.add_zero, Int.toNat_natCast, *]; omega))))
    all_goals (conv => whnf)
    all_goals first
      | (refine hK _ ?_; (conv => whnf); exact ret_out (l := [0, 1]) rfl rfl trivial allRw_nil)
      | (exfalso; simp only [Nat.add_zero, Int.toNat_natCast] at *; omega)
  by_cases hxy : (q1.getD i 0).tmod 4 = (q2.getD i 0).tmod 4
  · have c1 := lk_Send_err (dvL (dvLa n0) nw k W) (IntKind.i64.wrap (now + IntKind.i64.wrap (q0.getD i 0))) (IntKind.i64.wrap ((q1.getD i 0).tmod 4)) (IntKind.i64.wrap ((q2.getD i 0).tmod 4)) (q3.getD i ⟨#[]⟩) (show 0 ≤ 1000 by decide) (e4.ok (by omega)) (by rw [hxy, dv_sdE4]; decide)
    rw [show (dvL (dvLa n0) nw k W).sdE (IntKind.i64.wrap (now + IntKind.i64.wrap (q0.getD i 0))) (IntKind.i64.wrap ((q1.getD i 0).tmod 4)) (IntKind.i64.wrap ((q2.getD i 0).tmod 4)) (q3.getD i ⟨#[]⟩) = 4 by rw [hxy, dv_sdE4]] at c1
    have hok : DOk n0 (i + 1) ⟨A, k, g, now + q0.getD i 0, nw, W⟩ := ⟨e1, by dsimp only; omega, e3, e4, e5, fun a ha => by have := e6 a ha; dsimp only; omega, by dsimp only; omega⟩
    repeat' ((conv => whnf); first | (refine vcall_out (l :=  [0, 2, 3, 4, 5]) (c1 ) ⟨rfl, rfl, rfl, rfl, (by (repeat' (first | exact trivial | exact GB_wf | exact fun _ _ => rfl | constructor)); first | done | fail), (by (repeat' (first | exact trivial | exact GB_fits rfl | constructor)); first | done | fail)⟩ ?_) | (refine vcallD_out (l :=  [0, 2, 3, 4, 5]) (c1 ) ⟨rfl, rfl, rfl, rfl, (by (repeat' (first | exact trivial | exact GB_wf | exact fun _ _ => rfl | constructor)); first | done | fail), (by (repeat' (first | exact trivial | exact GB_fits rfl | constructor)); first | done | fail)⟩ ?_) | (refine br_dec (fun h => ?_) (fun h => ?_) <;> try (exfalso; (try dsimp only at h); omega)) | (refine br_ndec (fun h => ?_) (fun h => ?_) <;> try (exfalso; (try dsimp only at h); omega)) | refine br_seq (fun h => ?_) (fun h => ?_) | refine br_nseq (fun h => ?_) (fun h => ?_) | refine br_not (fun h => ?_) (fun h => ?_) | refine br_intro (fun h => ?_) (fun h => ?_) | refine cond_intro rfl ?_ | (refine cond_intro ⟨rfl, ?_⟩ ?_; (first | omega | (dsimp only; omega) | decide)) | (refine cond_intro ?_ ?_; (first | omega | (dsimp only; omega) | decide | (simp only [Nat.add_zero, Int.toNat_natCast, *]; omega))))
    all_goals (conv => whnf)
    all_goals first
      | (exfalso; simp only [Nat.add_zero, Int.toNat_natCast] at *; omega)
      | exact hN _ hok _ ⟨[0, 1, 2, 3, 4, 5, 6, 7], [], ⟨rfl, ⟨rfl, rfl, rfl, congrArg (fun z => some (SV.int .i64 z)) wt, rfl, rfl, rfl, congrArg (fun z => some (SV.int .i64 z)) (i64_succ (by omega)), trivial⟩, ⟨rfl, rfl, rfl, rfl, rfl, rfl, rfl, trivial⟩⟩⟩
  · have c1 := lk_Send_ok (dvL (dvLa n0) nw k W) (IntKind.i64.wrap (now + IntKind.i64.wrap (q0.getD i 0))) (IntKind.i64.wrap ((q1.getD i 0).tmod 4)) (IntKind.i64.wrap ((q2.getD i 0).tmod 4)) (q3.getD i ⟨#[]⟩) (show 0 ≤ 999 by decide) (e4.ok (by omega)) (dv_sdE _ _ _ _ _ _ _ _ (by rw [wx, wy]; exact ⟨m1, m2⟩) (by rw [wx, wy]; exact hxy) (by omega) (by rw [wt]; omega) (by rw [wt]; omega) (by rw [e4.sum (by omega)]; omega)) (dv_lost _ _ _ _ _ _ _)
    have ela : IntKind.i64.wrap (IntKind.i64.wrap (now + IntKind.i64.wrap (q0.getD i 0)) + dvLa n0) = IntKind.i64.wrap (IntKind.i64.wrap (IntKind.i64.wrap (now + IntKind.i64.wrap (q0.getD i 0)) + IntKind.i64.wrap n0) + 1) := by
      rw [wt, wla, w0, w64_in (n := now + q0.getD i 0 + (n0 + 1)) (by omega) (by omega), w64_in (n := now + q0.getD i 0 + n0) (by omega) (by omega), w64_in (by omega) (by omega)]
      omega
    have eat : IntKind.i64.wrap (IntKind.i64.wrap (IntKind.i64.wrap (now + IntKind.i64.wrap (q0.getD i 0)) + IntKind.i64.wrap n0) + 1) = now + q0.getD i 0 + n0 + 1 := by
      rw [wt, w0, w64_in (n := now + q0.getD i 0 + n0) (by omega) (by omega), w64_in (by omega) (by omega)]
    rw [dv_sdW, ela] at c1
    have ek : IntKind.i64.wrap ((k : Int) + 1) = ((k + 1 : Nat) : Int) := i64_succ (by omega)
    obtain ⟨a, ha⟩ : ∃ a : Av, a = ⟨IntKind.i64.wrap (IntKind.i64.wrap (IntKind.i64.wrap (now + IntKind.i64.wrap (q0.getD i 0)) + IntKind.i64.wrap n0) + 1), IntKind.i64.wrap ((q1.getD i 0).tmod 4), IntKind.i64.wrap ((q2.getD i 0).tmod 4), IntKind.i64.wrap ((k : Int) + 1), q3.getD i ⟨#[]⟩⟩ := ⟨_, rfl⟩
    have hat : a.t = now + q0.getD i 0 + n0 + 1 := by rw [ha]; exact eat
    have rep1 := rep_put e4 a
    have hdr : (A ++ [a]).drop g = A.drop g ++ [a] := List.drop_append_of_le_length (by omega)
    have srt1 : (A ++ [a]).Pairwise (fun a b => a.t ≤ b.t) := by
      rw [List.pairwise_append]
      refine ⟨e5, by simp, fun x hx y hy => ?_⟩
      simp at hy; subst hy
      have := e6 x hx
      omega
    have top1 : ∀ b, b ∈ A ++ [a] → b.t ≤ now + q0.getD i 0 + n0 + 1 := by
      intro b hb
      rw [List.mem_append, List.mem_singleton] at hb
      rcases hb with hb | rfl
      · have := e6 b hb; omega
      · omega
    have hadd : arOf (A ++ [a]) = (arOf A).add (IntKind.i64.wrap (IntKind.i64.wrap (IntKind.i64.wrap (now + IntKind.i64.wrap (q0.getD i 0)) + IntKind.i64.wrap n0) + 1)) (IntKind.i64.wrap ((q1.getD i 0).tmod 4)) (IntKind.i64.wrap ((q2.getD i 0).tmod 4)) (IntKind.i64.wrap ((k : Int) + 1)) (q3.getD i ⟨#[]⟩) := by rw [← arOf_add, ha]
    have hp1 : W.put (IntKind.i64.wrap (IntKind.i64.wrap (IntKind.i64.wrap (now + IntKind.i64.wrap (q0.getD i 0)) + IntKind.i64.wrap n0) + 1)) (IntKind.i64.wrap ((q1.getD i 0).tmod 4)) (IntKind.i64.wrap ((q2.getD i 0).tmod 4)) (IntKind.i64.wrap ((k : Int) + 1)) (q3.getD i ⟨#[]⟩) = W.put a.t a.f a.o a.k a.x := by rw [ha]
    rw [hp1] at c1
    generalize W.put a.t a.f a.o a.k a.x = W1 at *
    have hl1 : (A.drop g ++ [a]).length ≤ 300 := by rw [List.length_append]; simp; omega
    by_cases h3 : (i : Int).tmod 3 = 0
    · have c2 := lk_Receive ⟨4, dvLa n0, fa0, IntKind.i64.wrap (now + IntKind.i64.wrap (q0.getD i 0)), IntKind.i64.wrap ((k : Int) + 1), W1⟩ (IntKind.i64.wrap (now + IntKind.i64.wrap (q0.getD i 0))) (rep1.ok (by omega)) rep1.nd (by have := rep1.n_le; dsimp only; omega)
      have erw : Lk.rnw ⟨4, dvLa n0, fa0, IntKind.i64.wrap (now + IntKind.i64.wrap (q0.getD i 0)), IntKind.i64.wrap ((k : Int) + 1), W1⟩ (IntKind.i64.wrap (now + IntKind.i64.wrap (q0.getD i 0))) = IntKind.i64.wrap (now + IntKind.i64.wrap (q0.getD i 0)) := by
        unfold Lk.rnw
        dsimp only
        rw [wt]; omega
      unfold rvO at c2
      rw [erw] at c2
      dsimp only at c2
      have sQ : (A.drop g ++ [a]).Pairwise (fun a b => a.t ≤ b.t) := by rw [← hdr]; exact srt1.drop
      obtain ⟨r1, r2, r3⟩ := rep_recv rep1 (IntKind.i64.wrap (now + IntKind.i64.wrap (q0.getD i 0)))
      rw [recv_sorted rep1 sQ] at r2 r3
      obtain ⟨t1, t2⟩ := take_le _ (IntKind.i64.wrap (now + IntKind.i64.wrap (q0.getD i 0))) sQ
      rw [t2] at r1
      rw [r2, r3] at c2
      generalize W1.dels (W1.due (IntKind.i64.wrap (now + IntKind.i64.wrap (q0.getD i 0)))) (W1.due (IntKind.i64.wrap (now + IntKind.i64.wrap (q0.getD i 0)))).length = W2 at *
      generalize hP : (A.drop g ++ [a]).filter (fun a => decide (a.t ≤ IntKind.i64.wrap (now + IntKind.i64.wrap (q0.getD i 0)))) = P at *
      have hPl : P.length ≤ (A.drop g ++ [a]).length := by rw [t1, List.length_take]; exact Nat.min_le_right _ _
      have hPl2 : g + P.length ≤ k + 1 := by rw [List.length_append, List.length_drop, List.length_singleton] at hPl; omega
      have htk : (A ++ [a]).take (g + P.length) = A.take g ++ P := by
        rw [List.take_add, hdr, ← t1, List.take_append_of_le_length (by omega)]
      have hcat : arOf ((A ++ [a]).take (g + P.length)) = (arOf (A.take g)).cat P.length (arOf P) := by rw [htk, arOf_cat]
      have hok : DOk n0 (i + 1) ⟨A ++ [a], k + 1, g + P.length, now + q0.getD i 0, IntKind.i64.wrap (now + IntKind.i64.wrap (q0.getD i 0)), W2⟩ := ⟨by simp [e1], by dsimp only; omega, by dsimp only; omega, by dsimp only; rw [← List.drop_drop, hdr]; exact r1, srt1, top1, by dsimp only; rw [wt]; omega⟩
      repeat' ((conv => whnf); first | (refine vcall_out (l :=  [0, 2, 3, 4, 5]) (c1 ) ⟨rfl, rfl, rfl, rfl, (by (repeat' (first | exact trivial | exact GB_wf | exact fun _ _ => rfl | constructor)); first | done | fail), (by (repeat' (first | exact trivial | exact GB_fits rfl | constructor)); first | done | fail)⟩ ?_) | (refine vcallD_out (l :=  [0, 2, 3, 4, 5]) (c1 ) ⟨rfl, rfl, rfl, rfl, (by (repeat' (first | exact trivial | exact GB_wf | exact fun _ _ => rfl | constructor)); first | done | fail), (by (repeat' (first | exact trivial | exact GB_fits rfl | constructor)); first | done | fail)⟩ ?_) | (refine vcall_out (l :=  [0, 2, 3, 4, 9]) (c2 ) ⟨rfl, rfl, rfl, rfl, (by (repeat' (first | exact trivial | exact GB_wf | exact fun _ _ => rfl | constructor)); first | done | fail), (by (repeat' (first | exact trivial | exact GB_fits rfl | constructor)); first | done | fail)⟩ ?_) | (refine vcallD_out (l :=  [0, 2, 3, 4, 9]) (c2 ) ⟨rfl, rfl, rfl, rfl, (by (repeat' (first | exact trivial | exact GB_wf | exact fun _ _ => rfl | constructor)); first | done | fail), (by (repeat' (first | exact trivial | exact GB_fits rfl | constructor)); first | done | fail)⟩ ?_) | (refine br_dec (fun h => ?_) (fun h => ?_) <;> try (exfalso; (try dsimp only at h); omega)) | (refine br_ndec (fun h => ?_) (fun h => ?_) <;> try (exfalso; (try dsimp only at h); omega)) | refine br_seq (fun h => ?_) (fun h => ?_) | refine br_nseq (fun h => ?_) (fun h => ?_) | refine br_not (fun h => ?_) (fun h => ?_) | refine br_intro (fun h => ?_) (fun h => ?_) | refine cond_intro rfl ?_ | (refine cond_intro ⟨rfl, ?_⟩ ?_; (first | omega | (dsimp only; omega) | decide)) | (refine cond_intro ?_ ?_; (first | omega | (dsimp only; omega) | decide | (simp only [Nat.add_zero, Int.toNat_natCast, *]; omega))))
      all_goals (conv => whnf)
      all_goals first
        | (exfalso; simp only [Nat.add_zero, Int.toNat_natCast] at *; omega)
        | (refine hN _ hok _ ⟨[0, 1, 2, 3, 4, 12, 11, 14], [], ?_⟩
           show Weak 2 _ _ ⟨dvE _ _ _ _, dvH _ _ _, 8⟩
           unfold dvE dvH
           dsimp only
           rw [hcat, hadd, ← ek]
           exact ⟨rfl, ⟨rfl, rfl, rfl, congrArg (fun z => some (SV.int .i64 z)) wt, rfl, rfl, rfl, congrArg (fun z => some (SV.int .i64 z)) (i64_succ (by omega)), trivial⟩, ⟨rfl, rfl, rfl, rfl, rfl, rfl, rfl, trivial⟩⟩)
        | trace_state
    · have hok : DOk n0 (i + 1) ⟨A ++ [a], k + 1, g, now + q0.getD i 0, IntKind.i64.wrap (now + IntKind.i64.wrap (q0.getD i 0)), W1⟩ := ⟨by simp [e1], by dsimp only; omega, by dsimp only; omega, by dsimp only; rw [hdr]; exact rep1, srt1, top1, by dsimp only; rw [wt]; omega⟩
      have htk : (A ++ [a]).take g = A.take g := List.take_append_of_le_length (by omega)
      repeat' ((conv => whnf); first | (refine vcall_out (l :=  [0, 2, 3, 4, 5]) (c1 ) ⟨rfl, rfl, rfl, rfl, (by (repeat' (first | exact trivial | exact GB_wf | exact fun _ _ => rfl | constructor)); first | done | fail), (by (repeat' (first | exact trivial | exact GB_fits rfl | constructor)); first | done | fail)⟩ ?_) | (refine vcallD_out (l :=  [0, 2, 3, 4, 5]) (c1 ) ⟨rfl, rfl, rfl, rfl, (by (repeat' (first | exact trivial | exact GB_wf | exact fun _ _ => rfl | constructor)); first | done | fail), (by (repeat' (first | exact trivial | exact GB_fits rfl | constructor)); first | done | fail)⟩ ?_) | (refine br_dec (fun h => ?_) (fun h => ?_) <;> try (exfalso; (try dsimp only at h); omega)) | (refine br_ndec (fun h => ?_) (fun h => ?_) <;> try (exfalso; (try dsimp only at h); omega)) | refine br_seq (fun h => ?_) (fun h => ?_) | refine br_nseq (fun h => ?_) (fun h => ?_) | refine br_not (fun h => ?_) (fun h => ?_) | refine br_intro (fun h => ?_) (fun h => ?_) | refine cond_intro rfl ?_ | (refine cond_intro ⟨rfl, ?_⟩ ?_; (first | omega | (dsimp only; omega) | decide)) | (refine cond_intro ?_ ?_; (first | omega | (dsimp only; omega) | decide | (simp only [Nat.add_zero, Int.toNat_natCast, *]; omega))))
      all_goals (conv => whnf)
      all_goals first
        | (exfalso; simp only [Nat.add_zero, Int.toNat_natCast] at *; omega)
        | (refine hN _ hok _ ⟨[0, 1, 2, 3, 4, 9, 11, 7], [], ?_⟩
           show Weak 2 _ _ ⟨dvE _ _ _ _, dvH _ _ _, 8⟩
           unfold dvE dvH
           dsimp only
           rw [htk, hadd, ← ek]
           exact ⟨rfl, ⟨rfl, rfl, rfl, congrArg (fun z => some (SV.int .i64 z)) wt, rfl, rfl, rfl, congrArg (fun z => some (SV.int .i64 z)) (i64_succ (by omega)), trivial⟩, ⟨rfl, rfl, rfl, rfl, rfl, rfl, rfl, trivial⟩⟩)
end Go.Proofs.Ytpconbdoackcfaa

/- The law on delivery, joined. -/
namespace Go.Proofs.Ytpconbdoackcfaa
open Go.RowKit Go.Sy
attribute [local irreducible] vcall vloop vcallD retP sortI
set_option maxRecDepth 100000
set_option linter.unusedVariables false
set_option linter.unusedSimpArgs false

def dv0 : Dv := ⟨[], 0, 0, 0, 0, wy0⟩
theorem dv0_ok (n0 : Int) : DOk n0 0 dv0 := ⟨rfl, Nat.le_refl _, Nat.le_refl _, rep_nil, List.Pairwise.nil, (fun a h => by cases h), ⟨Int.le_refl _, Int.le_refl _, by decide⟩⟩
theorem u8_in {x : Int} (h : (Lit.int .u8 x).wf = true) : 0 ≤ x ∧ x ≤ 255 := by
  unfold Lit.wf at h
  simp only [IntKind.min, IntKind.max, IntKind.signed, IntKind.bits, Bool.and_eq_true, decide_eq_true_eq] at h
  simp at h
  omega
theorem u8_at {l : List Int} (w : ∀ x ∈ l, (Lit.int .u8 x).wf = true) (i : Nat) : 0 ≤ l.getD i 0 ∧ l.getD i 0 ≤ 255 := by
  by_cases h : i < l.length
  · rw [List.getD, List.getElem?_eq_getElem h]
    exact u8_in (w _ (List.getElem_mem h))
  · rw [List.getD, List.getElem?_eq_none (by omega)]
    decide
set_option maxHeartbeats 1000000 in
theorem linkDelivers_fc (n0 : Int) (hw0 : (Lit.int .u8 n0).wf = true) (l1 : Nat) (hl1 : l1 ≤ maxLen) (q1_0 : List Int) (eq1_0 : q1_0.length = l1) (wq1_0 : ∀ x ∈ q1_0, (Lit.int .u8 x).wf = true) (q1_1 : List Int) (eq1_1 : q1_1.length = l1) (wq1_1 : ∀ x ∈ q1_1, (Lit.int .u8 x).wf = true) (q1_2 : List Int) (eq1_2 : q1_2.length = l1) (wq1_2 : ∀ x ∈ q1_2, (Lit.int .u8 x).wf = true) (q1_3 : List ByteArray) (eq1_3 : q1_3.length = l1) (wq1_3 : ∀ x ∈ q1_3, x.size ≤ maxLen) :
    FC Try.prog 2 3 [.int .u8 n0, .sl 1 0 0 l1] [(1, some (.one true (.cols l1 [.sc (.ints .u8 q1_0), .sc (.ints .u8 q1_1), .sc (.ints .u8 q1_2), .sc (.strs q1_3)])))] (isOut (.bool true) [] 2) := by
  have hn0 := u8_in hw0
  have aw := lk_awake
  have hla : 1 ≤ dvLa n0 ∧ dvLa n0 ≤ 1000 := by
    have w0 : IntKind.i64.wrap n0 = n0 := w64_in (by omega) (by omega)
    have wla : dvLa n0 = n0 + 1 := by unfold dvLa; rw [w0]; exact w64_in (by omega) (by omega)
    omega
  have cn := lk_New_nil 4 (dvLa n0) (by decide) hla
  refine fc_of mixed T_ok Try.func3 rfl (by kernel_rfl) (by kernel_rfl) (by kernel_rfl) ?_
  repeat' ((conv => whnf); first | (refine vcall_pure (aw) rfl rfl rfl ?_) | (refine vcallD_pure (aw) rfl rfl rfl ?_) | (refine vcall_out (l :=  [0]) (cn ) ⟨rfl, rfl, rfl, rfl, (by (repeat' (first | exact trivial | exact GB_wf | exact fun _ _ => rfl | constructor)); first | done | fail), (by (repeat' (first | exact trivial | exact GB_fits rfl | constructor)); first | done | fail)⟩ ?_) | (refine vcallD_out (l :=  [0]) (cn ) ⟨rfl, rfl, rfl, rfl, (by (repeat' (first | exact trivial | exact GB_wf | exact fun _ _ => rfl | constructor)); first | done | fail), (by (repeat' (first | exact trivial | exact GB_fits rfl | constructor)); first | done | fail)⟩ ?_) | (refine br_dec (fun h => ?_) (fun h => ?_) <;> try (exfalso; (try dsimp only at h); omega)) | (refine br_ndec (fun h => ?_) (fun h => ?_) <;> try (exfalso; (try dsimp only at h); omega)) | refine br_seq (fun h => ?_) (fun h => ?_) | refine br_nseq (fun h => ?_) (fun h => ?_) | refine br_not (fun h => ?_) (fun h => ?_) | refine br_intro (fun h => ?_) (fun h => ?_) | refine cond_intro rfl ?_ | (refine cond_intro ⟨rfl, ?_⟩ ?_; (first | omega | (dsimp only; omega) | decide)) | (refine cond_intro ?_ ?_; (first | omega | (dsimp only; omega) | decide | (simp only [Nat.add_zero, Int.toNat_natCast, *]; omega))))
  all_goals (conv => whnf)
  · exact ret_out (l := [0, 1]) rfl rfl trivial allRw_nil
  have h200 : l1 ≤ 200 := by omega
  refine vloop_lp (fun x : Nat × Dv => ⟨dvE n0 l1 x.1 x.2, dvH (dvA l1 q1_0 q1_1 q1_2 q1_3) (dvLa n0) x.2, 8⟩) (fun x => x.1 ≤ l1 ∧ DOk n0 x.1 x.2) (fun x => l1 - x.1) (0, dv0) [0, 1, 2, 3, 4, 5, 6, 7] [.slot 9 [.sc (.ints .i64 []), .sc (.ints .i64 []), .sc (.ints .i64 []), .sc (.ints .i64 []), .sc (.strs [])], .slot 10 [.sc (.ints .i64 []), .sc (.ints .i64 []), .sc (.ints .i64 []), .sc (.ints .i64 []), .sc (.strs [])]] ⟨rfl, ⟨rfl, rfl, rfl, rfl, rfl, rfl, rfl, rfl, trivial⟩, ⟨rfl, rfl, rfl, rfl, rfl, rfl, rfl, trivial⟩⟩ ⟨Nat.zero_le _, dv0_ok n0⟩ ?_
  rintro ⟨i, d⟩ ⟨hi, hd⟩
  dsimp only at hi hd
  by_cases hi2 : i < l1
  · exact dv_round n0 hn0 l1 q1_0 q1_1 q1_2 q1_3 h200 i hi2 (u8_at wq1_0 i) (u8_at wq1_1 i) (u8_at wq1_2 i) d hd _ (fun v h => h) (fun d' hd' v ⟨l, us, h⟩ => ⟨(i + 1, d'), l, us, ⟨hi2, hd'⟩, (by dsimp only; omega), h⟩)
  · have e : i = l1 := by omega
    subst e
    obtain ⟨A, k, g, now, nw, W⟩ := d
    obtain ⟨e1, e2, e3, e4, e5, e6, e7⟩ := hd
    dsimp only at e1 e2 e3 e4 e5 e6 e7
    have hQ : (A.drop g).length ≤ 200 := by rw [List.length_drop]; omega
    have w0 : IntKind.i64.wrap n0 = n0 := w64_in (by omega) (by omega)
    have hu : IntKind.i64.wrap (IntKind.i64.wrap (now + IntKind.i64.wrap n0) + 1) = now + n0 + 1 := by
      rw [w0, w64_in (n := now + n0) (by omega) (by omega), w64_in (by omega) (by omega)]
    have c2 := lk_Receive ⟨4, dvLa n0, fa0, nw, k, W⟩ (IntKind.i64.wrap (IntKind.i64.wrap (now + IntKind.i64.wrap n0) + 1)) (e4.ok (by omega)) e4.nd (by have := e4.n_le; dsimp only; omega)
    unfold rvO at c2
    dsimp only at c2
    generalize hU : IntKind.i64.wrap (IntKind.i64.wrap (now + IntKind.i64.wrap n0) + 1) = U at *
    generalize Lk.rnw ⟨4, dvLa n0, fa0, nw, k, W⟩ U = nw2 at *
    obtain ⟨r1, r2, r3⟩ := rep_recv e4 U
    have hall : (A.drop g).filter (fun a => decide (a.t ≤ U)) = A.drop g := List.filter_eq_self.2 fun a ha => by
      have := e6 a (List.mem_of_mem_drop ha)
      simp; omega
    have hno : (A.drop g).filter (fun a => decide (U < a.t)) = [] := List.filter_eq_nil_iff.2 fun a ha => by
      have := e6 a (List.mem_of_mem_drop ha)
      simp; omega
    rw [recv_sorted e4 (e5.drop) U, hall] at r2 r3
    rw [hno] at r1
    rw [r2, r3] at c2
    generalize W.dels (W.due U) (W.due U).length = W2 at *
    have hW2 : W2.n = 0 := by have := r1.n_le; simp at this; omega
    have cN := lk_Next ⟨4, dvLa n0, fa0, nw2, k, W2⟩ r1.kl
    have hcat : (arOf (A.take g)).cat (A.drop g).length (arOf (A.drop g)) = arOf A := by rw [arOf_cat, List.take_append_drop]
    have hlen : g + (A.drop g).length = k := by rw [List.length_drop]; omega
    subst hU
    repeat' ((conv => whnf); first | (refine vcall_pure (aw) rfl rfl rfl ?_) | (refine vcallD_pure (aw) rfl rfl rfl ?_) | (refine vcall_out (l :=  [0, 2, 3, 4, 5]) (c2 ) ⟨rfl, rfl, rfl, rfl, (by (repeat' (first | exact trivial | exact GB_wf | exact fun _ _ => rfl | constructor)); first | done | fail), (by (repeat' (first | exact trivial | exact GB_fits rfl | constructor)); first | done | fail)⟩ ?_) | (refine vcallD_out (l :=  [0, 2, 3, 4, 5]) (c2 ) ⟨rfl, rfl, rfl, rfl, (by (repeat' (first | exact trivial | exact GB_wf | exact fun _ _ => rfl | constructor)); first | done | fail), (by (repeat' (first | exact trivial | exact GB_fits rfl | constructor)); first | done | fail)⟩ ?_) | (refine br_dec (fun h => ?_) (fun h => ?_) <;> try (exfalso; (try dsimp only at h); omega)) | (refine br_ndec (fun h => ?_) (fun h => ?_) <;> try (exfalso; (try dsimp only at h); omega)) | refine br_seq (fun h => ?_) (fun h => ?_) | refine br_nseq (fun h => ?_) (fun h => ?_) | refine br_not (fun h => ?_) (fun h => ?_) | refine br_intro (fun h => ?_) (fun h => ?_) | refine cond_intro rfl ?_ | (refine cond_intro ⟨rfl, ?_⟩ ?_; (first | omega | (dsimp only; omega) | decide)) | (refine cond_intro ?_ ?_; (first | omega | (dsimp only; omega) | decide | (simp only [Nat.add_zero, Int.toNat_natCast, *]; omega))))
    all_goals (conv => whnf)
    refine vloop_lp (fun j : Nat => ⟨[(5, .ptr 2 0 0 0), (9, .sl 6 0 0 k), (10, .sl 7 0 0 (g + (A.drop g).length)), (15, .int .i64 j)], [(1, some (dvA i q1_0 q1_1 q1_2 q1_3)), (2, some (.one false (.cells [.int .i64 4, .int .i64 (dvLa n0), .sl 3 0 0 0, .int .i64 nw2, .int .i64 (k : Int), .map 4 0]))), (3, some (faB false fa0)), (4, some (wyM false 5 W2)), (5, some (wyF false W2)), (6, some (.one false (arB k (arOf A)))), (7, some (.one false (arB (g + (A.drop g).length) ((arOf (A.take g)).cat (A.drop g).length (arOf (A.drop g))))))], 8⟩) (fun j => j ≤ k) (fun j => k - j) 0 [0, 1, 2, 3, 4, 8, 6, 10] [] ⟨rfl, ⟨rfl, rfl, rfl, rfl, trivial⟩, ⟨rfl, rfl, rfl, rfl, rfl, rfl, rfl, trivial⟩⟩ (Nat.zero_le _) ?_
    intro j hj
    rw [hcat, hlen]
    generalize arOf A = ar at *
    repeat' ((conv => whnf); first | (refine vcall_pure (aw) rfl rfl rfl ?_) | (refine vcallD_pure (aw) rfl rfl rfl ?_) | (refine vcall_out (l :=  [0, 2, 3, 4, 5]) (cN ) ⟨rfl, rfl, rfl, rfl, (by (repeat' (first | exact trivial | exact GB_wf | exact fun _ _ => rfl | constructor)); first | done | fail), (by (repeat' (first | exact trivial | exact GB_fits rfl | constructor)); first | done | fail)⟩ ?_) | (refine vcallD_out (l :=  [0, 2, 3, 4, 5]) (cN ) ⟨rfl, rfl, rfl, rfl, (by (repeat' (first | exact trivial | exact GB_wf | exact fun _ _ => rfl | constructor)); first | done | fail), (by (repeat' (first | exact trivial | exact GB_fits rfl | constructor)); first | done | fail)⟩ ?_) | (refine br_dec (fun h => ?_) (fun h => ?_) <;> try (exfalso; (try dsimp only at h); omega)) | (refine br_ndec (fun h => ?_) (fun h => ?_) <;> try (exfalso; (try dsimp only at h); omega)) | refine br_seq (fun h => ?_) (fun h => ?_) | refine br_nseq (fun h => ?_) (fun h => ?_) | refine br_not (fun h => ?_) (fun h => ?_) | refine br_intro (fun h => ?_) (fun h => ?_) | refine cond_intro rfl ?_ | (refine cond_intro ⟨rfl, ?_⟩ ?_; (first | omega | (dsimp only; omega) | decide)) | (refine cond_intro ?_ ?_; (first | omega | (dsimp only; omega) | decide | (simp only [Nat.add_zero, Int.toNat_natCast, *]; omega))))
    all_goals (conv => whnf)
    all_goals first
      | exact ret_out (l := [0, 1]) rfl rfl trivial allRw_nil
      | exact ⟨j + 1, [0, 1, 2, 3, 4, 5, 6, 7], [], (by dsimp only; omega), (by dsimp only; omega), ⟨rfl, ⟨rfl, rfl, rfl, congrArg (fun z => some (SV.int .i64 z)) (i64_succ (by omega)), trivial⟩, ⟨rfl, rfl, rfl, rfl, rfl, rfl, rfl, trivial⟩⟩⟩
      | (exfalso; rename_i h; revert h; simp [seq]; done)
      | (exfalso; omega)
      | trace_state
end Go.Proofs.Ytpconbdoackcfaa

