/- The law on rates that are found in a list. -/
import Derived.Test.YtpmgaanpbbplbaaDoorRateM
namespace Go.Proofs.YtpmgaanpbbplbaaDoor
open Go.RowKit Go.Sy
attribute [local irreducible] vcall vloop vcallD retP
set_option maxRecDepth 100000
set_option linter.unusedVariables false
set_option linter.unusedSimpArgs false

structure Rt where
  f : ByteArray
  t : ByteArray
  n : Int
  d : Int
def Rt.z : Rt := ⟨⟨#[]⟩, ⟨#[]⟩, 0, 0⟩
def Rt.sv (r : Rt) : SV := .agg [.str r.f, .str r.t, .int .i64 r.n, .int .i64 r.d]
/-- A list of rates, by columns. -/
structure RL where
  f : List ByteArray
  t : List ByteArray
  n : List Int
  d : List Int
  l : Nat
def RL.at (q : RL) (i : Nat) : Rt := ⟨q.f.getD i ⟨#[]⟩, q.t.getD i ⟨#[]⟩, q.n.getD i 0, q.d.getD i 0⟩
def RL.H (q : RL) : Heap := [(0, some (GB glT)), (1, some (.one true (.cols q.l [.sc (.strs q.f), .sc (.strs q.t), .sc (.ints .i64 q.n), .sc (.ints .i64 q.d)])))]

/-- A row that states the rate. -/
def RL.fits (q : RL) (f t : ByteArray) (i : Nat) : Prop := (q.at i).f = f ∧ (q.at i).t = t ∧ rchk (q.at i).f (q.at i).t (q.at i).n (q.at i).d = 0
instance (q : RL) (f t : ByteArray) (i : Nat) : Decidable (q.fits f t i) := by unfold RL.fits; infer_instance
/-- The first row of m, from row k on, that states the rate. -/
def stF (q : RL) (f t : ByteArray) : Nat → Nat → Option Rt
  | 0, _ => none
  | m + 1, k => if q.fits f t k then some (q.at k) else stF q f t m (k + 1)
def stO (q : RL) (f t : ByteArray) : Option Rt := stF q f t q.l 0
theorem stF_ok {q : RL} {f t : ByteArray} {r : Rt} : ∀ (m k : Nat), stF q f t m k = some r → r.f = f ∧ r.t = t ∧ rchk r.f r.t r.n r.d = 0
  | 0, k, h => by simp [stF] at h
  | m + 1, k, h => by
    simp only [stF] at h
    split at h
    · rename_i hf; cases h; exact hf
    · exact stF_ok m (k + 1) h
theorem stO_ok {q : RL} {f t : ByteArray} {r : Rt} (h : stO q f t = some r) : r.f = f ∧ r.t = t ∧ rchk r.f r.t r.n r.d = 0 := stF_ok _ _ h

theorem rate_stated (q : RL) (hl : q.l ≤ 1000) (f t : ByteArray) : FC Tryd.prog 2 57 [.sl 1 0 0 q.l, .str f, .str t] q.H (isOut ((stO q f t).getD Rt.z).sv [] 2) := by
  have ck := fun i => rate_Check (q.at i).f (q.at i).t (q.at i).n (q.at i).d
  refine fc_of mixed T_ok Tryd.func57 rfl (by kernel_rfl) (by kernel_rfl) (by kernel_rfl) ?_
  (conv => whnf)
  refine vloop_of (fun k : Nat => ⟨[(1, .str f), (2, .str t), (6, .ptr 2 0 0 0), (9, .sl 1 0 0 q.l), (10, .int .i64 q.l), (11, .int .i64 k)], (2, some (.one false (.cells [.str ⟨#[]⟩, .str ⟨#[]⟩, .int .i64 0, .int .i64 0]))) :: q.H, 3⟩) (fun k => k ≤ q.l ∧ stF q f t (q.l - k) k = stO q f t) (fun k => q.l - k) 0 [0, 1, 2] [] ⟨rfl, ⟨rfl, rfl, rfl, rfl, rfl, rfl, trivial⟩, ⟨rfl, gwk rfl, rfl, trivial⟩⟩ ⟨by omega, rfl⟩ ?_
  rintro k ⟨hk, hc⟩
  have step : k < q.l → stO q f t = if q.fits f t k then some (q.at k) else stF q f t (q.l - (k + 1)) (k + 1) := fun h => by
    rw [← hc, show q.l - k = (q.l - (k + 1)) + 1 from by omega, stF]
  have ckk := ck k
  repeat' ((conv => whnf); first | (refine vcall_glob (ckk) rfl rfl rfl rfl ?_) | (refine br_dec (fun h => ?_) (fun h => ?_) <;> try (exfalso; omega)) | (refine br_ndec (fun h => ?_) (fun h => ?_) <;> try (exfalso; omega)) | refine br_seq (fun h => ?_) (fun h => ?_) | refine br_nseq (fun h => ?_) (fun h => ?_) | refine br_not (fun h => ?_) (fun h => ?_) | refine br_intro (fun h => ?_) (fun h => ?_) | refine cond_intro rfl ?_ | (refine cond_intro ⟨rfl, ?_⟩ ?_; (first | omega | (dsimp only; omega) | decide)) | (refine cond_intro ?_ ?_; (first | omega | (dsimp only; omega) | decide | (simp only [Nat.add_zero, Int.toNat_natCast, *]; omega))))
  all_goals (conv => whnf)
  · have hf : q.fits f t k := ⟨by assumption, by assumption, by assumption⟩
    rw [step (by omega), if_pos hf]
    exact ret_out (l := [0, 1]) rfl rfl trivial allRw_nil
  · have hf : ¬ q.fits f t k := fun hf => absurd hf.2.2 (by assumption)
    refine ⟨k + 1, [0, 1, 2], [], ⟨by omega, by rw [step (by omega), if_neg hf]⟩, by omega, ⟨rfl, ⟨rfl, rfl, rfl, rfl, rfl, congrArg (fun z => some (SV.int .i64 z)) (i64_succ (by omega)), trivial⟩, ⟨rfl, gwk rfl, rfl, trivial⟩⟩⟩
  · have hf : ¬ q.fits f t k := fun hf => absurd hf.2.1 (by assumption)
    refine ⟨k + 1, [0, 1, 2], [], ⟨by omega, by rw [step (by omega), if_neg hf]⟩, by omega, ⟨rfl, ⟨rfl, rfl, rfl, rfl, rfl, congrArg (fun z => some (SV.int .i64 z)) (i64_succ (by omega)), trivial⟩, ⟨rfl, gwk rfl, rfl, trivial⟩⟩⟩
  · have hf : ¬ q.fits f t k := fun hf => absurd hf.1 (by assumption)
    refine ⟨k + 1, [0, 1, 2], [], ⟨by omega, by rw [step (by omega), if_neg hf]⟩, by omega, ⟨rfl, ⟨rfl, rfl, rfl, rfl, rfl, congrArg (fun z => some (SV.int .i64 z)) (i64_succ (by omega)), trivial⟩, ⟨rfl, gwk rfl, rfl, trivial⟩⟩⟩
  · have e : k = q.l := by omega
    rw [e, Nat.sub_self, stF] at hc
    rw [← hc]
    exact ret_out (l := [0, 1]) rfl rfl trivial allRw_nil

theorem ref02_stated (q : RL) (hl : q.l ≤ 1000) (hz : ∀ i, (q.at i).f.size ≤ 20 ∧ (q.at i).t.size ≤ 20) (f t : ByteArray) : FC Tryd.prog 2 58 [.sl 1 0 0 q.l, .str f, .str t] q.H (isOut (.tup [((stO q f t).getD Rt.z).sv, .bool (stO q f t).isSome]) [] 2) := by
  have ck := fun i => ref02_Check (q.at i).f (q.at i).t (q.at i).n (q.at i).d (by have := hz i; omega) (by have := hz i; omega)
  refine fc_of mixed T_ok Tryd.func58 rfl (by kernel_rfl) (by kernel_rfl) (by kernel_rfl) ?_
  (conv => whnf)
  refine vloop_of (fun k : Nat => ⟨[(0, .sl 1 0 0 q.l), (1, .str f), (2, .str t), (6, .ptr 2 0 0 0), (8, .int .i64 k)], (2, some (.one false (.cells [.str ⟨#[]⟩, .str ⟨#[]⟩, .int .i64 0, .int .i64 0]))) :: q.H, 3⟩) (fun k => k ≤ q.l ∧ stF q f t (q.l - k) k = stO q f t) (fun k => q.l - k) 0 [0, 1, 2] [] ⟨rfl, ⟨rfl, rfl, rfl, rfl, rfl, trivial⟩, ⟨rfl, gwk rfl, rfl, trivial⟩⟩ ⟨by omega, rfl⟩ ?_
  rintro k ⟨hk, hc⟩
  have step : k < q.l → stO q f t = if q.fits f t k then some (q.at k) else stF q f t (q.l - (k + 1)) (k + 1) := fun h => by
    rw [← hc, show q.l - k = (q.l - (k + 1)) + 1 from by omega, stF]
  have ckk := ck k
  repeat' ((conv => whnf); first | (refine vcall_pure (ckk) rfl rfl rfl ?_) | (refine br_dec (fun h => ?_) (fun h => ?_) <;> try (exfalso; omega)) | (refine br_ndec (fun h => ?_) (fun h => ?_) <;> try (exfalso; omega)) | refine br_seq (fun h => ?_) (fun h => ?_) | refine br_nseq (fun h => ?_) (fun h => ?_) | refine br_not (fun h => ?_) (fun h => ?_) | refine br_intro (fun h => ?_) (fun h => ?_) | refine cond_intro rfl ?_ | (refine cond_intro ⟨rfl, ?_⟩ ?_; (first | omega | (dsimp only; omega) | decide)) | (refine cond_intro ?_ ?_; (first | omega | (dsimp only; omega) | decide | (simp only [Nat.add_zero, Int.toNat_natCast, *]; omega))))
  all_goals (conv => whnf)
  · have hf : q.fits f t k := ⟨by assumption, by assumption, by assumption⟩
    rw [step (by omega), if_pos hf]
    exact ret_out (l := [0, 1]) rfl rfl trivial allRw_nil
  · have hf : ¬ q.fits f t k := fun hf => absurd hf.2.2 (by assumption)
    refine ⟨k + 1, [0, 1, 2], [], ⟨by omega, by rw [step (by omega), if_neg hf]⟩, by omega, ⟨rfl, ⟨rfl, rfl, rfl, rfl, congrArg (fun z => some (SV.int .i64 z)) (i64_succ (by omega)), trivial⟩, ⟨rfl, gwk rfl, rfl, trivial⟩⟩⟩
  · have hf : ¬ q.fits f t k := fun hf => absurd hf.2.1 (by assumption)
    refine ⟨k + 1, [0, 1, 2], [], ⟨by omega, by rw [step (by omega), if_neg hf]⟩, by omega, ⟨rfl, ⟨rfl, rfl, rfl, rfl, congrArg (fun z => some (SV.int .i64 z)) (i64_succ (by omega)), trivial⟩, ⟨rfl, gwk rfl, rfl, trivial⟩⟩⟩
  · have hf : ¬ q.fits f t k := fun hf => absurd hf.1 (by assumption)
    refine ⟨k + 1, [0, 1, 2], [], ⟨by omega, by rw [step (by omega), if_neg hf]⟩, by omega, ⟨rfl, ⟨rfl, rfl, rfl, rfl, congrArg (fun z => some (SV.int .i64 z)) (i64_succ (by omega)), trivial⟩, ⟨rfl, gwk rfl, rfl, trivial⟩⟩⟩
  · have e : k = q.l := by omega
    rw [e, Nat.sub_self, stF] at hc
    rw [← hc]
    exact ret_out (l := [0, 1]) rfl rfl trivial allRw_nil

def Rt.inv (r : Rt) : Rt := ⟨r.t, r.f, redN r.d r.n, redD r.d r.n⟩
/-- The direct rate. -/
def dirO (q : RL) (f t : ByteArray) : Option Rt := match stO q f t with | some r => some r | none => (match stO q t f with | some r => some r.inv | none => none)
theorem rchk_mk {f t : ByteArray} {n d : Int} (h1 : curB f = true) (h2 : curB t = true) (h3 : f ≠ t) (h4 : 1 ≤ n) (h5 : n ≤ 1099511627776) (h6 : 1 ≤ d) (h7 : d ≤ 1099511627776) : rchk f t n d = 0 := by
  unfold rchk
  rw [if_neg (by simp [h1, h2, h3]), if_neg (by omega)]
theorem rchk_inv {r : Rt} (h : rchk r.f r.t r.n r.d = 0) : rchk r.inv.f r.inv.t r.inv.n r.inv.d = 0 := by
  obtain ⟨h1, h2, h3, h4, h5, h6, h7⟩ := rchk_ok h
  obtain ⟨x1, x2, x3, x4⟩ := red_bd h6 h4
  exact rchk_mk h2 h1 (fun e => h3 e.symm) x1 (by have : r.inv.n = redN r.d r.n := rfl; omega) x3 (by have : r.inv.d = redD r.d r.n := rfl; omega)
theorem dirO_ok {q : RL} {f t : ByteArray} {r : Rt} (h : dirO q f t = some r) : r.f = f ∧ r.t = t ∧ rchk r.f r.t r.n r.d = 0 := by
  unfold dirO at h
  split at h
  · rename_i r' hr; cases h; exact stO_ok hr
  · split at h
    · rename_i r' hr
      cases h
      obtain ⟨a, b, c⟩ := stO_ok hr
      exact ⟨b, a, rchk_inv c⟩
    · cases h
attribute [irreducible] stO

theorem nz_of {r : Rt} (h : rchk r.f r.t r.n r.d = 0) : (seq r.f ⟨#[]⟩ && (seq r.t ⟨#[]⟩ && (decide (r.n = 0) && (decide (r.d = 0) && true)))) = false := by
  obtain ⟨_, _, _, h4, _⟩ := rchk_ok h
  rw [show decide (r.n = 0) = false from decide_eq_false (by omega)]
  simp
theorem rchk_z : rchk Rt.z.f Rt.z.t Rt.z.n Rt.z.d ≠ 0 := by
  intro h; obtain ⟨_, _, _, h4, _⟩ := rchk_ok h; simp [Rt.z] at h4

theorem rate_direct (q : RL) (hl : q.l ≤ 1000) (f t : ByteArray) : FC Tryd.prog 2 39 [.sl 1 0 0 q.l, .str f, .str t] q.H (isOut ((dirO q f t).getD Rt.z).sv [] 2) := by
  have s1 := rate_stated q hl f t
  have s2 := rate_stated q hl t f
  refine fc_of mixed T_ok Tryd.func39 rfl (by kernel_rfl) (by kernel_rfl) (by kernel_rfl) ?_
  cases h1 : stO q f t with
  | some r =>
    have nz := nz_of (stO_ok h1).2.2
    have hd : dirO q f t = some r := by unfold dirO; rw [h1]
    rw [h1] at s1
    rw [hd]
    repeat' ((conv => whnf); first | (refine vcall_out (l :=  [0, 1]) (s1 ) ⟨rfl, rfl, rfl, rfl, (by (repeat' (first | exact trivial | exact GB_wf | constructor)); first | done | fail), (by (repeat' (first | exact trivial | exact GB_fits rfl | constructor)); first | done | fail)⟩ ?_) | (refine br_not (fun h => ?_) (fun h => ?_) <;> try (exfalso; exact absurd (nz.symm.trans h) (by decide))) | (refine br_dec (fun h => ?_) (fun h => ?_) <;> try (exfalso; omega)) | (refine br_ndec (fun h => ?_) (fun h => ?_) <;> try (exfalso; omega)) | refine br_seq (fun h => ?_) (fun h => ?_) | refine br_nseq (fun h => ?_) (fun h => ?_) | refine br_not (fun h => ?_) (fun h => ?_) | refine br_intro (fun h => ?_) (fun h => ?_) | refine cond_intro rfl ?_ | (refine cond_intro ⟨rfl, ?_⟩ ?_; (first | omega | (dsimp only; omega) | decide)) | (refine cond_intro ?_ ?_; (first | omega | (dsimp only; omega) | decide | (simp only [Nat.add_zero, Int.toNat_natCast, *]; omega))))
    all_goals (conv => whnf)
    all_goals exact ret_out (l := [0, 1]) rfl rfl trivial allRw_nil
  | none =>
    rw [h1] at s1
    cases h2 : stO q t f with
    | some r =>
      have ok := (stO_ok h2).2.2
      have c := rate_Inverse r.f r.t r.n r.d
      rw [ok, rT_ok] at c
      have hd : dirO q f t = some r.inv := by unfold dirO; rw [h1, h2]
      rw [h2] at s2
      rw [hd]
      repeat' ((conv => whnf); first | (refine vcall_out (l :=  [0, 1]) (s1 ) ⟨rfl, rfl, rfl, rfl, (by (repeat' (first | exact trivial | exact GB_wf | constructor)); first | done | fail), (by (repeat' (first | exact trivial | exact GB_fits rfl | constructor)); first | done | fail)⟩ ?_) | (refine vcall_out (l :=  [0, 1]) (s2 ) ⟨rfl, rfl, rfl, rfl, (by (repeat' (first | exact trivial | exact GB_wf | constructor)); first | done | fail), (by (repeat' (first | exact trivial | exact GB_fits rfl | constructor)); first | done | fail)⟩ ?_) | (refine vcall_glob (c) rfl rfl rfl rfl ?_) | (refine br_dec (fun h => ?_) (fun h => ?_) <;> try (exfalso; omega)) | (refine br_ndec (fun h => ?_) (fun h => ?_) <;> try (exfalso; omega)) | refine br_seq (fun h => ?_) (fun h => ?_) | refine br_nseq (fun h => ?_) (fun h => ?_) | refine br_not (fun h => ?_) (fun h => ?_) | refine br_intro (fun h => ?_) (fun h => ?_) | refine cond_intro rfl ?_ | (refine cond_intro ⟨rfl, ?_⟩ ?_; (first | omega | (dsimp only; omega) | decide)) | (refine cond_intro ?_ ?_; (first | omega | (dsimp only; omega) | decide | (simp only [Nat.add_zero, Int.toNat_natCast, *]; omega))))
      all_goals (conv => whnf)
      all_goals exact ret_out (l := [0, 1]) rfl rfl trivial allRw_nil
    | none =>
      have c := rate_Inverse Rt.z.f Rt.z.t Rt.z.n Rt.z.d
      rw [rT_err rchk_z] at c
      have hd : dirO q f t = none := by unfold dirO; rw [h1, h2]
      have hz := rchk_z
      rw [h2] at s2
      rw [hd]
      generalize rchk Rt.z.f Rt.z.t Rt.z.n Rt.z.d = e at *
      repeat' ((conv => whnf); first | (refine vcall_out (l :=  [0, 1]) (s1 ) ⟨rfl, rfl, rfl, rfl, (by (repeat' (first | exact trivial | exact GB_wf | constructor)); first | done | fail), (by (repeat' (first | exact trivial | exact GB_fits rfl | constructor)); first | done | fail)⟩ ?_) | (refine vcall_out (l :=  [0, 1]) (s2 ) ⟨rfl, rfl, rfl, rfl, (by (repeat' (first | exact trivial | exact GB_wf | constructor)); first | done | fail), (by (repeat' (first | exact trivial | exact GB_fits rfl | constructor)); first | done | fail)⟩ ?_) | (refine vcall_glob (c) rfl rfl rfl rfl ?_) | (refine br_dec (fun h => ?_) (fun h => ?_) <;> try (exfalso; omega)) | (refine br_ndec (fun h => ?_) (fun h => ?_) <;> try (exfalso; omega)) | refine br_seq (fun h => ?_) (fun h => ?_) | refine br_nseq (fun h => ?_) (fun h => ?_) | refine br_not (fun h => ?_) (fun h => ?_) | refine br_intro (fun h => ?_) (fun h => ?_) | refine cond_intro rfl ?_ | (refine cond_intro ⟨rfl, ?_⟩ ?_; (first | omega | (dsimp only; omega) | decide)) | (refine cond_intro ?_ ?_; (first | omega | (dsimp only; omega) | decide | (simp only [Nat.add_zero, Int.toNat_natCast, *]; omega))))
      all_goals (conv => whnf)
      all_goals exact ret_out (l := [0, 1]) rfl rfl trivial allRw_nil

theorem ref02_direct (q : RL) (hl : q.l ≤ 1000) (hz : ∀ i, (q.at i).f.size ≤ 20 ∧ (q.at i).t.size ≤ 20) (f t : ByteArray) : FC Tryd.prog 2 40 [.sl 1 0 0 q.l, .str f, .str t] q.H (isOut (.tup [((dirO q f t).getD Rt.z).sv, .bool (dirO q f t).isSome]) [] 2) := by
  have s1 := ref02_stated q hl hz f t
  have s2 := ref02_stated q hl hz t f
  refine fc_of mixed T_ok Tryd.func40 rfl (by kernel_rfl) (by kernel_rfl) (by kernel_rfl) ?_
  cases h1 : stO q f t with
  | some r =>
    have hd : dirO q f t = some r := by unfold dirO; rw [h1]
    rw [h1] at s1
    rw [hd]
    repeat' ((conv => whnf); first | (refine vcall_out (l :=  [0, 1]) (s1 ) ⟨rfl, rfl, rfl, rfl, (by (repeat' (first | exact trivial | exact GB_wf | constructor)); first | done | fail), (by (repeat' (first | exact trivial | exact GB_fits rfl | constructor)); first | done | fail)⟩ ?_) | (refine br_dec (fun h => ?_) (fun h => ?_) <;> try (exfalso; omega)) | (refine br_ndec (fun h => ?_) (fun h => ?_) <;> try (exfalso; omega)) | refine br_seq (fun h => ?_) (fun h => ?_) | refine br_nseq (fun h => ?_) (fun h => ?_) | refine br_not (fun h => ?_) (fun h => ?_) | refine br_intro (fun h => ?_) (fun h => ?_) | refine cond_intro rfl ?_ | (refine cond_intro ⟨rfl, ?_⟩ ?_; (first | omega | (dsimp only; omega) | decide)) | (refine cond_intro ?_ ?_; (first | omega | (dsimp only; omega) | decide | (simp only [Nat.add_zero, Int.toNat_natCast, *]; omega))))
    all_goals (conv => whnf)
    all_goals exact ret_out (l := [0, 1]) rfl rfl trivial allRw_nil
  | none =>
    rw [h1] at s1
    cases h2 : stO q t f with
    | some r =>
      have ok := (stO_ok h2).2.2
      have k1 := curB_3 (rchk_ok ok).1
      have k2 := curB_3 (rchk_ok ok).2.1
      have c := ref02_Inverse r.f r.t r.n r.d (by omega) (by omega)
      rw [ok, rT_ok] at c
      have hd : dirO q f t = some r.inv := by unfold dirO; rw [h1, h2]
      rw [h2] at s2
      rw [hd]
      repeat' ((conv => whnf); first | (refine vcall_out (l :=  [0, 1]) (s1 ) ⟨rfl, rfl, rfl, rfl, (by (repeat' (first | exact trivial | exact GB_wf | constructor)); first | done | fail), (by (repeat' (first | exact trivial | exact GB_fits rfl | constructor)); first | done | fail)⟩ ?_) | (refine vcall_out (l :=  [0, 1]) (s2 ) ⟨rfl, rfl, rfl, rfl, (by (repeat' (first | exact trivial | exact GB_wf | constructor)); first | done | fail), (by (repeat' (first | exact trivial | exact GB_fits rfl | constructor)); first | done | fail)⟩ ?_) | (refine vcall_pure (c) rfl rfl rfl ?_) | (refine br_dec (fun h => ?_) (fun h => ?_) <;> try (exfalso; omega)) | (refine br_ndec (fun h => ?_) (fun h => ?_) <;> try (exfalso; omega)) | refine br_seq (fun h => ?_) (fun h => ?_) | refine br_nseq (fun h => ?_) (fun h => ?_) | refine br_not (fun h => ?_) (fun h => ?_) | refine br_intro (fun h => ?_) (fun h => ?_) | refine cond_intro rfl ?_ | (refine cond_intro ⟨rfl, ?_⟩ ?_; (first | omega | (dsimp only; omega) | decide)) | (refine cond_intro ?_ ?_; (first | omega | (dsimp only; omega) | decide | (simp only [Nat.add_zero, Int.toNat_natCast, *]; omega))))
      all_goals (conv => whnf)
      all_goals exact ret_out (l := [0, 1]) rfl rfl trivial allRw_nil
    | none =>
      have hd : dirO q f t = none := by unfold dirO; rw [h1, h2]
      rw [h2] at s2
      rw [hd]
      repeat' ((conv => whnf); first | (refine vcall_out (l :=  [0, 1]) (s1 ) ⟨rfl, rfl, rfl, rfl, (by (repeat' (first | exact trivial | exact GB_wf | constructor)); first | done | fail), (by (repeat' (first | exact trivial | exact GB_fits rfl | constructor)); first | done | fail)⟩ ?_) | (refine vcall_out (l :=  [0, 1]) (s2 ) ⟨rfl, rfl, rfl, rfl, (by (repeat' (first | exact trivial | exact GB_wf | constructor)); first | done | fail), (by (repeat' (first | exact trivial | exact GB_fits rfl | constructor)); first | done | fail)⟩ ?_) | (refine br_dec (fun h => ?_) (fun h => ?_) <;> try (exfalso; omega)) | (refine br_ndec (fun h => ?_) (fun h => ?_) <;> try (exfalso; omega)) | refine br_seq (fun h => ?_) (fun h => ?_) | refine br_nseq (fun h => ?_) (fun h => ?_) | refine br_not (fun h => ?_) (fun h => ?_) | refine br_intro (fun h => ?_) (fun h => ?_) | refine cond_intro rfl ?_ | (refine cond_intro ⟨rfl, ?_⟩ ?_; (first | omega | (dsimp only; omega) | decide)) | (refine cond_intro ?_ ?_; (first | omega | (dsimp only; omega) | decide | (simp only [Nat.add_zero, Int.toNat_natCast, *]; omega))))
      all_goals (conv => whnf)
      all_goals exact ret_out (l := [0, 1]) rfl rfl trivial allRw_nil
attribute [irreducible] dirO

/-- What is found. -/
def findT (q : RL) (f t p : ByteArray) : SV :=
  if f = t then .tup [Rt.z.sv, .int .i64 11] else
  match dirO q f t with
  | some r => .tup [r.sv, .int .i64 0]
  | none => match dirO q f p, dirO q p t with
    | some a, some b => rT (crE a.f a.t a.n a.d b.f b.t b.n b.d) a.f b.t (pA a.n a.d b.n b.d * pC a.n a.d b.n b.d) (pB a.n a.d b.n b.d * pD a.n a.d b.n b.d)
    | _, _ => .tup [Rt.z.sv, .int .i64 6]

theorem z_eq : (seq Rt.z.f ⟨#[]⟩ && (seq Rt.z.t ⟨#[]⟩ && (decide (Rt.z.n = 0) && (decide (Rt.z.d = 0) && true)))) = true := by kernel_rfl

theorem rate_Find (q : RL) (hl : q.l ≤ 1000) (f t p : ByteArray) : FC Tryd.prog 2 26 [.sl 1 0 0 q.l, .str f, .str t, .str p] q.H (isOut (findT q f t p) [] 2) := by
  have s1 := rate_direct q hl f t
  have s2 := rate_direct q hl f p
  have s3 := rate_direct q hl p t
  refine fc_of mixed T_ok Tryd.func26 rfl (by kernel_rfl) (by kernel_rfl) (by kernel_rfl) ?_
  by_cases hft : f = t
  · have hT : findT q f t p = .tup [Rt.z.sv, .int .i64 11] := by unfold findT; rw [if_pos hft]
    rw [hT]
    repeat' ((conv => whnf); first | (refine br_seq (fun h => ?_) (fun h => ?_) <;> try (exact absurd hft h)) | (refine br_dec (fun h => ?_) (fun h => ?_) <;> try (exfalso; omega)) | (refine br_ndec (fun h => ?_) (fun h => ?_) <;> try (exfalso; omega)) | refine br_seq (fun h => ?_) (fun h => ?_) | refine br_nseq (fun h => ?_) (fun h => ?_) | refine br_not (fun h => ?_) (fun h => ?_) | refine br_intro (fun h => ?_) (fun h => ?_) | refine cond_intro rfl ?_ | (refine cond_intro ⟨rfl, ?_⟩ ?_; (first | omega | (dsimp only; omega) | decide)) | (refine cond_intro ?_ ?_; (first | omega | (dsimp only; omega) | decide | (simp only [Nat.add_zero, Int.toNat_natCast, *]; omega))))
    all_goals (conv => whnf)
    all_goals exact ret_out (l := [0, 1]) rfl rfl trivial allRw_nil
  · cases h1 : dirO q f t with
    | some r =>
      have hT : findT q f t p = .tup [r.sv, .int .i64 0] := by unfold findT; rw [if_neg hft, h1]
      have nz := nz_of (dirO_ok h1).2.2
      rw [h1] at s1
      rw [hT]
      repeat' ((conv => whnf); first | (refine vcall_out (l :=  [0, 1]) (s1 ) ⟨rfl, rfl, rfl, rfl, (by (repeat' (first | exact trivial | exact GB_wf | constructor)); first | done | fail), (by (repeat' (first | exact trivial | exact GB_fits rfl | constructor)); first | done | fail)⟩ ?_) | (refine br_seq (fun h => ?_) (fun h => ?_) <;> try (exact absurd h hft)) | (refine br_not (fun h => ?_) (fun h => ?_) <;> try (exfalso; exact absurd (nz.symm.trans h) (by decide))) | (refine br_dec (fun h => ?_) (fun h => ?_) <;> try (exfalso; omega)) | (refine br_ndec (fun h => ?_) (fun h => ?_) <;> try (exfalso; omega)) | refine br_seq (fun h => ?_) (fun h => ?_) | refine br_nseq (fun h => ?_) (fun h => ?_) | refine br_not (fun h => ?_) (fun h => ?_) | refine br_intro (fun h => ?_) (fun h => ?_) | refine cond_intro rfl ?_ | (refine cond_intro ⟨rfl, ?_⟩ ?_; (first | omega | (dsimp only; omega) | decide)) | (refine cond_intro ?_ ?_; (first | omega | (dsimp only; omega) | decide | (simp only [Nat.add_zero, Int.toNat_natCast, *]; omega))))
      all_goals (conv => whnf)
      all_goals exact ret_out (l := [0, 1]) rfl rfl trivial allRw_nil
    | none =>
      rw [h1] at s1
      cases h2 : dirO q f p with
      | none =>
        have hT : findT q f t p = .tup [Rt.z.sv, .int .i64 6] := by unfold findT; rw [if_neg hft, h1, h2]
        rw [h2] at s2
        rw [hT]
        repeat' ((conv => whnf); first | (refine vcall_out (l :=  [0, 1]) (s1 ) ⟨rfl, rfl, rfl, rfl, (by (repeat' (first | exact trivial | exact GB_wf | constructor)); first | done | fail), (by (repeat' (first | exact trivial | exact GB_fits rfl | constructor)); first | done | fail)⟩ ?_) | (refine vcall_out (l :=  [0, 1]) (s2 ) ⟨rfl, rfl, rfl, rfl, (by (repeat' (first | exact trivial | exact GB_wf | constructor)); first | done | fail), (by (repeat' (first | exact trivial | exact GB_fits rfl | constructor)); first | done | fail)⟩ ?_) | (refine vcall_out (l :=  [0, 1]) (s3 ) ⟨rfl, rfl, rfl, rfl, (by (repeat' (first | exact trivial | exact GB_wf | constructor)); first | done | fail), (by (repeat' (first | exact trivial | exact GB_fits rfl | constructor)); first | done | fail)⟩ ?_) | (refine vcallD_out (l :=  [0, 1]) (s2 ) ⟨rfl, rfl, rfl, rfl, (by (repeat' (first | exact trivial | exact GB_wf | constructor)); first | done | fail), (by (repeat' (first | exact trivial | exact GB_fits rfl | constructor)); first | done | fail)⟩ ?_) | (refine vcallD_out (l :=  [0, 1]) (s3 ) ⟨rfl, rfl, rfl, rfl, (by (repeat' (first | exact trivial | exact GB_wf | constructor)); first | done | fail), (by (repeat' (first | exact trivial | exact GB_fits rfl | constructor)); first | done | fail)⟩ ?_) | (refine br_seq (fun h => ?_) (fun h => ?_) <;> try (exact absurd h hft)) | (refine br_dec (fun h => ?_) (fun h => ?_) <;> try (exfalso; omega)) | (refine br_ndec (fun h => ?_) (fun h => ?_) <;> try (exfalso; omega)) | refine br_seq (fun h => ?_) (fun h => ?_) | refine br_nseq (fun h => ?_) (fun h => ?_) | refine br_not (fun h => ?_) (fun h => ?_) | refine br_intro (fun h => ?_) (fun h => ?_) | refine cond_intro rfl ?_ | (refine cond_intro ⟨rfl, ?_⟩ ?_; (first | omega | (dsimp only; omega) | decide)) | (refine cond_intro ?_ ?_; (first | omega | (dsimp only; omega) | decide | (simp only [Nat.add_zero, Int.toNat_natCast, *]; omega))))
        all_goals (conv => whnf)
        all_goals exact ret_out (l := [0, 1]) rfl rfl trivial allRw_nil
      | some a =>
        have nza := nz_of (dirO_ok h2).2.2
        rw [h2] at s2
        cases h3 : dirO q p t with
        | none =>
          have hT : findT q f t p = .tup [Rt.z.sv, .int .i64 6] := by unfold findT; rw [if_neg hft, h1, h2, h3]
          rw [h3] at s3
          rw [hT]
          repeat' ((conv => whnf); first | (refine vcall_out (l :=  [0, 1]) (s1 ) ⟨rfl, rfl, rfl, rfl, (by (repeat' (first | exact trivial | exact GB_wf | constructor)); first | done | fail), (by (repeat' (first | exact trivial | exact GB_fits rfl | constructor)); first | done | fail)⟩ ?_) | (refine vcall_out (l :=  [0, 1]) (s2 ) ⟨rfl, rfl, rfl, rfl, (by (repeat' (first | exact trivial | exact GB_wf | constructor)); first | done | fail), (by (repeat' (first | exact trivial | exact GB_fits rfl | constructor)); first | done | fail)⟩ ?_) | (refine vcall_out (l :=  [0, 1]) (s3 ) ⟨rfl, rfl, rfl, rfl, (by (repeat' (first | exact trivial | exact GB_wf | constructor)); first | done | fail), (by (repeat' (first | exact trivial | exact GB_fits rfl | constructor)); first | done | fail)⟩ ?_) | (refine vcallD_out (l :=  [0, 1]) (s2 ) ⟨rfl, rfl, rfl, rfl, (by (repeat' (first | exact trivial | exact GB_wf | constructor)); first | done | fail), (by (repeat' (first | exact trivial | exact GB_fits rfl | constructor)); first | done | fail)⟩ ?_) | (refine vcallD_out (l :=  [0, 1]) (s3 ) ⟨rfl, rfl, rfl, rfl, (by (repeat' (first | exact trivial | exact GB_wf | constructor)); first | done | fail), (by (repeat' (first | exact trivial | exact GB_fits rfl | constructor)); first | done | fail)⟩ ?_) | (refine br_seq (fun h => ?_) (fun h => ?_) <;> try (exact absurd h hft)) | (refine br_intro (fun h => ?_) (fun h => ?_) <;> try (exfalso; exact absurd (nza.symm.trans h) (by decide))) | (refine br_dec (fun h => ?_) (fun h => ?_) <;> try (exfalso; omega)) | (refine br_ndec (fun h => ?_) (fun h => ?_) <;> try (exfalso; omega)) | refine br_seq (fun h => ?_) (fun h => ?_) | refine br_nseq (fun h => ?_) (fun h => ?_) | refine br_not (fun h => ?_) (fun h => ?_) | refine br_intro (fun h => ?_) (fun h => ?_) | refine cond_intro rfl ?_ | (refine cond_intro ⟨rfl, ?_⟩ ?_; (first | omega | (dsimp only; omega) | decide)) | (refine cond_intro ?_ ?_; (first | omega | (dsimp only; omega) | decide | (simp only [Nat.add_zero, Int.toNat_natCast, *]; omega))))
          all_goals (conv => whnf)
          all_goals exact ret_out (l := [0, 1]) rfl rfl trivial allRw_nil
        | some b =>
          have hT : findT q f t p = rT (crE a.f a.t a.n a.d b.f b.t b.n b.d) a.f b.t (pA a.n a.d b.n b.d * pC a.n a.d b.n b.d) (pB a.n a.d b.n b.d * pD a.n a.d b.n b.d) := by unfold findT; rw [if_neg hft, h1, h2, h3]
          have nzb := nz_of (dirO_ok h3).2.2
          have c := rate_Cross a.f a.t a.n a.d b.f b.t b.n b.d
          rw [h3] at s3
          rw [hT]
          repeat' ((conv => whnf); first | (refine vcall_out (l :=  [0, 1]) (s1 ) ⟨rfl, rfl, rfl, rfl, (by (repeat' (first | exact trivial | exact GB_wf | constructor)); first | done | fail), (by (repeat' (first | exact trivial | exact GB_fits rfl | constructor)); first | done | fail)⟩ ?_) | (refine vcall_out (l :=  [0, 1]) (s2 ) ⟨rfl, rfl, rfl, rfl, (by (repeat' (first | exact trivial | exact GB_wf | constructor)); first | done | fail), (by (repeat' (first | exact trivial | exact GB_fits rfl | constructor)); first | done | fail)⟩ ?_) | (refine vcall_out (l :=  [0, 1]) (s3 ) ⟨rfl, rfl, rfl, rfl, (by (repeat' (first | exact trivial | exact GB_wf | constructor)); first | done | fail), (by (repeat' (first | exact trivial | exact GB_fits rfl | constructor)); first | done | fail)⟩ ?_) | (refine vcallD_out (l :=  [0, 1]) (s2 ) ⟨rfl, rfl, rfl, rfl, (by (repeat' (first | exact trivial | exact GB_wf | constructor)); first | done | fail), (by (repeat' (first | exact trivial | exact GB_fits rfl | constructor)); first | done | fail)⟩ ?_) | (refine vcallD_out (l :=  [0, 1]) (s3 ) ⟨rfl, rfl, rfl, rfl, (by (repeat' (first | exact trivial | exact GB_wf | constructor)); first | done | fail), (by (repeat' (first | exact trivial | exact GB_fits rfl | constructor)); first | done | fail)⟩ ?_) | (refine vcall_glob (c) rfl rfl rfl rfl ?_) | (refine br_seq (fun h => ?_) (fun h => ?_) <;> try (exact absurd h hft)) | (refine br_intro (fun h => ?_) (fun h => ?_) <;> try (exfalso; first | exact absurd (nza.symm.trans h) (by decide) | exact absurd (nzb.symm.trans h) (by decide))) | (refine br_dec (fun h => ?_) (fun h => ?_) <;> try (exfalso; omega)) | (refine br_ndec (fun h => ?_) (fun h => ?_) <;> try (exfalso; omega)) | refine br_seq (fun h => ?_) (fun h => ?_) | refine br_nseq (fun h => ?_) (fun h => ?_) | refine br_not (fun h => ?_) (fun h => ?_) | refine br_intro (fun h => ?_) (fun h => ?_) | refine cond_intro rfl ?_ | (refine cond_intro ⟨rfl, ?_⟩ ?_; (first | omega | (dsimp only; omega) | decide)) | (refine cond_intro ?_ ?_; (first | omega | (dsimp only; omega) | decide | (simp only [Nat.add_zero, Int.toNat_natCast, *]; omega))))
          all_goals (conv => whnf)
          all_goals exact ret_out (l := [0, 1]) rfl rfl trivial allRw_nil

theorem ref02_Find (q : RL) (hl : q.l ≤ 1000) (hz : ∀ i, (q.at i).f.size ≤ 20 ∧ (q.at i).t.size ≤ 20) (f t p : ByteArray) : FC Tryd.prog 2 27 [.sl 1 0 0 q.l, .str f, .str t, .str p] q.H (isOut (findT q f t p) [] 2) := by
  have s1 := ref02_direct q hl hz f t
  have s2 := ref02_direct q hl hz f p
  have s3 := ref02_direct q hl hz p t
  refine fc_of mixed T_ok Tryd.func27 rfl (by kernel_rfl) (by kernel_rfl) (by kernel_rfl) ?_
  by_cases hft : f = t
  · have hT : findT q f t p = .tup [Rt.z.sv, .int .i64 11] := by unfold findT; rw [if_pos hft]
    rw [hT]
    repeat' ((conv => whnf); first | (refine br_seq (fun h => ?_) (fun h => ?_) <;> try (exact absurd hft h)) | (refine br_dec (fun h => ?_) (fun h => ?_) <;> try (exfalso; omega)) | (refine br_ndec (fun h => ?_) (fun h => ?_) <;> try (exfalso; omega)) | refine br_seq (fun h => ?_) (fun h => ?_) | refine br_nseq (fun h => ?_) (fun h => ?_) | refine br_not (fun h => ?_) (fun h => ?_) | refine br_intro (fun h => ?_) (fun h => ?_) | refine cond_intro rfl ?_ | (refine cond_intro ⟨rfl, ?_⟩ ?_; (first | omega | (dsimp only; omega) | decide)) | (refine cond_intro ?_ ?_; (first | omega | (dsimp only; omega) | decide | (simp only [Nat.add_zero, Int.toNat_natCast, *]; omega))))
    all_goals (conv => whnf)
    all_goals exact ret_out (l := [0, 1]) rfl rfl trivial allRw_nil
  · cases h1 : dirO q f t with
    | some r =>
      have hT : findT q f t p = .tup [r.sv, .int .i64 0] := by unfold findT; rw [if_neg hft, h1]
      rw [h1] at s1
      rw [hT]
      repeat' ((conv => whnf); first | (refine vcall_out (l :=  [0, 1]) (s1 ) ⟨rfl, rfl, rfl, rfl, (by (repeat' (first | exact trivial | exact GB_wf | constructor)); first | done | fail), (by (repeat' (first | exact trivial | exact GB_fits rfl | constructor)); first | done | fail)⟩ ?_) | (refine br_seq (fun h => ?_) (fun h => ?_) <;> try (exact absurd h hft)) | (refine br_dec (fun h => ?_) (fun h => ?_) <;> try (exfalso; omega)) | (refine br_ndec (fun h => ?_) (fun h => ?_) <;> try (exfalso; omega)) | refine br_seq (fun h => ?_) (fun h => ?_) | refine br_nseq (fun h => ?_) (fun h => ?_) | refine br_not (fun h => ?_) (fun h => ?_) | refine br_intro (fun h => ?_) (fun h => ?_) | refine cond_intro rfl ?_ | (refine cond_intro ⟨rfl, ?_⟩ ?_; (first | omega | (dsimp only; omega) | decide)) | (refine cond_intro ?_ ?_; (first | omega | (dsimp only; omega) | decide | (simp only [Nat.add_zero, Int.toNat_natCast, *]; omega))))
      all_goals (conv => whnf)
      all_goals exact ret_out (l := [0, 1]) rfl rfl trivial allRw_nil
    | none =>
      rw [h1] at s1
      cases h2 : dirO q f p with
      | none =>
        have hT : findT q f t p = .tup [Rt.z.sv, .int .i64 6] := by unfold findT; rw [if_neg hft, h1, h2]
        rw [h2] at s2
        rw [hT]
        repeat' ((conv => whnf); first | (refine vcall_out (l :=  [0, 1]) (s1 ) ⟨rfl, rfl, rfl, rfl, (by (repeat' (first | exact trivial | exact GB_wf | constructor)); first | done | fail), (by (repeat' (first | exact trivial | exact GB_fits rfl | constructor)); first | done | fail)⟩ ?_) | (refine vcall_out (l :=  [0, 1]) (s2 ) ⟨rfl, rfl, rfl, rfl, (by (repeat' (first | exact trivial | exact GB_wf | constructor)); first | done | fail), (by (repeat' (first | exact trivial | exact GB_fits rfl | constructor)); first | done | fail)⟩ ?_) | (refine vcall_out (l :=  [0, 1]) (s3 ) ⟨rfl, rfl, rfl, rfl, (by (repeat' (first | exact trivial | exact GB_wf | constructor)); first | done | fail), (by (repeat' (first | exact trivial | exact GB_fits rfl | constructor)); first | done | fail)⟩ ?_) | (refine br_seq (fun h => ?_) (fun h => ?_) <;> try (exact absurd h hft)) | (refine br_dec (fun h => ?_) (fun h => ?_) <;> try (exfalso; omega)) | (refine br_ndec (fun h => ?_) (fun h => ?_) <;> try (exfalso; omega)) | refine br_seq (fun h => ?_) (fun h => ?_) | refine br_nseq (fun h => ?_) (fun h => ?_) | refine br_not (fun h => ?_) (fun h => ?_) | refine br_intro (fun h => ?_) (fun h => ?_) | refine cond_intro rfl ?_ | (refine cond_intro ⟨rfl, ?_⟩ ?_; (first | omega | (dsimp only; omega) | decide)) | (refine cond_intro ?_ ?_; (first | omega | (dsimp only; omega) | decide | (simp only [Nat.add_zero, Int.toNat_natCast, *]; omega))))
        all_goals (conv => whnf)
        all_goals exact ret_out (l := [0, 1]) rfl rfl trivial allRw_nil
      | some a =>
        rw [h2] at s2
        cases h3 : dirO q p t with
        | none =>
          have hT : findT q f t p = .tup [Rt.z.sv, .int .i64 6] := by unfold findT; rw [if_neg hft, h1, h2, h3]
          rw [h3] at s3
          rw [hT]
          repeat' ((conv => whnf); first | (refine vcall_out (l :=  [0, 1]) (s1 ) ⟨rfl, rfl, rfl, rfl, (by (repeat' (first | exact trivial | exact GB_wf | constructor)); first | done | fail), (by (repeat' (first | exact trivial | exact GB_fits rfl | constructor)); first | done | fail)⟩ ?_) | (refine vcall_out (l :=  [0, 1]) (s2 ) ⟨rfl, rfl, rfl, rfl, (by (repeat' (first | exact trivial | exact GB_wf | constructor)); first | done | fail), (by (repeat' (first | exact trivial | exact GB_fits rfl | constructor)); first | done | fail)⟩ ?_) | (refine vcall_out (l :=  [0, 1]) (s3 ) ⟨rfl, rfl, rfl, rfl, (by (repeat' (first | exact trivial | exact GB_wf | constructor)); first | done | fail), (by (repeat' (first | exact trivial | exact GB_fits rfl | constructor)); first | done | fail)⟩ ?_) | (refine br_seq (fun h => ?_) (fun h => ?_) <;> try (exact absurd h hft)) | (refine br_dec (fun h => ?_) (fun h => ?_) <;> try (exfalso; omega)) | (refine br_ndec (fun h => ?_) (fun h => ?_) <;> try (exfalso; omega)) | refine br_seq (fun h => ?_) (fun h => ?_) | refine br_nseq (fun h => ?_) (fun h => ?_) | refine br_not (fun h => ?_) (fun h => ?_) | refine br_intro (fun h => ?_) (fun h => ?_) | refine cond_intro rfl ?_ | (refine cond_intro ⟨rfl, ?_⟩ ?_; (first | omega | (dsimp only; omega) | decide)) | (refine cond_intro ?_ ?_; (first | omega | (dsimp only; omega) | decide | (simp only [Nat.add_zero, Int.toNat_natCast, *]; omega))))
          all_goals (conv => whnf)
          all_goals exact ret_out (l := [0, 1]) rfl rfl trivial allRw_nil
        | some b =>
          have hT : findT q f t p = rT (crE a.f a.t a.n a.d b.f b.t b.n b.d) a.f b.t (pA a.n a.d b.n b.d * pC a.n a.d b.n b.d) (pB a.n a.d b.n b.d * pD a.n a.d b.n b.d) := by unfold findT; rw [if_neg hft, h1, h2, h3]
          have oka := rchk_ok (dirO_ok h2).2.2
          have okb := rchk_ok (dirO_ok h3).2.2
          have k1 := curB_3 oka.1
          have k2 := curB_3 oka.2.1
          have k3 := curB_3 okb.1
          have k4 := curB_3 okb.2.1
          have c := ref02_Cross a.f a.t a.n a.d b.f b.t b.n b.d (by omega) (by omega) (by omega) (by omega)
          rw [h3] at s3
          rw [hT]
          repeat' ((conv => whnf); first | (refine vcall_out (l :=  [0, 1]) (s1 ) ⟨rfl, rfl, rfl, rfl, (by (repeat' (first | exact trivial | exact GB_wf | constructor)); first | done | fail), (by (repeat' (first | exact trivial | exact GB_fits rfl | constructor)); first | done | fail)⟩ ?_) | (refine vcall_out (l :=  [0, 1]) (s2 ) ⟨rfl, rfl, rfl, rfl, (by (repeat' (first | exact trivial | exact GB_wf | constructor)); first | done | fail), (by (repeat' (first | exact trivial | exact GB_fits rfl | constructor)); first | done | fail)⟩ ?_) | (refine vcall_out (l :=  [0, 1]) (s3 ) ⟨rfl, rfl, rfl, rfl, (by (repeat' (first | exact trivial | exact GB_wf | constructor)); first | done | fail), (by (repeat' (first | exact trivial | exact GB_fits rfl | constructor)); first | done | fail)⟩ ?_) | (refine vcall_pure (c) rfl rfl rfl ?_) | (refine br_seq (fun h => ?_) (fun h => ?_) <;> try (exact absurd h hft)) | (refine br_dec (fun h => ?_) (fun h => ?_) <;> try (exfalso; omega)) | (refine br_ndec (fun h => ?_) (fun h => ?_) <;> try (exfalso; omega)) | refine br_seq (fun h => ?_) (fun h => ?_) | refine br_nseq (fun h => ?_) (fun h => ?_) | refine br_not (fun h => ?_) (fun h => ?_) | refine br_intro (fun h => ?_) (fun h => ?_) | refine cond_intro rfl ?_ | (refine cond_intro ⟨rfl, ?_⟩ ?_; (first | omega | (dsimp only; omega) | decide)) | (refine cond_intro ?_ ?_; (first | omega | (dsimp only; omega) | decide | (simp only [Nat.add_zero, Int.toNat_natCast, *]; omega))))
          all_goals (conv => whnf)
          all_goals exact ret_out (l := [0, 1]) rfl rfl trivial allRw_nil
end Go.Proofs.YtpmgaanpbbplbaaDoor
