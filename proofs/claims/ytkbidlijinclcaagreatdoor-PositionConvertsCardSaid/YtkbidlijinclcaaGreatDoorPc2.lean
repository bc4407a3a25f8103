/- Several texts in one: XRateM, XRateF, XPosL, XPosM, XPosN, XPosO, XSidx, XPosQ, XPosR, XPosP, XPosS, XPosT, XPzP, XPzA, XPzB, XPzC, XPzD, XPosU, XPzE, XPzG, XPzJ. -/
import Derived.Test.YtkbidlijinclcaaGreatDoorPc1
import Derived.Test.YtkbidlijinclcaaGreatDoorYLib
import Derived.Test.YtkbidlijinclcaaGreatDoorYLaw
import Derived.Test.YtkbidlijinclcaaGreatDoorYLaid
import Derived.Test.YtkbidlijinclcaaGreatDoorYArg
/- The law on made rates: products of fractions, a rate with a markup. -/
namespace Go.Proofs.YtkbidlijinclcaaGreatDoor
open Go.RowKit Go.Sy
attribute [local irreducible] vcall vloop vcallD retP
set_option maxRecDepth 100000
set_option linter.unusedVariables false
set_option linter.unusedSimpArgs false

theorem ref02_product (a b c d : Int) (ha : 1 ≤ a) (hb : 1 ≤ b) (hc : 1 ≤ c) (hd : 1 ≤ d) (ha' : a ≤ 1099511627776) (hb' : b ≤ 1099511627776) (hc' : c ≤ 1099511627776) (hd' : d ≤ 1099511627776) :
    Pure Tryz.prog 88 [.int .i64 a, .int .i64 b, .int .i64 c, .int .i64 d] (.tup [.int .i64 (orN (prE a b c d) (pA a b c d * pC a b c d)), .int .i64 (orN (prE a b c d) (pB a b c d * pD a b c d)), .bool (decide (prE a b c d = 0))]) := by
  obtain ⟨x1, x2, x3, x4⟩ := red_bd ha hb
  obtain ⟨y1, y2, y3, y4⟩ := red_bd hc hd
  have r1 := ref02_Reduce a b (by omega) (by omega)
  have r2 := ref02_Reduce c d (by omega) (by omega)
  have r3 := ref02_Reduce (redN a b) (redD c d) (by omega) (by omega)
  have r4 := ref02_Reduce (redN c d) (redD a b) (by omega) (by omega)
  obtain ⟨⟨a1, _⟩, ⟨k1, _⟩, ⟨m1, _⟩, ⟨o1, _⟩⟩ := p_bd ha hb hc hd
  rw [show redN (redN a b) (redD c d) = pA a b c d from by unfold pA; rfl, show redD (redN a b) (redD c d) = pD a b c d from by unfold pD; rfl] at r3
  rw [show redN (redN c d) (redD a b) = pC a b c d from by unfold pC; rfl, show redD (redN c d) (redD a b) = pB a b c d from by unfold pB; rfl] at r4
  have tb : ∀ x : Int, 1 ≤ x → IntKind.i64.wrap ((1099511627776 : Int).tdiv x) = (1099511627776 : Int).tdiv x := fun x hx => by
    have h1 := Int.tdiv_nonneg (a := 1099511627776) (b := x) (by omega) (by omega)
    have h2 := Int.tdiv_le_self (a := 1099511627776) x (by omega)
    rw [w64_in (by omega) (by omega)]
  have t1 := tb _ m1
  have t2 := tb _ o1
  have hP := prE_ok ha hb hc hd
  have hQ : prE a b c d = if (1099511627776 : Int).tdiv (pC a b c d) < pA a b c d ∨ (1099511627776 : Int).tdiv (pD a b c d) < pB a b c d then 4 else 0 := by unfold prE; rfl
  refine fc_of mixed T_ok Tryz.func88 rfl (by kernel_rfl) (by kernel_rfl) (by kernel_rfl) ?_
  by_cases hor : (1099511627776 : Int).tdiv (pC a b c d) < pA a b c d ∨ (1099511627776 : Int).tdiv (pD a b c d) < pB a b c d
  · rw [if_pos hor] at hQ
    rw [hQ]
    unfold orN
    rw [if_neg (by omega), if_neg (by omega), decide_eq_false (by omega)]
    repeat' ((conv => whnf); first | (refine vcall_pure (r1) rfl rfl rfl ?_) | (refine vcall_pure (r2) rfl rfl rfl ?_) | (refine vcall_pure (r3) rfl rfl rfl ?_) | (refine vcall_pure (r4) rfl rfl rfl ?_) | ((first | apply br_dec | apply br_ndec) <;> intro h <;> try (exfalso; (try dsimp only at h); omega)) | ((first | apply br_seq | apply br_nseq | apply br_not | apply br_intro) <;> intro h) | refine cond_a ?_)
    all_goals (conv => whnf)
    all_goals first | exact ret_pure rfl | (exfalso; omega)
  · rw [if_neg hor] at hQ
    obtain ⟨q1, q2, q3, q4⟩ := hP hQ
    have s1 : pA a b c d * pC a b c d = IntKind.i64.wrap (pA a b c d * pC a b c d) := by rw [w64_in (by omega) (by omega)]
    have s2 : pB a b c d * pD a b c d = IntKind.i64.wrap (pB a b c d * pD a b c d) := by rw [w64_in (by omega) (by omega)]
    rw [hQ]
    unfold orN
    rw [if_pos rfl, if_pos rfl, decide_eq_true rfl, s1, s2]
    repeat' ((conv => whnf); first | (refine vcall_pure (r1) rfl rfl rfl ?_) | (refine vcall_pure (r2) rfl rfl rfl ?_) | (refine vcall_pure (r3) rfl rfl rfl ?_) | (refine vcall_pure (r4) rfl rfl rfl ?_) | ((first | apply br_dec | apply br_ndec) <;> intro h <;> try (exfalso; (try dsimp only at h); omega)) | ((first | apply br_seq | apply br_nseq | apply br_not | apply br_intro) <;> intro h) | refine cond_a ?_)
    all_goals (conv => whnf)
    all_goals first | exact ret_pure rfl | (exfalso; omega)

theorem prE_dec {a b c d : Int} : prE a b c d = 0 ∨ prE a b c d = 4 := by rcases prE_or a b c d with h | h <;> simp [h]

theorem ref02_Cross (f t : ByteArray) (n d : Int) (f' t' : ByteArray) (n' d' : Int) (hf : f.size ≤ 9223372036854775807) (ht : t.size ≤ 9223372036854775807) (hf' : f'.size ≤ 9223372036854775807) (ht' : t'.size ≤ 9223372036854775807) :
    Pure Tryz.prog 63 [.agg [.str f, .str t, .int .i64 n, .int .i64 d], .agg [.str f', .str t', .int .i64 n', .int .i64 d']] (rT (crE f t n d f' t' n' d') f t' (pA n d n' d' * pC n d n' d') (pB n d n' d' * pD n d n' d')) := by
  have c1 := ref02_Check f t n d hf ht
  have c2 := ref02_Check f' t' n' d' hf' ht'
  refine fc_of mixed T_ok Tryz.func63 rfl (by kernel_rfl) (by kernel_rfl) (by kernel_rfl) ?_
  by_cases e1 : rchk f t n d = 0
  · rw [e1] at c1
    by_cases e2 : rchk f' t' n' d' = 0
    · rw [e2] at c2
      by_cases e3 : t ≠ f' ∨ f = t'
      · have he : crE f t n d f' t' n' d' = 11 := by unfold crE; rw [if_neg (by omega), if_neg (by omega), if_pos e3]
        rw [he, rT_err (by omega)]
        repeat' ((conv => whnf); first | (refine vcall_pure (c1) rfl rfl rfl ?_) | (refine vcall_pure (c2) rfl rfl rfl ?_) | ((first | apply br_dec | apply br_ndec) <;> intro h <;> try (exfalso; (try dsimp only at h); omega)) | ((first | apply br_seq | apply br_nseq | apply br_not | apply br_intro) <;> intro h) | refine cond_a ?_)
        all_goals (conv => whnf)
        all_goals first | exact ret_pure rfl | (exfalso; simp_all; done)
      · obtain ⟨_, _, _, b1, b2, b3, b4⟩ := rchk_ok e1
        obtain ⟨_, _, _, b1', b2', b3', b4'⟩ := rchk_ok e2
        have he : crE f t n d f' t' n' d' = prE n d n' d' := by unfold crE; rw [if_neg (by omega), if_neg (by omega), if_neg e3]
        have c3 := ref02_product n d n' d' b1 b3 b1' b3' b2 b4 b2' b4'
        rw [he]
        rcases prE_dec (a := n) (b := d) (c := n') (d := d') with hp | hp
        · rw [hp, rT_ok]
          rw [hp, decide_eq_true rfl] at c3
          unfold orN at c3
          rw [if_pos rfl, if_pos rfl] at c3
          repeat' ((conv => whnf); first | (refine vcall_pure (c1) rfl rfl rfl ?_) | (refine vcall_pure (c2) rfl rfl rfl ?_) | (refine vcall_pure (c3) rfl rfl rfl ?_) | (refine br_nseq (fun h => ?_) (fun h => ?_) <;> try (exfalso; exact e3 (.inl h))) | (refine br_seq (fun h => ?_) (fun h => ?_) <;> try (exfalso; exact e3 (.inr h))) | ((first | apply br_dec | apply br_ndec) <;> intro h <;> try (exfalso; (try dsimp only at h); omega)) | ((first | apply br_seq | apply br_nseq | apply br_not | apply br_intro) <;> intro h) | refine cond_a ?_)
          all_goals (conv => whnf)
          all_goals exact ret_pure rfl
        · rw [hp, rT_err (by omega)]
          rw [hp, decide_eq_false (by omega)] at c3
          repeat' ((conv => whnf); first | (refine vcall_pure (c1) rfl rfl rfl ?_) | (refine vcall_pure (c2) rfl rfl rfl ?_) | (refine vcall_pure (c3) rfl rfl rfl ?_) | (refine br_nseq (fun h => ?_) (fun h => ?_) <;> try (exfalso; exact e3 (.inl h))) | (refine br_seq (fun h => ?_) (fun h => ?_) <;> try (exfalso; exact e3 (.inr h))) | ((first | apply br_dec | apply br_ndec) <;> intro h <;> try (exfalso; (try dsimp only at h); omega)) | ((first | apply br_seq | apply br_nseq | apply br_not | apply br_intro) <;> intro h) | refine cond_a ?_)
          all_goals (conv => whnf)
          all_goals exact ret_pure rfl
    · have he : crE f t n d f' t' n' d' = rchk f' t' n' d' := by unfold crE; rw [if_neg (by omega), if_pos e2]
      rw [he, rT_err e2]
      repeat' ((conv => whnf); first | (refine vcall_pure (c1) rfl rfl rfl ?_) | (refine vcall_pure (c2) rfl rfl rfl ?_) | ((first | apply br_dec | apply br_ndec) <;> intro h <;> try (exfalso; (try dsimp only at h); omega)) | ((first | apply br_seq | apply br_nseq | apply br_not | apply br_intro) <;> intro h) | refine cond_a ?_)
      all_goals (conv => whnf)
      all_goals exact ret_pure rfl
  · have he : crE f t n d f' t' n' d' = rchk f t n d := by unfold crE; rw [if_pos e1]
    rw [he, rT_err e1]
    repeat' ((conv => whnf); first | (refine vcall_pure (c1) rfl rfl rfl ?_) | (refine vcall_pure (c2) rfl rfl rfl ?_) | ((first | apply br_dec | apply br_ndec) <;> intro h <;> try (exfalso; (try dsimp only at h); omega)) | ((first | apply br_seq | apply br_nseq | apply br_not | apply br_intro) <;> intro h) | refine cond_a ?_)
    all_goals (conv => whnf)
    all_goals exact ret_pure rfl

end Go.Proofs.YtkbidlijinclcaaGreatDoor

/- The law on rates that are found in a list. -/
namespace Go.Proofs.YtkbidlijinclcaaGreatDoor
open Go.RowKit Go.Sy
attribute [local irreducible] vcall vloop vcallD retP
set_option maxRecDepth 100000
set_option linter.unusedVariables false
set_option linter.unusedSimpArgs false

structure Rt where
  f : ByteArray
  t : ByteArray
  n : Int
  d : Int
def Rt.z : Rt := ⟨⟨#[]⟩, ⟨#[]⟩, 0, 0⟩
def Rt.sv (r : Rt) : SV := .agg [.str r.f, .str r.t, .int .i64 r.n, .int .i64 r.d]
/-- A list of rates, by columns. -/
structure RL where
  f : List ByteArray
  t : List ByteArray
  n : List Int
  d : List Int
  l : Nat
def RL.at (q : RL) (i : Nat) : Rt := ⟨q.f.getD i ⟨#[]⟩, q.t.getD i ⟨#[]⟩, q.n.getD i 0, q.d.getD i 0⟩
def RL.H (q : RL) : Heap := [(0, some (GB glT)), (1, some (.one true (.cols q.l [.sc (.strs q.f), .sc (.strs q.t), .sc (.ints .i64 q.n), .sc (.ints .i64 q.d)])))]

/-- A row that states the rate. -/
def RL.fits (q : RL) (f t : ByteArray) (i : Nat) : Prop := (q.at i).f = f ∧ (q.at i).t = t ∧ rchk (q.at i).f (q.at i).t (q.at i).n (q.at i).d = 0
instance (q : RL) (f t : ByteArray) (i : Nat) : Decidable (q.fits f t i) := by unfold RL.fits; infer_instance
/-- The first row of m, from row k on, that states the rate. -/
def stF (q : RL) (f t : ByteArray) : Nat → Nat → Option Rt
  | 0, _ => none
  | m + 1, k => if q.fits f t k then some (q.at k) else stF q f t m (k + 1)
def stO (q : RL) (f t : ByteArray) : Option Rt := stF q f t q.l 0
theorem stF_ok {q : RL} {f t : ByteArray} {r : Rt} : ∀ (m k : Nat), stF q f t m k = some r → r.f = f ∧ r.t = t ∧ rchk r.f r.t r.n r.d = 0
  | 0, k, h => by simp [stF] at h
  | m + 1, k, h => by
    simp only [stF] at h
    split at h
    · rename_i hf; cases h; exact hf
    · exact stF_ok m (k + 1) h
theorem stO_ok {q : RL} {f t : ByteArray} {r : Rt} (h : stO q f t = some r) : r.f = f ∧ r.t = t ∧ rchk r.f r.t r.n r.d = 0 := stF_ok _ _ h

theorem rate_stated (q : RL) (hl : q.l ≤ 1000) (f t : ByteArray) : FC Tryz.prog 2 100 [.sl 1 0 0 q.l, .str f, .str t] q.H (isOut ((stO q f t).getD Rt.z).sv [] 2) := by
  have ck := fun i => rate_Check (q.at i).f (q.at i).t (q.at i).n (q.at i).d
  refine fc_of mixed T_ok Tryz.func100 rfl (by kernel_rfl) (by kernel_rfl) (by kernel_rfl) ?_
  (conv => whnf)
  refine vloop_of (fun k : Nat => ⟨[(1, .str f), (2, .str t), (6, .ptr 2 0 0 0), (9, .sl 1 0 0 q.l), (10, .int .i64 q.l), (11, .int .i64 k)], (2, some (.one false (.cells [.str ⟨#[]⟩, .str ⟨#[]⟩, .int .i64 0, .int .i64 0]))) :: q.H, 3⟩) (fun k => k ≤ q.l ∧ stF q f t (q.l - k) k = stO q f t) (fun k => q.l - k) 0 [0, 1, 2] [] ⟨rfl, ⟨rfl, rfl, rfl, rfl, rfl, rfl, trivial⟩, ⟨rfl, gwk rfl, rfl, trivial⟩⟩ ⟨by omega, rfl⟩ ?_
  rintro k ⟨hk, hc⟩
  have step : k < q.l → stO q f t = if q.fits f t k then some (q.at k) else stF q f t (q.l - (k + 1)) (k + 1) := fun h => by
    rw [← hc, show q.l - k = (q.l - (k + 1)) + 1 from by omega, stF]
  have ckk := ck k
  repeat' ((conv => whnf); first | (refine vcall_glob (ckk) rfl rfl rfl rfl ?_) | ((first | apply br_dec | apply br_ndec) <;> intro h <;> try (exfalso; (try dsimp only at h); omega)) | ((first | apply br_seq | apply br_nseq | apply br_not | apply br_intro) <;> intro h) | refine cond_a ?_)
  all_goals (conv => whnf)
  · have hf : q.fits f t k := ⟨by assumption, by assumption, by assumption⟩
    rw [step (by omega), if_pos hf]
    exact ret_out (l := [0, 1]) rfl rfl trivial allRw_nil
  · have hf : ¬ q.fits f t k := fun hf => absurd hf.2.2 (by assumption)
    refine ⟨k + 1, [0, 1, 2], [], ⟨by omega, by rw [step (by omega), if_neg hf]⟩, by omega, ⟨rfl, ⟨rfl, rfl, rfl, rfl, rfl, congrArg (fun z => some (SV.int .i64 z)) (i64_succ (by omega)), trivial⟩, ⟨rfl, gwk rfl, rfl, trivial⟩⟩⟩
  · have hf : ¬ q.fits f t k := fun hf => absurd hf.2.1 (by assumption)
    refine ⟨k + 1, [0, 1, 2], [], ⟨by omega, by rw [step (by omega), if_neg hf]⟩, by omega, ⟨rfl, ⟨rfl, rfl, rfl, rfl, rfl, congrArg (fun z => some (SV.int .i64 z)) (i64_succ (by omega)), trivial⟩, ⟨rfl, gwk rfl, rfl, trivial⟩⟩⟩
  · have hf : ¬ q.fits f t k := fun hf => absurd hf.1 (by assumption)
    refine ⟨k + 1, [0, 1, 2], [], ⟨by omega, by rw [step (by omega), if_neg hf]⟩, by omega, ⟨rfl, ⟨rfl, rfl, rfl, rfl, rfl, congrArg (fun z => some (SV.int .i64 z)) (i64_succ (by omega)), trivial⟩, ⟨rfl, gwk rfl, rfl, trivial⟩⟩⟩
  · have e : k = q.l := by omega
    rw [e, Nat.sub_self, stF] at hc
    rw [← hc]
    exact ret_out (l := [0, 1]) rfl rfl trivial allRw_nil

theorem ref02_stated (q : RL) (hl : q.l ≤ 1000) (hz : ∀ i, (q.at i).f.size ≤ 9223372036854775807 ∧ (q.at i).t.size ≤ 9223372036854775807) (f t : ByteArray) : FC Tryz.prog 2 86 [.sl 1 0 0 q.l, .str f, .str t] q.H (isOut (.tup [((stO q f t).getD Rt.z).sv, .bool (stO q f t).isSome]) [] 2) := by
  have ck := fun i => ref02_Check (q.at i).f (q.at i).t (q.at i).n (q.at i).d (by have := hz i; omega) (by have := hz i; omega)
  refine fc_of mixed T_ok Tryz.func86 rfl (by kernel_rfl) (by kernel_rfl) (by kernel_rfl) ?_
  (conv => whnf)
  refine vloop_of (fun k : Nat => ⟨[(0, .sl 1 0 0 q.l), (1, .str f), (2, .str t), (6, .ptr 2 0 0 0), (8, .int .i64 k)], (2, some (.one false (.cells [.str ⟨#[]⟩, .str ⟨#[]⟩, .int .i64 0, .int .i64 0]))) :: q.H, 3⟩) (fun k => k ≤ q.l ∧ stF q f t (q.l - k) k = stO q f t) (fun k => q.l - k) 0 [0, 1, 2] [] ⟨rfl, ⟨rfl, rfl, rfl, rfl, rfl, trivial⟩, ⟨rfl, gwk rfl, rfl, trivial⟩⟩ ⟨by omega, rfl⟩ ?_
  rintro k ⟨hk, hc⟩
  have step : k < q.l → stO q f t = if q.fits f t k then some (q.at k) else stF q f t (q.l - (k + 1)) (k + 1) := fun h => by
    rw [← hc, show q.l - k = (q.l - (k + 1)) + 1 from by omega, stF]
  have ckk := ck k
  repeat' ((conv => whnf); first | (refine vcall_pure (ckk) rfl rfl rfl ?_) | ((first | apply br_dec | apply br_ndec) <;> intro h <;> try (exfalso; (try dsimp only at h); omega)) | ((first | apply br_seq | apply br_nseq | apply br_not | apply br_intro) <;> intro h) | refine cond_a ?_)
  all_goals (conv => whnf)
  · have hf : q.fits f t k := ⟨by assumption, by assumption, by assumption⟩
    rw [step (by omega), if_pos hf]
    exact ret_out (l := [0, 1]) rfl rfl trivial allRw_nil
  · have hf : ¬ q.fits f t k := fun hf => absurd hf.2.2 (by assumption)
    refine ⟨k + 1, [0, 1, 2], [], ⟨by omega, by rw [step (by omega), if_neg hf]⟩, by omega, ⟨rfl, ⟨rfl, rfl, rfl, rfl, congrArg (fun z => some (SV.int .i64 z)) (i64_succ (by omega)), trivial⟩, ⟨rfl, gwk rfl, rfl, trivial⟩⟩⟩
  · have hf : ¬ q.fits f t k := fun hf => absurd hf.2.1 (by assumption)
    refine ⟨k + 1, [0, 1, 2], [], ⟨by omega, by rw [step (by omega), if_neg hf]⟩, by omega, ⟨rfl, ⟨rfl, rfl, rfl, rfl, congrArg (fun z => some (SV.int .i64 z)) (i64_succ (by omega)), trivial⟩, ⟨rfl, gwk rfl, rfl, trivial⟩⟩⟩
  · have hf : ¬ q.fits f t k := fun hf => absurd hf.1 (by assumption)
    refine ⟨k + 1, [0, 1, 2], [], ⟨by omega, by rw [step (by omega), if_neg hf]⟩, by omega, ⟨rfl, ⟨rfl, rfl, rfl, rfl, congrArg (fun z => some (SV.int .i64 z)) (i64_succ (by omega)), trivial⟩, ⟨rfl, gwk rfl, rfl, trivial⟩⟩⟩
  · have e : k = q.l := by omega
    rw [e, Nat.sub_self, stF] at hc
    rw [← hc]
    exact ret_out (l := [0, 1]) rfl rfl trivial allRw_nil

def Rt.inv (r : Rt) : Rt := ⟨r.t, r.f, redN r.d r.n, redD r.d r.n⟩
/-- The direct rate. -/
def dirO (q : RL) (f t : ByteArray) : Option Rt := match stO q f t with | some r => some r | none => (match stO q t f with | some r => some r.inv | none => none)
theorem rchk_mk {f t : ByteArray} {n d : Int} (h1 : curB f = true) (h2 : curB t = true) (h3 : f ≠ t) (h4 : 1 ≤ n) (h5 : n ≤ 1099511627776) (h6 : 1 ≤ d) (h7 : d ≤ 1099511627776) : rchk f t n d = 0 := by
  unfold rchk
  rw [if_neg (by simp [h1, h2, h3]), if_neg (by omega)]
theorem rchk_inv {r : Rt} (h : rchk r.f r.t r.n r.d = 0) : rchk r.inv.f r.inv.t r.inv.n r.inv.d = 0 := by
  obtain ⟨h1, h2, h3, h4, h5, h6, h7⟩ := rchk_ok h
  obtain ⟨x1, x2, x3, x4⟩ := red_bd h6 h4
  exact rchk_mk h2 h1 (fun e => h3 e.symm) x1 (by have : r.inv.n = redN r.d r.n := rfl; omega) x3 (by have : r.inv.d = redD r.d r.n := rfl; omega)
theorem dirO_ok {q : RL} {f t : ByteArray} {r : Rt} (h : dirO q f t = some r) : r.f = f ∧ r.t = t ∧ rchk r.f r.t r.n r.d = 0 := by
  unfold dirO at h
  split at h
  · rename_i r' hr; cases h; exact stO_ok hr
  · split at h
    · rename_i r' hr
      cases h
      obtain ⟨a, b, c⟩ := stO_ok hr
      exact ⟨b, a, rchk_inv c⟩
    · cases h
attribute [irreducible] stO
theorem nz_of {r : Rt} (h : rchk r.f r.t r.n r.d = 0) : (seq r.f ⟨#[]⟩ && (seq r.t ⟨#[]⟩ && (decide (r.n = 0) && (decide (r.d = 0) && true)))) = false := by
  obtain ⟨_, _, _, h4, _⟩ := rchk_ok h
  rw [show decide (r.n = 0) = false from decide_eq_false (by omega)]
  simp
theorem rchk_z : rchk Rt.z.f Rt.z.t Rt.z.n Rt.z.d ≠ 0 := by
  intro h; obtain ⟨_, _, _, h4, _⟩ := rchk_ok h; simp [Rt.z] at h4

theorem rate_direct (q : RL) (hl : q.l ≤ 1000) (f t : ByteArray) : FC Tryz.prog 2 81 [.sl 1 0 0 q.l, .str f, .str t] q.H (isOut ((dirO q f t).getD Rt.z).sv [] 2) := by
  have s1 := rate_stated q hl f t
  have s2 := rate_stated q hl t f
  refine fc_of mixed T_ok Tryz.func81 rfl (by kernel_rfl) (by kernel_rfl) (by kernel_rfl) ?_
  cases h1 : stO q f t with
  | some r =>
    have nz := nz_of (stO_ok h1).2.2
    have hd : dirO q f t = some r := by unfold dirO; rw [h1]
    rw [h1] at s1
    rw [hd]
    repeat' ((conv => whnf); first | refine vcall_o (l := [0, 1]) (s1) ?_ | (refine br_not (fun h => ?_) (fun h => ?_) <;> try (exfalso; exact absurd (nz.symm.trans h) (by decide))) | ((first | apply br_dec | apply br_ndec) <;> intro h <;> try (exfalso; (try dsimp only at h); omega)) | ((first | apply br_seq | apply br_nseq | apply br_not | apply br_intro) <;> intro h) | refine cond_a ?_)
    all_goals (conv => whnf)
    all_goals exact ret_out (l := [0, 1]) rfl rfl trivial allRw_nil
  | none =>
    rw [h1] at s1
    cases h2 : stO q t f with
    | some r =>
      have ok := (stO_ok h2).2.2
      have c := rate_Inverse r.f r.t r.n r.d
      rw [ok, rT_ok] at c
      have hd : dirO q f t = some r.inv := by unfold dirO; rw [h1, h2]
      rw [h2] at s2
      rw [hd]
      repeat' ((conv => whnf); first | refine vcall_o (l := [0, 1]) (s1) ?_ | refine vcall_o (l := [0, 1]) (s2) ?_ | (refine vcall_glob (c) rfl rfl rfl rfl ?_) | ((first | apply br_dec | apply br_ndec) <;> intro h <;> try (exfalso; (try dsimp only at h); omega)) | ((first | apply br_seq | apply br_nseq | apply br_not | apply br_intro) <;> intro h) | refine cond_a ?_)
      all_goals (conv => whnf)
      all_goals exact ret_out (l := [0, 1]) rfl rfl trivial allRw_nil
    | none =>
      have c := rate_Inverse Rt.z.f Rt.z.t Rt.z.n Rt.z.d
      rw [rT_err rchk_z] at c
      have hd : dirO q f t = none := by unfold dirO; rw [h1, h2]
      have hz := rchk_z
      rw [h2] at s2
      rw [hd]
      generalize rchk Rt.z.f Rt.z.t Rt.z.n Rt.z.d = e at *
      repeat' ((conv => whnf); first | refine vcall_o (l := [0, 1]) (s1) ?_ | refine vcall_o (l := [0, 1]) (s2) ?_ | (refine vcall_glob (c) rfl rfl rfl rfl ?_) | ((first | apply br_dec | apply br_ndec) <;> intro h <;> try (exfalso; (try dsimp only at h); omega)) | ((first | apply br_seq | apply br_nseq | apply br_not | apply br_intro) <;> intro h) | refine cond_a ?_)
      all_goals (conv => whnf)
      all_goals exact ret_out (l := [0, 1]) rfl rfl trivial allRw_nil

theorem ref02_direct (q : RL) (hl : q.l ≤ 1000) (hz : ∀ i, (q.at i).f.size ≤ 9223372036854775807 ∧ (q.at i).t.size ≤ 9223372036854775807) (f t : ByteArray) : FC Tryz.prog 2 62 [.sl 1 0 0 q.l, .str f, .str t] q.H (isOut (.tup [((dirO q f t).getD Rt.z).sv, .bool (dirO q f t).isSome]) [] 2) := by
  have s1 := ref02_stated q hl hz f t
  have s2 := ref02_stated q hl hz t f
  refine fc_of mixed T_ok Tryz.func62 rfl (by kernel_rfl) (by kernel_rfl) (by kernel_rfl) ?_
  cases h1 : stO q f t with
  | some r =>
    have hd : dirO q f t = some r := by unfold dirO; rw [h1]
    rw [h1] at s1
    rw [hd]
    repeat' ((conv => whnf); first | refine vcall_o (l := [0, 1]) (s1) ?_ | ((first | apply br_dec | apply br_ndec) <;> intro h <;> try (exfalso; (try dsimp only at h); omega)) | ((first | apply br_seq | apply br_nseq | apply br_not | apply br_intro) <;> intro h) | refine cond_a ?_)
    all_goals (conv => whnf)
    all_goals exact ret_out (l := [0, 1]) rfl rfl trivial allRw_nil
  | none =>
    rw [h1] at s1
    cases h2 : stO q t f with
    | some r =>
      have ok := (stO_ok h2).2.2
      have k1 := curB_3 (rchk_ok ok).1
      have k2 := curB_3 (rchk_ok ok).2.1
      have c := ref02_Inverse r.f r.t r.n r.d (by omega) (by omega)
      rw [ok, rT_ok] at c
      have hd : dirO q f t = some r.inv := by unfold dirO; rw [h1, h2]
      rw [h2] at s2
      rw [hd]
      repeat' ((conv => whnf); first | refine vcall_o (l := [0, 1]) (s1) ?_ | refine vcall_o (l := [0, 1]) (s2) ?_ | (refine vcall_pure (c) rfl rfl rfl ?_) | ((first | apply br_dec | apply br_ndec) <;> intro h <;> try (exfalso; (try dsimp only at h); omega)) | ((first | apply br_seq | apply br_nseq | apply br_not | apply br_intro) <;> intro h) | refine cond_a ?_)
      all_goals (conv => whnf)
      all_goals exact ret_out (l := [0, 1]) rfl rfl trivial allRw_nil
    | none =>
      have hd : dirO q f t = none := by unfold dirO; rw [h1, h2]
      rw [h2] at s2
      rw [hd]
      repeat' ((conv => whnf); first | refine vcall_o (l := [0, 1]) (s1) ?_ | refine vcall_o (l := [0, 1]) (s2) ?_ | ((first | apply br_dec | apply br_ndec) <;> intro h <;> try (exfalso; (try dsimp only at h); omega)) | ((first | apply br_seq | apply br_nseq | apply br_not | apply br_intro) <;> intro h) | refine cond_a ?_)
      all_goals (conv => whnf)
      all_goals exact ret_out (l := [0, 1]) rfl rfl trivial allRw_nil
attribute [irreducible] dirO
/-- What is found. -/
def findT (q : RL) (f t p : ByteArray) : SV :=
  if f = t then .tup [Rt.z.sv, .int .i64 11] else
  match dirO q f t with
  | some r => .tup [r.sv, .int .i64 0]
  | none => match dirO q f p, dirO q p t with
    | some a, some b => rT (crE a.f a.t a.n a.d b.f b.t b.n b.d) a.f b.t (pA a.n a.d b.n b.d * pC a.n a.d b.n b.d) (pB a.n a.d b.n b.d * pD a.n a.d b.n b.d)
    | _, _ => .tup [Rt.z.sv, .int .i64 6]

theorem rate_Find (q : RL) (hl : q.l ≤ 1000) (f t p : ByteArray) : FC Tryz.prog 2 58 [.sl 1 0 0 q.l, .str f, .str t, .str p] q.H (isOut (findT q f t p) [] 2) := by
  have s1 := rate_direct q hl f t
  have s2 := rate_direct q hl f p
  have s3 := rate_direct q hl p t
  refine fc_of mixed T_ok Tryz.func58 rfl (by kernel_rfl) (by kernel_rfl) (by kernel_rfl) ?_
  by_cases hft : f = t
  · have hT : findT q f t p = .tup [Rt.z.sv, .int .i64 11] := by unfold findT; rw [if_pos hft]
    rw [hT]
    repeat' ((conv => whnf); first | (refine br_seq (fun h => ?_) (fun h => ?_) <;> try (exact absurd hft h)) | ((first | apply br_dec | apply br_ndec) <;> intro h <;> try (exfalso; (try dsimp only at h); omega)) | ((first | apply br_seq | apply br_nseq | apply br_not | apply br_intro) <;> intro h) | refine cond_a ?_)
    all_goals (conv => whnf)
    all_goals exact ret_out (l := [0, 1]) rfl rfl trivial allRw_nil
  · cases h1 : dirO q f t with
    | some r =>
      have hT : findT q f t p = .tup [r.sv, .int .i64 0] := by unfold findT; rw [if_neg hft, h1]
      have nz := nz_of (dirO_ok h1).2.2
      rw [h1] at s1
      rw [hT]
      repeat' ((conv => whnf); first | refine vcall_o (l := [0, 1]) (s1) ?_ | (refine br_seq (fun h => ?_) (fun h => ?_) <;> try (exact absurd h hft)) | (refine br_not (fun h => ?_) (fun h => ?_) <;> try (exfalso; exact absurd (nz.symm.trans h) (by decide))) | ((first | apply br_dec | apply br_ndec) <;> intro h <;> try (exfalso; (try dsimp only at h); omega)) | ((first | apply br_seq | apply br_nseq | apply br_not | apply br_intro) <;> intro h) | refine cond_a ?_)
      all_goals (conv => whnf)
      all_goals exact ret_out (l := [0, 1]) rfl rfl trivial allRw_nil
    | none =>
      rw [h1] at s1
      cases h2 : dirO q f p with
      | none =>
        have hT : findT q f t p = .tup [Rt.z.sv, .int .i64 6] := by unfold findT; rw [if_neg hft, h1, h2]
        rw [h2] at s2
        rw [hT]
        repeat' ((conv => whnf); first | refine vcall_o (l := [0, 1]) (s1) ?_ | refine vcall_o (l := [0, 1]) (s2) ?_ | refine vcall_o (l := [0, 1]) (s3) ?_ | refine vcallD_o (l := [0, 1]) (s2) ?_ | refine vcallD_o (l := [0, 1]) (s3) ?_ | (refine br_seq (fun h => ?_) (fun h => ?_) <;> try (exact absurd h hft)) | ((first | apply br_dec | apply br_ndec) <;> intro h <;> try (exfalso; (try dsimp only at h); omega)) | ((first | apply br_seq | apply br_nseq | apply br_not | apply br_intro) <;> intro h) | refine cond_a ?_)
        all_goals (conv => whnf)
        all_goals exact ret_out (l := [0, 1]) rfl rfl trivial allRw_nil
      | some a =>
        have nza := nz_of (dirO_ok h2).2.2
        rw [h2] at s2
        cases h3 : dirO q p t with
        | none =>
          have hT : findT q f t p = .tup [Rt.z.sv, .int .i64 6] := by unfold findT; rw [if_neg hft, h1, h2, h3]
          rw [h3] at s3
          rw [hT]
          repeat' ((conv => whnf); first | refine vcall_o (l := [0, 1]) (s1) ?_ | refine vcall_o (l := [0, 1]) (s2) ?_ | refine vcall_o (l := [0, 1]) (s3) ?_ | refine vcallD_o (l := [0, 1]) (s2) ?_ | refine vcallD_o (l := [0, 1]) (s3) ?_ | (refine br_seq (fun h => ?_) (fun h => ?_) <;> try (exact absurd h hft)) | (refine br_intro (fun h => ?_) (fun h => ?_) <;> try (exfalso; exact absurd (nza.symm.trans h) (by decide))) | ((first | apply br_dec | apply br_ndec) <;> intro h <;> try (exfalso; (try dsimp only at h); omega)) | ((first | apply br_seq | apply br_nseq | apply br_not | apply br_intro) <;> intro h) | refine cond_a ?_)
          all_goals (conv => whnf)
          all_goals exact ret_out (l := [0, 1]) rfl rfl trivial allRw_nil
        | some b =>
          have hT : findT q f t p = rT (crE a.f a.t a.n a.d b.f b.t b.n b.d) a.f b.t (pA a.n a.d b.n b.d * pC a.n a.d b.n b.d) (pB a.n a.d b.n b.d * pD a.n a.d b.n b.d) := by unfold findT; rw [if_neg hft, h1, h2, h3]
          have nzb := nz_of (dirO_ok h3).2.2
          have c := rate_Cross a.f a.t a.n a.d b.f b.t b.n b.d
          rw [h3] at s3
          rw [hT]
          repeat' ((conv => whnf); first | refine vcall_o (l := [0, 1]) (s1) ?_ | refine vcall_o (l := [0, 1]) (s2) ?_ | refine vcall_o (l := [0, 1]) (s3) ?_ | refine vcallD_o (l := [0, 1]) (s2) ?_ | refine vcallD_o (l := [0, 1]) (s3) ?_ | (refine vcall_glob (c) rfl rfl rfl rfl ?_) | (refine br_seq (fun h => ?_) (fun h => ?_) <;> try (exact absurd h hft)) | (refine br_intro (fun h => ?_) (fun h => ?_) <;> try (exfalso; first | exact absurd (nza.symm.trans h) (by decide) | exact absurd (nzb.symm.trans h) (by decide))) | ((first | apply br_dec | apply br_ndec) <;> intro h <;> try (exfalso; (try dsimp only at h); omega)) | ((first | apply br_seq | apply br_nseq | apply br_not | apply br_intro) <;> intro h) | refine cond_a ?_)
          all_goals (conv => whnf)
          all_goals exact ret_out (l := [0, 1]) rfl rfl trivial allRw_nil

theorem ref02_Find (q : RL) (hl : q.l ≤ 1000) (hz : ∀ i, (q.at i).f.size ≤ 9223372036854775807 ∧ (q.at i).t.size ≤ 9223372036854775807) (f t p : ByteArray) : FC Tryz.prog 2 42 [.sl 1 0 0 q.l, .str f, .str t, .str p] q.H (isOut (findT q f t p) [] 2) := by
  have s1 := ref02_direct q hl hz f t
  have s2 := ref02_direct q hl hz f p
  have s3 := ref02_direct q hl hz p t
  refine fc_of mixed T_ok Tryz.func42 rfl (by kernel_rfl) (by kernel_rfl) (by kernel_rfl) ?_
  by_cases hft : f = t
  · have hT : findT q f t p = .tup [Rt.z.sv, .int .i64 11] := by unfold findT; rw [if_pos hft]
    rw [hT]
    repeat' ((conv => whnf); first | (refine br_seq (fun h => ?_) (fun h => ?_) <;> try (exact absurd hft h)) | ((first | apply br_dec | apply br_ndec) <;> intro h <;> try (exfalso; (try dsimp only at h); omega)) | ((first | apply br_seq | apply br_nseq | apply br_not | apply br_intro) <;> intro h) | refine cond_a ?_)
    all_goals (conv => whnf)
    all_goals exact ret_out (l := [0, 1]) rfl rfl trivial allRw_nil
  · cases h1 : dirO q f t with
    | some r =>
      have hT : findT q f t p = .tup [r.sv, .int .i64 0] := by unfold findT; rw [if_neg hft, h1]
      rw [h1] at s1
      rw [hT]
      repeat' ((conv => whnf); first | refine vcall_o (l := [0, 1]) (s1) ?_ | (refine br_seq (fun h => ?_) (fun h => ?_) <;> try (exact absurd h hft)) | ((first | apply br_dec | apply br_ndec) <;> intro h <;> try (exfalso; (try dsimp only at h); omega)) | ((first | apply br_seq | apply br_nseq | apply br_not | apply br_intro) <;> intro h) | refine cond_a ?_)
      all_goals (conv => whnf)
      all_goals exact ret_out (l := [0, 1]) rfl rfl trivial allRw_nil
    | none =>
      rw [h1] at s1
      cases h2 : dirO q f p with
      | none =>
        have hT : findT q f t p = .tup [Rt.z.sv, .int .i64 6] := by unfold findT; rw [if_neg hft, h1, h2]
        rw [h2] at s2
        rw [hT]
        repeat' ((conv => whnf); first | refine vcall_o (l := [0, 1]) (s1) ?_ | refine vcall_o (l := [0, 1]) (s2) ?_ | refine vcall_o (l := [0, 1]) (s3) ?_ | (refine br_seq (fun h => ?_) (fun h => ?_) <;> try (exact absurd h hft)) | ((first | apply br_dec | apply br_ndec) <;> intro h <;> try (exfalso; (try dsimp only at h); omega)) | ((first | apply br_seq | apply br_nseq | apply br_not | apply br_intro) <;> intro h) | refine cond_a ?_)
        all_goals (conv => whnf)
        all_goals exact ret_out (l := [0, 1]) rfl rfl trivial allRw_nil
      | some a =>
        rw [h2] at s2
        cases h3 : dirO q p t with
        | none =>
          have hT : findT q f t p = .tup [Rt.z.sv, .int .i64 6] := by unfold findT; rw [if_neg hft, h1, h2, h3]
          rw [h3] at s3
          rw [hT]
          repeat' ((conv => whnf); first | refine vcall_o (l := [0, 1]) (s1) ?_ | refine vcall_o (l := [0, 1]) (s2) ?_ | refine vcall_o (l := [0, 1]) (s3) ?_ | (refine br_seq (fun h => ?_) (fun h => ?_) <;> try (exact absurd h hft)) | ((first | apply br_dec | apply br_ndec) <;> intro h <;> try (exfalso; (try dsimp only at h); omega)) | ((first | apply br_seq | apply br_nseq | apply br_not | apply br_intro) <;> intro h) | refine cond_a ?_)
          all_goals (conv => whnf)
          all_goals exact ret_out (l := [0, 1]) rfl rfl trivial allRw_nil
        | some b =>
          have hT : findT q f t p = rT (crE a.f a.t a.n a.d b.f b.t b.n b.d) a.f b.t (pA a.n a.d b.n b.d * pC a.n a.d b.n b.d) (pB a.n a.d b.n b.d * pD a.n a.d b.n b.d) := by unfold findT; rw [if_neg hft, h1, h2, h3]
          have oka := rchk_ok (dirO_ok h2).2.2
          have okb := rchk_ok (dirO_ok h3).2.2
          have k1 := curB_3 oka.1
          have k2 := curB_3 oka.2.1
          have k3 := curB_3 okb.1
          have k4 := curB_3 okb.2.1
          have c := ref02_Cross a.f a.t a.n a.d b.f b.t b.n b.d (by omega) (by omega) (by omega) (by omega)
          rw [h3] at s3
          rw [hT]
          repeat' ((conv => whnf); first | refine vcall_o (l := [0, 1]) (s1) ?_ | refine vcall_o (l := [0, 1]) (s2) ?_ | refine vcall_o (l := [0, 1]) (s3) ?_ | (refine vcall_pure (c) rfl rfl rfl ?_) | (refine br_seq (fun h => ?_) (fun h => ?_) <;> try (exact absurd h hft)) | ((first | apply br_dec | apply br_ndec) <;> intro h <;> try (exfalso; (try dsimp only at h); omega)) | ((first | apply br_seq | apply br_nseq | apply br_not | apply br_intro) <;> intro h) | refine cond_a ?_)
          all_goals (conv => whnf)
          all_goals exact ret_out (l := [0, 1]) rfl rfl trivial allRw_nil
end Go.Proofs.YtkbidlijinclcaaGreatDoor

/- Contract: the positions of a currency in another one. -/
namespace Go.Proofs.YtkbidlijinclcaaGreatDoor
open Go.RowKit Go.Sy
attribute [local irreducible] vcall vloop vcallD retP
set_option maxRecDepth 100000
set_option linter.unusedVariables false
set_option linter.unusedSimpArgs false

/-- The error and the rate of Find. -/
def fiE (q : RL) (f t p : ByteArray) : Int :=
  if f = t then 11 else
  match dirO q f t with
  | some _ => 0
  | none => match dirO q f p, dirO q p t with
    | some a, some b => crE a.f a.t a.n a.d b.f b.t b.n b.d
    | _, _ => 6
def fiR (q : RL) (f t p : ByteArray) : Rt :=
  match dirO q f t with
  | some r => r
  | none => match dirO q f p, dirO q p t with
    | some a, some b => ⟨a.f, b.t, pA a.n a.d b.n b.d * pC a.n a.d b.n b.d, pB a.n a.d b.n b.d * pD a.n a.d b.n b.d⟩
    | _, _ => Rt.z
theorem findT_ok {q : RL} {f t p : ByteArray} (h : fiE q f t p = 0) : findT q f t p = .tup [(fiR q f t p).sv, .int .i64 0] := by
  unfold fiE at h
  unfold findT fiR
  by_cases e : f = t
  · rw [if_pos e] at h; cases h
  · rw [if_neg e] at h ⊢
    cases h1 : dirO q f t with
    | some r => rfl
    | none =>
      rw [h1] at h
      cases h2 : dirO q f p with
      | none => rw [h2] at h; cases h
      | some a =>
        cases h3 : dirO q p t with
        | none => rw [h2, h3] at h; cases h
        | some b =>
          rw [h2, h3] at h
          dsimp only at h ⊢
          rw [h, rT_ok]; rfl
theorem findT_err {q : RL} {f t p : ByteArray} (h : fiE q f t p ≠ 0) : findT q f t p = .tup [Rt.z.sv, .int .i64 (fiE q f t p)] := by
  unfold fiE at h ⊢
  unfold findT
  by_cases e : f = t
  · rw [if_pos e, if_pos e]
  · rw [if_neg e] at h ⊢
    rw [if_neg e]
    cases h1 : dirO q f t with
    | some r => rw [h1] at h; exact absurd rfl h
    | none =>
      rw [h1] at h
      cases h2 : dirO q f p with
      | none => rfl
      | some a =>
        cases h3 : dirO q p t with
        | none => rfl
        | some b =>
          rw [h2, h3] at h
          dsimp only at h ⊢
          rw [rT_err h]; rfl
theorem fiR_ok {q : RL} {f t p : ByteArray} (h : fiE q f t p = 0) : 0 ≤ (fiR q f t p).n ∧ (fiR q f t p).n ≤ 1099511627776 ∧ (fiR q f t p).f = f ∧ (fiR q f t p).t = t := by
  unfold fiE at h
  unfold fiR
  by_cases e : f = t
  · rw [if_pos e] at h; cases h
  · rw [if_neg e] at h
    cases h1 : dirO q f t with
    | some r =>
      have := dirO_ok h1
      have h2 := this.2.2
      unfold rchk at h2
      refine ⟨?_, ?_, this.1, this.2.1⟩ <;> (dsimp only; split at h2 <;> first | omega | (split at h2 <;> omega))
    | none =>
      rw [h1] at h
      cases h2 : dirO q f p with
      | none => rw [h2] at h; cases h
      | some a =>
        cases h3 : dirO q p t with
        | none => rw [h2, h3] at h; cases h
        | some b =>
          rw [h2, h3] at h
          dsimp only at h ⊢
          have ha := dirO_ok h2
          have hb := dirO_ok h3
          have ka := ha.2.2
          have kb := hb.2.2
          unfold crE at h
          rw [if_neg (by rw [ka]; simp), if_neg (by rw [kb]; simp)] at h
          split at h
          · cases h
          · have hp : 1 ≤ a.n ∧ 1 ≤ a.d := by
              unfold rchk at ka
              split at ka
              · cases ka
              · split at ka
                · cases ka
                · omega
            have hq : 1 ≤ b.n ∧ 1 ≤ b.d := by
              unfold rchk at kb
              split at kb
              · cases kb
              · split at kb
                · cases kb
                · omega
            have := prE_ok hp.1 hp.2 hq.1 hq.2 h
            exact ⟨this.2.1, this.1, ha.1, hb.2.1⟩
/-- The sum of the first positions of creditors. -/
def totK (r : List Int) : Nat → Int
  | 0 => 0
  | k + 1 => if 0 < r.getD k 0 then totK r k + r.getD k 0 else totK r k
theorem tot_bd {r : List Int} (hr : ∀ j, r.getD j 0 ≤ 4503599627370496) : ∀ k, 0 ≤ totK r k ∧ totK r k ≤ 4503599627370496 * (k : Int)
  | 0 => by simp [totK]
  | k + 1 => by
    have ih := tot_bd hr k
    have := hr k
    simp only [totK]
    split <;> omega
abbrev cwA (q : RL) (r : List Int) (f t p : ByteArray) : Nat := (sclA (totK r 16) (fiR q f t p).n (fiR q f t p).d 4).toNat
abbrev cwC (q : RL) (r : List Int) (f t p : ByteArray) : Int := cvE (totK r 16) f (fiR q f t p).f (fiR q f t p).t (fiR q f t p).n (fiR q f t p).d 4
def cwE (q : RL) (r : List Int) (f t p : ByteArray) : Int :=
  if fiE q f t p ≠ 0 then fiE q f t p
  else if cwC q r f t p ≠ 0 then cwC q r f t p
  else if dvE (cwA q r f t p) t r 1 ≠ 0 then dvE (cwA q r f t p) t r 1
  else dvE (cwA q r f t p) t r (-1)
def cwR (q : RL) (r : List Int) (f t p : ByteArray) : List Int := dvR (dvR z16 (cwA q r f t p) r 1) (cwA q r f t p) r (-1)
def cwT (q : RL) (r : List Int) (f t p : ByteArray) : SV := .tup [.arr 16 [.ints .i64 (if cwE q r f t p = 0 then cwR q r f t p else z16)], .int .i64 (cwE q r f t p)]
theorem cwT_err {q : RL} {r : List Int} {f t p : ByteArray} {e : Int} (h : cwE q r f t p = e) (he : e ≠ 0) : cwT q r f t p = .tup [.arr 16 [.ints .i64 z16], .int .i64 e] := by
  unfold cwT; rw [h, if_neg he]
theorem cwT_ok {q : RL} {r : List Int} {f t p : ByteArray} (h : cwE q r f t p = 0) : cwT q r f t p = .tup [.arr 16 [.ints .i64 (cwR q r f t p)], .int .i64 0] := by
  unfold cwT; rw [h, if_pos rfl]
theorem dvR_len (row : List Int) (A : Nat) (r : List Int) (s : Int) : (dvR row A r s).length = row.length := dvK_len _ _ _ _ _
theorem sclA_nn {a n d mode : Int} (ha : 0 ≤ a) (hn : 0 ≤ n) : 0 ≤ sclA a n d mode := by
  unfold sclA
  rw [decide_eq_false (by omega), decide_eq_false (by omega), if_pos rfl]
  exact Int.natCast_nonneg _
theorem cvE_bd {a : Int} {c f t : ByteArray} {n d mode : Int} (h : cvE a c f t n d mode = 0) : sclE a c n d mode = 0 := by
  unfold cvE at h
  split at h
  · contradiction
  · split at h
    · contradiction
    · split at h
      · cases h
      · exact h
theorem sclE_le {a : Int} {c : ByteArray} {n d mode : Int} (ha : 0 ≤ a) (hn : 0 ≤ n) (h : sclE a c n d mode = 0) : sclA a n d mode ≤ 4503599627370496 := by
  unfold sclE at h
  unfold sclA
  rw [decide_eq_false (by omega), decide_eq_false (by omega), if_pos rfl]
  split at h
  · contradiction
  · split at h
    · cases h
    · split at h
      · cases h
      · omega
def cwK (A : Nat) (r : List Int) : Nat → List Int
  | 0 => z16
  | 1 => dvR z16 A r 1
  | _ => dvR (dvR z16 A r 1) A r (-1)
theorem pos_convertRow (q : RL) (hl : q.l ≤ 1000) (r : List Int) (f t p : ByteArray) (hr : ∀ j, -4503599627370496 ≤ r.getD j 0 ∧ r.getD j 0 ≤ 4503599627370496) :
    FC Tryz.prog 2 37 [.arr 16 [.ints .i64 r], .sl 1 0 0 q.l, .str f, .str t, .str p] q.H (isOut (cwT q r f t p) [] 2) := by
  have c1 := rate_Find q hl f t p
  have htb := tot_bd (fun j => (hr j).2)
  refine fc_of mixed T_ok Tryz.func37 rfl (by kernel_rfl) (by kernel_rfl) (by kernel_rfl) ?_
  repeat' ((conv => whnf); first | ((first | apply br_dec | apply br_ndec) <;> intro h <;> try (exfalso; (try dsimp only at h); omega)) | ((first | apply br_seq | apply br_nseq | apply br_not | apply br_intro) <;> intro h) | refine cond_a ?_)
  all_goals (conv => whnf)
  refine vloop_lp (fun k : Nat => ⟨[(1, .sl 1 0 0 q.l), (2, .str f), (3, .str t), (4, .str p), (5, .ptr 2 0 0 0), (10, .ptr 3 0 0 0), (12, .ptr 4 0 0 0), (24, .arr 16 [.ints .i64 r]), (25, .int .i64 k)], (2, some (.one false (.cols 16 [.sc (.ints .i64 r)]))) :: (3, some (.one false (.cols 16 [.sc (.ints .i64 z16)]))) :: (4, some (.one false (.cells [.int .i64 (totK r k), .str f]))) :: q.H, 5⟩) (fun k => k ≤ 16) (fun k => 16 - k) 0 [0, 1, 2, 3, 4] [] ⟨rfl, ⟨rfl, rfl, rfl, rfl, rfl, rfl, rfl, rfl, rfl, trivial⟩, ⟨rfl, rfl, rfl, gwk rfl, rfl, trivial⟩⟩ (Nat.zero_le _) ?_
  intro k hk
  have hb := htb k
  by_cases hk2 : k < 16
  · have hrk := hr k
    by_cases g : 0 < r.getD k 0
    · have e1 : IntKind.i64.wrap (totK r k + r.getD k 0) = totK r (k + 1) := by simp only [totK]; rw [if_pos g]; exact w64_in (by omega) (by omega)
      repeat' ((conv => whnf); first | ((first | apply br_dec | apply br_ndec) <;> intro h <;> try (exfalso; (try dsimp only at h); omega)) | ((first | apply br_seq | apply br_nseq | apply br_not | apply br_intro) <;> intro h) | refine cond_a ?_)
      all_goals (conv => whnf)
      all_goals (try simp only [toNat0, Int.toNat_natCast, Nat.add_zero, e1] at *)
      all_goals first
        | exact ⟨k + 1, [0, 1, 2, 3, 4], [], hk2, (show 16 - (k + 1) < 16 - k by omega), ⟨rfl, ⟨rfl, rfl, rfl, rfl, rfl, rfl, rfl, rfl, congrArg (fun z => some (SV.int .i64 z)) (i64_succ (by omega)), trivial⟩, ⟨rfl, rfl, rfl, gwk rfl, rfl, trivial⟩⟩⟩
        | (exfalso; omega)
        | trace_state
    · have e1 : totK r (k + 1) = totK r k := by simp only [totK]; rw [if_neg g]
      have b1 : (some (HB.one false (.cells [.int .i64 (totK r k), .str f])) : Option HB) = some (.one false (.cells [.int .i64 (totK r (k + 1)), .str f])) := by rw [e1]
      repeat' ((conv => whnf); first | ((first | apply br_dec | apply br_ndec) <;> intro h <;> try (exfalso; (try dsimp only at h); omega)) | ((first | apply br_seq | apply br_nseq | apply br_not | apply br_intro) <;> intro h) | refine cond_a ?_)
      all_goals (conv => whnf)
      all_goals (try simp only [toNat0, Int.toNat_natCast, Nat.add_zero] at *)
      all_goals first
        | exact ⟨k + 1, [0, 1, 2, 3, 4], [], hk2, (show 16 - (k + 1) < 16 - k by omega), ⟨rfl, ⟨rfl, rfl, rfl, rfl, rfl, rfl, rfl, rfl, congrArg (fun z => some (SV.int .i64 z)) (i64_succ (by omega)), trivial⟩, ⟨rfl, rfl, b1, gwk rfl, rfl, trivial⟩⟩⟩
        | (exfalso; omega)
        | trace_state
  have ek : k = 16 := by omega
  subst ek
  by_cases h1 : fiE q f t p = 0
  case neg =>
    rw [findT_err h1] at c1
    rw [cwT_err (e := fiE q f t p) (by unfold cwE; rw [if_pos h1]) h1]
    repeat' ((conv => whnf); first | refine vcall_o (l := [0, 1]) (c1) ?_ | ((first | apply br_dec | apply br_ndec) <;> intro h <;> try (exfalso; (try dsimp only at h); omega)) | ((first | apply br_seq | apply br_nseq | apply br_not | apply br_intro) <;> intro h) | refine cond_a ?_)
    all_goals (conv => whnf)
    all_goals first
      | exact ret_out (l := [0, 1]) rfl rfl trivial allRw_nil
      | (exfalso; omega)
      | trace_state
  have hR := fiR_ok h1
  rw [findT_ok h1] at c1
  have c2 := rate_Convert (totK r 16) f (fiR q f t p).f (fiR q f t p).t (fiR q f t p).n (fiR q f t p).d 4 (by omega) (by omega)
  have e2 : cwE q r f t p = if cwC q r f t p ≠ 0 then cwC q r f t p else if dvE (cwA q r f t p) t r 1 ≠ 0 then dvE (cwA q r f t p) t r 1 else dvE (cwA q r f t p) t r (-1) := by unfold cwE; rw [if_neg (by simpa using h1)]
  by_cases h2 : cwC q r f t p = 0
  case neg =>
    rw [cvT_err (e := cwC q r f t p) rfl h2] at c2
    rw [cwT_err (e := cwC q r f t p) (by rw [e2, if_pos h2]) h2]
    repeat' ((conv => whnf); first | refine vcall_o (l := [0, 1]) (c1) ?_ | (refine vcall_glob (c2) rfl rfl rfl rfl ?_) | ((first | apply br_dec | apply br_ndec) <;> intro h <;> try (exfalso; (try dsimp only at h); omega)) | ((first | apply br_seq | apply br_nseq | apply br_not | apply br_intro) <;> intro h) | refine cond_a ?_)
    all_goals (conv => whnf)
    all_goals first
      | exact ret_out (l := [0, 1]) rfl rfl trivial allRw_nil
      | (exfalso; omega)
      | trace_state
  rw [if_neg (by simpa using h2)] at e2
  have hA := sclA_nn (d := (fiR q f t p).d) (mode := 4) hb.1 hR.1
  have eA : sclA (totK r 16) (fiR q f t p).n (fiR q f t p).d 4 = ((cwA q r f t p : Nat) : Int) := (Int.toNat_of_nonneg hA).symm
  have eT : cvT (totK r 16) f (fiR q f t p).f (fiR q f t p).t (fiR q f t p).n (fiR q f t p).d 4 = .tup [.agg [.int .i64 ((cwA q r f t p : Nat) : Int), .str t], .int .i64 0] := by rw [cvT_ok h2, eA, hR.2.2.2]
  rw [eT] at c2
  have hA2 := sclE_le (d := (fiR q f t p).d) (mode := 4) hb.1 hR.1 (cvE_bd h2)
  have hA3 : cwA q r f t p ≤ 9223372036854775807 := by omega
  have eR : cwR q r f t p = dvR (dvR z16 (cwA q r f t p) r 1) (cwA q r f t p) r (-1) := rfl
  have hcR : cwE q r f t p = 0 → cwT q r f t p = .tup [.arr 16 [.ints .i64 (dvR (dvR z16 (cwA q r f t p) r 1) (cwA q r f t p) r (-1))], .int .i64 0] := fun h => cwT_ok h
  have hcE := fun (e : Int) => cwT_err (q := q) (r := r) (f := f) (t := t) (p := p) (e := e)
  generalize cwA q r f t p = A at *
  clear eA hA hA2 h2 h1 eR eT
  generalize cwT q r f t p = X at *
  generalize cwE q r f t p = E at *
  repeat' ((conv => whnf); first | refine vcall_o (l := [0, 1]) (c1) ?_ | (refine vcall_glob (c2) rfl rfl rfl rfl ?_) | ((first | apply br_dec | apply br_ndec) <;> intro h <;> try (exfalso; (try dsimp only at h); omega)) | ((first | apply br_seq | apply br_nseq | apply br_not | apply br_intro) <;> intro h) | refine cond_a ?_)
  all_goals (conv => whnf)
  all_goals first
    | (exfalso; omega)
    | skip
  refine vloop_lp (fun k : Nat => ⟨[(5, .ptr 2 0 0 0), (10, .ptr 3 0 0 0), (17, .ptr 4 0 0 0), (18, .ptr 5 0 0 0), (58, .arr 2 [.ints .i64 [1, -1]]), (59, .int .i64 k)], (2, some (.one false (.cols 16 [.sc (.ints .i64 r)]))) :: (3, some (.one false (.cols 16 [.sc (.ints .i64 z16)]))) :: (4, some (.one false (.cells [.int .i64 A, .str t]))) :: (5, some (.one false (.cols 16 [.sc (.ints .i64 (cwK A r k))]))) :: q.H, 6⟩) (fun k => k ≤ 2 ∧ (1 ≤ k → dvE A t r 1 = 0) ∧ (2 ≤ k → dvE A t r (-1) = 0)) (fun k => 2 - k) 0 [0, 1, 2, 3, 6, 7] [] ⟨rfl, ⟨rfl, rfl, rfl, rfl, rfl, rfl, trivial⟩, ⟨rfl, rfl, rfl, rfl, gwk rfl, rfl, trivial⟩⟩ ⟨Nat.zero_le _, fun h => absurd h (by decide), fun h => absurd h (by decide)⟩ ?_
  rintro k ⟨hk, i1, i2⟩
  match k, hk, i1, i2 with
  | 0, _, _, _ =>
    have cd := pos_divide z16 A t r 1 hA3 (by decide) (.inl rfl) hr
    unfold dvO at cd
    by_cases g : dvE A t r 1 = 0
    · rw [if_pos g, g] at cd
      repeat' ((conv => whnf); first | refine vcall_o (l := [0, 5]) (cd) ?_ | ((first | apply br_dec | apply br_ndec) <;> intro h <;> try (exfalso; (try dsimp only at h); omega)) | ((first | apply br_seq | apply br_nseq | apply br_not | apply br_intro) <;> intro h) | refine cond_a ?_)
      all_goals (conv => whnf)
      all_goals first
        | exact ⟨1, [0, 1, 2, 3, 4, 5], [], ⟨by decide, fun _ => g, fun h => absurd h (by decide)⟩, by decide, ⟨rfl, ⟨rfl, rfl, rfl, rfl, rfl, rfl, trivial⟩, ⟨rfl, rfl, rfl, rfl, gwk rfl, rfl, trivial⟩⟩⟩
        | (exfalso; omega)
        | trace_state
    · rw [if_neg g] at cd
      rw [if_pos g] at e2
      rw [hcE _ e2 g]
      repeat' ((conv => whnf); first | refine vcall_o (l := [0, 5]) (cd) ?_ | ((first | apply br_dec | apply br_ndec) <;> intro h <;> try (exfalso; (try dsimp only at h); omega)) | ((first | apply br_seq | apply br_nseq | apply br_not | apply br_intro) <;> intro h) | refine cond_a ?_)
      all_goals (conv => whnf)
      all_goals first
        | exact ret_out (l := [0, 1]) rfl rfl trivial allRw_nil
        | (exfalso; omega)
        | trace_state
  | 1, _, i1, _ =>
    have g1 := i1 (by decide)
    rw [if_neg (by simpa using g1)] at e2
    have cd := pos_divide (dvR z16 A r 1) A t r (-1) hA3 (by rw [dvR_len]; rfl) (.inr rfl) hr
    unfold dvO at cd
    by_cases g : dvE A t r (-1) = 0
    · rw [if_pos g, g] at cd
      repeat' ((conv => whnf); first | refine vcall_o (l := [0, 5]) (cd) ?_ | ((first | apply br_dec | apply br_ndec) <;> intro h <;> try (exfalso; (try dsimp only at h); omega)) | ((first | apply br_seq | apply br_nseq | apply br_not | apply br_intro) <;> intro h) | refine cond_a ?_)
      all_goals (conv => whnf)
      all_goals first
        | exact ⟨2, [0, 1, 2, 3, 4, 5], [], ⟨by decide, fun _ => g1, fun _ => g⟩, by decide, ⟨rfl, ⟨rfl, rfl, rfl, rfl, rfl, rfl, trivial⟩, ⟨rfl, rfl, rfl, rfl, gwk rfl, rfl, trivial⟩⟩⟩
        | (exfalso; omega)
        | trace_state
    · rw [if_neg g] at cd
      rw [hcE _ e2 g]
      repeat' ((conv => whnf); first | refine vcall_o (l := [0, 5]) (cd) ?_ | ((first | apply br_dec | apply br_ndec) <;> intro h <;> try (exfalso; (try dsimp only at h); omega)) | ((first | apply br_seq | apply br_nseq | apply br_not | apply br_intro) <;> intro h) | refine cond_a ?_)
      all_goals (conv => whnf)
      all_goals first
        | exact ret_out (l := [0, 1]) rfl rfl trivial allRw_nil
        | (exfalso; omega)
        | trace_state
  | 2, _, i1, i2 =>
    rw [if_neg (by simpa using i1 (by decide)), i2 (by decide)] at e2
    rw [hcR e2]
    repeat' ((conv => whnf); first | ((first | apply br_dec | apply br_ndec) <;> intro h <;> try (exfalso; (try dsimp only at h); omega)) | ((first | apply br_seq | apply br_nseq | apply br_not | apply br_intro) <;> intro h) | refine cond_a ?_)
    all_goals (conv => whnf)
    all_goals first
      | exact ret_out (l := [0, 1]) rfl rfl trivial allRw_nil
      | (exfalso; omega)
      | trace_state
end Go.Proofs.YtkbidlijinclcaaGreatDoor

/- Contracts: sums of 128 bits in an array. -/
namespace Go.Proofs.YtkbidlijinclcaaGreatDoor
open Go.RowKit Go.Sy
attribute [local irreducible] vcall vloop vcallD retP
set_option maxRecDepth 100000
set_option linter.unusedVariables false
set_option linter.unusedSimpArgs false

def exA (SS : List Int) : Blk := .cols 16 [.sc (.ints .i64 (SS.map exH)), .sc (.ints .u64 (SS.map exL))]
theorem exA_at (SS : List Int) (i : Nat) (S : Int) (h : SS.getD i 0 = S) : (SS.map exH).getD i 0 = exH S ∧ (SS.map exL).getD i 0 = exL S := by
  subst h
  rw [List.getD, List.getD, List.getD, List.getElem?_map, List.getElem?_map]
  cases SS[i]? with
  | none => exact ⟨rfl, rfl⟩
  | some x => exact ⟨rfl, rfl⟩
theorem ex_addA (SS : List Int) (i : Nat) (hi : i < 16) (S n : Int) (hSS : SS.getD i 0 = S) (hS : okS S) (h1 : -9223372036854775808 ≤ n) (h2 : n ≤ 9223372036854775807) : FC Tryz.prog 2 38 [.ptr 1 0 i 0, .int .i64 n] [(1, some (.one false (exA SS)))] (isOut (.tup []) [(1, some (.one false (exA (SS.set i (S + n)))))] 2) := by
  have hu := u64_of h1 h2
  have hs := ishr63 n h1 h2
  obtain ⟨e1, e2, e3⟩ := ex_eq S
  have hb := exH_bd hS
  obtain ⟨x, hx⟩ := Int.eq_ofNat_of_zero_le e2
  obtain ⟨y, hy⟩ : ∃ y : Nat, IntKind.u64.wrap n = (y : Int) := Int.eq_ofNat_of_zero_le (by rw [hu]; split <;> omega)
  have c1 := bits_Add64 x y
  have hy2 : (y : Int) = if n < 0 then n + 18446744073709551616 else n := by rw [← hy, hu]
  have hc : IntKind.i64.wrap (((x + y) / 18446744073709551616 : Nat) : Int) = (((x + y) / 18446744073709551616 : Nat) : Int) := w64_in (by omega) (by split at hy2 <;> omega)
  obtain ⟨q1, q2⟩ := ex_uniq (S := S + n) (h := exH S + ((if n < 0 then -1 else 0) + (((x + y) / 18446744073709551616 : Nat) : Int))) (l := (((x + y) % 18446744073709551616 : Nat) : Int)) (by split at hy2 <;> rename_i q <;> simp only [q, if_true, if_false] <;> omega) (by omega) (by omega)
  obtain ⟨hH, hL⟩ := exA_at SS i S hSS
  rw [hx] at hL
  unfold exA
  rw [List.map_set, List.map_set, q1, q2]
  generalize SS.map exH = hs' at *
  generalize SS.map exL = ls' at *
  generalize exH S = H at *
  rw [← hy, ← hL] at c1
  refine fc_of mixed T_ok Tryz.func38 rfl (by kernel_rfl) (by kernel_rfl) (by kernel_rfl) ?_
  repeat' ((conv => whnf); first | (refine vcall_pure (c1) rfl rfl rfl ?_) | (refine vcallD_pure (c1) rfl rfl rfl ?_) | ((first | apply br_dec | apply br_ndec) <;> intro h <;> try (exfalso; (try dsimp only at h); omega)) | ((first | apply br_seq | apply br_nseq | apply br_not | apply br_intro) <;> intro h) | refine cond_a ?_)
  all_goals (conv => whnf)
  have e9 : IntKind.i64.wrap (H + IntKind.i64.wrap (ishr .i64 n 63 + IntKind.i64.wrap (((x + y) / 18446744073709551616 : Nat) : Int))) = H + ((if n < 0 then -1 else 0) + (((x + y) / 18446744073709551616 : Nat) : Int)) := by
    rw [hs, hc]
    have hy3 : y < 18446744073709551616 := by split at hy2 <;> omega
    have ht : (if n < 0 then (-1 : Int) else 0) = -1 ∨ (if n < 0 then (-1 : Int) else 0) = 0 := by split; exact .inl rfl; exact .inr rfl
    generalize (if n < 0 then (-1 : Int) else 0) = t at *
    have hx3 : x < 18446744073709551616 := by omega
    have hq : (x + y) / 18446744073709551616 ≤ 1 := by omega
    generalize (x + y) / 18446744073709551616 = c at *
    rw [w64_in (n := t + (c : Int)) (by omega) (by omega), w64_in (by omega) (by omega)]
  have hr : (some (HB.one false (.cols 16 [.sc (.ints .i64 (hs'.set i (IntKind.i64.wrap (hs'.getD i 0 + IntKind.i64.wrap (ishr .i64 n 63 + IntKind.i64.wrap (((x + y) / 18446744073709551616 : Nat) : Int)))))), .sc (.ints .u64 (ls'.set i (((x + y) % 18446744073709551616 : Nat) : Int)))])) : Option HB) = some (.one false (.cols 16 [.sc (.ints .i64 (hs'.set i (H + ((if n < 0 then -1 else 0) + (((x + y) / 18446744073709551616 : Nat) : Int))))), .sc (.ints .u64 (ls'.set i (((x + y) % 18446744073709551616 : Nat) : Int)))])) := by rw [hH, e9]
  all_goals exact ret_out (l := [0, 1]) rfl rfl ⟨hr, trivial⟩ (allRw_cons allRw_nil)
theorem ex_clampedA (SS : List Int) (i : Nat) (hi : i < 16) (S l : Int) (hSS : SS.getD i 0 = S) (hS : okS S) (h1 : 0 ≤ l) (h2 : l ≤ 4611686018427387904) : FC Tryz.prog 2 39 [.ptr 1 0 i 0, .int .i64 l] [(1, some (.one true (exA SS)))] (isOut (.int .i64 (clampI S l)) [] 2) := by
  obtain ⟨e1, e2, e3⟩ := ex_eq S
  have hb := exH_bd hS
  have hz := i64_of e2 e3
  have hsh := ishr63 (IntKind.i64.wrap (exL S)) (by rw [hz]; split <;> omega) (by rw [hz]; split <;> omega)
  have hn : IntKind.i64.wrap (0 - l) = -l := by rw [w64_in (by omega) (by omega)]; omega
  obtain ⟨hH, hL⟩ := exA_at SS i S hSS
  unfold exA
  generalize SS.map exH = hs' at *
  generalize SS.map exL = ls' at *
  generalize exH S = H at *
  generalize exL S = L at *
  refine fc_of mixed T_ok Tryz.func39 rfl (by kernel_rfl) (by kernel_rfl) (by kernel_rfl) ?_
  repeat' ((conv => whnf); first | ((first | apply br_dec | apply br_ndec) <;> intro h <;> try (exfalso; (try dsimp only at h); omega)) | ((first | apply br_seq | apply br_nseq | apply br_not | apply br_intro) <;> intro h) | refine cond_a ?_)
  all_goals (conv => whnf)
  all_goals (try dsimp only at *)
  all_goals simp only [hn, hH, hL] at *
  all_goals first
    | (refine ret_out (l := [0, 1]) (r0 := .int .i64 (clampI S l)) rfl ?_ trivial allRw_nil
       refine congrArg (SV.int .i64) ?_
       unfold clampI
       split at hz <;> split at hsh <;> split <;> (try split) <;> omega)
    | (exfalso; split at hz <;> split at hsh <;> omega)
    | trace_state
end Go.Proofs.YtkbidlijinclcaaGreatDoor

/- Contract: all positions in one currency. -/
namespace Go.Proofs.YtkbidlijinclcaaGreatDoor
open Go.RowKit Go.Sy
attribute [local irreducible] vcall vloop vcallD retP
set_option maxRecDepth 100000
set_option linter.unusedVariables false
set_option linter.unusedSimpArgs false

/-- A row is added to sums. -/
def addK (SS r : List Int) : Nat → List Int
  | 0 => SS
  | i + 1 => (addK SS r i).set i (SS.getD i 0 + r.getD i 0)
theorem addK_len (SS r : List Int) : ∀ i, (addK SS r i).length = SS.length
  | 0 => rfl
  | i + 1 => by simp only [addK, List.length_set]; exact addK_len SS r i
theorem addK_get {SS r : List Int} {n : Nat} (hl : SS.length = n) : ∀ i j, i ≤ n → (addK SS r i).getD j 0 = if j < i then SS.getD j 0 + r.getD j 0 else SS.getD j 0
  | 0, j, _ => by rw [if_neg (by omega)]; rfl
  | i + 1, j, h => by
    have ih := addK_get (r := r) hl i j (by omega)
    simp only [addK]
    rw [set_getD2 _ _ _ _ (by rw [addK_len]; omega)]
    by_cases e : j = i
    · subst e; rw [if_pos rfl, if_pos (by omega)]
    · rw [if_neg e, ih]
      by_cases e2 : j < i
      · rw [if_pos e2, if_pos (by omega)]
      · rw [if_neg e2, if_neg (by omega)]
/-- The row of a currency in another one; the first error; the sums. -/
def cvR (q : RL) (b : Bk) (t p c : ByteArray) : List Int := if c = t then b.row c else cwR q (b.row c) c t p
def cvEK (q : RL) (b : Bk) (cs : List ByteArray) (t p : ByteArray) : Nat → Int
  | 0 => 0
  | k + 1 => if cvEK q b cs t p k ≠ 0 then cvEK q b cs t p k else if cs.getD k ⟨#[]⟩ = t then 0 else cwE q (b.row (cs.getD k ⟨#[]⟩)) (cs.getD k ⟨#[]⟩) t p
def cvSK (q : RL) (b : Bk) (cs : List ByteArray) (t p : ByteArray) : Nat → List Int
  | 0 => z16
  | k + 1 => addK (cvSK q b cs t p k) (cvR q b t p (cs.getD k ⟨#[]⟩)) 16
theorem cvEK_stop {q : RL} {b : Bk} {cs : List ByteArray} {t p : ByteArray} {k : Nat} {e : Int} (h0 : cvEK q b cs t p k = 0) (h1 : cs.getD k ⟨#[]⟩ ≠ t) (h2 : cwE q (b.row (cs.getD k ⟨#[]⟩)) (cs.getD k ⟨#[]⟩) t p = e) (he : e ≠ 0) : ∀ n, k < n → cvEK q b cs t p n = e
  | 0, h => by omega
  | n + 1, h => by
    simp only [cvEK]
    by_cases g : k = n
    · subst g; rw [if_neg (by omega), if_neg h1, h2]
    · rw [cvEK_stop h0 h1 h2 he n (by omega), if_pos he]
theorem cvSK_len (q : RL) (b : Bk) (cs : List ByteArray) (t p : ByteArray) : ∀ k, (cvSK q b cs t p k).length = 16
  | 0 => rfl
  | k + 1 => by simp only [cvSK]; rw [addK_len]; exact cvSK_len q b cs t p k
def fitK (SS : List Int) : Nat → Bool
  | 0 => true
  | i + 1 => fitK SS i && fitB (SS.getD i 0)
theorem fitK_stop {SS : List Int} {i : Nat} (h : fitB (SS.getD i 0) = false) : ∀ n, i < n → fitK SS n = false
  | 0, q => by omega
  | n + 1, q => by
    simp only [fitK]
    by_cases e : i = n
    · subst e; rw [h, Bool.and_false]
    · rw [fitK_stop h n (by omega), Bool.false_and]
theorem clamp_fit {S : Int} (h : fitB S = true) : clampI S 4611686018427387904 = S := by
  rw [fitB_t] at h
  unfold clampI
  rw [if_neg (by omega), if_neg (by omega)]
theorem clamp_nofit {S : Int} (h : fitB S = false) : fitB (clampI S 4611686018427387904) = false := by
  rw [fitB_f] at h ⊢
  unfold clampI
  split
  · omega
  · split <;> omega
theorem dvK_bd {row pl P : List Int} {s B : Int} (hs : s = 1 ∨ s = -1) (hr : ∀ j, -B ≤ row.getD j 0 ∧ row.getD j 0 ≤ B) (hP : ∀ j, 0 ≤ P.getD j 0 ∧ P.getD j 0 ≤ B) : ∀ k j, -B ≤ (dvK row pl P s k).getD j 0 ∧ (dvK row pl P s k).getD j 0 ≤ B
  | 0, j => hr j
  | k + 1, j => by
    have ih := dvK_bd (pl := pl) hs hr hP k
    simp only [dvK]
    by_cases e : (pl.getD k 0).toNat < (dvK row pl P s k).length
    · rw [set_getD2 _ _ _ _ e]
      split
      · have := hP k
        rcases hs with e | e <;> rw [e] <;> omega
      · exact ih j
    · rw [List.set_eq_of_length_le (by omega)]
      exact ih j
theorem dvR_bd {row r : List Int} {A : Nat} {s B : Int} (hs : s = 1 ∨ s = -1) (hr : ∀ j, -B ≤ row.getD j 0 ∧ row.getD j 0 ≤ B) (hA : (A : Int) + 16 ≤ B) (j : Nat) : -B ≤ (dvR row A r s).getD j 0 ∧ (dvR row A r s).getD j 0 ≤ B := by
  unfold dvR
  refine dvK_bd hs hr (fun j => ?_) _ j
  have hW : ∃ M, ∀ j, r.getD j 0 * s ≤ M := by
    have : ∀ l : List Int, ∃ M, 0 ≤ M ∧ ∀ j, l.getD j 0 * s ≤ M := by
      intro l
      induction l with
      | nil => exact ⟨0, Int.le_refl _, fun j => by simp⟩
      | cons x l ih =>
        obtain ⟨M, h0, h⟩ := ih
        refine ⟨max M (x * s), by omega, fun j => ?_⟩
        cases j with
        | zero => rw [List.getD_cons_zero]; omega
        | succ j => rw [List.getD_cons_succ]; have := h j; omega
    obtain ⟨M, _, h⟩ := this r
    exact ⟨M, h⟩
  obtain ⟨M, hM⟩ := hW
  have hl := wt_len r s 16
  have := sp_bd (A := A) (ws := wtK r s 16) (n := dvN r s) (fun i hi => (wt_bd hM 16 i hi).1) j
  unfold dvN at this ⊢
  omega
theorem dvE_le {A : Nat} {c : ByteArray} {r : List Int} {s : Int} (h : dvE A c r s = 0) : A ≤ 4503599627370496 := spE_le h
theorem z16_get (j : Nat) : z16.getD j 0 = 0 := by
  rw [List.getD, List.getElem?_replicate]; split <;> rfl
theorem cwR_bd {q : RL} {r : List Int} {f t p : ByteArray} (h : cwE q r f t p = 0) (j : Nat) : -9007199254740992 ≤ (cwR q r f t p).getD j 0 ∧ (cwR q r f t p).getD j 0 ≤ 9007199254740992 := by
  unfold cwE at h
  split at h
  · contradiction
  · split at h
    · contradiction
    · split at h
      · contradiction
      · have hA := dvE_le h
        unfold cwR
        exact dvR_bd (.inr rfl) (fun j => dvR_bd (.inl rfl) (fun j => by rw [z16_get]; omega) (by omega) j) (by omega) j
theorem cvSK_bd {q : RL} {b : Bk} {cs : List ByteArray} {t p : ByteArray} (hb : ∀ i j, -4503599627370496 ≤ (b.vs.getD i z16).getD j 0 ∧ (b.vs.getD i z16).getD j 0 ≤ 4503599627370496) : ∀ k, cvEK q b cs t p k = 0 → ∀ j, -9007199254740992 * (k : Int) ≤ (cvSK q b cs t p k).getD j 0 ∧ (cvSK q b cs t p k).getD j 0 ≤ 9007199254740992 * (k : Int)
  | 0, _, j => by simp only [cvSK]; rw [z16_get]; omega
  | k + 1, h, j => by
    simp only [cvEK] at h
    by_cases h0 : cvEK q b cs t p k = 0
    case neg => rw [if_pos h0] at h; exact absurd h h0
    rw [if_neg (by simpa using h0)] at h
    have ih := cvSK_bd hb k h0 j
    simp only [cvSK]
    rw [addK_get (cvSK_len q b cs t p k) _ _ (Nat.le_refl _)]
    have hR : -9007199254740992 ≤ (cvR q b t p (cs.getD k ⟨#[]⟩)).getD j 0 ∧ (cvR q b t p (cs.getD k ⟨#[]⟩)).getD j 0 ≤ 9007199254740992 := by
      unfold cvR
      by_cases g : cs.getD k ⟨#[]⟩ = t
      · rw [if_pos g]; have := hb (sidx b.cs (cs.getD k ⟨#[]⟩)) j; unfold Bk.row; omega
      · rw [if_neg g] at h ⊢; exact cwR_bd h j
    split <;> omega
abbrev Bk.cvS (b : Bk) (q : RL) (t p : ByteArray) : List Int := cvSK q b (sortS b.cs) t p b.m
abbrev Bk.cvX (b : Bk) (q : RL) (t p : ByteArray) : Int := cvEK q b (sortS b.cs) t p b.m
def Bk.cvE (b : Bk) (q : RL) (t p : ByteArray) : Int := if curB t = false then 11 else if b.cvX q t p ≠ 0 then b.cvX q t p else if fitK (b.cvS q t p) b.n = true then 0 else 4
def Bk.cvL (b : Bk) (q : RL) (t p : ByteArray) : List Px := liR (b.cvS q t p) b.ps t b.n
def cvOut (b : Bk) (q : RL) (t p : ByteArray) : SV → Heap → Nat → Prop :=
  if b.cvE q t p ≠ 0 then isOut (.tup [.nsl, .int .i64 (b.cvE q t p)]) [] 5 else isOut (.tup [.sl 5 0 0 (b.cvL q t p).length, .int .i64 0]) [(5, some (.one false (pxB (b.cvL q t p).length (pxOf (b.cvL q t p)))))] 6
abbrev cvH (b : Bk) (q : RL) : Heap := (0, some (GB glT)) :: (4, some (.one true (.cols q.l [.sc (.strs q.f), .sc (.strs q.t), .sc (.ints .i64 q.n), .sc (.ints .i64 q.d)]))) :: bkR b
theorem exA_z : exA z16 = .cols 16 [.sc (.ints .i64 z16), .sc (.ints .u64 z16)] := by unfold exA; simp [exH, exL]; rfl
set_option maxHeartbeats 3200000 in
theorem pos_Convert (b : Bk) (hb : b.Ok) (hc : b.Cok) (q : RL) (hq : q.l ≤ 1000) (t p : ByteArray) :
    FC Tryz.prog 5 19 [.ptr 1 0 0 0, .sl 4 0 0 q.l, .str t, .str p] (cvH b q) (cvOut b q t p) := by
  have hn := hb.n
  have hm := hc.m
  have c1 := pos_isCurrency t
  have c2 := pos_Currencies b hc
  unfold cvOut
  cases ht : curB t with
  | false =>
    rw [ht] at c1
    have e : b.cvE q t p = 11 := by unfold Bk.cvE; rw [if_pos ht]
    rw [e, if_pos (by decide)]
    refine fc_of mixed T_ok Tryz.func19 rfl (by kernel_rfl) (by kernel_rfl) (by kernel_rfl) ?_
    repeat' ((conv => whnf); first | (refine vcall_pure (c1) rfl rfl rfl ?_) | ((first | apply br_dec | apply br_ndec) <;> intro h <;> try (exfalso; (try dsimp only at h); omega)) | ((first | apply br_seq | apply br_nseq | apply br_not | apply br_intro) <;> intro h) | refine cond_a ?_)
    all_goals (conv => whnf)
    all_goals first
      | exact ret_out (l := [0, 1, 2, 3, 4]) rfl rfl trivial allRw_nil
      | (exfalso; omega)
      | trace_state
  | true =>
  rw [ht] at c1
  have e0 : b.cvE q t p = if b.cvX q t p ≠ 0 then b.cvX q t p else if fitK (b.cvS q t p) b.n = true then 0 else 4 := by unfold Bk.cvE; rw [if_neg (by rw [ht]; simp)]
  have hSbd := cvSK_bd (q := q) (cs := sortS b.cs) (t := t) (p := p) hb.bd
  have hSlen := cvSK_len q b (sortS b.cs) t p
  refine fc_of mixed T_ok Tryz.func19 rfl (by kernel_rfl) (by kernel_rfl) (by kernel_rfl) ?_
  repeat' ((conv => whnf); first | (refine vcall_pure (c1) rfl rfl rfl ?_) | refine vcall_o (l := [0, 1, 2, 3]) (c2) ?_ | ((first | apply br_dec | apply br_ndec) <;> intro h <;> try (exfalso; (try dsimp only at h); omega)) | ((first | apply br_seq | apply br_nseq | apply br_not | apply br_intro) <;> intro h) | refine cond_a ?_)
  all_goals (conv => whnf)
  refine vloop_lp (fun k : Nat => ⟨[(0, .ptr 1 0 0 0), (1, .sl 4 0 0 q.l), (2, .str t), (3, .str p), (10, .ptr 5 0 0 0), (28, .sl 6 0 0 b.m), (29, .int .i64 b.m), (30, .int .i64 k)], (5, some (.one false (exA (cvSK q b (sortS b.cs) t p k)))) :: (6, some (.one false (.cols b.m [.sc (.strs (sortS b.cs))]))) :: cvH b q, 7⟩) (fun k => k ≤ b.m ∧ cvEK q b (sortS b.cs) t p k = 0) (fun k => b.m - k) 0 [0, 1, 2, 3, 4, 5, 6] [] ⟨rfl, ⟨rfl, rfl, rfl, rfl, rfl, rfl, rfl, rfl, trivial⟩, ⟨congrArg (fun x => some (HB.one false x)) exA_z.symm, rfl, gwk rfl, rfl, rfl, rfl, rfl, trivial⟩⟩ ⟨Nat.zero_le _, rfl⟩ ?_
  rintro k ⟨hk, hE⟩
  by_cases hk2 : k < b.m
  · have hr := hb.bd (sidx b.cs ((sortS b.cs).getD k ⟨#[]⟩))
    have hSk := hSbd k hE
    have hSl := hSlen k
    have hE2 : cvEK q b (sortS b.cs) t p (k + 1) = if (sortS b.cs).getD k ⟨#[]⟩ = t then 0 else cwE q (b.row ((sortS b.cs).getD k ⟨#[]⟩)) ((sortS b.cs).getD k ⟨#[]⟩) t p := by simp only [cvEK]; rw [if_neg (by simpa using hE)]
    have hS2 : cvSK q b (sortS b.cs) t p (k + 1) = addK (cvSK q b (sortS b.cs) t p k) (cvR q b t p ((sortS b.cs).getD k ⟨#[]⟩)) 16 := rfl
    have hstop := @cvEK_stop q b (sortS b.cs) t p k
    have cw := pos_convertRow q hq (b.row ((sortS b.cs).getD k ⟨#[]⟩)) ((sortS b.cs).getD k ⟨#[]⟩) t p hr
    by_cases g : (sortS b.cs).getD k ⟨#[]⟩ = t
    · rw [if_pos g] at hE2
      have hR : cvR q b t p ((sortS b.cs).getD k ⟨#[]⟩) = b.row ((sortS b.cs).getD k ⟨#[]⟩) := if_pos g
      have hRb : ∀ j, -9007199254740992 ≤ (b.row ((sortS b.cs).getD k ⟨#[]⟩)).getD j 0 ∧ (b.row ((sortS b.cs).getD k ⟨#[]⟩)).getD j 0 ≤ 9007199254740992 := fun j => by have := hr j; unfold Bk.row; omega
      rw [hR] at hS2
      repeat' ((conv => whnf); first | ((first | apply br_dec | apply br_ndec) <;> intro h <;> try (exfalso; (try dsimp only at h); omega)) | ((first | apply br_seq | apply br_nseq | apply br_not | apply br_intro) <;> intro h) | refine cond_a ?_)
      all_goals (conv => whnf)
      all_goals first
        | (exfalso; omega)
        | contradiction
        | skip
      refine vloop_lp (fun i : Nat => ⟨[(0, .ptr 1 0 0 0), (1, .sl 4 0 0 q.l), (2, .str t), (3, .str p), (10, .ptr 5 0 0 0), (28, .sl 6 0 0 b.m), (29, .int .i64 b.m), (30, .int .i64 k), (56, .arr 16 [.ints .i64 (b.row ((sortS b.cs).getD k ⟨#[]⟩))]), (57, .int .i64 i)], (5, some (.one false (exA (addK (cvSK q b (sortS b.cs) t p k) (b.row ((sortS b.cs).getD k ⟨#[]⟩)) i)))) :: (6, some (.one false (.cols b.m [.sc (.strs (sortS b.cs))]))) :: cvH b q, 7⟩) (fun i => i ≤ 16) (fun i => 16 - i) 0 [0, 1, 2, 3, 4, 5, 6] [] ⟨rfl, ⟨rfl, rfl, rfl, rfl, rfl, rfl, rfl, rfl, rfl, rfl, trivial⟩, ⟨rfl, rfl, gwk rfl, rfl, rfl, rfl, rfl, trivial⟩⟩ (Nat.zero_le _) ?_
      intro i hi
      by_cases hi2 : i < 16
      · have hx : (addK (cvSK q b (sortS b.cs) t p k) (b.row ((sortS b.cs).getD k ⟨#[]⟩)) i).getD i 0 = (cvSK q b (sortS b.cs) t p k).getD i 0 := by rw [addK_get hSl i i (by omega), if_neg (by omega)]
        have hSi := hSk i
        have hRi := hRb i
        have ca := ex_addA (addK (cvSK q b (sortS b.cs) t p k) (b.row ((sortS b.cs).getD k ⟨#[]⟩)) i) i hi2 ((cvSK q b (sortS b.cs) t p k).getD i 0) ((b.row ((sortS b.cs).getD k ⟨#[]⟩)).getD i 0) hx (by unfold okS; omega) (by omega) (by omega)
        repeat' ((conv => whnf); first | refine vcall_o (l := [0, 5]) (ca) ?_ | ((first | apply br_dec | apply br_ndec) <;> intro h <;> try (exfalso; (try dsimp only at h); omega)) | ((first | apply br_seq | apply br_nseq | apply br_not | apply br_intro) <;> intro h) | refine cond_a ?_)
        all_goals (conv => whnf)
        all_goals first
          | exact ⟨i + 1, [0, 1, 2, 3, 4, 5, 6], [], hi2, (show 16 - (i + 1) < 16 - i by omega), ⟨rfl, ⟨rfl, rfl, rfl, rfl, rfl, rfl, rfl, rfl, rfl, congrArg (fun z => some (SV.int .i64 z)) (i64_succ (by omega)), trivial⟩, ⟨rfl, rfl, gwk rfl, rfl, rfl, rfl, rfl, trivial⟩⟩⟩
          | (exfalso; omega)
          | trace_state
      · have ei : i = 16 := by omega
        subst ei
        have bS : (some (HB.one false (exA (addK (cvSK q b (sortS b.cs) t p k) (b.row ((sortS b.cs).getD k ⟨#[]⟩)) 16))) : Option HB) = some (.one false (exA (cvSK q b (sortS b.cs) t p (k + 1)))) := by rw [hS2]
        repeat' ((conv => whnf); first | ((first | apply br_dec | apply br_ndec) <;> intro h <;> try (exfalso; (try dsimp only at h); omega)) | ((first | apply br_seq | apply br_nseq | apply br_not | apply br_intro) <;> intro h) | refine cond_a ?_)
        all_goals (conv => whnf)
        all_goals first
          | exact ⟨k + 1, [0, 1, 2, 3, 4, 5, 6], [], ⟨hk2, hE2⟩, (show b.m - (k + 1) < b.m - k by omega), ⟨rfl, ⟨rfl, rfl, rfl, rfl, rfl, rfl, rfl, congrArg (fun z => some (SV.int .i64 z)) (i64_succ (by omega)), trivial⟩, ⟨bS, rfl, gwk rfl, rfl, rfl, rfl, rfl, trivial⟩⟩⟩
          | (exfalso; omega)
          | trace_state
    · rw [if_neg g] at hE2
      by_cases g2 : cwE q (b.row ((sortS b.cs).getD k ⟨#[]⟩)) ((sortS b.cs).getD k ⟨#[]⟩) t p = 0
      case neg =>
        have e1 := hstop hE g rfl g2 b.m hk2
        rw [cwT_err rfl g2] at cw
        have e2 : b.cvE q t p = cwE q (b.row ((sortS b.cs).getD k ⟨#[]⟩)) ((sortS b.cs).getD k ⟨#[]⟩) t p := by rw [e0]; unfold Bk.cvX; rw [e1, if_pos g2]
        rw [e2, if_pos g2]
        repeat' ((conv => whnf); first | refine vcall_o (l := [0, 4]) (cw) ?_ | ((first | apply br_dec | apply br_ndec) <;> intro h <;> try (exfalso; (try dsimp only at h); omega)) | ((first | apply br_seq | apply br_nseq | apply br_not | apply br_intro) <;> intro h) | refine cond_a ?_)
        all_goals (conv => whnf)
        all_goals first
          | exact ret_out (l := [0, 1, 2, 3, 4]) rfl rfl trivial allRw_nil
          | (exfalso; omega)
          | contradiction
          | trace_state
      rw [cwT_ok g2] at cw
      rw [g2] at hE2
      have hR : cvR q b t p ((sortS b.cs).getD k ⟨#[]⟩) = cwR q (b.row ((sortS b.cs).getD k ⟨#[]⟩)) ((sortS b.cs).getD k ⟨#[]⟩) t p := if_neg g
      have hRb := cwR_bd g2
      rw [hR] at hS2
      repeat' ((conv => whnf); first | refine vcall_o (l := [0, 4]) (cw) ?_ | ((first | apply br_dec | apply br_ndec) <;> intro h <;> try (exfalso; (try dsimp only at h); omega)) | ((first | apply br_seq | apply br_nseq | apply br_not | apply br_intro) <;> intro h) | refine cond_a ?_)
      all_goals (conv => whnf)
      all_goals first
        | (exfalso; omega)
        | contradiction
        | skip
      refine vloop_lp (fun i : Nat => ⟨[(0, .ptr 1 0 0 0), (1, .sl 4 0 0 q.l), (2, .str t), (3, .str p), (10, .ptr 5 0 0 0), (28, .sl 6 0 0 b.m), (29, .int .i64 b.m), (30, .int .i64 k), (56, .arr 16 [.ints .i64 (cwR q (b.row ((sortS b.cs).getD k ⟨#[]⟩)) ((sortS b.cs).getD k ⟨#[]⟩) t p)]), (57, .int .i64 i)], (5, some (.one false (exA (addK (cvSK q b (sortS b.cs) t p k) (cwR q (b.row ((sortS b.cs).getD k ⟨#[]⟩)) ((sortS b.cs).getD k ⟨#[]⟩) t p) i)))) :: (6, some (.one false (.cols b.m [.sc (.strs (sortS b.cs))]))) :: cvH b q, 7⟩) (fun i => i ≤ 16) (fun i => 16 - i) 0 [0, 1, 2, 3, 4, 5, 6] [] ⟨rfl, ⟨rfl, rfl, rfl, rfl, rfl, rfl, rfl, rfl, rfl, rfl, trivial⟩, ⟨rfl, rfl, gwk rfl, rfl, rfl, rfl, rfl, trivial⟩⟩ (Nat.zero_le _) ?_
      intro i hi
      by_cases hi2 : i < 16
      · have hx : (addK (cvSK q b (sortS b.cs) t p k) (cwR q (b.row ((sortS b.cs).getD k ⟨#[]⟩)) ((sortS b.cs).getD k ⟨#[]⟩) t p) i).getD i 0 = (cvSK q b (sortS b.cs) t p k).getD i 0 := by rw [addK_get hSl i i (by omega), if_neg (by omega)]
        have hSi := hSk i
        have hRi := hRb i
        have ca := ex_addA (addK (cvSK q b (sortS b.cs) t p k) (cwR q (b.row ((sortS b.cs).getD k ⟨#[]⟩)) ((sortS b.cs).getD k ⟨#[]⟩) t p) i) i hi2 ((cvSK q b (sortS b.cs) t p k).getD i 0) ((cwR q (b.row ((sortS b.cs).getD k ⟨#[]⟩)) ((sortS b.cs).getD k ⟨#[]⟩) t p).getD i 0) hx (by unfold okS; omega) (by omega) (by omega)
        repeat' ((conv => whnf); first | refine vcall_o (l := [0, 5]) (ca) ?_ | ((first | apply br_dec | apply br_ndec) <;> intro h <;> try (exfalso; (try dsimp only at h); omega)) | ((first | apply br_seq | apply br_nseq | apply br_not | apply br_intro) <;> intro h) | refine cond_a ?_)
        all_goals (conv => whnf)
        all_goals first
          | exact ⟨i + 1, [0, 1, 2, 3, 4, 5, 6], [], hi2, (show 16 - (i + 1) < 16 - i by omega), ⟨rfl, ⟨rfl, rfl, rfl, rfl, rfl, rfl, rfl, rfl, rfl, congrArg (fun z => some (SV.int .i64 z)) (i64_succ (by omega)), trivial⟩, ⟨rfl, rfl, gwk rfl, rfl, rfl, rfl, rfl, trivial⟩⟩⟩
          | (exfalso; omega)
          | trace_state
      · have ei : i = 16 := by omega
        subst ei
        have bS : (some (HB.one false (exA (addK (cvSK q b (sortS b.cs) t p k) (cwR q (b.row ((sortS b.cs).getD k ⟨#[]⟩)) ((sortS b.cs).getD k ⟨#[]⟩) t p) 16))) : Option HB) = some (.one false (exA (cvSK q b (sortS b.cs) t p (k + 1)))) := by rw [hS2]
        repeat' ((conv => whnf); first | ((first | apply br_dec | apply br_ndec) <;> intro h <;> try (exfalso; (try dsimp only at h); omega)) | ((first | apply br_seq | apply br_nseq | apply br_not | apply br_intro) <;> intro h) | refine cond_a ?_)
        all_goals (conv => whnf)
        all_goals first
          | exact ⟨k + 1, [0, 1, 2, 3, 4, 5, 6], [], ⟨hk2, hE2⟩, (show b.m - (k + 1) < b.m - k by omega), ⟨rfl, ⟨rfl, rfl, rfl, rfl, rfl, rfl, rfl, congrArg (fun z => some (SV.int .i64 z)) (i64_succ (by omega)), trivial⟩, ⟨bS, rfl, gwk rfl, rfl, rfl, rfl, rfl, trivial⟩⟩⟩
          | (exfalso; omega)
          | trace_state
  have ek : k = b.m := by omega
  subst ek
  have hSk := hSbd b.m hE
  have hSl := hSlen b.m
  have e1 : b.cvE q t p = if fitK (b.cvS q t p) b.n = true then 0 else 4 := by
    rw [e0]; unfold Bk.cvX; rw [hE]; rfl
  have eL : b.cvL q t p = liR (cvSK q b (sortS b.cs) t p b.m) b.ps t b.n := rfl
  have eS : b.cvS q t p = cvSK q b (sortS b.cs) t p b.m := rfl
  rw [eS] at e1
  have hokS : ∀ j, okS ((cvSK q b (sortS b.cs) t p b.m).getD j 0) := fun j => by have := hSk j; unfold okS; omega
  generalize hL : b.cvL q t p = LL at *
  generalize hX : b.cvE q t p = XX at *
  generalize cvSK q b (sortS b.cs) t p b.m = SS at *
  clear hL hX eS
  repeat' ((conv => whnf); first | ((first | apply br_dec | apply br_ndec) <;> intro h <;> try (exfalso; (try dsimp only at h); omega)) | ((first | apply br_seq | apply br_nseq | apply br_not | apply br_intro) <;> intro h) | refine cond_a ?_)
  all_goals (conv => whnf)
  all_goals first
    | (exfalso; omega)
    | skip
  refine vloop_lp (fun x : Nat × Nat => ⟨[(2, .str t), (10, .ptr 5 0 0 0), (70, .sl 2 0 0 b.n), (71, .int .i64 b.n), (72, .int .i64 x.1), (18, .sl 6 0 0 x.2)], (5, some (.one false (exA SS))) :: (6, some (.one false (pxB x.2 (pxOf (liR SS b.ps t x.1))))) :: cvH b q, 7⟩) (fun x => x.1 ≤ b.n ∧ (liR SS b.ps t x.1).length = x.2 ∧ fitK SS x.1 = true) (fun x => b.n - x.1) (0, 0) [0, 1, 2, 3, 4, 5, 7] [.slot 18 [.sc (.strs []), .sc (.ints .i64 []), .sc (.strs [])]] ⟨rfl, ⟨rfl, rfl, rfl, rfl, rfl, rfl, trivial⟩, ⟨rfl, rfl, gwk rfl, rfl, rfl, rfl, rfl, trivial⟩⟩ ⟨Nat.zero_le _, rfl, rfl⟩ ?_
  rintro ⟨i, m2⟩ ⟨hi, hl2, hf⟩
  dsimp only at hi hl2 hf
  by_cases hi2 : i < b.n
  · have cc := ex_clampedA SS i (by omega) (SS.getD i 0) 4611686018427387904 rfl (hokS i) (by decide) (by decide)
    have cf := pos_within (clampI (SS.getD i 0) 4611686018427387904)
    cases hfi : fitB (SS.getD i 0) with
    | false =>
      rw [clamp_nofit hfi] at cf
      rw [fitK_stop hfi b.n hi2, if_neg (by simp)] at e1
      rw [e1, if_pos (by decide)]
      repeat' ((conv => whnf); first | refine vcall_o (l := [0, 5]) (cc) ?_ | (refine vcall_pure (cf) rfl rfl rfl ?_) | (refine vcallD_pure (cf) rfl rfl rfl ?_) | ((first | apply br_dec | apply br_ndec) <;> intro h <;> try (exfalso; (try dsimp only at h); omega)) | ((first | apply br_seq | apply br_nseq | apply br_not | apply br_intro) <;> intro h) | refine cond_a ?_)
      all_goals (conv => whnf)
      all_goals first
        | exact ret_out (l := [0, 1, 2, 3, 4]) rfl rfl trivial allRw_nil
        | (exfalso; omega)
        | contradiction
        | trace_state
    | true =>
      rw [clamp_fit hfi, hfi] at cf
      rw [clamp_fit hfi] at cc
      have hf2 : fitK SS (i + 1) = true := by simp only [fitK]; rw [hf, hfi]; rfl
      have hml := liR_len SS b.ps t i
      by_cases hz : SS.getD i 0 = 0
      · have h3 : liR SS b.ps t (i + 1) = liR SS b.ps t i := by simp only [liR]; rw [if_pos hz]
        have b3 : (some (HB.one false (pxB m2 (pxOf (liR SS b.ps t i)))) : Option HB) = some (.one false (pxB m2 (pxOf (liR SS b.ps t (i + 1))))) := by rw [h3]
        have h4 : (liR SS b.ps t (i + 1)).length = m2 := by rw [h3, hl2]
        repeat' ((conv => whnf); first | refine vcall_o (l := [0, 5]) (cc) ?_ | (refine vcall_pure (cf) rfl rfl rfl ?_) | (refine vcallD_pure (cf) rfl rfl rfl ?_) | ((first | apply br_dec | apply br_ndec) <;> intro h <;> try (exfalso; (try dsimp only at h); omega)) | ((first | apply br_seq | apply br_nseq | apply br_not | apply br_intro) <;> intro h) | refine cond_a ?_)
        all_goals (conv => whnf)
        all_goals first
          | exact ⟨(i + 1, m2), [0, 1, 2, 3, 4, 5, 6], [], ⟨hi2, h4, hf2⟩, (show b.n - (i + 1) < b.n - i by omega), ⟨rfl, ⟨rfl, rfl, rfl, rfl, congrArg (fun z => some (SV.int .i64 z)) (i64_succ (by omega)), rfl, trivial⟩, ⟨rfl, b3, gwk rfl, rfl, rfl, rfl, rfl, trivial⟩⟩⟩
          | (exfalso; omega)
          | contradiction
          | trace_state
      · have h3 : liR SS b.ps t (i + 1) = liR SS b.ps t i ++ [⟨b.ps.getD i ⟨#[]⟩, SS.getD i 0, t⟩] := by simp only [liR]; rw [if_neg hz]
        have h5 := pxOf_snoc (liR SS b.ps t i) ⟨b.ps.getD i ⟨#[]⟩, SS.getD i 0, t⟩
        have b3 : (some (HB.one false (pxB (m2 + 1) ⟨(pxOf (liR SS b.ps t i)).p ++ [b.ps.getD i ⟨#[]⟩], (pxOf (liR SS b.ps t i)).a ++ [SS.getD i 0], (pxOf (liR SS b.ps t i)).c ++ [t]⟩)) : Option HB) = some (.one false (pxB (m2 + 1) (pxOf (liR SS b.ps t (i + 1))))) := by rw [h3, h5]
        have h4 : (liR SS b.ps t (i + 1)).length = m2 + 1 := by rw [h3, List.length_append, hl2]; rfl
        repeat' ((conv => whnf); first | refine vcall_o (l := [0, 5]) (cc) ?_ | (refine vcall_pure (cf) rfl rfl rfl ?_) | (refine vcallD_pure (cf) rfl rfl rfl ?_) | ((first | apply br_dec | apply br_ndec) <;> intro h <;> try (exfalso; (try dsimp only at h); omega)) | ((first | apply br_seq | apply br_nseq | apply br_not | apply br_intro) <;> intro h) | refine cond_a ?_)
        all_goals (conv => whnf)
        all_goals first
          | exact ⟨(i + 1, m2 + 1), [0, 1, 2, 3, 4, 5, 8], [], ⟨hi2, h4, hf2⟩, (show b.n - (i + 1) < b.n - i by omega), ⟨rfl, ⟨rfl, rfl, rfl, rfl, congrArg (fun z => some (SV.int .i64 z)) (i64_succ (by omega)), rfl, trivial⟩, ⟨rfl, b3, gwk rfl, rfl, rfl, rfl, rfl, trivial⟩⟩⟩
          | (exfalso; omega)
          | contradiction
          | trace_state
  · have ei : i = b.n := by omega
    subst ei
    rw [if_pos hf] at e1
    rw [e1, if_neg (by decide), eL, hl2]
    repeat' ((conv => whnf); first | ((first | apply br_dec | apply br_ndec) <;> intro h <;> try (exfalso; (try dsimp only at h); omega)) | ((first | apply br_seq | apply br_nseq | apply br_not | apply br_intro) <;> intro h) | refine cond_a ?_)
    all_goals (conv => whnf)
    all_goals first
      | exact ret_out (l := [0, 1, 2, 3, 4, 6]) rfl rfl ⟨rfl, trivial⟩ (allRw_cons allRw_nil)
      | (exfalso; omega)
      | trace_state
end Go.Proofs.YtkbidlijinclcaaGreatDoor

/- The examples of the chapter on positions. -/
namespace Go.Proofs.YtkbidlijinclcaaGreatDoor
open Go.RowKit Go.Sy
attribute [local irreducible] vcall vloop vcallD retP
set_option maxRecDepth 100000
set_option linter.unusedVariables false
set_option linter.unusedSimpArgs false

def sEur : ByteArray := ⟨#[69, 85, 82]⟩
def sUsd : ByteArray := ⟨#[85, 83, 68]⟩
def p3 : List ByteArray := [⟨#[97]⟩, ⟨#[98]⟩, ⟨#[99]⟩]
def k0 : Bk := ⟨3, p3, 0, [], [], [], 0⟩
def k1 : Bk := ⟨3, p3, 1, [sEur], [[-100, 100, 0, 0, 0, 0, 0, 0, 0, 0, 0, 0, 0, 0, 0, 0]], [0], 1⟩
def k2 : Bk := ⟨3, p3, 1, [sEur], [[-100, 70, 30, 0, 0, 0, 0, 0, 0, 0, 0, 0, 0, 0, 0, 0]], [0], 1⟩
def q0 : RL := ⟨[sEur], [sUsd], [11], [10], 1⟩
def l0 : List Px := [⟨⟨#[97]⟩, -110, sUsd⟩, ⟨⟨#[98]⟩, 77, sUsd⟩, ⟨⟨#[99]⟩, 33, sUsd⟩]
theorem fcEq {P : Program} {n : Nat} {f : FuncId} {args : List SV} {H H1 H2 : Heap} {r r' : SV} {n' : Nat} (h : FC P n f args H (isOut r H1 n')) (hr : r = r') (hh : H1 = H2) : FC P n f args H (isOut r' H2 n') := by subst hr hh; exact h
theorem p3_sort : sortS p3 = p3 := by
  exact sortS_of (List.Perm.refl _) (by unfold p3; refine .cons (fun a h => ?_) (.cons (fun a h => ?_) (.cons (fun a h => absurd h (List.not_mem_nil)) .nil)) <;> simp only [List.mem_cons, List.not_mem_nil, or_false] at h <;> (first | (rcases h with rfl | rfl <;> kernel_rfl) | (subst h; kernel_rfl)))
theorem one_sort (s : ByteArray) : sortS [s] = [s] := sortS_of (List.Perm.refl _) (List.pairwise_singleton _ _)
theorem row_ok {r : List Int} (hl : r.length = 16) (h : ∀ x ∈ r, -4503599627370496 ≤ x ∧ x ≤ 4503599627370496) : (∀ i, (([r] : List (List Int)).getD i z16).length = 16) ∧ ∀ i j, -4503599627370496 ≤ (([r] : List (List Int)).getD i z16).getD j 0 ∧ (([r] : List (List Int)).getD i z16).getD j 0 ≤ 4503599627370496 := by
  refine ⟨fun i => ?_, fun i j => ?_⟩
  · cases i with
    | zero => exact hl
    | succ i => rfl
  · cases i with
    | zero =>
      show -4503599627370496 ≤ r.getD j 0 ∧ r.getD j 0 ≤ 4503599627370496
      by_cases e : j < r.length
      · rw [List.getD, List.getElem?_eq_getElem e]; exact h _ (List.getElem_mem e)
      · rw [List.getD, List.getElem?_eq_none (by omega)]; decide
    | succ i =>
      show -4503599627370496 ≤ z16.getD j 0 ∧ z16.getD j 0 ≤ 4503599627370496
      rw [z16_get]; decide
theorem k0_ok : k0.Ok := ⟨by decide, rfl, fun i => rfl, fun i j => by show _ ≤ z16.getD j 0 ∧ z16.getD j 0 ≤ _; rw [z16_get]; decide⟩
theorem k1_ok : k1.Ok := ⟨by decide, rfl, (row_ok rfl (by decide)).1, (row_ok rfl (by decide)).2⟩
theorem k2_ok : k2.Ok := ⟨by decide, rfl, (row_ok rfl (by decide)).1, (row_ok rfl (by decide)).2⟩
theorem k2_cok : k2.Cok := ⟨by decide, by intro s hs; simp only [k2, List.mem_singleton] at hs; subst hs; decide, by simp [k2]⟩
theorem law_eur (n : Int) : Pure Tryz.prog 20 [.int .i64 n] (.agg [.int .i64 n, .str ⟨#[69, 85, 82]⟩]) := by
  refine fc_of mixed T_ok Tryz.func20 rfl (by kernel_rfl) (by kernel_rfl) (by kernel_rfl) ?_
  repeat' ((conv => whnf); first | ((first | apply br_dec | apply br_ndec) <;> intro h <;> try (exfalso; (try dsimp only at h); omega)) | ((first | apply br_seq | apply br_nseq | apply br_not | apply br_intro) <;> intro h) | refine cond_a ?_)
  all_goals (conv => whnf)
  all_goals exact ret_pure rfl
theorem law_awake : FC Tryz.prog 1 7 [] [(0, some (GB glT))] (isOut (.bool true) [] 1) := by
  have c0 : FC Tryz.prog 2 8 [.sl 1 0 0 3] [(1, some (.one true (.cols 3 [.sc (.strs p3)])))] (isOut (.tup [.ptr 2 0 0 0, .int .i64 0]) [(2, bkC false 3 4 3), (3, bkP false k0), (4, bkM false k0)] 5) := by
    have c := pos_New p3 3 rfl (by decide)
    have e : nwErr p3 = 0 := by kernel_rfl
    have e2 : nwB p3 = k0 := by unfold nwB; rw [p3_sort]; rfl
    unfold nwOut at c
    rw [e, if_neg (by decide), e2] at c
    exact c
  have m1 : FC Tryz.prog 4 10 [.ptr 1 0 0 0, .str ⟨#[97]⟩, .str ⟨#[98]⟩, .agg [.int .i64 100, .str ⟨#[69, 85, 82]⟩]] (bkH k0) (isOut (.int .i64 0) [(3, bkM false k1)] 4) := fcEq (pos_Move k0 k0_ok _ _ _ _) (by kernel_rfl) (by kernel_rfl)
  have m2 : FC Tryz.prog 4 10 [.ptr 1 0 0 0, .str ⟨#[98]⟩, .str ⟨#[99]⟩, .agg [.int .i64 30, .str ⟨#[69, 85, 82]⟩]] (bkH k1) (isOut (.int .i64 0) [(3, bkM false k2)] 4) := fcEq (pos_Move k1 k1_ok _ _ _ _) (by kernel_rfl) (by kernel_rfl)
  have m3 : FC Tryz.prog 4 10 [.ptr 1 0 0 0, .str ⟨#[97]⟩, .str ⟨#[97]⟩, .agg [.int .i64 1, .str ⟨#[69, 85, 82]⟩]] (bkH k2) (isOut (.int .i64 4) [(3, bkM false k2)] 4) := fcEq (pos_Move k2 k2_ok _ _ _ _) (by kernel_rfl) (by kernel_rfl)
  have n2 : FC Tryz.prog 4 12 [.ptr 1 0 0 0, .str ⟨#[98]⟩, .str ⟨#[69, 85, 82]⟩] (bkR k2) (isOut (.int .i64 70) [] 4) := fcEq (pos_Net k2 k2_ok _ _) (by kernel_rfl) rfl
  have v2 : FC Tryz.prog 5 19 [.ptr 1 0 0 0, .sl 4 0 0 1, .str ⟨#[85, 83, 68]⟩, .str ⟨#[85, 83, 68]⟩] (cvH k2 q0) (isOut (.tup [.sl 5 0 0 3, .int .i64 0]) [(5, some (.one false (pxB 3 (pxOf l0))))] 6) := by
    have c := pos_Convert k2 k2_ok k2_cok q0 (by decide) sUsd sUsd
    have hs : sortS k2.cs = [sEur] := one_sort sEur
    have e : k2.cvE q0 sUsd sUsd = 0 := by unfold Bk.cvE Bk.cvX Bk.cvS; rw [hs]; kernel_rfl
    have e2 : k2.cvL q0 sUsd sUsd = l0 := by unfold Bk.cvL Bk.cvS; rw [hs]; kernel_rfl
    unfold cvOut at c
    rw [e, if_neg (by decide), e2] at c
    exact c
  refine fc_of mixed T_ok Tryz.func7 rfl (by kernel_rfl) (by kernel_rfl) (by kernel_rfl) ?_
  repeat' ((conv => whnf); first | (refine vcall_pure (law_eur _) rfl rfl rfl ?_) | refine vcall_o (l := [0, 1]) (c0) ?_ | refine vcall_o (l := [0, 2, 3, 4]) (m1) ?_ | refine vcall_o (l := [0, 2, 3, 4]) (m2) ?_ | refine vcall_o (l := [0, 2, 3, 4, 5]) (v2) ?_ | refine vcall_o (l := [0, 2, 3, 4]) (n2) ?_ | refine vcall_o (l := [0, 2, 3, 4]) (m3) ?_ | ((first | apply br_dec | apply br_ndec) <;> intro h <;> try (exfalso; (try dsimp only at h); omega)) | ((first | apply br_seq | apply br_nseq | apply br_not | apply br_intro) <;> intro h) | refine cond_a ?_)
  all_goals (conv => whnf)
  all_goals first
    | exact ret_pure rfl
    | trace_state
end Go.Proofs.YtkbidlijinclcaaGreatDoor

/- Plain facts on the first place of a text in a list. No program in sight. -/
namespace Go.Sy
open Go.RowKit

theorem sidx_le (l : List ByteArray) (s : ByteArray) : sidx l s ≤ l.length := by
  induction l with
  | nil => simp [sidx]
  | cons x l ih =>
    simp only [sidx, seq]
    by_cases h : x = s
    · rw [decide_eq_true h]; simp
    · rw [decide_eq_false h]; simp; exact ih
theorem sidx_lt {l : List ByteArray} {s : ByteArray} : sidx l s < l.length ↔ s ∈ l := by
  induction l with
  | nil => simp [sidx]
  | cons x l ih =>
    simp only [sidx, seq]
    by_cases h : x = s
    · rw [decide_eq_true h]; simp [h]
    · rw [decide_eq_false h]
      have : ¬ s = x := fun e => h e.symm
      simp [this, ih]
theorem sidx_get {l : List ByteArray} {s : ByteArray} (h : sidx l s < l.length) : l[sidx l s]? = some s := by
  induction l with
  | nil => simp [sidx] at h
  | cons x l ih =>
    simp only [sidx, seq] at h ⊢
    by_cases e : x = s
    · rw [decide_eq_true e]; simp [e]
    · rw [decide_eq_false e] at h ⊢
      simp only [cond_false, List.length_cons, List.getElem?_cons_succ] at h ⊢
      exact ih (by omega)
theorem sidx_of_get {l : List ByteArray} (hd : l.Nodup) {i : Nat} {s : ByteArray} (h : l[i]? = some s) : sidx l s = i := by
  have hi : i < l.length := (List.getElem?_eq_some_iff.1 h).1
  have hm : s ∈ l := List.mem_iff_getElem?.2 ⟨i, h⟩
  have h2 := sidx_get (sidx_lt.2 hm)
  have h3 := sidx_lt.2 hm
  obtain ⟨_, e1⟩ := List.getElem?_eq_some_iff.1 h
  obtain ⟨_, e2⟩ := List.getElem?_eq_some_iff.1 h2
  exact (List.getElem_inj hd).1 (e2.trans e1.symm)
theorem put_key {l : List ByteArray} {s : ByteArray} : putL (sidx l s) s l = if sidx l s < l.length then l else l ++ [s] := by
  unfold putL
  split
  · rename_i h
    have := sidx_get h
    refine List.ext_getElem? fun i => ?_
    rw [List.getElem?_set]
    by_cases e : sidx l s = i
    · subst e; rw [if_pos rfl, if_pos h, this]
    · rw [if_neg e]
  · rfl

end Go.Sy

/- Plain facts on books: the rows as a function of the currency. No program in sight. -/
namespace Go.Proofs.YtkbidlijinclcaaGreatDoor
open Go.RowKit Go.Sy
set_option linter.unusedVariables false
set_option linter.unusedSimpArgs false

structure BkC (b : Bk) : Prop where
  cl : b.cs.length = b.m
  vl : b.vs.length = b.m
  nd : b.cs.Nodup
theorem row_at {b : Bk} (h : BkC b) {c : ByteArray} {j : Nat} (hj : b.cs[j]? = some c) : b.row c = b.vs.getD j z16 := by
  unfold Bk.row
  rw [Go.Sy.sidx_of_get h.nd hj]
theorem row_no {b : Bk} (h : BkC b) {c : ByteArray} (hc : ¬ c ∈ b.cs) : b.row c = z16 := by
  unfold Bk.row
  have : ¬ sidx b.cs c < b.cs.length := fun q => hc (Go.Sy.sidx_lt.1 q)
  rw [List.getD, List.getElem?_eq_none (by rw [h.vl, ← h.cl]; omega)]; rfl
theorem vs_of {b : Bk} (h : BkC b) {P : List Int → Prop} (hz : P z16) (hr : ∀ c, P (b.row c)) (i : Nat) : P (b.vs.getD i z16) := by
  by_cases e : i < b.m
  · have hj : b.cs[i]? = some (b.cs[i]'(by rw [h.cl]; exact e)) := List.getElem?_eq_getElem _
    have := hr (b.cs[i]'(by rw [h.cl]; exact e))
    rw [row_at h hj] at this
    exact this
  · rw [List.getD, List.getElem?_eq_none (by rw [h.vl]; omega)]; exact hz
theorem put_C {b : Bk} (h : BkC b) (c : ByteArray) (r : List Int) : BkC (b.put c r) := by
  have hle := Go.Sy.sidx_le b.cs c
  by_cases e : sidx b.cs c < b.m
  · have e2 : sidx b.cs c < b.cs.length := by rw [h.cl]; exact e
    refine ⟨?_, ?_, ?_⟩
    · show (putL _ _ _).length = if _ then _ else _
      rw [if_pos e, put_key, if_pos e2]; exact h.cl
    · show (putL _ _ _).length = if _ then _ else _
      rw [if_pos e]
      unfold putL
      rw [if_pos (by rw [h.vl]; exact e), List.length_set]; exact h.vl
    · show (putL _ _ _).Nodup
      rw [put_key, if_pos e2]; exact h.nd
  · have e2 : ¬ sidx b.cs c < b.cs.length := by rw [h.cl]; exact e
    refine ⟨?_, ?_, ?_⟩
    · show (putL _ _ _).length = if _ then _ else _
      rw [if_neg e, put_key, if_neg e2, List.length_append, h.cl]; rfl
    · show (putL _ _ _).length = if _ then _ else _
      rw [if_neg e]
      unfold putL
      rw [if_neg (by rw [h.vl]; exact e), List.length_append, h.vl]; rfl
    · show (putL _ _ _).Nodup
      rw [put_key, if_neg e2]
      refine List.nodup_append.2 ⟨h.nd, by simp, fun x hx y hy => ?_⟩
      simp only [List.mem_singleton] at hy
      subst hy
      intro q; subst q
      exact e2 (Go.Sy.sidx_lt.2 hx)
theorem put_row {b : Bk} (h : BkC b) (c : ByteArray) (r : List Int) (c' : ByteArray) : (b.put c r).row c' = if c' = c then r else b.row c' := by
  have hC := put_C h c r
  have hle := Go.Sy.sidx_le b.cs c
  by_cases e : sidx b.cs c < b.m
  · have e2 : sidx b.cs c < b.cs.length := by rw [h.cl]; exact e
    have ecs : (b.put c r).cs = b.cs := by show putL _ _ _ = _; rw [put_key, if_pos e2]
    have evs : (b.put c r).vs = b.vs.set (sidx b.cs c) r := by show putL _ _ _ = _; unfold putL; rw [if_pos (by rw [h.vl]; exact e)]
    show (b.put c r).vs.getD (sidx (b.put c r).cs c') z16 = _
    rw [ecs, evs]
    by_cases q : c' = c
    · subst q
      rw [if_pos rfl, List.getD, List.getElem?_set_self (by rw [h.vl]; exact e)]; rfl
    · rw [if_neg q]
      have : sidx b.cs c ≠ sidx b.cs c' := fun w => by
        have g1 := Go.Sy.sidx_get e2
        have g2 := Go.Sy.sidx_get (l := b.cs) (s := c') (by rw [← w]; exact e2)
        rw [← w, g1] at g2
        exact q (Option.some.inj g2).symm
      rw [List.getD, List.getElem?_set_ne this]; rfl
  · have e2 : ¬ sidx b.cs c < b.cs.length := by rw [h.cl]; exact e
    have ecs : (b.put c r).cs = b.cs ++ [c] := by show putL _ _ _ = _; rw [put_key, if_neg e2]
    have evs : (b.put c r).vs = b.vs ++ [r] := by show putL _ _ _ = _; unfold putL; rw [if_neg (by rw [h.vl]; exact e)]
    by_cases q : c' = c
    · subst q
      rw [if_pos rfl, row_at hC (j := b.m) (by rw [ecs, List.getElem?_append_right (by rw [h.cl]; omega), h.cl, Nat.sub_self]; rfl), evs, List.getD, List.getElem?_append_right (by rw [h.vl]; omega), h.vl, Nat.sub_self]; rfl
    · rw [if_neg q]
      by_cases hm : c' ∈ b.cs
      · obtain ⟨j, hj⟩ := List.mem_iff_getElem?.1 hm
        have hjl : j < b.m := by rw [← h.cl]; exact (List.getElem?_eq_some_iff.1 hj).1
        rw [row_at h hj, row_at hC (j := j) (by rw [ecs, List.getElem?_append_left (by rw [h.cl]; exact hjl)]; exact hj), evs, List.getD, List.getElem?_append_left (by rw [h.vl]; exact hjl)]; rfl
      · rw [row_no h hm, row_no hC (by rw [ecs]; simp [hm, q])]
theorem put_mem {b : Bk} (h : BkC b) (c : ByteArray) (r : List Int) (s : ByteArray) : s ∈ (b.put c r).cs ↔ s ∈ b.cs ∨ s = c := by
  show s ∈ putL _ _ _ ↔ _
  rw [put_key]
  split
  · rename_i e
    exact ⟨.inl, fun q => q.elim id (fun q => by subst q; exact Go.Sy.sidx_lt.1 e)⟩
  · simp
theorem del_C {b : Bk} (h : BkC b) (c : ByteArray) : BkC (b.del c) := by
  by_cases e : sidx b.cs c < b.m
  · refine ⟨?_, ?_, ?_⟩
    · show (b.cs.eraseIdx _).length = if _ then _ else _
      rw [if_pos e, List.length_eraseIdx_of_lt (by rw [h.cl]; exact e), h.cl]
    · show (b.vs.eraseIdx _).length = if _ then _ else _
      rw [if_pos e, List.length_eraseIdx_of_lt (by rw [h.vl]; exact e), h.vl]
    · exact h.nd.sublist (List.eraseIdx_sublist _ _)
  · refine ⟨?_, ?_, ?_⟩
    · show (b.cs.eraseIdx _).length = if _ then _ else _
      rw [if_neg e, List.eraseIdx_of_length_le (by rw [h.cl]; omega), h.cl]
    · show (b.vs.eraseIdx _).length = if _ then _ else _
      rw [if_neg e, List.eraseIdx_of_length_le (by rw [h.vl]; omega), h.vl]
    · exact h.nd.sublist (List.eraseIdx_sublist _ _)
theorem del_mem {b : Bk} (h : BkC b) (c s : ByteArray) : s ∈ (b.del c).cs ↔ s ∈ b.cs ∧ s ≠ c := by
  show s ∈ b.cs.eraseIdx _ ↔ _
  constructor
  · intro q
    refine ⟨(List.eraseIdx_sublist _ _).subset q, fun w => ?_⟩
    subst w
    obtain ⟨j, hj⟩ := List.mem_iff_getElem?.1 q
    rw [List.getElem?_eraseIdx] at hj
    by_cases e : j < sidx b.cs s
    · rw [if_pos e] at hj
      have := Go.Sy.sidx_of_get h.nd hj; omega
    · rw [if_neg e] at hj
      have := Go.Sy.sidx_of_get h.nd hj; omega
  · rintro ⟨q, w⟩
    obtain ⟨j, hj⟩ := List.mem_iff_getElem?.1 q
    have hne : j ≠ sidx b.cs c := fun e => by
      have hl : sidx b.cs c < b.cs.length := by rw [← e]; exact (List.getElem?_eq_some_iff.1 hj).1
      have g := Go.Sy.sidx_get hl
      rw [← e, hj] at g
      exact w (Option.some.inj g)
    refine List.mem_iff_getElem?.2 ?_
    by_cases e : j < sidx b.cs c
    · exact ⟨j, by rw [List.getElem?_eraseIdx, if_pos e]; exact hj⟩
    · exact ⟨j - 1, by rw [List.getElem?_eraseIdx, if_neg (by omega), show j - 1 + 1 = j by omega]; exact hj⟩
theorem del_row {b : Bk} (h : BkC b) (c c' : ByteArray) : (b.del c).row c' = if c' = c then z16 else b.row c' := by
  have hC := del_C h c
  by_cases q : c' = c
  · subst q
    rw [if_pos rfl, row_no hC (fun w => ((del_mem h c' c').1 w).2 rfl)]
  · rw [if_neg q]
    by_cases hm : c' ∈ b.cs
    · obtain ⟨j, hj⟩ := List.mem_iff_getElem?.1 hm
      have hne : j ≠ sidx b.cs c := fun e => by
        have hl : sidx b.cs c < b.cs.length := by rw [← e]; exact (List.getElem?_eq_some_iff.1 hj).1
        have g := Go.Sy.sidx_get hl
        rw [← e, hj] at g
        exact q (Option.some.inj g)
      rw [row_at h hj]
      have ecs : (b.del c).cs = b.cs.eraseIdx (sidx b.cs c) := rfl
      have evs : (b.del c).vs = b.vs.eraseIdx (sidx b.cs c) := rfl
      by_cases e : j < sidx b.cs c
      · rw [row_at hC (j := j) (by rw [ecs, List.getElem?_eraseIdx, if_pos e]; exact hj), evs, List.getD, List.getElem?_eraseIdx, if_pos e]; rfl
      · rw [row_at hC (j := j - 1) (by rw [ecs, List.getElem?_eraseIdx, if_neg (by omega), show j - 1 + 1 = j by omega]; exact hj), evs, List.getD, List.getElem?_eraseIdx, if_neg (by omega), show j - 1 + 1 = j by omega]; rfl
    · rw [row_no h hm, row_no hC (fun w => hm ((del_mem h c c').1 w).1)]
theorem mv1_C {b : Bk} (h : BkC b) (c : ByteArray) (r : List Int) : BkC (b.mv1 c r) := by
  unfold Bk.mv1
  split
  · exact del_C (put_C h c r) c
  · exact put_C h c r
theorem mv1_row {b : Bk} (h : BkC b) (c : ByteArray) (r : List Int) (c' : ByteArray) : (b.mv1 c r).row c' = if c' = c then r else b.row c' := by
  unfold Bk.mv1
  by_cases e : r = z16
  · rw [if_pos e, del_row (put_C h c r), put_row h]
    by_cases q : c' = c
    · rw [if_pos q, if_pos q, e]
    · rw [if_neg q, if_neg q]
  · rw [if_neg e, put_row h]
theorem mv1_mem {b : Bk} (h : BkC b) (c : ByteArray) (r : List Int) (s : ByteArray) : s ∈ (b.mv1 c r).cs ↔ (s ∈ b.cs ∧ s ≠ c) ∨ (s = c ∧ r ≠ z16) := by
  unfold Bk.mv1
  by_cases e : r = z16
  · rw [if_pos e, del_mem (put_C h c r), put_mem h]
    constructor
    · rintro ⟨q | q, w⟩
      · exact .inl ⟨q, w⟩
      · exact absurd q w
    · rintro (q | q)
      · exact ⟨.inl q.1, q.2⟩
      · exact absurd e q.2
  · rw [if_neg e, put_mem h]
    constructor
    · rintro (q | q)
      · by_cases w : s = c
        · exact .inr ⟨w, e⟩
        · exact .inl ⟨q, w⟩
      · exact .inr ⟨q, e⟩
    · rintro (q | q)
      · exact .inl q.1
      · exact .inr q.1
/-- A book's invariant, with a bound of its positions. -/
structure BkI (b : Bk) (B : Int) : Prop where
  C : BkC b
  n16 : b.n ≤ 16
  psl : b.ps.length = b.n
  nz : ∀ c, c ∈ b.cs → b.row c ≠ z16
  c3 : ∀ c, c ∈ b.cs → curB c = true
  rl : ∀ c, (b.row c).length = 16
  rb : ∀ c j, -B ≤ (b.row c).getD j 0 ∧ (b.row c).getD j 0 ≤ B
  rs : ∀ c, (b.row c).sum = 0
  rt : ∀ c j, b.n ≤ j → (b.row c).getD j 0 = 0
theorem BkI.ok {b : Bk} {B : Int} (h : BkI b B) (hB : B ≤ 4503599627370496) : b.Ok := by
  have h0 := h.rb ⟨#[]⟩ 0
  refine ⟨h.n16, h.psl, vs_of h.C (P := fun r => r.length = 16) rfl h.rl, fun i j => ?_⟩
  refine vs_of h.C (P := fun r => -4503599627370496 ≤ r.getD j 0 ∧ r.getD j 0 ≤ 4503599627370496) ?_ (fun c => ?_) i
  · show _ ≤ z16.getD j 0 ∧ z16.getD j 0 ≤ _
    rw [z16_get]; decide
  · show -4503599627370496 ≤ (b.row c).getD j 0 ∧ (b.row c).getD j 0 ≤ 4503599627370496
    have := h.rb c j; omega
theorem BkI.cok {b : Bk} {B : Int} (h : BkI b B) (hm : b.m ≤ 100000) : b.Cok := by
  refine ⟨hm, fun s hs => ?_, h.C.nd⟩
  have := h.c3 s hs
  unfold curB at this
  simp only [Bool.and_eq_true, decide_eq_true_eq] at this
  omega
theorem mem_row {b : Bk} {B : Int} (h : BkI b B) (c : ByteArray) : c ∈ b.cs ↔ b.row c ≠ z16 :=
  ⟨h.nz c, fun q => Classical.byContradiction fun w => q (row_no h.C w)⟩
theorem getD_ext {l m : List Int} {n : Nat} (h1 : l.length = n) (h2 : m.length = n) (h : ∀ j, l.getD j 0 = m.getD j 0) : l = m := by
  refine List.ext_getElem (by omega) fun i hi hj => ?_
  have := h i
  rwa [List.getD, List.getD, List.getElem?_eq_getElem hi, List.getElem?_eq_getElem hj] at this
theorem sum_set (l : List Int) (i : Nat) (x : Int) (h : i < l.length) : (l.set i x).sum = l.sum - l.getD i 0 + x := by
  induction l generalizing i with
  | nil => simp at h
  | cons y l ih =>
    cases i with
    | zero => simp only [List.set_cons_zero, List.sum_cons, List.getD_cons_zero]; omega
    | succ i =>
      simp only [List.length_cons] at h
      simp only [List.set_cons_succ, List.sum_cons, List.getD_cons_succ]
      rw [ih i (by omega)]; omega
theorem mvRow_get {r : List Int} {F T : Nat} {a : Int} (hl : r.length = 16) (hF : F < 16) (hT : T < 16) (hne : F ≠ T) (j : Nat) : (mvRow r F T a).getD j 0 = r.getD j 0 + ((if j = F then -a else 0) + (if j = T then a else 0)) := by
  unfold mvRow
  rw [set_getD2 _ _ _ _ (by rw [List.length_set, hl]; exact hT), set_getD2 _ _ _ _ (by rw [hl]; exact hF)]
  by_cases e : j = T
  · subst e
    rw [if_pos rfl, if_neg (fun q => hne q.symm), if_pos rfl]; omega
  · rw [if_neg e, if_neg e]
    by_cases e2 : j = F
    · subst e2; rw [if_pos rfl, if_pos rfl]; omega
    · rw [if_neg e2, if_neg e2]; omega
theorem mvRow_sum {r : List Int} {F T : Nat} {a : Int} (hl : r.length = 16) (hF : F < 16) (hT : T < 16) (hne : F ≠ T) : (mvRow r F T a).sum = r.sum := by
  unfold mvRow
  rw [sum_set _ _ _ (by rw [List.length_set, hl]; exact hT), sum_set _ _ _ (by rw [hl]; exact hF), set_getD2 _ _ _ _ (by rw [hl]; exact hF), if_neg (fun q => hne q.symm)]
  omega
end Go.Proofs.YtkbidlijinclcaaGreatDoor

/- Plain facts on sequences of moves. No program in sight. -/
namespace Go.Proofs.YtkbidlijinclcaaGreatDoor
open Go.RowKit Go.Sy
set_option linter.unusedVariables false
set_option linter.unusedSimpArgs false

/-- The error of a move that no position decides. -/
def stE (b : Bk) (f t c : ByteArray) (a : Int) : Int :=
  if idI b.ps f b.n < 0 ∨ idI b.ps t b.n < 0 then 6
  else if idI b.ps f b.n = idI b.ps t b.n then 4
  else if mchk a c ≠ 0 then mchk a c
  else if a < 0 then 4 else 0
theorem stE_ok {b : Bk} {f t c : ByteArray} {a : Int} (h : stE b f t c a = 0) : sidx b.ps f < b.n ∧ sidx b.ps t < b.n ∧ sidx b.ps f ≠ sidx b.ps t ∧ curB c = true ∧ 0 ≤ a ∧ a ≤ 4503599627370496 ∧ mchk a c = 0 := by
  unfold stE at h
  split at h
  · cases h
  · rename_i h1
    split at h
    · cases h
    · rename_i h2
      split at h
      · rename_i h3; exact absurd h h3
      · rename_i h3
        split at h
        · cases h
        · rename_i h4
          have h3' : mchk a c = 0 := by simpa using h3
          have hm := mchk_or a c
          rw [h3'] at hm
          have g1 : sidx b.ps f < b.n := by
            rcases Nat.lt_or_ge (sidx b.ps f) b.n with q | q
            · exact q
            · exact absurd (Or.inl (by rw [idI_no (by omega)]; decide)) h1
          have g2 : sidx b.ps t < b.n := by
            rcases Nat.lt_or_ge (sidx b.ps t) b.n with q | q
            · exact q
            · exact absurd (Or.inr (by rw [idI_no (by omega)]; decide)) h1
          rw [idI_lt g1, idI_lt g2] at h2
          rcases hm with hm | hm
          · omega
          · exact ⟨g1, g2, by omega, hm.2.1, by omega, hm.2.2.2, h3'⟩
theorem mvE_st (b : Bk) (f t c : ByteArray) (a : Int) : mvE b f t c a = if stE b f t c a ≠ 0 then stE b f t c a else if fitB ((b.row c).getD (sidx b.ps f) 0 - a) = true ∧ fitB ((b.row c).getD (sidx b.ps t) 0 + a) = true then 0 else 4 := by
  unfold mvE stE
  split
  · rfl
  · split
    · rfl
    · split
      · rfl
      · split
        · rfl
        · rfl
/-- A move that is not refused keeps the invariant. -/
theorem mv1_I {b : Bk} {B B' : Int} (h : BkI b B) {f t c : ByteArray} {a : Int} (hs : stE b f t c a = 0) (hB : B ≤ B') (h1 : -B' ≤ (b.row c).getD (sidx b.ps f) 0 - a ∧ (b.row c).getD (sidx b.ps f) 0 - a ≤ B') (h2 : -B' ≤ (b.row c).getD (sidx b.ps t) 0 + a ∧ (b.row c).getD (sidx b.ps t) 0 + a ≤ B') : BkI (b.mv1 c (mvRow (b.row c) (sidx b.ps f) (sidx b.ps t) a)) B' := by
  obtain ⟨hF, hT, hne, hc, ha, _⟩ := stE_ok hs
  have hn := h.n16
  have hps : (b.mv1 c (mvRow (b.row c) (sidx b.ps f) (sidx b.ps t) a)).ps = b.ps := by unfold Bk.mv1; split <;> rfl
  have hnn : (b.mv1 c (mvRow (b.row c) (sidx b.ps f) (sidx b.ps t) a)).n = b.n := by unfold Bk.mv1; split <;> rfl
  have hg := mvRow_get (a := a) (h.rl c) (show sidx b.ps f < 16 by omega) (show sidx b.ps t < 16 by omega) hne
  refine ⟨mv1_C h.C _ _, by rw [hnn]; exact hn, by rw [hps, hnn]; exact h.psl, fun s q => ?_, fun s q => ?_, fun s => ?_, fun s j => ?_, fun s => ?_, fun s j q => ?_⟩
  · rw [mv1_mem h.C] at q
    rw [mv1_row h.C]
    rcases q with q | q
    · rw [if_neg q.2]; exact h.nz s q.1
    · rw [if_pos q.1]; exact q.2
  · rw [mv1_mem h.C] at q
    rcases q with q | q
    · exact h.c3 s q.1
    · rw [q.1]; exact hc
  · rw [mv1_row h.C]
    split
    · rw [List.length_set, List.length_set]; exact h.rl c
    · exact h.rl s
  · rw [mv1_row h.C]
    split
    · rw [hg j]
      have := h.rb c j
      by_cases e1 : j = sidx b.ps f
      · rw [if_pos e1, if_neg (by omega), e1]; omega
      · by_cases e2 : j = sidx b.ps t
        · rw [if_neg e1, if_pos e2, e2]; omega
        · rw [if_neg e1, if_neg e2]; omega
    · have := h.rb s j; omega
  · rw [mv1_row h.C]
    split
    · rw [mvRow_sum (h.rl c) (by omega) (by omega) hne]; exact h.rs c
    · exact h.rs s
  · rw [hnn] at q
    rw [mv1_row h.C]
    split
    · rw [hg j, if_neg (by omega), if_neg (by omega), h.rt c j q]; rfl
    · exact h.rt s j q
theorem mv_ps (b : Bk) (f t c : ByteArray) (a : Int) : (b.mv f t c a).ps = b.ps ∧ (b.mv f t c a).n = b.n := by
  unfold Bk.mv Bk.mv1
  split
  · split <;> exact ⟨rfl, rfl⟩
  · exact ⟨rfl, rfl⟩
theorem mv_m (b : Bk) (f t c : ByteArray) (a : Int) : (b.mv f t c a).m ≤ b.m + 1 := by
  have hp : ∀ r, (b.put c r).m ≤ b.m + 1 := fun r => by
    unfold Bk.put; dsimp only
    split <;> omega
  have hd : ∀ b' : Bk, (b'.del c).m ≤ b'.m := fun b' => by
    unfold Bk.del; dsimp only
    split <;> omega
  unfold Bk.mv Bk.mv1
  split
  · split
    · exact Nat.le_trans (hd _) (hp _)
    · exact hp _
  · omega
/-- Any move keeps the invariant at the greatest bound. -/
theorem mv_I {b : Bk} (h : BkI b 4503599627370496) (f t c : ByteArray) (a : Int) : BkI (b.mv f t c a) 4503599627370496 := by
  by_cases e : mvE b f t c a = 0
  · have e2 := e
    rw [mvE_st] at e2
    by_cases s : stE b f t c a = 0
    · rw [if_neg (by simpa using s)] at e2
      split at e2
      · rename_i g
        rw [fitB_t, fitB_t] at g
        unfold Bk.mv
        rw [if_pos e]
        exact mv1_I h s (Int.le_refl _) g.1 g.2
      · cases e2
    · rw [if_pos s] at e2; exact absurd e2 s
  · rw [mv_err e]; exact h
/-- What a move adds to a position. -/
def dM (b : Bk) (f t c : ByteArray) (a : Int) (c' : ByteArray) (j : Nat) : Int := if stE b f t c a = 0 ∧ c' = c then (if j = sidx b.ps f then -a else 0) + (if j = sidx b.ps t then a else 0) else 0
theorem mv_row {b : Bk} {B : Int} (h : BkI b B) {f t c : ByteArray} {a : Int} (he : mvE b f t c a = stE b f t c a) (c' : ByteArray) (j : Nat) : ((b.mv f t c a).row c').getD j 0 = (b.row c').getD j 0 + dM b f t c a c' j := by
  unfold dM
  by_cases s : stE b f t c a = 0
  · obtain ⟨hF, hT, hne, hc, ha, _⟩ := stE_ok s
    have hn := h.n16
    unfold Bk.mv
    rw [if_pos (by rw [he]; exact s), mv1_row h.C]
    by_cases q : c' = c
    · rw [if_pos q, if_pos ⟨s, q⟩, mvRow_get (h.rl c) (by omega) (by omega) hne, q]
    · rw [if_neg q, if_neg (fun w => q w.2)]; omega
  · rw [mv_err (by rw [he]; exact s), if_neg (fun w => s w.1)]; omega
structure Mv where
  f : ByteArray
  t : ByteArray
  a : Int
  c : ByteArray
abbrev Bk.go (b : Bk) (m : Mv) : Bk := b.mv m.f m.t m.c m.a
def Bk.all (b : Bk) (M : List Mv) : Bk := M.foldl Bk.go b
end Go.Proofs.YtkbidlijinclcaaGreatDoor

/- The law PositionSums. -/
namespace Go.Proofs.YtkbidlijinclcaaGreatDoor
open Go.RowKit Go.Sy
attribute [local irreducible] vcall vloop vcallD retP
set_option maxRecDepth 100000
set_option linter.unusedVariables false
set_option linter.unusedSimpArgs false

end Go.Proofs.YtkbidlijinclcaaGreatDoor

/- Contracts of the law's helpers; contracts of a book as the laws see it. -/
namespace Go.Proofs.YtkbidlijinclcaaGreatDoor
open Go.RowKit Go.Sy
attribute [local irreducible] vcall vloop vcallD retP
set_option maxRecDepth 100000
set_option linter.unusedVariables false
set_option linter.unusedSimpArgs false

theorem i64_succ' {k : Nat} (h : k < 9223372036854775807) : IntKind.i64.wrap ((k : Int) + 1) = ((k + 1 : Nat) : Int) := by rw [w64_in (by omega) (by omega)]; rfl
abbrev mvB (n : Nat) (mf mt : List ByteArray) (ma : List Int) (mc : List ByteArray) : Blk := .cols n [.sc (.strs mf), .sc (.strs mt), .sc (.ints .i64 ma), .sc (.strs mc)]
abbrev rlB (q : RL) : Blk := .cols q.l [.sc (.strs q.f), .sc (.strs q.t), .sc (.ints .i64 q.n), .sc (.ints .i64 q.d)]
def szK (mf mt mc : List ByteArray) : Nat → Bool
  | 0 => true
  | k + 1 => szK mf mt mc k && !decide (100 < IntKind.i64.wrap (IntKind.i64.wrap (((mf.getD k ⟨#[]⟩).size : Int) + ((mt.getD k ⟨#[]⟩).size : Int)) + ((mc.getD k ⟨#[]⟩).size : Int)))
theorem szK_stop {mf mt mc : List ByteArray} {k : Nat} (h : 100 < IntKind.i64.wrap (IntKind.i64.wrap (((mf.getD k ⟨#[]⟩).size : Int) + ((mt.getD k ⟨#[]⟩).size : Int)) + ((mc.getD k ⟨#[]⟩).size : Int))) : ∀ n, k < n → szK mf mt mc n = false
  | 0, q => by omega
  | n + 1, q => by
    simp only [szK]
    by_cases e : k = n
    · subst e; rw [decide_eq_true h]; simp
    · rw [szK_stop h n (by omega), Bool.false_and]
def rzK (rf rt : List ByteArray) : Nat → Bool
  | 0 => true
  | k + 1 => rzK rf rt k && !decide (50 < IntKind.i64.wrap (((rf.getD k ⟨#[]⟩).size : Int) + ((rt.getD k ⟨#[]⟩).size : Int)))
theorem rzK_stop {rf rt : List ByteArray} {k : Nat} (h : 50 < IntKind.i64.wrap (((rf.getD k ⟨#[]⟩).size : Int) + ((rt.getD k ⟨#[]⟩).size : Int))) : ∀ n, k < n → rzK rf rt n = false
  | 0, q => by omega
  | n + 1, q => by
    simp only [rzK]
    by_cases e : k = n
    · subst e; rw [decide_eq_true h]; simp
    · rw [rzK_stop h n (by omega), Bool.false_and]
def smB (mf mt mc : List ByteArray) (n : Nat) (q : RL) : Bool := szK mf mt mc n && (rzK q.f q.t q.l && (decide (n ≤ 60) && decide (q.l ≤ 20)))
theorem smB_ok {mf mt mc : List ByteArray} {n : Nat} {q : RL} (h : smB mf mt mc n q = true) : n ≤ 60 ∧ q.l ≤ 20 := by
  unfold smB at h
  simp only [Bool.and_eq_true, decide_eq_true_eq] at h
  exact h.2.2
theorem law_small (n : Nat) (mf mt : List ByteArray) (ma : List Int) (mc : List ByteArray) (q : RL) (hn : n ≤ maxLen) (hq : q.l ≤ maxLen) : FC Tryz.prog 3 6 [.sl 1 0 0 n, .sl 2 0 0 q.l] [(1, some (.one true (mvB n mf mt ma mc))), (2, some (.one true (rlB q)))] (isOut (.bool (smB mf mt mc n q)) [] 3) := by
  have eM : maxLen = 9223372036854775807 := rfl
  refine fc_of mixed T_ok Tryz.func6 rfl (by kernel_rfl) (by kernel_rfl) (by kernel_rfl) ?_
  repeat' ((conv => whnf); first | ((first | apply br_dec | apply br_ndec) <;> intro h <;> try (exfalso; (try dsimp only at h); omega)) | ((first | apply br_seq | apply br_nseq | apply br_not | apply br_intro) <;> intro h) | refine cond_a ?_)
  all_goals (conv => whnf)
  refine vloop_lp (fun k : Nat => ⟨[(0, .sl 1 0 0 n), (1, .sl 2 0 0 q.l), (5, .int .i64 k)], [(1, some (.one true (mvB n mf mt ma mc))), (2, some (.one true (rlB q)))], 3⟩) (fun k => k ≤ n ∧ szK mf mt mc k = true) (fun k => n - k) 0 [0, 1, 2] [] ⟨rfl, ⟨rfl, rfl, rfl, trivial⟩, ⟨rfl, rfl, trivial⟩⟩ ⟨Nat.zero_le _, rfl⟩ ?_
  rintro k ⟨hk, hs⟩
  by_cases hk2 : k < n
  · by_cases g : 100 < IntKind.i64.wrap (IntKind.i64.wrap (((mf.getD k ⟨#[]⟩).size : Int) + ((mt.getD k ⟨#[]⟩).size : Int)) + ((mc.getD k ⟨#[]⟩).size : Int))
    · have e : smB mf mt mc n q = false := by unfold smB; rw [szK_stop g n hk2, Bool.false_and]
      rw [e]
      repeat' ((conv => whnf); first | ((first | apply br_dec | apply br_ndec) <;> intro h <;> try (exfalso; (try dsimp only at h); omega)) | ((first | apply br_seq | apply br_nseq | apply br_not | apply br_intro) <;> intro h) | refine cond_a ?_)
      all_goals (conv => whnf)
      all_goals first
        | exact ret_out (l := [0, 1, 2]) rfl rfl trivial allRw_nil
        | (exfalso; first | omega | contradiction)
        | trace_state
    · have e : szK mf mt mc (k + 1) = true := by simp only [szK]; rw [hs, decide_eq_false g]; rfl
      repeat' ((conv => whnf); first | ((first | apply br_dec | apply br_ndec) <;> intro h <;> try (exfalso; (try dsimp only at h); omega)) | ((first | apply br_seq | apply br_nseq | apply br_not | apply br_intro) <;> intro h) | refine cond_a ?_)
      all_goals (conv => whnf)
      all_goals first
        | exact ⟨k + 1, [0, 1, 2], [], ⟨hk2, e⟩, (show n - (k + 1) < n - k by omega), ⟨rfl, ⟨rfl, rfl, congrArg (fun z => some (SV.int .i64 z)) (i64_succ' (by omega)), trivial⟩, ⟨rfl, rfl, trivial⟩⟩⟩
        | (exfalso; first | omega | contradiction)
        | trace_state
  have ek : k = n := by omega
  subst ek
  repeat' ((conv => whnf); first | ((first | apply br_dec | apply br_ndec) <;> intro h <;> try (exfalso; (try dsimp only at h); omega)) | ((first | apply br_seq | apply br_nseq | apply br_not | apply br_intro) <;> intro h) | refine cond_a ?_)
  all_goals (conv => whnf)
  all_goals first
    | (exfalso; omega)
    | skip
  refine vloop_lp (fun j : Nat => ⟨[(0, .sl 1 0 0 k), (1, .sl 2 0 0 q.l), (6, .int .i64 j)], [(1, some (.one true (mvB k mf mt ma mc))), (2, some (.one true (rlB q)))], 3⟩) (fun j => j ≤ q.l ∧ rzK q.f q.t j = true) (fun j => q.l - j) 0 [0, 1, 2] [] ⟨rfl, ⟨rfl, rfl, rfl, trivial⟩, ⟨rfl, rfl, trivial⟩⟩ ⟨Nat.zero_le _, rfl⟩ ?_
  rintro j ⟨hj, hz⟩
  by_cases hj2 : j < q.l
  · by_cases g : 50 < IntKind.i64.wrap (((q.f.getD j ⟨#[]⟩).size : Int) + ((q.t.getD j ⟨#[]⟩).size : Int))
    · have e : smB mf mt mc k q = false := by unfold smB; rw [rzK_stop g q.l hj2, Bool.false_and, Bool.and_false]
      rw [e]
      repeat' ((conv => whnf); first | ((first | apply br_dec | apply br_ndec) <;> intro h <;> try (exfalso; (try dsimp only at h); omega)) | ((first | apply br_seq | apply br_nseq | apply br_not | apply br_intro) <;> intro h) | refine cond_a ?_)
      all_goals (conv => whnf)
      all_goals first
        | exact ret_out (l := [0, 1, 2]) rfl rfl trivial allRw_nil
        | (exfalso; first | omega | contradiction)
        | trace_state
    · have e : rzK q.f q.t (j + 1) = true := by simp only [rzK]; rw [hz, decide_eq_false g]; rfl
      repeat' ((conv => whnf); first | ((first | apply br_dec | apply br_ndec) <;> intro h <;> try (exfalso; (try dsimp only at h); omega)) | ((first | apply br_seq | apply br_nseq | apply br_not | apply br_intro) <;> intro h) | refine cond_a ?_)
      all_goals (conv => whnf)
      all_goals first
        | exact ⟨j + 1, [0, 1, 2], [], ⟨hj2, e⟩, (show q.l - (j + 1) < q.l - j by omega), ⟨rfl, ⟨rfl, rfl, congrArg (fun z => some (SV.int .i64 z)) (i64_succ' (by omega)), trivial⟩, ⟨rfl, rfl, trivial⟩⟩⟩
        | (exfalso; first | omega | contradiction)
        | trace_state
  have ej : j = q.l := by omega
  have e : smB mf mt mc k q = (decide (k ≤ 60) && decide (q.l ≤ 20)) := by unfold smB; rw [hs, ← ej, hz]; rfl
  rw [e]
  by_cases w1 : k ≤ 60 <;> by_cases w2 : q.l ≤ 20
  all_goals simp only [w1, w2, decide_true, decide_false, Bool.and_true, Bool.and_false, Bool.true_and, Bool.false_and]
  all_goals repeat' ((conv => whnf); first | ((first | apply br_dec | apply br_ndec) <;> intro h <;> try (exfalso; (try dsimp only at h); omega)) | ((first | apply br_seq | apply br_nseq | apply br_not | apply br_intro) <;> intro h) | refine cond_a ?_)
  all_goals (conv => whnf)
  all_goals first
    | exact ret_out (l := [0, 1, 2]) rfl rfl trivial allRw_nil
    | exact ret_out (l := [0, 1, 2]) rfl (congrArg SV.bool (decide_eq_true (by omega))) trivial allRw_nil
    | exact ret_out (l := [0, 1, 2]) rfl (congrArg SV.bool (decide_eq_false (by omega))) trivial allRw_nil
    | (exfalso; omega)
    | trace_state
theorem law_same (pc : PxC) (n : Nat) (hl : n ≤ 100000) : FC Tryz.prog 3 14 [.sl 1 0 0 n, .sl 2 0 0 n] [(1, some (.one true (pxB n pc))), (2, some (.one true (pxB n pc)))] (isOut (.bool true) [] 3) := by
  refine fc_of mixed T_ok Tryz.func14 rfl (by kernel_rfl) (by kernel_rfl) (by kernel_rfl) ?_
  repeat' ((conv => whnf); first | ((first | apply br_dec | apply br_ndec) <;> intro h <;> try (exfalso; (try dsimp only at h); omega)) | ((first | apply br_seq | apply br_nseq | apply br_not | apply br_intro) <;> intro h) | refine cond_a ?_)
  all_goals (conv => whnf)
  all_goals first
    | (exfalso; first | omega | contradiction)
    | skip
  refine vloop_lp (fun k : Nat => ⟨[(0, .sl 1 0 0 n), (1, .sl 2 0 0 n), (5, .int .i64 k)], [(1, some (.one true (pxB n pc))), (2, some (.one true (pxB n pc)))], 3⟩) (fun k => k ≤ n) (fun k => n - k) 0 [0, 1, 2] [] ⟨rfl, ⟨rfl, rfl, rfl, trivial⟩, ⟨rfl, rfl, trivial⟩⟩ (Nat.zero_le _) ?_
  intro k hk
  by_cases hk2 : k < n
  · repeat' ((conv => whnf); first | ((first | apply br_dec | apply br_ndec) <;> intro h <;> try (exfalso; (try dsimp only at h); omega)) | ((first | apply br_seq | apply br_nseq | apply br_not | apply br_intro) <;> intro h) | refine cond_a ?_)
    all_goals (conv => whnf)
    all_goals first
      | (exfalso; first | omega | contradiction | (simp [seq] at h; done))
      | exact ⟨k + 1, [0, 1, 2], [], hk2, (show n - (k + 1) < n - k by omega), ⟨rfl, ⟨rfl, rfl, congrArg (fun z => some (SV.int .i64 z)) (i64_succ (by omega)), trivial⟩, ⟨rfl, rfl, trivial⟩⟩⟩
      | trace_state
  · repeat' ((conv => whnf); first | ((first | apply br_dec | apply br_ndec) <;> intro h <;> try (exfalso; (try dsimp only at h); omega)) | ((first | apply br_seq | apply br_nseq | apply br_not | apply br_intro) <;> intro h) | refine cond_a ?_)
    all_goals (conv => whnf)
    all_goals first
      | exact ret_out (l := [0, 1, 2]) rfl rfl trivial allRw_nil
      | (exfalso; first | omega | contradiction)
      | trace_state
/-- New for any number of names. -/
theorem pos_NewA (ps : List ByteArray) (n : Nat) (hl : ps.length = n) : FC Tryz.prog 2 8 [.sl 1 0 0 n] [(1, some (.one true (.cols n [.sc (.strs ps)])))] (nwOut ps) := by
  by_cases h16 : 16 < n
  · unfold nwOut nwErr
    rw [hl, if_pos h16, if_pos (by decide)]
    refine fc_of mixed T_ok Tryz.func8 rfl (by kernel_rfl) (by kernel_rfl) (by kernel_rfl) ?_
    repeat' ((conv => whnf); first | ((first | apply br_dec | apply br_ndec) <;> intro h <;> try (exfalso; (try dsimp only at h); omega)) | ((first | apply br_seq | apply br_nseq | apply br_not | apply br_intro) <;> intro h) | refine cond_a ?_)
    all_goals (conv => whnf)
    all_goals first
      | exact ret_out (l := [0, 1]) rfl rfl trivial allRw_nil
      | (exfalso; omega)
      | trace_state
  · exact pos_New ps n hl (by omega)
theorem nwK_mono {ps : List ByteArray} : ∀ {n k : Nat}, nwK ps n = 0 → k ≤ n → nwK ps k = 0
  | 0, k, h, hk => by rw [show k = 0 by omega]; rfl
  | n + 1, k, h, hk => by
    have h0 : nwK ps n = 0 := by
      simp only [nwK] at h
      by_cases q : nwK ps n = 0
      · exact q
      · rw [if_pos q] at h; exact h
    by_cases e : k = n + 1
    · rw [e]; exact h
    · exact nwK_mono h0 (by omega)
theorem nw_ok {ps : List ByteArray} (h : nwErr ps = 0) : ps.length ≤ 16 ∧ ps.Nodup ∧ ∀ s ∈ ps, nmB s = true := by
  unfold nwErr at h
  split at h
  · cases h
  · have hE : ∀ k, k < ps.length → nwE ps k = 0 := fun k hk => by
      have h1 := nwK_mono h (show k + 1 ≤ ps.length from hk)
      have h0 := nwK_mono h (show k ≤ ps.length by omega)
      simp only [nwK] at h1
      rwa [if_neg (by simpa using h0)] at h1
    refine ⟨by omega, ?_, fun s hs => ?_⟩
    · refine List.pairwise_iff_getElem.2 fun i j hi hj hij e => ?_
      have := hE j hj
      unfold nwE at this
      split at this
      · cases this
      · split at this
        · cases this
        · rename_i g
          have gj : ps.getD j ⟨#[]⟩ = ps[j] := by rw [List.getD, List.getElem?_eq_getElem hj]; rfl
          have hm : ps[j] ∈ ps.take j := by
            rw [← e]
            exact List.mem_iff_getElem.2 ⟨i, by rw [List.length_take]; omega, by rw [List.getElem_take]⟩
          have hlt := Go.Sy.sidx_lt.2 hm
          rw [List.length_take, Nat.min_eq_left (by omega)] at hlt
          rw [gj] at g
          unfold idI at g
          rw [if_pos hlt] at g
          omega
    · obtain ⟨k, hk, rfl⟩ := List.getElem_of_mem hs
      have := hE k hk
      unfold nwE at this
      have gj : ps.getD k ⟨#[]⟩ = ps[k] := by rw [List.getD, List.getElem?_eq_getElem hk]; rfl
      rw [gj] at this
      cases q : nmB ps[k] with
      | true => rfl
      | false => rw [q, if_pos rfl] at this; cases this
theorem nwB_I {ps : List ByteArray} (h : nwErr ps = 0) : BkI (nwB ps) 0 := by
  have hr : ∀ c, (nwB ps).row c = z16 := fun c => rfl
  refine ⟨⟨rfl, rfl, List.nodup_nil⟩, (nw_ok h).1, sortS_length ps, fun c q => absurd q (List.not_mem_nil), fun c q => absurd q (List.not_mem_nil), fun c => rfl, fun c j => ?_, fun c => rfl, fun c j _ => ?_⟩
  · rw [hr, z16_get]; decide
  · rw [hr, z16_get]
abbrev bkX (ro : Bool) (np : Nat) (ps : List ByteArray) (b : Bk) : Heap := [(1, bkC true 2 3 np), (2, some (.one true (.cols np [.sc (.strs ps)]))), (3, bkM ro b)]
theorem pos_MoveX {b : Bk} (h : BkI b 4503599627370496) {np : Nat} {ps : List ByteArray} (hn : b.n = np) (hp : b.ps = ps) (f t c : ByteArray) (a : Int) : FC Tryz.prog 4 10 [.ptr 1 0 0 0, .str f, .str t, .agg [.int .i64 a, .str c]] (bkX false np ps b) (isOut (.int .i64 (mvE b f t c a)) [(3, bkM false (b.mv f t c a))] 4) := by
  subst hn hp; exact pos_Move b (h.ok (Int.le_refl _)) f t c a
theorem pos_ListX {b : Bk} (h : BkI b 4503599627370496) {np : Nat} {ps : List ByteArray} (hn : b.n = np) (hp : b.ps = ps) (hm : b.m ≤ 100000) : FC Tryz.prog 4 15 [.ptr 1 0 0 0] (bkX true np ps b) (isOut (.sl 4 0 0 b.list.length) [(4, some (.one false (pxB b.list.length (pxOf b.list))))] 5) := by
  subst hn hp; exact pos_List b (h.ok (Int.le_refl _)) (h.cok hm)
theorem BkI.up {b : Bk} {B B' : Int} (h : BkI b B) (hB : B ≤ B') : BkI b B' := by
  have g := h.rb
  exact ⟨h.C, h.n16, h.psl, h.nz, h.c3, h.rl, fun c j => by have := g c j; omega, h.rs, h.rt⟩
theorem list_le (b : Bk) (hn : b.n ≤ 16) (hm : b.m ≤ 1000) : b.list.length ≤ 100000 := by
  have h := liA_len b (sortS b.cs) b.m
  have h2 : b.m * b.n ≤ 1000 * 16 := Nat.mul_le_mul hm hn
  unfold Bk.list; omega
end Go.Proofs.YtkbidlijinclcaaGreatDoor

/- The law PositionOrder. -/
namespace Go.Proofs.YtkbidlijinclcaaGreatDoor
open Go.RowKit Go.Sy
attribute [local irreducible] vcall vloop vcallD retP
set_option maxRecDepth 100000
set_option linter.unusedVariables false
set_option linter.unusedSimpArgs false

end Go.Proofs.YtkbidlijinclcaaGreatDoor

/- Plain facts on positions: their order, sorting. No program in sight. -/
namespace Go.Proofs.YtkbidlijinclcaaGreatDoor
open Go.RowKit Go.Sy
set_option linter.unusedVariables false
set_option linter.unusedSimpArgs false

/-- A position is before another one. -/
def plt (x y : Px) : Bool := strLt x.c y.c || (seq x.c y.c && strLt x.p y.p)
theorem seq_true {a b : ByteArray} : seq a b = true ↔ a = b := by unfold seq; exact decide_eq_true_iff
theorem plt_iff {x y : Px} : plt x y = true ↔ strLt x.c y.c = true ∨ (x.c = y.c ∧ strLt x.p y.p = true) := by
  unfold plt
  rw [Bool.or_eq_true, Bool.and_eq_true, seq_true]
theorem plt_irrefl (x : Px) : plt x x = false := by
  cases h : plt x x with
  | false => rfl
  | true =>
    rcases plt_iff.1 h with h | ⟨_, h⟩
    · rw [strLt_irrefl] at h; cases h
    · rw [strLt_irrefl] at h; cases h
theorem plt_trans {x y z : Px} (h : plt x y = true) (k : plt y z = true) : plt x z = true := by
  rw [plt_iff] at *
  rcases h with h | ⟨h1, h2⟩
  · rcases k with k | ⟨k1, k2⟩
    · exact .inl (strLt_trans h k)
    · exact .inl (k1 ▸ h)
  · rcases k with k | ⟨k1, k2⟩
    · exact .inl (h1 ▸ k)
    · exact .inr ⟨h1.trans k1, strLt_trans h2 k2⟩
theorem plt_asymm {x y : Px} (h : plt x y = true) : plt y x = false := by
  cases k : plt y x with
  | false => rfl
  | true =>
    have := plt_trans h k
    rw [plt_irrefl] at this; cases this
/-- Two positions of one place. -/
def same2 (x y : Px) : Prop := x.p = y.p ∧ x.c = y.c
theorem plt_total {x y : Px} (h : plt x y = false) (hne : ¬ same2 x y) : plt y x = true := by
  rw [plt_iff]
  by_cases hc : x.c = y.c
  · by_cases hp : x.p = y.p
    · exact absurd ⟨hp, hc⟩ hne
    · right
      refine ⟨hc.symm, ?_⟩
      cases k : strLt x.p y.p with
      | true => rw [plt_iff.2 (.inr ⟨hc, k⟩)] at h; cases h
      | false => exact strLt_total k hp
  · left
    cases k : strLt x.c y.c with
    | true => rw [plt_iff.2 (.inl k)] at h; cases h
    | false => exact strLt_total k hc
/-- Positions in strictly ascending order are told by their elements. -/
theorem asc_unique {l m : List Px} (hp : l.Perm m) (hl : l.Pairwise (fun a b => plt a b = true)) (hm : m.Pairwise (fun a b => plt a b = true)) : l = m :=
  List.Perm.eq_of_pairwise (le := fun a b => plt a b = true) (fun a b _ _ h1 h2 => by rw [plt_asymm h1] at h2; cases h2) hl hm hp
/-- All places are different. -/
def Dist (l : List Px) : Prop := l.Pairwise (fun a b => ¬ same2 a b)
theorem same2_symm {a b : Px} (h : same2 a b) : same2 b a := ⟨h.1.symm, h.2.symm⟩
theorem dist_perm {l m : List Px} (h : l.Perm m) (hl : Dist l) : Dist m := List.Perm.pairwise h hl (fun {a b} h k => h (same2_symm k))
theorem dist_asc {l : List Px} (h : l.Pairwise (fun a b => plt a b = true)) : Dist l := by
  refine h.imp fun {a b} hab e => ?_
  rcases plt_iff.1 hab with k | ⟨_, k⟩
  · rw [e.2, strLt_irrefl] at k; cases k
  · rw [e.1, strLt_irrefl] at k; cases k
/-- The positions in their order. -/
def srt (l : List Px) : List Px := l.mergeSort (fun x y => !plt y x)
theorem srt_perm (l : List Px) : (srt l).Perm l := List.mergeSort_perm l _
theorem nplt_trans {x y z : Px} (h : plt y x = false) (k : plt z y = false) : plt z x = false := by
  cases e : plt z x with
  | false => rfl
  | true =>
    by_cases hs : same2 x y
    · have : plt z y = true := by
        rw [plt_iff] at e ⊢
        rw [← hs.1, ← hs.2]; exact e
      rw [this] at k; cases k
    · have := plt_trans e (plt_total h (fun q => hs (same2_symm q)))
      rw [this] at k; cases k
theorem srt_asc {l : List Px} (hd : Dist l) : (srt l).Pairwise (fun a b => plt a b = true) := by
  have h1 := List.pairwise_mergeSort (le := fun x y : Px => !plt y x) (fun a b c h k => by
    simp only [Bool.not_eq_true'] at *
    exact nplt_trans h k) (fun a b => by
    cases h : plt b a with
    | false => rfl
    | true => simp [plt_asymm h]) l
  have h2 : Dist (srt l) := dist_perm (srt_perm l).symm hd
  refine (h1.and h2).imp ?_
  rintro a b ⟨k1, k2⟩
  simp only [Bool.not_eq_true'] at k1
  exact plt_total k1 (fun q => k2 (same2_symm q))
theorem srt_of {l m : List Px} (hp : m.Perm l) (hm : m.Pairwise (fun a b => plt a b = true)) : srt l = m :=
  asc_unique ((srt_perm l).trans hp.symm) (srt_asc (dist_perm hp (dist_asc hm))) hm
theorem atP (L : List Px) (j : Nat) : (pxOf L).p.getD j ⟨#[]⟩ = (L.getD j px0).p ∧ (pxOf L).a.getD j 0 = (L.getD j px0).a ∧ (pxOf L).c.getD j ⟨#[]⟩ = (L.getD j px0).c := by
  unfold pxOf
  simp only [List.getD, List.getElem?_map]
  cases L[j]? <;> exact ⟨rfl, rfl, rfl⟩
theorem take_getD {L : List Px} {k : Nat} (hk : k < L.length) : L.take (k + 1) = L.take k ++ [L.getD k px0] := by
  rw [List.take_succ_eq_append_getElem hk, List.getD, List.getElem?_eq_getElem hk]; rfl
/-- The positions that are not zero. -/
def nz (R : List Px) : List Px := R.filter (fun x => decide (x.a ≠ 0))
abbrev Asc (l : List Px) : Prop := l.Pairwise (fun a b => plt a b = true)
theorem nz_append (A B : List Px) : nz (A ++ B) = nz A ++ nz B := List.filter_append _ _
theorem asc_ins {O : List Px} {x : Px} {k : Nat} (hk : k ≤ O.length) (ha : Asc O) (hlt : ∀ j, j < k → plt (O.getD j px0) x = true) (hge : k < O.length → plt (O.getD k px0) x = false) (hx : ∀ y ∈ O, ¬ same2 y x) : Asc (O.take k ++ x :: O.drop k) := by
  have h1 : ∀ y ∈ O.take k, plt y x = true := by
    intro y hy
    obtain ⟨j, hj, rfl⟩ := List.getElem_of_mem hy
    have hj' : j < k := by rw [List.length_take] at hj; omega
    have := hlt j hj'
    rw [List.getD, List.getElem?_eq_getElem (by omega)] at this
    rw [List.getElem_take]; exact this
  have hd : Asc (O.drop k) := ha.sublist (List.drop_sublist k O)
  have h2 : ∀ y ∈ O.drop k, plt x y = true := by
    intro y hy
    have hkl : k < O.length := by
      refine Nat.lt_of_not_le fun h => ?_
      rw [List.drop_of_length_le h] at hy; cases hy
    have hh := hge hkl
    have hxk : plt x (O.getD k px0) = true := by
      refine plt_total hh fun e => hx (O.getD k px0) ?_ e
      rw [List.getD, List.getElem?_eq_getElem hkl]; exact List.getElem_mem hkl
    rw [List.drop_eq_getElem_cons hkl] at hy hd
    rcases List.mem_cons.1 hy with rfl | hy
    · rw [List.getD, List.getElem?_eq_getElem hkl] at hxk; exact hxk
    · rw [List.getD, List.getElem?_eq_getElem hkl] at hxk
      exact plt_trans hxk ((List.pairwise_cons.1 hd).1 y hy)
  refine List.pairwise_append.2 ⟨ha.sublist (List.take_sublist k O), List.pairwise_cons.2 ⟨h2, hd⟩, ?_⟩
  intro a ha1 b hb
  rcases List.mem_cons.1 hb with rfl | hb
  · exact h1 a ha1
  · exact plt_trans (h1 a ha1) (h2 b hb)
theorem perm_ins {α : Type} (O : List α) (x : α) (k : Nat) : (O.take k ++ x :: O.drop k).Perm (O ++ [x]) := by
  have h1 : (O.take k ++ x :: O.drop k).Perm (x :: (O.take k ++ O.drop k)) := List.perm_middle
  rw [List.take_append_drop] at h1
  exact h1.trans (List.perm_append_comm (l₁ := [x]))
theorem dist_not {R : List Px} (hd : Dist R) {i : Nat} (hi : i < R.length) : ∀ y ∈ R.take i, ¬ same2 y (R.getD i px0) := by
  intro y hy
  obtain ⟨j, hj, rfl⟩ := List.getElem_of_mem hy
  rw [List.length_take] at hj
  rw [List.getElem_take, List.getD, List.getElem?_eq_getElem hi]
  exact List.pairwise_iff_getElem.1 hd j i (by omega) hi (by omega)
theorem colP_eq (L : List Px) (k : Nat) : (⟨(pxOf L).p.getD k ⟨#[]⟩, (pxOf L).a.getD k 0, (pxOf L).c.getD k ⟨#[]⟩⟩ : Px) = L.getD k px0 := by
  obtain ⟨a1, a2, a3⟩ := atP L k
  rw [a1, a2, a3]
/-- What the outer loop of the sorting holds. -/
structure SoI (R : List Px) (i m : Nat) (O : List Px) : Prop where
  le : i ≤ R.length
  m : O.length = m
  asc : Asc O
  perm : O.Perm (nz (R.take i))
theorem soI_skip {R : List Px} {i m : Nat} {O : List Px} (h : SoI R i m O) (hi : i < R.length) (hz : (R.getD i px0).a = 0) : SoI R (i + 1) m O := by
  refine ⟨hi, h.m, h.asc, ?_⟩
  rw [take_getD hi, nz_append, show nz [R.getD i px0] = [] from by unfold nz; rw [List.filter_cons, if_neg (by simpa using hz)]; rfl, List.append_nil]
  exact h.perm
theorem soI_put {R : List Px} {i m k : Nat} {O : List Px} (h : SoI R i m O) (hd : Dist R) (hi : i < R.length) (hz : (R.getD i px0).a ≠ 0) (hk : k ≤ m) (hlt : ∀ j, j < k → plt (O.getD j px0) (R.getD i px0) = true) (hge : k < m → plt (O.getD k px0) (R.getD i px0) = false) : SoI R (i + 1) (m + 1) (O.take k ++ R.getD i px0 :: O.drop k) := by
  have hm := h.m
  refine ⟨hi, by simp; omega, asc_ins (by omega) h.asc hlt (fun q => hge (by omega)) ?_, ?_⟩
  · intro y hy
    exact dist_not hd hi y (List.mem_filter.1 (h.perm.subset hy)).1
  · rw [take_getD hi, nz_append, show nz [R.getD i px0] = [R.getD i px0] from by unfold nz; rw [List.filter_cons, if_pos (decide_eq_true hz)]; rfl]
    exact (perm_ins O _ k).trans (h.perm.append_right _)
theorem seg_take {α : Type} (l : List α) (k : Nat) : seg 0 k l = l.take k := rfl
theorem seg_drop {α : Type} {l : List α} {k m : Nat} (h : l.length = m) : seg (k + 0) (m - k) l = l.drop k := by
  unfold seg
  rw [Nat.add_zero, List.take_of_length_le (by rw [List.length_drop]; omega)]
end Go.Proofs.YtkbidlijinclcaaGreatDoor

/- Contracts: the reference's names, lists of texts, new books, the order of positions. -/
namespace Go.Proofs.YtkbidlijinclcaaGreatDoor
open Go.RowKit Go.Sy
attribute [local irreducible] vcall vloop vcallD retP
set_option maxRecDepth 100000
set_option linter.unusedVariables false
set_option linter.unusedSimpArgs false

def idC (c : Int) : Prop := (97 ≤ c ∧ c ≤ 122) ∨ (65 ≤ c ∧ c ≤ 90) ∨ (48 ≤ c ∧ c ≤ 57) ∨ c = 95 ∨ c = 45
instance (c : Int) : Decidable (idC c) := by unfold idC; infer_instance
/-- An identification. -/
def idB (s : ByteArray) : Bool := decide (∀ k, k < s.size → idC (byteAt s (k : Int))) && decide (1 ≤ s.size) && decide (s.size ≤ 16)
theorem idB_no {s : ByteArray} {k : Nat} (h : k < s.size) (hc : ¬ idC (byteAt s (k : Int))) : idB s = false := by
  unfold idB
  rw [decide_eq_false (fun hh => hc (hh k h))]
  rfl
theorem idB_all {s : ByteArray} (h : ∀ k, k < s.size → idC (byteAt s (k : Int))) : idB s = (decide (1 ≤ s.size) && decide (s.size ≤ 16)) := by
  unfold idB
  rw [decide_eq_true h]
  rfl
theorem idB_t {s : ByteArray} (h : idB s = true) : (∀ k, k < s.size → idC (byteAt s (k : Int))) ∧ 1 ≤ s.size ∧ s.size ≤ 16 := by
  unfold idB at h
  simp only [Bool.and_eq_true, decide_eq_true_eq] at h
  exact ⟨h.1.1, h.1.2, h.2⟩
theorem to_succ {s : ByteArray} {k : Nat} (h : ∀ i, i < k → idC (byteAt s (i : Int))) (hk : idC (byteAt s (k : Int))) : ∀ i, i < k + 1 → idC (byteAt s (i : Int)) := by
  intro i hi
  by_cases e : i = k
  · subst e; exact hk
  · exact h i (by omega)
theorem ref15_IsId (s : ByteArray) (hs : s.size ≤ 9223372036854775807) : Pure Tryz.prog 50 [.str s] (.bool (idB s)) := by
  refine fc_of mixed T_ok Tryz.func50 rfl (by kernel_rfl) (by kernel_rfl) (by kernel_rfl) ?_
  (conv => whnf)
  refine vloop_lp (fun k : Nat => ⟨[(0, .str s), (3, .int .i64 k)], [], 1⟩) (fun k => k ≤ s.size ∧ ∀ i, i < k → idC (byteAt s (i : Int))) (fun k => s.size - k) 0 [0] [] ⟨rfl, ⟨rfl, rfl, trivial⟩, trivial⟩ ⟨by omega, fun i hi => by omega⟩ ?_
  rintro k ⟨hk, hc⟩
  by_cases hk2 : k < s.size
  · by_cases hi : idC (byteAt s (k : Int))
    · have hn := to_succ hc hi
      unfold idC at hi
      repeat' ((conv => whnf); first | ((first | apply br_dec | apply br_ndec) <;> intro h <;> try (exfalso; (try dsimp only at h); omega)) | ((first | apply br_seq | apply br_nseq | apply br_not | apply br_intro) <;> intro h) | refine cond_a ?_)
      all_goals (conv => whnf)
      all_goals first
        | exact ⟨k + 1, [0], [], ⟨hk2, hn⟩, (show s.size - (k + 1) < s.size - k by omega), ⟨rfl, ⟨rfl, congrArg (fun z => some (SV.int .i64 z)) (i64_succ' (by omega)), trivial⟩, trivial⟩⟩
        | (exfalso; first | omega | (simp at *; omega))
        | trace_state
    · rw [idB_no hk2 hi]
      unfold idC at hi
      repeat' ((conv => whnf); first | ((first | apply br_dec | apply br_ndec) <;> intro h <;> try (exfalso; (try dsimp only at h); omega)) | ((first | apply br_seq | apply br_nseq | apply br_not | apply br_intro) <;> intro h) | refine cond_a ?_)
      all_goals (conv => whnf)
      all_goals first
        | exact ret_pure rfl
        | (exfalso; first | omega | (simp at *; omega))
        | trace_state
  · have e : k = s.size := by omega
    subst e
    rw [idB_all hc]
    by_cases w1 : 1 ≤ s.size <;> by_cases w2 : s.size ≤ 16
    all_goals simp only [w1, w2, decide_true, decide_false, Bool.and_true, Bool.and_false, Bool.true_and, Bool.false_and]
    all_goals repeat' ((conv => whnf); first | ((first | apply br_dec | apply br_ndec) <;> intro h <;> try (exfalso; (try dsimp only at h); omega)) | ((first | apply br_seq | apply br_nseq | apply br_not | apply br_intro) <;> intro h) | refine cond_a ?_)
    all_goals (conv => whnf)
    all_goals first
      | exact ret_pure rfl
      | exact ret_pure (congrArg SV.bool (decide_eq_true (by omega)))
      | exact ret_pure (congrArg SV.bool (decide_eq_false (by omega)))
      | (exfalso; omega)
      | trace_state
theorem nmB_t {s : ByteArray} : nmB s = true ↔ idB s = true ∧ ltP (byteAt s 0) ∧ ∀ k, k < s.size → byteAt s (k : Int) ≠ 45 := by
  constructor
  · intro h
    unfold nmB at h
    simp only [Bool.and_eq_true, decide_eq_true_eq] at h
    have hw := fun k (hk : k < s.size) => wdTo_at hk h.2
    refine ⟨?_, h.1.2, fun k hk => ?_⟩
    · rw [idB_all (fun k hk => by have := hw k hk; unfold wdP ltP at this; unfold idC; omega), decide_eq_true h.1.1.1, decide_eq_true h.1.1.2]; rfl
    · have := hw k hk; unfold wdP ltP at this; omega
  · rintro ⟨h1, h2, h3⟩
    obtain ⟨g1, g2, g3⟩ := idB_t h1
    unfold nmB
    have hw : wdTo s s.size = true := by
      cases e : wdTo s s.size with
      | true => rfl
      | false =>
        obtain ⟨k, q1, _, q3⟩ := wdTo_first _ e
        exfalso
        have a := g1 k q1
        have b := h3 k q1
        unfold idC at a
        unfold wdP ltP at q3
        omega
    rw [hw, decide_eq_true g2, decide_eq_true g3, decide_eq_true h2]; rfl
theorem nmB_f {s : ByteArray} (h : ¬ (idB s = true ∧ ltP (byteAt s 0) ∧ ∀ k, k < s.size → byteAt s (k : Int) ≠ 45)) : nmB s = false := by
  cases e : nmB s with
  | false => rfl
  | true => exact absurd (nmB_t.1 e) h
theorem ref15_IsName (s : ByteArray) (hs : s.size ≤ 9223372036854775807) : Pure Tryz.prog 25 [.str s] (.bool (nmB s)) := by
  have c := ref15_IsId s hs
  cases hid : idB s with
  | false =>
    rw [hid] at c
    rw [nmB_f (fun h => by rw [hid] at h; exact absurd h.1 (by decide))]
    refine fc_of mixed T_ok Tryz.func25 rfl (by kernel_rfl) (by kernel_rfl) (by kernel_rfl) ?_
    repeat' ((conv => whnf); first | (refine vcall_pure (c) rfl rfl rfl ?_) | (refine vcallD_pure (c) rfl rfl rfl ?_) | ((first | apply br_dec | apply br_ndec) <;> intro h <;> try (exfalso; (try dsimp only at h); omega)) | ((first | apply br_seq | apply br_nseq | apply br_not | apply br_intro) <;> intro h) | refine cond_a ?_)
    all_goals (conv => whnf)
    all_goals first
      | exact ret_pure rfl
      | (exfalso; omega)
      | trace_state
  | true =>
  rw [hid] at c
  obtain ⟨g1, g2, g3⟩ := idB_t hid
  by_cases hl : ltP (byteAt s 0)
  case neg =>
    rw [nmB_f (fun h => hl h.2.1)]
    unfold ltP at hl
    refine fc_of mixed T_ok Tryz.func25 rfl (by kernel_rfl) (by kernel_rfl) (by kernel_rfl) ?_
    repeat' ((conv => whnf); first | (refine vcall_pure (c) rfl rfl rfl ?_) | (refine vcallD_pure (c) rfl rfl rfl ?_) | ((first | apply br_dec | apply br_ndec) <;> intro h <;> try (exfalso; (try dsimp only at h); omega)) | ((first | apply br_seq | apply br_nseq | apply br_not | apply br_intro) <;> intro h) | refine cond_a ?_)
    all_goals (conv => whnf)
    all_goals first
      | exact ret_pure rfl
      | (exfalso; first | omega | (simp at *; omega))
      | trace_state
  have hl2 := hl
  unfold ltP at hl2
  refine fc_of mixed T_ok Tryz.func25 rfl (by kernel_rfl) (by kernel_rfl) (by kernel_rfl) ?_
  repeat' ((conv => whnf); first | (refine vcall_pure (c) rfl rfl rfl ?_) | (refine vcallD_pure (c) rfl rfl rfl ?_) | ((first | apply br_dec | apply br_ndec) <;> intro h <;> try (exfalso; (try dsimp only at h); omega)) | ((first | apply br_seq | apply br_nseq | apply br_not | apply br_intro) <;> intro h) | refine cond_a ?_)
  all_goals (conv => whnf)
  all_goals first
    | (exfalso; first | omega | (simp at *; omega))
    | skip
  all_goals refine vloop_lp (fun k : Nat => ⟨[(0, .str s), (3, .int .i64 k)], [], 1⟩) (fun k => k ≤ s.size ∧ ∀ i, i < k → byteAt s (i : Int) ≠ 45) (fun k => s.size - k) 0 [0] [] ⟨rfl, ⟨rfl, rfl, trivial⟩, trivial⟩ ⟨by omega, fun i hi => by omega⟩ ?_
  all_goals rintro k ⟨hk, hc⟩
  all_goals by_cases hk2 : k < s.size
  all_goals first
    | (by_cases h45 : byteAt s (k : Int) = 45
       · rw [nmB_f (fun h => h.2.2 k hk2 h45)]
         repeat' ((conv => whnf); first | ((first | apply br_dec | apply br_ndec) <;> intro h <;> try (exfalso; (try dsimp only at h); omega)) | ((first | apply br_seq | apply br_nseq | apply br_not | apply br_intro) <;> intro h) | refine cond_a ?_)
         all_goals (conv => whnf)
         all_goals first
           | exact ret_pure rfl
           | (exfalso; omega)
       · have hn : ∀ i, i < k + 1 → byteAt s (i : Int) ≠ 45 := fun i hi => by
           by_cases e : i = k
           · subst e; exact h45
           · exact hc i (by omega)
         repeat' ((conv => whnf); first | ((first | apply br_dec | apply br_ndec) <;> intro h <;> try (exfalso; (try dsimp only at h); omega)) | ((first | apply br_seq | apply br_nseq | apply br_not | apply br_intro) <;> intro h) | refine cond_a ?_)
         all_goals (conv => whnf)
         all_goals first
           | exact ⟨k + 1, [0], [], ⟨hk2, hn⟩, (show s.size - (k + 1) < s.size - k by omega), ⟨rfl, ⟨rfl, congrArg (fun z => some (SV.int .i64 z)) (i64_succ' (by omega)), trivial⟩, trivial⟩⟩
           | (exfalso; omega))
    | (have e : k = s.size := by omega
       subst e
       rw [nmB_t.2 ⟨hid, hl, hc⟩]
       repeat' ((conv => whnf); first | ((first | apply br_dec | apply br_ndec) <;> intro h <;> try (exfalso; (try dsimp only at h); omega)) | ((first | apply br_seq | apply br_nseq | apply br_not | apply br_intro) <;> intro h) | refine cond_a ?_)
       all_goals (conv => whnf)
       all_goals first
         | exact ret_pure rfl
         | (exfalso; omega))
    | trace_state
/-- A text is among the first of a list. -/
def inK (ps : List ByteArray) (s : ByteArray) : Nat → Bool
  | 0 => false
  | k + 1 => inK ps s k || seq (ps.getD k ⟨#[]⟩) s
theorem inK_t {ps : List ByteArray} {s : ByteArray} : ∀ {k : Nat}, inK ps s k = true ↔ ∃ j, j < k ∧ ps.getD j ⟨#[]⟩ = s
  | 0 => by simp [inK]
  | k + 1 => by
    simp only [inK, Bool.or_eq_true, inK_t (k := k), seq_tr]
    constructor
    · rintro (⟨j, h1, h2⟩ | h)
      · exact ⟨j, by omega, h2⟩
      · exact ⟨k, by omega, h⟩
    · rintro ⟨j, h1, h2⟩
      by_cases e : j = k
      · subst e; exact .inr h2
      · exact .inl ⟨j, by omega, h2⟩
theorem ref40_in (n : Nat) (ps : List ByteArray) (s : ByteArray) (m : Nat) (hm : m ≤ n) (hn : n ≤ 1000000) : FC Tryz.prog 2 26 [.sl 1 0 0 m, .str s] [(1, some (.one true (.cols n [.sc (.strs ps)])))] (isOut (.bool (inK ps s m)) [] 2) := by
  refine fc_of mixed T_ok Tryz.func26 rfl (by kernel_rfl) (by kernel_rfl) (by kernel_rfl) ?_
  repeat' ((conv => whnf); first | ((first | apply br_dec | apply br_ndec) <;> intro h <;> try (exfalso; (try dsimp only at h); omega)) | ((first | apply br_seq | apply br_nseq | apply br_not | apply br_intro) <;> intro h) | refine cond_a ?_)
  all_goals (conv => whnf)
  refine vloop_lp (fun k : Nat => ⟨[(0, .sl 1 0 0 m), (1, .str s), (5, .int .i64 k)], [(1, some (.one true (.cols n [.sc (.strs ps)])))], 2⟩) (fun k => k ≤ m ∧ inK ps s k = false) (fun k => m - k) 0 [0, 1] [] ⟨rfl, ⟨rfl, rfl, rfl, trivial⟩, ⟨rfl, trivial⟩⟩ ⟨Nat.zero_le _, rfl⟩ ?_
  rintro k ⟨hk, hin⟩
  by_cases hk2 : k < m
  · by_cases q : ps.getD k ⟨#[]⟩ = s
    · have e : inK ps s m = true := inK_t.2 ⟨k, hk2, q⟩
      rw [e]
      repeat' ((conv => whnf); first | ((first | apply br_dec | apply br_ndec) <;> intro h <;> try (exfalso; (try dsimp only at h); omega)) | ((first | apply br_seq | apply br_nseq | apply br_not | apply br_intro) <;> intro h) | refine cond_a ?_)
      all_goals (conv => whnf)
      all_goals (try simp only [toNat0] at *)
      all_goals first
        | exact ret_out (l := [0, 1]) rfl rfl trivial allRw_nil
        | (exfalso; first | omega | contradiction | exact absurd q.symm (by assumption))
        | trace_state
    · have e : inK ps s (k + 1) = false := by simp only [inK]; rw [hin, Bool.false_or]; unfold seq; exact decide_eq_false q
      repeat' ((conv => whnf); first | ((first | apply br_dec | apply br_ndec) <;> intro h <;> try (exfalso; (try dsimp only at h); omega)) | ((first | apply br_seq | apply br_nseq | apply br_not | apply br_intro) <;> intro h) | refine cond_a ?_)
      all_goals (conv => whnf)
      all_goals (try simp only [toNat0] at *)
      all_goals first
        | exact ⟨k + 1, [0, 1], [], ⟨hk2, e⟩, (show m - (k + 1) < m - k by omega), ⟨rfl, ⟨rfl, rfl, congrArg (fun z => some (SV.int .i64 z)) (i64_succ (by omega)), trivial⟩, ⟨rfl, trivial⟩⟩⟩
        | (exfalso; first | omega | contradiction)
        | trace_state
  · have e : k = m := by omega
    subst e
    rw [hin]
    repeat' ((conv => whnf); first | ((first | apply br_dec | apply br_ndec) <;> intro h <;> try (exfalso; (try dsimp only at h); omega)) | ((first | apply br_seq | apply br_nseq | apply br_not | apply br_intro) <;> intro h) | refine cond_a ?_)
    all_goals (conv => whnf)
    all_goals first
      | exact ret_out (l := [0, 1]) rfl rfl trivial allRw_nil
      | (exfalso; omega)
      | trace_state
theorem ref40_fits (x : Int) : Pure Tryz.prog 31 [.int .i64 x] (.bool (fitB x)) := by
  by_cases h : -4503599627370496 ≤ x ∧ x ≤ 4503599627370496
  · rw [fitB_t.2 h]
    refine fc_of mixed T_ok Tryz.func31 rfl (by kernel_rfl) (by kernel_rfl) (by kernel_rfl) ?_
    repeat' ((conv => whnf); first | ((first | apply br_dec | apply br_ndec) <;> intro h <;> try (exfalso; (try dsimp only at h); omega)) | ((first | apply br_seq | apply br_nseq | apply br_not | apply br_intro) <;> intro h) | refine cond_a ?_)
    all_goals (conv => whnf)
    all_goals first
      | exact ret_pure rfl
      | (refine ret_pure (congrArg SV.bool ?_); simp; omega)
      | (exfalso; omega)
      | trace_state
  · rw [fitB_f.2 h]
    refine fc_of mixed T_ok Tryz.func31 rfl (by kernel_rfl) (by kernel_rfl) (by kernel_rfl) ?_
    repeat' ((conv => whnf); first | ((first | apply br_dec | apply br_ndec) <;> intro h <;> try (exfalso; (try dsimp only at h); omega)) | ((first | apply br_seq | apply br_nseq | apply br_not | apply br_intro) <;> intro h) | refine cond_a ?_)
    all_goals (conv => whnf)
    all_goals first
      | exact ret_pure rfl
      | (refine ret_pure (congrArg SV.bool ?_); simp; omega)
      | (exfalso; omega)
      | trace_state
theorem ref40_less (p1 : ByteArray) (a1 : Int) (c1 : ByteArray) (p2 : ByteArray) (a2 : Int) (c2 : ByteArray) : Pure Tryz.prog 55 [.agg [.str p1, .int .i64 a1, .str c1], .agg [.str p2, .int .i64 a2, .str c2]] (.bool (plt ⟨p1, a1, c1⟩ ⟨p2, a2, c2⟩)) := by
  unfold plt
  dsimp only
  by_cases h1 : c1 = c2
  · have e : seq c1 c2 = true := seq_tr.2 h1
    subst h1
    rw [e, strLt_irrefl, Bool.false_or, Bool.true_and]
    have hi := strLt_irrefl c1
    refine fc_of mixed T_ok Tryz.func55 rfl (by kernel_rfl) (by kernel_rfl) (by kernel_rfl) ?_
    repeat' ((conv => whnf); first | (simp only [hi]) | ((first | apply br_dec | apply br_ndec) <;> intro h <;> try (exfalso; (try dsimp only at h); omega)) | ((first | apply br_seq | apply br_nseq | apply br_not | apply br_intro) <;> intro h) | refine cond_a ?_)
    all_goals (conv => whnf)
    all_goals first
      | exact ret_pure rfl
      | (exfalso; first | contradiction | (simp [hi] at *; done))
      | trace_state
  · have e : seq c1 c2 = false := by unfold seq; exact decide_eq_false h1
    rw [e, Bool.false_and, Bool.or_false]
    cases hs : strLt c1 c2 with
    | true =>
      refine fc_of mixed T_ok Tryz.func55 rfl (by kernel_rfl) (by kernel_rfl) (by kernel_rfl) ?_
      repeat' ((conv => whnf); first | (simp only [hs]) | ((first | apply br_dec | apply br_ndec) <;> intro h <;> try (exfalso; (try dsimp only at h); omega)) | ((first | apply br_seq | apply br_nseq | apply br_not | apply br_intro) <;> intro h) | refine cond_a ?_)
      all_goals (conv => whnf)
      all_goals first
        | exact ret_pure rfl
        | (exfalso; first | contradiction | (simp [hs] at *; done))
        | trace_state
    | false =>
      refine fc_of mixed T_ok Tryz.func55 rfl (by kernel_rfl) (by kernel_rfl) (by kernel_rfl) ?_
      repeat' ((conv => whnf); first | (simp only [hs]) | ((first | apply br_dec | apply br_ndec) <;> intro h <;> try (exfalso; (try dsimp only at h); omega)) | ((first | apply br_seq | apply br_nseq | apply br_not | apply br_intro) <;> intro h) | refine cond_a ?_)
      all_goals (conv => whnf)
      all_goals first
        | exact ret_pure rfl
        | (exfalso; first | contradiction | (simp [hs] at *; done))
        | trace_state
/-- A new book of the reference. -/
def rnOut (ps : List ByteArray) (n : Nat) : SV → Heap → Nat → Prop := if nwErr ps ≠ 0 then isOut (.tup [.nptr, .int .i64 (nwErr ps)]) [] 2 else isOut (.tup [.ptr 2 0 0 0, .int .i64 0]) [(2, some (.one false (.cells [.sl 1 0 0 n, .nsl])))] 3
theorem ref40_New (ps : List ByteArray) (n : Nat) (hl : ps.length = n) (hsz : ∀ k, (ps.getD k ⟨#[]⟩).size ≤ 9223372036854775807) : FC Tryz.prog 2 9 [.sl 1 0 0 n] [(1, some (.one true (.cols n [.sc (.strs ps)])))] (rnOut ps n) := by
  unfold rnOut nwErr
  by_cases h16 : 16 < n
  · rw [hl, if_pos h16, if_pos (by decide)]
    refine fc_of mixed T_ok Tryz.func9 rfl (by kernel_rfl) (by kernel_rfl) (by kernel_rfl) ?_
    repeat' ((conv => whnf); first | ((first | apply br_dec | apply br_ndec) <;> intro h <;> try (exfalso; (try dsimp only at h); omega)) | ((first | apply br_seq | apply br_nseq | apply br_not | apply br_intro) <;> intro h) | refine cond_a ?_)
    all_goals (conv => whnf)
    all_goals first
      | exact ret_out (l := [0, 1]) rfl rfl trivial allRw_nil
      | (exfalso; omega)
      | trace_state
  rw [hl, if_neg h16]
  refine fc_of mixed T_ok Tryz.func9 rfl (by kernel_rfl) (by kernel_rfl) (by kernel_rfl) ?_
  repeat' ((conv => whnf); first | ((first | apply br_dec | apply br_ndec) <;> intro h <;> try (exfalso; (try dsimp only at h); omega)) | ((first | apply br_seq | apply br_nseq | apply br_not | apply br_intro) <;> intro h) | refine cond_a ?_)
  all_goals (conv => whnf)
  all_goals first
    | (exfalso; omega)
    | skip
  refine vloop_lp (fun k : Nat => ⟨[(0, .sl 1 0 0 n), (4, .int .i64 k)], [(1, some (.one true (.cols n [.sc (.strs ps)])))], 2⟩) (fun k => k ≤ n ∧ nwK ps k = 0) (fun k => n - k) 0 [0, 1] [] ⟨rfl, ⟨rfl, rfl, trivial⟩, ⟨rfl, trivial⟩⟩ ⟨Nat.zero_le _, rfl⟩ ?_
  rintro k ⟨hk, h0⟩
  by_cases hk2 : k < n
  · have c1 := ref15_IsName (ps.getD k ⟨#[]⟩) (hsz k)
    have c2 := ref40_in n ps (ps.getD k ⟨#[]⟩) k (by omega) (by omega)
    have hE : nwE ps k = if nmB (ps.getD k ⟨#[]⟩) = false then 5 else if 0 ≤ idI (ps.take k) (ps.getD k ⟨#[]⟩) k then 7 else 0 := rfl
    have hst := fun h => nwK_stop h0 h n hk2
    have hs0 : nwE ps k = 0 → nwK ps (k + 1) = 0 := fun h => by simp only [nwK]; rw [if_neg (by omega)]; exact h
    have hII : inK ps (ps.getD k ⟨#[]⟩) k = decide (0 ≤ idI (ps.take k) (ps.getD k ⟨#[]⟩) k) := by
      have htl : (ps.take k).length = k := by rw [List.length_take]; omega
      by_cases g : 0 ≤ idI (ps.take k) (ps.getD k ⟨#[]⟩) k
      · rw [decide_eq_true g]
        have hlt : sidx (ps.take k) (ps.getD k ⟨#[]⟩) < k := by
          unfold idI at g
          by_cases w : sidx (ps.take k) (ps.getD k ⟨#[]⟩) < k
          · exact w
          · rw [if_neg w] at g; omega
        have hget := Go.Sy.sidx_get (l := ps.take k) (s := ps.getD k ⟨#[]⟩) (by rw [htl]; exact hlt)
        rw [List.getElem?_take, if_pos hlt] at hget
        exact inK_t.2 ⟨_, hlt, by rw [List.getD, hget]; rfl⟩
      · rw [decide_eq_false g]
        cases w : inK ps (ps.getD k ⟨#[]⟩) k with
        | false => rfl
        | true =>
          exfalso
          obtain ⟨j, hj, hje⟩ := inK_t.1 w
          apply g
          have hmem : ps.getD k ⟨#[]⟩ ∈ ps.take k := by
            rw [← hje]
            refine List.mem_iff_getElem?.2 ⟨j, ?_⟩
            rw [List.getElem?_take, if_pos hj, List.getD, List.getElem?_eq_getElem (by omega)]; rfl
          have := Go.Sy.sidx_lt.2 hmem
          rw [htl] at this
          unfold idI
          rw [if_pos this]; omega
    cases hnm : nmB (ps.getD k ⟨#[]⟩) with
    | false =>
      rw [hnm] at c1
      rw [hnm, if_pos rfl] at hE
      rw [hst (by omega), hE, if_pos (by decide)]
      repeat' ((conv => whnf); first | (refine vcall_pure (c1) rfl rfl rfl ?_) | ((first | apply br_dec | apply br_ndec) <;> intro h <;> try (exfalso; (try dsimp only at h); omega)) | ((first | apply br_seq | apply br_nseq | apply br_not | apply br_intro) <;> intro h) | refine cond_a ?_)
      all_goals (conv => whnf)
      all_goals first
        | exact ret_out (l := [0, 1]) rfl rfl trivial allRw_nil
        | (exfalso; omega)
        | trace_state
    | true =>
      rw [hnm] at c1
      rw [hnm, if_neg (by simp)] at hE
      by_cases hin : 0 ≤ idI (ps.take k) (ps.getD k ⟨#[]⟩) k
      · rw [if_pos hin] at hE
        rw [hII, decide_eq_true hin] at c2
        rw [hst (by omega), hE, if_pos (by decide)]
        repeat' ((conv => whnf); first | (refine vcall_pure (c1) rfl rfl rfl ?_) | refine vcall_o (l := [0, 1]) (c2) ?_ | refine vcallD_o (l := [0, 1]) (c2) ?_ | ((first | apply br_dec | apply br_ndec) <;> intro h <;> try (exfalso; (try dsimp only at h); omega)) | ((first | apply br_seq | apply br_nseq | apply br_not | apply br_intro) <;> intro h) | refine cond_a ?_)
        all_goals (conv => whnf)
        all_goals first
          | exact ret_out (l := [0, 1]) rfl rfl trivial allRw_nil
          | (exfalso; omega)
          | trace_state
      · rw [if_neg hin] at hE
        rw [hII, decide_eq_false hin] at c2
        repeat' ((conv => whnf); first | (refine vcall_pure (c1) rfl rfl rfl ?_) | refine vcall_o (l := [0, 1]) (c2) ?_ | refine vcallD_o (l := [0, 1]) (c2) ?_ | ((first | apply br_dec | apply br_ndec) <;> intro h <;> try (exfalso; (try dsimp only at h); omega)) | ((first | apply br_seq | apply br_nseq | apply br_not | apply br_intro) <;> intro h) | refine cond_a ?_)
        all_goals (conv => whnf)
        all_goals first
          | exact ⟨k + 1, [0, 1], [], ⟨hk2, hs0 hE⟩, (show n - (k + 1) < n - k by omega), ⟨rfl, ⟨rfl, congrArg (fun z => some (SV.int .i64 z)) (i64_succ (by omega)), trivial⟩, ⟨rfl, trivial⟩⟩⟩
          | (exfalso; omega)
          | trace_state
  · have e : k = n := by omega
    subst e
    rw [if_neg (by omega)]
    repeat' ((conv => whnf); first | ((first | apply br_dec | apply br_ndec) <;> intro h <;> try (exfalso; (try dsimp only at h); omega)) | ((first | apply br_seq | apply br_nseq | apply br_not | apply br_intro) <;> intro h) | refine cond_a ?_)
    all_goals (conv => whnf)
    all_goals first
      | exact ret_out (l := [0, 1, 2]) rfl rfl ⟨rfl, trivial⟩ (allRw_cons allRw_nil)
      | (exfalso; omega)
      | trace_state
end Go.Proofs.YtkbidlijinclcaaGreatDoor

/- Contracts: the reference's positions: looked up, put, moved, listed. -/
namespace Go.Proofs.YtkbidlijinclcaaGreatDoor
open Go.RowKit Go.Sy
attribute [local irreducible] vcall vloop vcallD retP
set_option maxRecDepth 100000
set_option linter.unusedVariables false
set_option linter.unusedSimpArgs false

/-- The amount of the first position of a party in a currency. -/
def netK (R : List Px) (p c : ByteArray) : Nat → Nat → Int
  | 0, _ => 0
  | m + 1, k => if (R.getD k px0).p = p ∧ (R.getD k px0).c = c then (R.getD k px0).a else netK R p c m (k + 1)
def netR (R : List Px) (p c : ByteArray) : Int := netK R p c R.length 0
abbrev rbH (ro : Bool) (np : Nat) (ps : List ByteArray) (m : Nat) (R : List Px) : Heap := [(1, some (.one ro (.cells [.sl 2 0 0 np, .sl 3 0 0 m]))), (2, some (.one true (.cols np [.sc (.strs ps)]))), (3, some (.one true (pxB m (pxOf R))))]
theorem ref40_Net (np : Nat) (ps : List ByteArray) (R : List Px) (m : Nat) (hm : R.length = m) (hl : m ≤ 100000) (p c : ByteArray) : FC Tryz.prog 4 13 [.ptr 1 0 0 0, .str p, .str c] (rbH true np ps m R) (isOut (.int .i64 (netR R p c)) [] 4) := by
  refine fc_of mixed T_ok Tryz.func13 rfl (by kernel_rfl) (by kernel_rfl) (by kernel_rfl) ?_
  repeat' ((conv => whnf); first | ((first | apply br_dec | apply br_ndec) <;> intro h <;> try (exfalso; (try dsimp only at h); omega)) | ((first | apply br_seq | apply br_nseq | apply br_not | apply br_intro) <;> intro h) | refine cond_a ?_)
  all_goals (conv => whnf)
  refine vloop_lp (fun k : Nat => ⟨[(0, .ptr 1 0 0 0), (1, .str p), (2, .str c), (7, .int .i64 k)], rbH true np ps m R, 4⟩) (fun k => k ≤ m ∧ netK R p c (m - k) k = netR R p c) (fun k => m - k) 0 [0, 1, 2, 3] [] ⟨rfl, ⟨rfl, rfl, rfl, rfl, trivial⟩, ⟨rfl, rfl, rfl, trivial⟩⟩ ⟨Nat.zero_le _, by rw [Nat.sub_zero, ← hm]; rfl⟩ ?_
  rintro k ⟨hk, hc⟩
  by_cases hk2 : k < m
  · obtain ⟨b1, b2, b3⟩ := atP R k
    rw [show m - k = (m - (k + 1)) + 1 by omega, netK] at hc
    by_cases g : (R.getD k px0).p = p ∧ (R.getD k px0).c = c
    · rw [if_pos g] at hc
      rw [← hc]
      have g1 := g.1
      have g2 := g.2
      have bb : (SV.int .i64 ((pxOf R).a.getD k 0)) = .int .i64 (R.getD k px0).a := by rw [b2]
      rw [← b1] at g1
      rw [← b3] at g2
      rw [← b2]
      repeat' ((conv => whnf); first | ((first | apply br_dec | apply br_ndec) <;> intro h <;> try (exfalso; (try dsimp only at h); omega)) | ((first | apply br_seq | apply br_nseq | apply br_not | apply br_intro) <;> intro h) | refine cond_a ?_)
      all_goals (conv => whnf)
      all_goals (try simp only [toNat0, Int.toNat_natCast, Nat.add_zero] at *)
      all_goals first
        | exact ret_out (l := [0, 1, 2, 3]) rfl rfl trivial allRw_nil
        | (exfalso; first | omega | contradiction | exact absurd g1.symm (by assumption) | exact absurd g2.symm (by assumption))
        | trace_state
    · rw [if_neg g] at hc
      rw [← b1, ← b3] at g
      repeat' ((conv => whnf); first | ((first | apply br_dec | apply br_ndec) <;> intro h <;> try (exfalso; (try dsimp only at h); omega)) | ((first | apply br_seq | apply br_nseq | apply br_not | apply br_intro) <;> intro h) | refine cond_a ?_)
      all_goals (conv => whnf)
      all_goals (try simp only [toNat0, Int.toNat_natCast, Nat.add_zero] at *)
      all_goals first
        | exact ⟨k + 1, [0, 1, 2, 3], [], ⟨hk2, hc⟩, (show m - (k + 1) < m - k by omega), ⟨rfl, ⟨rfl, rfl, rfl, congrArg (fun z => some (SV.int .i64 z)) (i64_succ (by omega)), trivial⟩, ⟨rfl, rfl, rfl, trivial⟩⟩⟩
        | (exfalso; first | omega | contradiction | exact g ⟨by assumption, by assumption⟩)
        | trace_state
  · have e : k = m := by omega
    subst e
    rw [Nat.sub_self, netK] at hc
    rw [← hc]
    repeat' ((conv => whnf); first | ((first | apply br_dec | apply br_ndec) <;> intro h <;> try (exfalso; (try dsimp only at h); omega)) | ((first | apply br_seq | apply br_nseq | apply br_not | apply br_intro) <;> intro h) | refine cond_a ?_)
    all_goals (conv => whnf)
    all_goals first
      | exact ret_out (l := [0, 1, 2, 3]) rfl rfl trivial allRw_nil
      | (exfalso; omega)
      | trace_state
/-- A position is replaced or added. -/
def ptX (p c : ByteArray) (n : Int) (x : Px) : Px := if x.p = p ∧ x.c = c then ⟨x.p, n, x.c⟩ else x
def ptK (R : List Px) (p c : ByteArray) (n : Int) : Nat → List Px
  | 0 => []
  | k + 1 => ptK R p c n k ++ [ptX p c n (R.getD k px0)]
def ptD (R : List Px) (p c : ByteArray) : Nat → Bool
  | 0 => false
  | k + 1 => ptD R p c k || decide ((R.getD k px0).p = p ∧ (R.getD k px0).c = c)
theorem ptK_len (R : List Px) (p c : ByteArray) (n : Int) : ∀ k, (ptK R p c n k).length = k
  | 0 => rfl
  | k + 1 => by simp only [ptK, List.length_append, ptK_len R p c n k]; rfl
def putR (R : List Px) (p c : ByteArray) (n : Int) : List Px := if ptD R p c R.length = true then ptK R p c n R.length else ptK R p c n R.length ++ [⟨p, n, c⟩]
theorem putR_len (R : List Px) (p c : ByteArray) (n : Int) : (putR R p c n).length ≤ R.length + 1 := by
  unfold putR
  split
  · rw [ptK_len]; omega
  · rw [List.length_append, ptK_len]; exact Nat.le_refl _
theorem ref40_put (R : List Px) (m : Nat) (hm : R.length = m) (hl : m ≤ 100000) (p c : ByteArray) (n : Int) (r : Nat) (hr : (putR R p c n).length = r) : FC Tryz.prog 2 32 [.sl 1 0 0 m, .str p, .str c, .int .i64 n] [(1, some (.one true (pxB m (pxOf R))))] (isOut (.sl 2 0 0 r) [(2, some (.one false (pxB r (pxOf (putR R p c n)))))] 3) := by
  refine fc_of mixed T_ok Tryz.func32 rfl (by kernel_rfl) (by kernel_rfl) (by kernel_rfl) ?_
  repeat' ((conv => whnf); first | ((first | apply br_dec | apply br_ndec) <;> intro h <;> try (exfalso; (try dsimp only at h); omega)) | ((first | apply br_seq | apply br_nseq | apply br_not | apply br_intro) <;> intro h) | refine cond_a ?_)
  all_goals (conv => whnf)
  refine vloop_lp (fun k : Nat => ⟨[(0, .sl 1 0 0 m), (1, .str p), (2, .str c), (3, .int .i64 n), (10, .bool (ptD R p c k)), (11, .int .i64 k), (9, .sl 2 0 0 k)], [(1, some (.one true (pxB m (pxOf R)))), (2, some (.one false (pxB k (pxOf (ptK R p c n k)))))], 3⟩) (fun k => k ≤ m) (fun k => m - k) 0 [0, 1, 2] [.slot 9 [.sc (.strs []), .sc (.ints .i64 []), .sc (.strs [])]] ⟨rfl, ⟨rfl, rfl, rfl, rfl, rfl, rfl, rfl, trivial⟩, ⟨rfl, rfl, trivial⟩⟩ (Nat.zero_le _) ?_
  intro k hk
  by_cases hk2 : k < m
  · obtain ⟨b1, b2, b3⟩ := atP R k
    have hs := pxOf_snoc (ptK R p c n k) (ptX p c n (R.getD k px0))
    have hst : ptK R p c n (k + 1) = ptK R p c n k ++ [ptX p c n (R.getD k px0)] := rfl
    have hd : ptD R p c (k + 1) = (ptD R p c k || decide ((R.getD k px0).p = p ∧ (R.getD k px0).c = c)) := rfl
    rw [← hst] at hs
    unfold ptX at hs
    by_cases g : (R.getD k px0).p = p ∧ (R.getD k px0).c = c
    · rw [decide_eq_true g, Bool.or_true] at hd
      rw [if_pos g] at hs
      rw [← b1, ← b3] at g
      dsimp only at hs
      rw [← b1, ← b3] at hs
      have g1 := g.1
      have g2 := g.2
      have bb : (some (HB.one false (pxB (k + 1) ⟨(pxOf (ptK R p c n k)).p ++ [(pxOf R).p.getD k ⟨#[]⟩], (pxOf (ptK R p c n k)).a ++ [n], (pxOf (ptK R p c n k)).c ++ [(pxOf R).c.getD k ⟨#[]⟩]⟩)) : Option HB) = some (.one false (pxB (k + 1) (pxOf (ptK R p c n (k + 1))))) := by rw [hs]
      have bd : some (SV.bool true) = some (SV.bool (ptD R p c (k + 1))) := by rw [hd]
      repeat' ((conv => whnf); first | ((first | apply br_dec | apply br_ndec) <;> intro h <;> try (exfalso; (try dsimp only at h); omega)) | ((first | apply br_seq | apply br_nseq | apply br_not | apply br_intro) <;> intro h) | refine cond_a ?_)
      all_goals (conv => whnf)
      all_goals (try simp only [toNat0, Int.toNat_natCast, Nat.add_zero] at *)
      all_goals first
        | exact ⟨k + 1, [0, 1, 5], [], hk2, (show m - (k + 1) < m - k by omega), ⟨rfl, ⟨rfl, rfl, rfl, rfl, bd, congrArg (fun z => some (SV.int .i64 z)) (i64_succ (by omega)), rfl, trivial⟩, ⟨rfl, bb, trivial⟩⟩⟩
        | (exfalso; first | omega | contradiction | exact absurd g1.symm (by assumption) | exact absurd g2.symm (by assumption))
        | trace_state
    · rw [decide_eq_false g, Bool.or_false] at hd
      rw [if_neg g] at hs
      rw [← b1, ← b3] at g
      rw [← b1, ← b2, ← b3] at hs
      have bb : (some (HB.one false (pxB (k + 1) ⟨(pxOf (ptK R p c n k)).p ++ [(pxOf R).p.getD k ⟨#[]⟩], (pxOf (ptK R p c n k)).a ++ [(pxOf R).a.getD k 0], (pxOf (ptK R p c n k)).c ++ [(pxOf R).c.getD k ⟨#[]⟩]⟩)) : Option HB) = some (.one false (pxB (k + 1) (pxOf (ptK R p c n (k + 1))))) := by rw [hs]
      have bd : some (SV.bool (ptD R p c k)) = some (SV.bool (ptD R p c (k + 1))) := by rw [hd]
      repeat' ((conv => whnf); first | ((first | apply br_dec | apply br_ndec) <;> intro h <;> try (exfalso; (try dsimp only at h); omega)) | ((first | apply br_seq | apply br_nseq | apply br_not | apply br_intro) <;> intro h) | refine cond_a ?_)
      all_goals (conv => whnf)
      all_goals (try simp only [toNat0, Int.toNat_natCast, Nat.add_zero] at *)
      all_goals first
        | exact ⟨k + 1, [0, 1, 5], [], hk2, (show m - (k + 1) < m - k by omega), ⟨rfl, ⟨rfl, rfl, rfl, rfl, bd, congrArg (fun z => some (SV.int .i64 z)) (i64_succ (by omega)), rfl, trivial⟩, ⟨rfl, bb, trivial⟩⟩⟩
        | (exfalso; first | omega | contradiction | exact g ⟨by assumption, by assumption⟩)
        | trace_state
  · have e : k = m := by omega
    subst e
    unfold putR at hr ⊢
    rw [hm] at hr ⊢
    have hs := pxOf_snoc (ptK R p c n k) ⟨p, n, c⟩
    cases hd : ptD R p c k with
    | true =>
      rw [hd, if_pos rfl, ptK_len] at hr
      rw [if_pos rfl]
      subst hr
      repeat' ((conv => whnf); first | ((first | apply br_dec | apply br_ndec) <;> intro h <;> try (exfalso; (try dsimp only at h); omega)) | ((first | apply br_seq | apply br_nseq | apply br_not | apply br_intro) <;> intro h) | refine cond_a ?_)
      all_goals (conv => whnf)
      all_goals first
        | exact ret_out (l := [0, 1, 2]) rfl rfl ⟨rfl, trivial⟩ (allRw_cons allRw_nil)
        | (exfalso; first | omega | contradiction)
        | trace_state
    | false =>
      rw [hd, if_neg (by simp), List.length_append, ptK_len] at hr
      rw [if_neg (by simp)]
      have bb : (some (HB.one false (pxB (k + 1) ⟨(pxOf (ptK R p c n k)).p ++ [p], (pxOf (ptK R p c n k)).a ++ [n], (pxOf (ptK R p c n k)).c ++ [c]⟩)) : Option HB) = some (.one false (pxB (k + 1) (pxOf (ptK R p c n k ++ [⟨p, n, c⟩])))) := by rw [hs]
      have er : r = k + 1 := hr.symm
      subst er
      repeat' ((conv => whnf); first | ((first | apply br_dec | apply br_ndec) <;> intro h <;> try (exfalso; (try dsimp only at h); omega)) | ((first | apply br_seq | apply br_nseq | apply br_not | apply br_intro) <;> intro h) | refine cond_a ?_)
      all_goals (conv => whnf)
      all_goals first
        | exact ret_out (l := [0, 1, 4]) rfl rfl ⟨bb, trivial⟩ (allRw_cons allRw_nil)
        | (exfalso; first | omega | contradiction)
        | trace_state
end Go.Proofs.YtkbidlijinclcaaGreatDoor

/- Contracts: the reference's moves. -/
namespace Go.Proofs.YtkbidlijinclcaaGreatDoor
open Go.RowKit Go.Sy
attribute [local irreducible] vcall vloop vcallD retP
set_option maxRecDepth 100000
set_option linter.unusedVariables false
set_option linter.unusedSimpArgs false

def rmE (np : Nat) (ps : List ByteArray) (R : List Px) (f t c : ByteArray) (a : Int) : Int :=
  if inK ps f np = false ∨ inK ps t np = false then 6
  else if f = t then 4
  else if mchk a c ≠ 0 then mchk a c
  else if a < 0 then 4
  else if fitB (netR R f c - a) = true ∧ fitB (netR R t c + a) = true then 0 else 4
def rmR (R : List Px) (f t c : ByteArray) (a : Int) : List Px := putR (putR R f c (netR R f c - a)) t c (netR R t c + a)
def rmOut (np : Nat) (ps : List ByteArray) (m : Nat) (R : List Px) (f t c : ByteArray) (a : Int) : SV → Heap → Nat → Prop :=
  if rmE np ps R f t c a = 0 then isOut (.int .i64 0) [(1, some (.one false (.cells [.sl 2 0 0 np, .sl 4 0 0 (rmR R f t c a).length]))), (4, some (.one false (pxB (rmR R f t c a).length (pxOf (rmR R f t c a)))))] 5
  else isOut (.int .i64 (rmE np ps R f t c a)) [(1, some (.one false (.cells [.sl 2 0 0 np, .sl 3 0 0 m])))] 4
theorem ref40_Move (np : Nat) (ps : List ByteArray) (hnp : np ≤ 1000000) (R : List Px) (m : Nat) (hm : R.length = m) (hl : m ≤ 10000) (f t c : ByteArray) (a : Int) (hb : ∀ p c, -4503599627370496 ≤ netR R p c ∧ netR R p c ≤ 4503599627370496) : FC Tryz.prog 4 11 [.ptr 1 0 0 0, .str f, .str t, .agg [.int .i64 a, .str c]] (rbH false np ps m R) (rmOut np ps m R f t c a) := by
  have c1 := ref40_in np ps f np (Nat.le_refl _) hnp
  have c2 := ref40_in np ps t np (Nat.le_refl _) hnp
  have c3 := ref01_Check a c
  unfold rmOut
  cases h1 : inK ps f np with
  | false =>
    rw [h1] at c1
    have e : rmE np ps R f t c a = 6 := by unfold rmE; rw [if_pos (.inl h1)]
    rw [e, if_neg (by decide)]
    refine fc_of mixed T_ok Tryz.func11 rfl (by kernel_rfl) (by kernel_rfl) (by kernel_rfl) ?_
    repeat' ((conv => whnf); first | refine vcall_o (l := [0, 2]) (c1) ?_ | refine vcallD_o (l := [0, 2]) (c1) ?_ | ((first | apply br_dec | apply br_ndec) <;> intro h <;> try (exfalso; (try dsimp only at h); omega)) | ((first | apply br_seq | apply br_nseq | apply br_not | apply br_intro) <;> intro h) | refine cond_a ?_)
    all_goals (conv => whnf)
    all_goals first
      | exact ret_out (l := [0, 1, 2, 3]) rfl rfl ⟨rfl, trivial⟩ (allRw_cons allRw_nil)
      | (exfalso; omega)
      | trace_state
  | true =>
  rw [h1] at c1
  cases h2 : inK ps t np with
  | false =>
    rw [h2] at c2
    have e : rmE np ps R f t c a = 6 := by unfold rmE; rw [if_pos (.inr h2)]
    rw [e, if_neg (by decide)]
    refine fc_of mixed T_ok Tryz.func11 rfl (by kernel_rfl) (by kernel_rfl) (by kernel_rfl) ?_
    repeat' ((conv => whnf); first | refine vcall_o (l := [0, 2]) (c1) ?_ | refine vcallD_o (l := [0, 2]) (c1) ?_ | refine vcall_o (l := [0, 2]) (c2) ?_ | refine vcallD_o (l := [0, 2]) (c2) ?_ | ((first | apply br_dec | apply br_ndec) <;> intro h <;> try (exfalso; (try dsimp only at h); omega)) | ((first | apply br_seq | apply br_nseq | apply br_not | apply br_intro) <;> intro h) | refine cond_a ?_)
    all_goals (conv => whnf)
    all_goals first
      | exact ret_out (l := [0, 1, 2, 3]) rfl rfl ⟨rfl, trivial⟩ (allRw_cons allRw_nil)
      | (exfalso; omega)
      | trace_state
  | true =>
  rw [h2] at c2
  have e0 : rmE np ps R f t c a = if f = t then 4 else if mchk a c ≠ 0 then mchk a c else if a < 0 then 4 else if fitB (netR R f c - a) = true ∧ fitB (netR R t c + a) = true then 0 else 4 := by
    unfold rmE; rw [if_neg (by rw [h1, h2]; simp)]
  by_cases h3 : f = t
  · rw [if_pos h3] at e0
    rw [e0, if_neg (by decide)]
    refine fc_of mixed T_ok Tryz.func11 rfl (by kernel_rfl) (by kernel_rfl) (by kernel_rfl) ?_
    repeat' ((conv => whnf); first | refine vcall_o (l := [0, 2]) (c1) ?_ | refine vcallD_o (l := [0, 2]) (c1) ?_ | refine vcall_o (l := [0, 2]) (c2) ?_ | refine vcallD_o (l := [0, 2]) (c2) ?_ | ((first | apply br_dec | apply br_ndec) <;> intro h <;> try (exfalso; (try dsimp only at h); omega)) | ((first | apply br_seq | apply br_nseq | apply br_not | apply br_intro) <;> intro h) | refine cond_a ?_)
    all_goals (conv => whnf)
    all_goals first
      | exact ret_out (l := [0, 1, 2, 3]) rfl rfl ⟨rfl, trivial⟩ (allRw_cons allRw_nil)
      | (exfalso; first | omega | contradiction)
      | trace_state
  rw [if_neg h3] at e0
  by_cases h4 : mchk a c = 0
  case neg =>
    rw [if_pos h4] at e0
    rw [e0, if_neg h4]
    refine fc_of mixed T_ok Tryz.func11 rfl (by kernel_rfl) (by kernel_rfl) (by kernel_rfl) ?_
    repeat' ((conv => whnf); first | refine vcall_o (l := [0, 2]) (c1) ?_ | refine vcallD_o (l := [0, 2]) (c1) ?_ | refine vcall_o (l := [0, 2]) (c2) ?_ | refine vcallD_o (l := [0, 2]) (c2) ?_ | (refine vcall_pure (c3) rfl rfl rfl ?_) | ((first | apply br_dec | apply br_ndec) <;> intro h <;> try (exfalso; (try dsimp only at h); omega)) | ((first | apply br_seq | apply br_nseq | apply br_not | apply br_intro) <;> intro h) | refine cond_a ?_)
    all_goals (conv => whnf)
    all_goals first
      | exact ret_out (l := [0, 1, 2, 3]) rfl rfl ⟨rfl, trivial⟩ (allRw_cons allRw_nil)
      | (exfalso; first | omega | contradiction)
      | trace_state
  rw [if_neg (by simpa using h4)] at e0
  rw [h4] at c3
  have ham := mchk_or a c
  rw [h4] at ham
  have hF := hb f c
  have hT := hb t c
  have n1 := ref40_Net np ps R m hm (by omega) f c
  have n2 := ref40_Net np ps R m hm (by omega) t c
  have g1 : IntKind.i64.wrap (netR R f c - a) = netR R f c - a := w64_in (by omega) (by omega)
  have g2 : IntKind.i64.wrap (netR R t c + a) = netR R t c + a := w64_in (by omega) (by omega)
  have f1 := ref40_fits (IntKind.i64.wrap (netR R f c - a))
  have f2 := ref40_fits (IntKind.i64.wrap (netR R t c + a))
  have q1 : fitB (IntKind.i64.wrap (netR R f c - a)) = fitB (netR R f c - a) := by rw [g1]
  have q2 : fitB (IntKind.i64.wrap (netR R t c + a)) = fitB (netR R t c + a) := by rw [g2]
  rw [q1] at f1
  rw [q2] at f2
  by_cases h6 : ¬ a < 0 ∧ fitB (netR R f c - a) = true ∧ fitB (netR R t c + a) = true
  case neg =>
    have e : rmE np ps R f t c a = 4 := by
      rw [e0]
      by_cases w : a < 0
      · rw [if_pos w]
      · rw [if_neg w, if_neg (fun q => h6 ⟨w, q⟩)]
    rw [e, if_neg (by decide)]
    clear e0 e
    refine fc_of mixed T_ok Tryz.func11 rfl (by kernel_rfl) (by kernel_rfl) (by kernel_rfl) ?_
    repeat' ((conv => whnf); first | refine vcall_o (l := [0, 2]) (c1) ?_ | refine vcallD_o (l := [0, 2]) (c1) ?_ | refine vcall_o (l := [0, 2]) (c2) ?_ | refine vcallD_o (l := [0, 2]) (c2) ?_ | (refine vcall_pure (c3) rfl rfl rfl ?_) | refine vcall_o (l := [0, 1, 2, 3]) (n1) ?_ | refine vcall_o (l := [0, 1, 2, 3]) (n2) ?_ | refine vcallD_o (l := [0, 1, 2, 3]) (n1) ?_ | refine vcallD_o (l := [0, 1, 2, 3]) (n2) ?_ | (refine vcall_pure (f1) rfl rfl rfl ?_) | (refine vcallD_pure (f1) rfl rfl rfl ?_) | (refine vcall_pure (f2) rfl rfl rfl ?_) | (refine vcallD_pure (f2) rfl rfl rfl ?_) | ((first | apply br_dec | apply br_ndec) <;> intro h <;> try (exfalso; (try dsimp only at h); omega)) | ((first | apply br_seq | apply br_nseq | apply br_not | apply br_intro) <;> intro h) | refine cond_a ?_)
    all_goals (conv => whnf)
    all_goals first
      | exact ret_out (l := [0, 1, 2, 3]) rfl rfl ⟨rfl, trivial⟩ (allRw_cons allRw_nil)
      | (exfalso; first | omega | contradiction)
      | (exfalso; exact h6 ⟨by assumption, by assumption, by assumption⟩)
      | trace_state
  rw [if_neg h6.1, if_pos h6.2] at e0
  have h61 := h6.1
  rw [h6.2.1] at f1
  rw [h6.2.2] at f2
  rw [e0, if_pos rfl]
  have p1 := ref40_put R m hm (by omega) f c (netR R f c - a) _ rfl
  have hl1 := putR_len R f c (netR R f c - a)
  have p2 := ref40_put (putR R f c (netR R f c - a)) _ rfl (by omega) t c (netR R t c + a) _ rfl
  have eR : rmR R f t c a = putR (putR R f c (netR R f c - a)) t c (netR R t c + a) := rfl
  rw [← eR] at p2
  clear e0 eR hl1
  generalize rmR R f t c a = R2 at *
  generalize putR R f c (netR R f c - a) = R1 at *
  rw [← g1] at p1
  rw [← g2] at p2
  refine fc_of mixed T_ok Tryz.func11 rfl (by kernel_rfl) (by kernel_rfl) (by kernel_rfl) ?_
  repeat' ((conv => whnf); first | refine vcall_o (l := [0, 2]) (c1) ?_ | refine vcallD_o (l := [0, 2]) (c1) ?_ | refine vcall_o (l := [0, 2]) (c2) ?_ | refine vcallD_o (l := [0, 2]) (c2) ?_ | (refine vcall_pure (c3) rfl rfl rfl ?_) | refine vcall_o (l := [0, 1, 2, 3]) (n1) ?_ | refine vcall_o (l := [0, 1, 2, 3]) (n2) ?_ | refine vcallD_o (l := [0, 1, 2, 3]) (n1) ?_ | refine vcallD_o (l := [0, 1, 2, 3]) (n2) ?_ | (refine vcall_pure (f1) rfl rfl rfl ?_) | (refine vcallD_pure (f1) rfl rfl rfl ?_) | (refine vcall_pure (f2) rfl rfl rfl ?_) | (refine vcallD_pure (f2) rfl rfl rfl ?_) | refine vcall_o (l := [0, 3]) (p1) ?_ | refine vcallD_o (l := [0, 3]) (p1) ?_ | refine vcall_o (l := [0, 5]) (p2) ?_ | refine vcallD_o (l := [0, 5]) (p2) ?_ | ((first | apply br_dec | apply br_ndec) <;> intro h <;> try (exfalso; (try dsimp only at h); omega)) | ((first | apply br_seq | apply br_nseq | apply br_not | apply br_intro) <;> intro h) | refine cond_a ?_)
  all_goals (conv => whnf)
  all_goals first
    | exact ret_out (l := [0, 1, 2, 3, 6]) rfl rfl ⟨rfl, rfl, trivial⟩ (allRw_cons (allRw_cons allRw_nil))
    | (exfalso; first | omega | contradiction)
    | trace_state
end Go.Proofs.YtkbidlijinclcaaGreatDoor

/- Contracts: the reference sorts positions, lists them. -/
namespace Go.Proofs.YtkbidlijinclcaaGreatDoor
open Go.RowKit Go.Sy
attribute [local irreducible] vcall vloop vcallD retP
set_option maxRecDepth 100000
set_option linter.unusedVariables false
set_option linter.unusedSimpArgs false

theorem rowIns2 {O : List Px} {m k : Nat} (hm : O.length = m) (hk : k ≤ m) {p c : ByteArray} {a : Int} {x : Px} (hx : (⟨p, a, c⟩ : Px) = x) :
    (some (HB.one false (.cols (k + 1 + (m - k)) [.sc (.strs (seg 0 k (pxOf O).p ++ [p] ++ seg (k + 0) (m - k) (pxOf O).p)), .sc (.ints .i64 (seg 0 k (pxOf O).a ++ [a] ++ seg (k + 0) (m - k) (pxOf O).a)), .sc (.strs (seg 0 k (pxOf O).c ++ [c] ++ seg (k + 0) (m - k) (pxOf O).c))])) : Option HB) = some (.one false (pxB (k + 1 + (m - k)) (pxOf (O.take k ++ x :: O.drop k)))) := by
  subst hx
  rw [seg_drop (l := (pxOf O).p) (by simp [pxOf, hm]), seg_drop (l := (pxOf O).a) (by simp [pxOf, hm]), seg_drop (l := (pxOf O).c) (by simp [pxOf, hm])]
  unfold pxOf
  simp [seg_take, List.map_take, List.map_drop]
theorem asc_lt {O : List Px} (ha : Asc O) {i j : Nat} (hij : i < j) (hj : j < O.length) : plt (O.getD i px0) (O.getD j px0) = true := by
  have := List.pairwise_iff_getElem.1 ha i j (by omega) hj hij
  rw [List.getD, List.getD, List.getElem?_eq_getElem (by omega), List.getElem?_eq_getElem hj]; exact this
/-- All before the place are smaller. -/
theorem all_lt {R O : List Px} {i m k : Nat} (h : SoI R i m O) (hd : Dist R) (hi : i < R.length) (hk : k ≤ m) (hl : 0 < k → plt (R.getD i px0) (O.getD (k - 1) px0) = false) : ∀ j, j < k → plt (O.getD j px0) (R.getD i px0) = true := by
  intro j hj
  have hm := h.m
  have hlast : plt (O.getD (k - 1) px0) (R.getD i px0) = true := by
    refine plt_total (hl (by omega)) fun e => ?_
    have hmem : O.getD (k - 1) px0 ∈ O := by
      rw [List.getD, List.getElem?_eq_getElem (show k - 1 < O.length by omega)]; exact List.getElem_mem _
    exact dist_not hd hi _ (List.mem_filter.1 (h.perm.subset hmem)).1 (same2_symm e)
  by_cases e : j = k - 1
  · rw [e]; exact hlast
  · exact plt_trans (asc_lt h.asc (show j < k - 1 by omega) (by omega)) hlast
abbrev soS (n : Nat) (R : List Px) (x : Nat × Nat × List Px) : VS := ⟨[(0, .sl 1 0 0 n), (3, .sl 2 0 0 x.2.1), (4, .int .i64 x.1)], [(1, some (.one true (pxB n (pxOf R)))), (2, some (.one false (pxB x.2.1 (pxOf x.2.2))))], 3⟩
theorem ref40_Sorted (R : List Px) (n : Nat) (hn : R.length = n) (hl : n ≤ 100000) (hd : Dist R) : FC Tryz.prog 2 33 [.sl 1 0 0 n] [(1, some (.one true (pxB n (pxOf R))))] (isOut (.sl 2 0 0 (nz R).length) [(2, some (.one false (pxB (nz R).length (pxOf (srt (nz R))))))] 3) := by
  have hnz : ∀ {i : Nat}, i ≤ n → (nz (R.take i)).length ≤ n := fun {i} hi => by
    have := List.length_filter_le (fun x : Px => decide (x.a ≠ 0)) (R.take i)
    rw [List.length_take] at this
    unfold nz; omega
  refine fc_of mixed T_ok Tryz.func33 rfl (by kernel_rfl) (by kernel_rfl) (by kernel_rfl) ?_
  repeat' ((conv => whnf); first | ((first | apply br_dec | apply br_ndec) <;> intro h <;> try (exfalso; (try dsimp only at h); omega)) | ((first | apply br_seq | apply br_nseq | apply br_not | apply br_intro) <;> intro h) | refine cond_a ?_)
  all_goals (conv => whnf)
  refine vloop_lp (soS n R) (fun x => SoI R x.1 x.2.1 x.2.2) (fun x => n - x.1) (0, 0, []) [0, 1, 2] [.slot 3 [.sc (.strs []), .sc (.ints .i64 []), .sc (.strs [])]] ⟨rfl, ⟨rfl, rfl, rfl, trivial⟩, ⟨rfl, rfl, trivial⟩⟩ ⟨Nat.zero_le _, rfl, List.Pairwise.nil, List.Perm.refl _⟩ ?_
  rintro ⟨i, m, O⟩ hI
  dsimp only at hI
  unfold soS
  dsimp only
  have hi := hI.le
  have hmn : m ≤ n := by rw [← hI.m, hI.perm.length_eq]; exact hnz (by omega)
  rw [hn] at hi
  by_cases hi2 : i < n
  · obtain ⟨b1, b2, b3⟩ := atP R i
    by_cases hz : (pxOf R).a.getD i 0 = 0
    · have hs := soI_skip hI (by omega) (by rw [← b2]; exact hz)
      repeat' ((conv => whnf); first | ((first | apply br_dec | apply br_ndec) <;> intro h <;> try (exfalso; (try dsimp only at h); omega)) | ((first | apply br_seq | apply br_nseq | apply br_not | apply br_intro) <;> intro h) | refine cond_a ?_)
      all_goals (conv => whnf)
      all_goals first
        | exact ⟨(i + 1, m, O), [0, 1, 2], [], hs, (show n - (i + 1) < n - i by omega), ⟨rfl, ⟨rfl, rfl, congrArg (fun z => some (SV.int .i64 z)) (i64_succ (by omega)), trivial⟩, ⟨rfl, rfl, trivial⟩⟩⟩
        | (exfalso; first | omega | contradiction)
        | trace_state
    · repeat' ((conv => whnf); first | ((first | apply br_dec | apply br_ndec) <;> intro h <;> try (exfalso; (try dsimp only at h); omega)) | ((first | apply br_seq | apply br_nseq | apply br_not | apply br_intro) <;> intro h) | refine cond_a ?_)
      all_goals (conv => whnf)
      all_goals first
        | (exfalso; first | omega | contradiction)
        | skip
      refine vloop_lp (fun k : Nat => ⟨[(0, .sl 1 0 0 n), (3, .sl 2 0 0 m), (4, .int .i64 i), (5, .int .i64 k)], [(1, some (.one true (pxB n (pxOf R)))), (2, some (.one false (pxB m (pxOf O))))], 3⟩) (fun k => k ≤ m ∧ (k < m → plt (R.getD i px0) (O.getD k px0) = true)) (fun k => k) m [0, 1, 2] [] ⟨rfl, ⟨rfl, rfl, rfl, rfl, trivial⟩, ⟨rfl, rfl, trivial⟩⟩ ⟨Nat.le_refl _, fun h => absurd h (Nat.lt_irrefl _)⟩ ?_
      rintro k ⟨hk, hge⟩
      have hge2 : k < m → plt (O.getD k px0) (R.getD i px0) = false := fun h => plt_asymm (hge h)
      have e1 : IntKind.i64.wrap ((k : Int) - 1) = (k : Int) - 1 := w64_in (by omega) (by omega)
      have e2 : ((k : Int) - 1).toNat = k - 1 := by omega
      have c1 : Pure Tryz.prog 55 [.agg [.str ((pxOf R).p.getD i ⟨#[]⟩), .int .i64 ((pxOf R).a.getD i 0), .str ((pxOf R).c.getD i ⟨#[]⟩)], .agg [.str ((pxOf O).p.getD (k - 1) ⟨#[]⟩), .int .i64 ((pxOf O).a.getD (k - 1) 0), .str ((pxOf O).c.getD (k - 1) ⟨#[]⟩)]] (.bool (plt (R.getD i px0) (O.getD (k - 1) px0))) := by
        obtain ⟨a1, a2, a3⟩ := atP O (k - 1)
        rw [a1, a2, a3, b1, b2, b3]; exact ref40_less _ _ _ _ _ _
      have hput := fun (hl : 0 < k → plt (R.getD i px0) (O.getD (k - 1) px0) = false) => (show k + 1 + (m - k) = m + 1 by omega) ▸ soI_put hI hd (by omega) (by rw [← b2]; exact hz) hk (all_lt hI hd (by omega) hk hl) hge2
      have hrow := rowIns2 hI.m hk (colP_eq R i)
      by_cases hk2 : 0 < k
      · cases hlt : plt (R.getD i px0) (O.getD (k - 1) px0) with
        | true =>
          rw [hlt] at c1
          have hn2 : k - 1 ≤ m ∧ (k - 1 < m → plt (R.getD i px0) (O.getD (k - 1) px0) = true) := ⟨by omega, fun _ => hlt⟩
          have e3 : (k : Int) - 1 = ((k - 1 : Nat) : Int) := by omega
          repeat' ((conv => whnf); first | (refine vcall_pure (c1) rfl rfl rfl ?_) | (refine vcallD_pure (c1) rfl rfl rfl ?_) | (simp only [e1, e2]) | ((first | apply br_dec | apply br_ndec) <;> intro h <;> try (exfalso; (try dsimp only at h); omega)) | ((first | apply br_seq | apply br_nseq | apply br_not | apply br_intro) <;> intro h) | refine cond_a ?_)
          all_goals (conv => whnf)
          all_goals first
            | exact ⟨k - 1, [0, 1, 2], [], hn2, (show k - 1 < k by omega), ⟨rfl, ⟨rfl, rfl, rfl, congrArg (fun z => some (SV.int .i64 z)) (e1.trans e3), trivial⟩, ⟨rfl, rfl, trivial⟩⟩⟩
            | exact ⟨k - 1, [0, 1, 2], [], hn2, (show k - 1 < k by omega), ⟨rfl, ⟨rfl, rfl, rfl, congrArg (fun z => some (SV.int .i64 z)) e3, trivial⟩, ⟨rfl, rfl, trivial⟩⟩⟩
            | (exfalso; first | omega | contradiction)
            | trace_state
        | false =>
          rw [hlt] at c1
          have hp := hput (fun _ => hlt)
          repeat' ((conv => whnf); first | (refine vcall_pure (c1) rfl rfl rfl ?_) | (refine vcallD_pure (c1) rfl rfl rfl ?_) | (simp only [e1, e2]) | ((first | apply br_dec | apply br_ndec) <;> intro h <;> try (exfalso; (try dsimp only at h); omega)) | ((first | apply br_seq | apply br_nseq | apply br_not | apply br_intro) <;> intro h) | refine cond_a ?_)
          all_goals (conv => whnf)
          all_goals first
            | (exfalso; first | omega | contradiction)
            | exact ⟨(i + 1, k + 1 + (m - k), O.take k ++ R.getD i px0 :: O.drop k), [0, 1, 6], [], hp, (show n - (i + 1) < n - i by omega), ⟨rfl, ⟨rfl, rfl, congrArg (fun z => some (SV.int .i64 z)) (i64_succ (by omega)), trivial⟩, ⟨rfl, hrow, trivial⟩⟩⟩
            | trace_state
      · have hp := hput (fun h => absurd h hk2)
        repeat' ((conv => whnf); first | (refine vcall_pure (c1) rfl rfl rfl ?_) | (refine vcallD_pure (c1) rfl rfl rfl ?_) | (simp only [e1, e2]) | ((first | apply br_dec | apply br_ndec) <;> intro h <;> try (exfalso; (try dsimp only at h); omega)) | ((first | apply br_seq | apply br_nseq | apply br_not | apply br_intro) <;> intro h) | refine cond_a ?_)
        all_goals (conv => whnf)
        all_goals first
          | (exfalso; first | omega | contradiction)
          | exact ⟨(i + 1, k + 1 + (m - k), O.take k ++ R.getD i px0 :: O.drop k), [0, 1, 6], [], hp, (show n - (i + 1) < n - i by omega), ⟨rfl, ⟨rfl, rfl, congrArg (fun z => some (SV.int .i64 z)) (i64_succ (by omega)), trivial⟩, ⟨rfl, hrow, trivial⟩⟩⟩
          | trace_state
  · have e : i = n := by omega
    subst e
    have e1 : srt (nz R) = O := srt_of (by have := hI.perm; rwa [← hn, List.take_length] at this) hI.asc
    have e2 : (nz R).length = m := by have := hI.perm.length_eq; rw [← hn, List.take_length] at this; rw [← this]; exact hI.m
    rw [e1, e2]
    repeat' ((conv => whnf); first | ((first | apply br_dec | apply br_ndec) <;> intro h <;> try (exfalso; (try dsimp only at h); omega)) | ((first | apply br_seq | apply br_nseq | apply br_not | apply br_intro) <;> intro h) | refine cond_a ?_)
    all_goals (conv => whnf)
    all_goals first
      | exact ret_out (l := [0, 1, 2]) rfl rfl ⟨rfl, trivial⟩ (allRw_cons allRw_nil)
      | (exfalso; omega)
      | trace_state
theorem ref40_List (np : Nat) (ps : List ByteArray) (R : List Px) (m : Nat) (hm : R.length = m) (hl : m ≤ 100000) (hd : Dist R) : FC Tryz.prog 4 16 [.ptr 1 0 0 0] (rbH true np ps m R) (isOut (.sl 4 0 0 (nz R).length) [(4, some (.one false (pxB (nz R).length (pxOf (srt (nz R))))))] 5) := by
  have c1 := ref40_Sorted R m hm hl hd
  refine fc_of mixed T_ok Tryz.func16 rfl (by kernel_rfl) (by kernel_rfl) (by kernel_rfl) ?_
  repeat' ((conv => whnf); first | refine vcall_o (l := [0, 3]) (c1) ?_ | refine vcallD_o (l := [0, 3]) (c1) ?_ | ((first | apply br_dec | apply br_ndec) <;> intro h <;> try (exfalso; (try dsimp only at h); omega)) | ((first | apply br_seq | apply br_nseq | apply br_not | apply br_intro) <;> intro h) | refine cond_a ?_)
  all_goals (conv => whnf)
  all_goals first
    | exact ret_out (l := [0, 1, 2, 3, 4]) rfl rfl ⟨rfl, trivial⟩ (allRw_cons allRw_nil)
    | (exfalso; omega)
    | trace_state
/-- The currencies of the first positions, each once. -/
def cuK (L : List Px) : Nat → List ByteArray
  | 0 => []
  | k + 1 => if inK (cuK L k) (L.getD k px0).c (cuK L k).length = true then cuK L k else cuK L k ++ [(L.getD k px0).c]
theorem cuK_len (L : List Px) : ∀ k, (cuK L k).length ≤ k
  | 0 => Nat.le_refl _
  | k + 1 => by
    have := cuK_len L k
    simp only [cuK]
    split <;> simp <;> omega
theorem inK_mem {l : List ByteArray} {s : ByteArray} {n : Nat} (hn : l.length = n) : inK l s n = true ↔ s ∈ l := by
  rw [inK_t]
  constructor
  · rintro ⟨j, hj, e⟩
    rw [← e, List.getD, List.getElem?_eq_getElem (by omega)]; exact List.getElem_mem _
  · intro h
    obtain ⟨j, hj, e⟩ := List.getElem_of_mem h
    exact ⟨j, by omega, by rw [List.getD, List.getElem?_eq_getElem hj]; exact e⟩
def cuR (R : List Px) : List ByteArray := cuK (srt (nz R)) (nz R).length
theorem ref40_Currencies (np : Nat) (ps : List ByteArray) (R : List Px) (m : Nat) (hm : R.length = m) (hl : m ≤ 100000) (hd : Dist R) : FC Tryz.prog 4 18 [.ptr 1 0 0 0] (rbH true np ps m R) (isOut (.sl 4 0 0 (cuR R).length) [(4, some (.one false (.cols (cuR R).length [.sc (.strs (cuR R))])))] 5) := by
  have c1 := ref40_List np ps R m hm hl hd
  have hlm : (nz R).length ≤ m := by rw [← hm]; exact List.length_filter_le _ _
  have hL : (srt (nz R)).length = (nz R).length := (srt_perm _).length_eq
  unfold cuR
  generalize (nz R).length = n at *
  generalize srt (nz R) = L at *
  refine fc_of mixed T_ok Tryz.func18 rfl (by kernel_rfl) (by kernel_rfl) (by kernel_rfl) ?_
  repeat' ((conv => whnf); first | refine vcall_o (l := [0, 1, 2, 3]) (c1) ?_ | refine vcallD_o (l := [0, 1, 2, 3]) (c1) ?_ | ((first | apply br_dec | apply br_ndec) <;> intro h <;> try (exfalso; (try dsimp only at h); omega)) | ((first | apply br_seq | apply br_nseq | apply br_not | apply br_intro) <;> intro h) | refine cond_a ?_)
  all_goals (conv => whnf)
  refine vloop_lp (fun k : Nat => ⟨[(4, .sl 4 0 0 n), (5, .int .i64 k), (3, .sl 5 0 0 (cuK L k).length)], (4, some (.one false (pxB n (pxOf L)))) :: (5, some (.one false (.cols (cuK L k).length [.sc (.strs (cuK L k))]))) :: rbH true np ps m R, 6⟩) (fun k => k ≤ n) (fun k => n - k) 0 [0, 1, 2, 3, 4, 5] [.slot 3 [.sc (.strs [])]] ⟨rfl, ⟨rfl, rfl, rfl, trivial⟩, ⟨rfl, rfl, rfl, rfl, rfl, trivial⟩⟩ (Nat.zero_le _) ?_
  intro k hk
  by_cases hk2 : k < n
  · have c2 := ref40_in (cuK L k).length (cuK L k) ((pxOf L).c.getD k ⟨#[]⟩) (cuK L k).length (Nat.le_refl _) (by have := cuK_len L k; omega)
    obtain ⟨b1, b2, b3⟩ := atP L k
    have hst : cuK L (k + 1) = if inK (cuK L k) ((pxOf L).c.getD k ⟨#[]⟩) (cuK L k).length = true then cuK L k else cuK L k ++ [(pxOf L).c.getD k ⟨#[]⟩] := by rw [b3]; rfl
    have hle := cuK_len L k
    by_cases g : inK (cuK L k) ((pxOf L).c.getD k ⟨#[]⟩) (cuK L k).length = true
    · rw [g] at c2
      rw [if_pos g] at hst
      repeat' ((conv => whnf); first | refine vcall_o (l := [0, 5]) (c2) ?_ | refine vcallD_o (l := [0, 5]) (c2) ?_ | ((first | apply br_dec | apply br_ndec) <;> intro h <;> try (exfalso; (try dsimp only at h); omega)) | ((first | apply br_seq | apply br_nseq | apply br_not | apply br_intro) <;> intro h) | refine cond_a ?_)
      all_goals (conv => whnf)
      all_goals first
        | exact ⟨k + 1, [0, 1, 2, 3, 4, 5], [], hk2, (show n - (k + 1) < n - k by omega), ⟨rfl, ⟨rfl, congrArg (fun z => some (SV.int .i64 z)) (i64_succ (by omega)), (by rw [hst]; rfl), trivial⟩, ⟨rfl, (by rw [hst]; rfl), rfl, rfl, rfl, trivial⟩⟩⟩
        | (exfalso; first | omega | contradiction)
        | trace_state
    · rw [Bool.eq_false_iff.2 g] at c2
      rw [if_neg g] at hst
      have hl1 : (cuK L (k + 1)).length = (cuK L k).length + 1 := by rw [hst, List.length_append]; rfl
      repeat' ((conv => whnf); first | refine vcall_o (l := [0, 5]) (c2) ?_ | refine vcallD_o (l := [0, 5]) (c2) ?_ | ((first | apply br_dec | apply br_ndec) <;> intro h <;> try (exfalso; (try dsimp only at h); omega)) | ((first | apply br_seq | apply br_nseq | apply br_not | apply br_intro) <;> intro h) | refine cond_a ?_)
      all_goals (conv => whnf)
      all_goals first
        | exact ⟨k + 1, [0, 1, 2, 3, 4, 7], [], hk2, (show n - (k + 1) < n - k by omega), ⟨rfl, ⟨rfl, congrArg (fun z => some (SV.int .i64 z)) (i64_succ (by omega)), (by rw [hl1]; rfl), trivial⟩, ⟨rfl, (by rw [hl1, hst]; rfl), rfl, rfl, rfl, trivial⟩⟩⟩
        | (exfalso; first | omega | contradiction)
        | trace_state
  · have e : k = n := by omega
    subst e
    repeat' ((conv => whnf); first | ((first | apply br_dec | apply br_ndec) <;> intro h <;> try (exfalso; (try dsimp only at h); omega)) | ((first | apply br_seq | apply br_nseq | apply br_not | apply br_intro) <;> intro h) | refine cond_a ?_)
    all_goals (conv => whnf)
    all_goals first
      | exact ret_out (l := [0, 1, 2, 3, 5]) rfl rfl ⟨rfl, trivial⟩ (allRw_cons allRw_nil)
      | (exfalso; omega)
      | trace_state
end Go.Proofs.YtkbidlijinclcaaGreatDoor

/- Plain facts: positions add up to zero, also after conversion. No program in sight. -/
namespace Go.Proofs.YtkbidlijinclcaaGreatDoor
open Go.RowKit Go.Sy
set_option linter.unusedVariables false
set_option linter.unusedSimpArgs false

def swN (ws : List Int) : Nat → Nat
  | 0 => 0
  | k + 1 => swN ws k + (ws.getD k 0).toNat
theorem swN_eq {ws : List Int} {n : Nat} (hw : ∀ k, k < n → 1 ≤ ws.getD k 0) : ∀ k, k ≤ n → (swN ws k : Int) = swK ws k
  | 0, _ => rfl
  | k + 1, h => by
    have := hw k (by omega)
    have ih := swN_eq hw k (by omega)
    simp only [swN, swK]
    omega
def rsK (A : Nat) (ws : List Int) (n : Nat) : Nat → Nat
  | 0 => 0
  | k + 1 => rsK A ws n k + rN A ws n k
theorem qr_sum (A : Nat) (ws : List Int) (n : Nat) : ∀ k, A * swN ws k = qsK A ws n k * (swK ws n).toNat + rsK A ws n k
  | 0 => by simp [swN, qsK, rsK]
  | k + 1 => by
    have ih := qr_sum A ws n k
    have : A * (ws.getD k 0).toNat = qN A ws n k * (swK ws n).toNat + rN A ws n k := by
      unfold qN rN
      have := Nat.div_add_mod (A * (ws.getD k 0).toNat) (swK ws n).toNat
      rw [Nat.mul_comm] at this; exact this.symm
    simp only [swN, qsK, rsK]
    rw [Nat.mul_add, Nat.add_mul, ih, this]; omega
theorem rs_bd (A : Nat) (ws : List Int) (n : Nat) (hS : 0 < (swK ws n).toNat) : ∀ k, rsK A ws n k + k ≤ k * (swK ws n).toNat
  | 0 => by simp [rsK]
  | k + 1 => by
    have ih := rs_bd A ws n hS k
    have : rN A ws n k < (swK ws n).toNat := Nat.mod_lt _ hS
    simp only [rsK]
    rw [Nat.succ_mul]; omega
theorem pl_asc (r : List Int) (s : Int) : ∀ k i j, i < j → j < (plK r s k).length → (plK r s k).getD i 0 < (plK r s k).getD j 0
  | 0, i, j, _, h => by simp [plK] at h
  | k + 1, i, j, hij, h => by
    simp only [plK] at h ⊢
    by_cases q : 0 < r.getD k 0 * s
    · rw [if_pos q] at h ⊢
      rw [List.length_append, List.length_singleton] at h
      rw [snoc_getD, snoc_getD, if_neg (by omega)]
      split
      · exact (pl_bd r s k i (by omega)).2
      · exact pl_asc r s k i j hij (by omega)
    · rw [if_neg q] at h ⊢
      exact pl_asc r s k i j hij h
theorem pl_pos (r : List Int) (s : Int) : ∀ k i, i < (plK r s k).length → 0 < r.getD ((plK r s k).getD i 0).toNat 0 * s
  | 0, i, h => by simp [plK] at h
  | k + 1, i, h => by
    simp only [plK] at h ⊢
    by_cases q : 0 < r.getD k 0 * s
    · rw [if_pos q] at h ⊢
      rw [List.length_append, List.length_singleton] at h
      rw [snoc_getD]
      split
      · rw [Int.toNat_natCast]; exact q
      · exact pl_pos r s k i (by omega)
    · rw [if_neg q] at h ⊢
      exact pl_pos r s k i h
theorem dvK_get {row pl P : List Int} {s : Int} {j : Nat} : ∀ k, (∀ i, i < k → (pl.getD i 0).toNat ≠ j) → (dvK row pl P s k).getD j 0 = row.getD j 0
  | 0, _ => rfl
  | k + 1, h => by
    have ih := dvK_get (row := row) (P := P) (s := s) k (fun i hi => h i (by omega))
    have hk := h k (by omega)
    simp only [dvK]
    rw [List.getD, List.getElem?_set_ne hk]; exact ih
theorem wt_pos (r : List Int) (s : Int) (i : Nat) (hi : i < dvN r s) : 1 ≤ (wtK r s 16).getD i 0 := by
  have : ∀ l : List Int, ∃ M, ∀ j, l.getD j 0 * s ≤ M := by
    intro l
    have : ∃ M, 0 ≤ M ∧ ∀ j, l.getD j 0 * s ≤ M := by
      induction l with
      | nil => exact ⟨0, Int.le_refl _, fun j => by simp⟩
      | cons x l ih =>
        obtain ⟨M, h0, h⟩ := ih
        refine ⟨max M (x * s), by omega, fun j => ?_⟩
        cases j with
        | zero => rw [List.getD_cons_zero]; omega
        | succ j => rw [List.getD_cons_succ]; have := h j; omega
    obtain ⟨M, _, h⟩ := this
    exact ⟨M, h⟩
  obtain ⟨M, hM⟩ := this r
  exact (wt_bd hM 16 i hi).1
theorem spP_len (A : Nat) (ws : List Int) (n : Nat) : (spP A ws n).length = n := by
  unfold spP
  rw [bumpK_len]; unfold spQ; exact fillK_len _ _ _ _
/-- What a division changes: only places of the sign; in sum, the amount. -/
theorem dvR_get {row r : List Int} {A : Nat} {s : Int} {j : Nat} (h : ¬ 0 < r.getD j 0 * s) : (dvR row A r s).getD j 0 = row.getD j 0 := by
  unfold dvR
  refine dvK_get _ fun i hi e => h ?_
  rw [← e]
  exact pl_pos r s 16 i (by rw [pl_len]; exact hi)
theorem liR_mem {r : List Int} {ps : List ByteArray} {c : ByteArray} : ∀ i x, x ∈ liR r ps c i → x.c = c ∧ x.a ≠ 0 ∧ ∃ j, j < i ∧ x.p = ps.getD j ⟨#[]⟩ ∧ x.a = r.getD j 0
  | 0, x, h => by simp [liR] at h
  | i + 1, x, h => by
    simp only [liR] at h
    by_cases z : r.getD i 0 = 0
    · rw [if_pos z] at h
      obtain ⟨h1, h2, j, h3, h4⟩ := liR_mem i x h
      exact ⟨h1, h2, j, by omega, h4⟩
    · rw [if_neg z] at h
      rcases List.mem_append.1 h with h | h
      · obtain ⟨h1, h2, j, h3, h4⟩ := liR_mem i x h
        exact ⟨h1, h2, j, by omega, h4⟩
      · rw [List.mem_singleton] at h
        subst h
        exact ⟨rfl, z, i, by omega, rfl, rfl⟩
theorem liR_asc {r : List Int} {ps : List ByteArray} {c : ByteArray} {n : Nat} (h : ∀ i j, i < j → j < n → strLt (ps.getD i ⟨#[]⟩) (ps.getD j ⟨#[]⟩) = true) : ∀ i, i ≤ n → (liR r ps c i).Pairwise (fun x y => strLt x.p y.p = true)
  | 0, _ => List.Pairwise.nil
  | i + 1, hi => by
    have ih := liR_asc (r := r) (c := c) h i (by omega)
    simp only [liR]
    split
    · exact ih
    · refine List.pairwise_append.2 ⟨ih, List.pairwise_singleton _ _, fun x hx y hy => ?_⟩
      rw [List.mem_singleton] at hy
      subst hy
      obtain ⟨_, _, j, hj, e, _⟩ := liR_mem i x hx
      rw [e]; exact h j i hj hi
end Go.Proofs.YtkbidlijinclcaaGreatDoor

/- Plain facts: the reference's positions are those of the book. No program in sight. -/
namespace Go.Proofs.YtkbidlijinclcaaGreatDoor
open Go.RowKit Go.Sy
set_option linter.unusedVariables false
set_option linter.unusedSimpArgs false

theorem netK_at (R : List Px) (p c : ByteArray) : ∀ m k, netK R p c m k = match (seg k m R).find? (fun x => decide (x.p = p ∧ x.c = c)) with | some x => x.a | none => 0 := by
  intro m
  induction m with
  | zero => intro k; simp [netK, seg]
  | succ m ih =>
    intro k
    by_cases hk : k < R.length
    · have e : seg k (m + 1) R = R.getD k px0 :: seg (k + 1) m R := by
        unfold seg
        rw [List.drop_eq_getElem_cons hk, List.take_succ_cons, List.getD, List.getElem?_eq_getElem hk]; rfl
      rw [e, List.find?_cons, netK, ih (k + 1)]
      by_cases g : (R.getD k px0).p = p ∧ (R.getD k px0).c = c
      · rw [if_pos g, decide_eq_true g]
      · rw [if_neg g, decide_eq_false g]
    · have e1 : seg k (m + 1) R = [] := by unfold seg; rw [List.drop_of_length_le (by omega)]; rfl
      have e2 : seg (k + 1) m R = [] := by unfold seg; rw [List.drop_of_length_le (by omega)]; exact List.take_nil
      have e3 : R.getD k px0 = px0 := by rw [List.getD, List.getElem?_eq_none (by omega)]; rfl
      rw [e1, netK, ih (k + 1), e2, e3]
      split <;> rfl
theorem netR_eq (R : List Px) (p c : ByteArray) : netR R p c = match R.find? (fun x => decide (x.p = p ∧ x.c = c)) with | some x => x.a | none => 0 := by
  unfold netR
  rw [netK_at]
  have e : seg 0 R.length R = R := by unfold seg; rw [List.drop_zero, List.take_length]
  rw [e]
theorem netR_mem {R : List Px} (hd : Dist R) {x : Px} (hx : x ∈ R) : netR R x.p x.c = x.a := by
  rw [netR_eq]
  induction R with
  | nil => cases hx
  | cons y R ih =>
    rw [List.find?_cons]
    by_cases g : y.p = x.p ∧ y.c = x.c
    · rw [decide_eq_true g]
      rcases List.mem_cons.1 hx with e | e
      · rw [e]
      · exact absurd g ((List.pairwise_cons.1 hd).1 x e)
    · rw [decide_eq_false g]
      rcases List.mem_cons.1 hx with e | e
      · exact absurd ⟨by rw [e], by rw [e]⟩ g
      · exact ih (List.pairwise_cons.1 hd).2 e
theorem netR_no {R : List Px} {p c : ByteArray} (h : ∀ x ∈ R, ¬ (x.p = p ∧ x.c = c)) : netR R p c = 0 := by
  rw [netR_eq, List.find?_eq_none.2 (fun x hx => by simpa using h x hx)]
theorem netR_cases (R : List Px) (p c : ByteArray) : (∃ x ∈ R, x.p = p ∧ x.c = c) ∨ (∀ x ∈ R, ¬ (x.p = p ∧ x.c = c)) := by
  by_cases h : ∃ x ∈ R, x.p = p ∧ x.c = c
  · exact .inl h
  · exact .inr fun x hx hh => h ⟨x, hx, hh⟩
theorem ptK_take (R : List Px) (p c : ByteArray) (n : Int) : ∀ k, k ≤ R.length → ptK R p c n k = (R.take k).map (ptX p c n)
  | 0, _ => rfl
  | k + 1, h => by
    simp only [ptK]
    rw [ptK_take R p c n k (by omega), take_getD h, List.map_append]; rfl
theorem ptD_t (R : List Px) (p c : ByteArray) : ∀ k, k ≤ R.length → (ptD R p c k = true ↔ ∃ x ∈ R.take k, x.p = p ∧ x.c = c)
  | 0, _ => by simp [ptD]
  | k + 1, h => by
    simp only [ptD]
    rw [Bool.or_eq_true, ptD_t R p c k (by omega), take_getD h, decide_eq_true_eq]
    constructor
    · rintro (⟨x, hx, hh⟩ | hh)
      · exact ⟨x, List.mem_append_left _ hx, hh⟩
      · exact ⟨_, List.mem_append_right _ (List.mem_singleton.2 rfl), hh⟩
    · rintro ⟨x, hx, hh⟩
      rcases List.mem_append.1 hx with q | q
      · exact .inl ⟨x, q, hh⟩
      · rw [List.mem_singleton] at q; subst q; exact .inr hh
theorem putR_eq (R : List Px) (p c : ByteArray) (n : Int) : (putR R p c n = R.map (ptX p c n) ∧ ∃ x ∈ R, x.p = p ∧ x.c = c) ∨ (putR R p c n = R ++ [⟨p, n, c⟩] ∧ ∀ x ∈ R, ¬ (x.p = p ∧ x.c = c)) := by
  have h1 := ptK_take R p c n R.length (Nat.le_refl _)
  have h2 := ptD_t R p c R.length (Nat.le_refl _)
  rw [List.take_length] at h1 h2
  unfold putR
  cases hd : ptD R p c R.length with
  | true => exact .inl ⟨by rw [if_pos rfl, h1], h2.1 hd⟩
  | false =>
    have hn : ∀ x ∈ R, ¬ (x.p = p ∧ x.c = c) := fun x hx hh => by
      have := h2.2 ⟨x, hx, hh⟩
      rw [hd] at this; cases this
    refine .inr ⟨?_, hn⟩
    rw [if_neg (by simp), h1]
    congr 1
    refine (List.map_congr_left fun x hx => ?_).trans (List.map_id R)
    unfold ptX
    rw [if_neg (hn x hx)]; rfl
theorem ptX_same (p c : ByteArray) (n : Int) (x : Px) : (ptX p c n x).p = x.p ∧ (ptX p c n x).c = x.c := by unfold ptX; split <;> exact ⟨rfl, rfl⟩
theorem put_dist {R : List Px} (hd : Dist R) (p c : ByteArray) (n : Int) : Dist (putR R p c n) := by
  rcases putR_eq R p c n with ⟨e, _⟩ | ⟨e, hn⟩
  · rw [e]
    unfold Dist
    rw [List.pairwise_map]
    refine hd.imp fun {a b} h q => h ?_
    unfold same2 at *
    rw [(ptX_same p c n a).1, (ptX_same p c n a).2, (ptX_same p c n b).1, (ptX_same p c n b).2] at q; exact q
  · rw [e]
    refine List.pairwise_append.2 ⟨hd, List.pairwise_singleton _ _, fun a ha b hb => ?_⟩
    rw [List.mem_singleton] at hb
    subst hb
    exact hn a ha
theorem put_net {R : List Px} (hd : Dist R) (p c : ByteArray) (n : Int) (p' c' : ByteArray) : netR (putR R p c n) p' c' = if p' = p ∧ c' = c then n else netR R p' c' := by
  have hd2 := put_dist hd p c n
  rcases putR_eq R p c n with ⟨e, x, hx, hx1, hx2⟩ | ⟨e, hn⟩
  · rcases netR_cases R p' c' with ⟨y, hy, hy1, hy2⟩ | h
    · have hm : ptX p c n y ∈ putR R p c n := by rw [e]; exact List.mem_map_of_mem hy
      have h1 := netR_mem hd2 hm
      rw [(ptX_same p c n y).1, (ptX_same p c n y).2, hy1, hy2] at h1
      have h2 := netR_mem hd hy
      rw [hy1, hy2] at h2
      rw [h1, h2]
      unfold ptX
      rw [hy1, hy2]
      split <;> rfl
    · rw [netR_no h, netR_no, if_neg]
      · rintro ⟨q1, q2⟩
        exact h x hx ⟨by rw [hx1, q1], by rw [hx2, q2]⟩
      · intro z hz
        rw [e] at hz
        obtain ⟨y, hy, rfl⟩ := List.mem_map.1 hz
        rw [(ptX_same p c n y).1, (ptX_same p c n y).2]
        exact h y hy
  · by_cases g : p' = p ∧ c' = c
    · rw [if_pos g]
      have hm : (⟨p, n, c⟩ : Px) ∈ putR R p c n := by rw [e]; exact List.mem_append_right _ (List.mem_singleton.2 rfl)
      have := netR_mem hd2 hm
      rw [g.1, g.2]; exact this
    · rw [if_neg g]
      rcases netR_cases R p' c' with ⟨y, hy, hy1, hy2⟩ | h
      · have hm : y ∈ putR R p c n := by rw [e]; exact List.mem_append_left _ hy
        have h1 := netR_mem hd2 hm
        have h2 := netR_mem hd hy
        rw [hy1, hy2] at h1 h2
        rw [h1, h2]
      · rw [netR_no h, netR_no]
        intro z hz
        rw [e] at hz
        rcases List.mem_append.1 hz with q | q
        · exact h z q
        · rw [List.mem_singleton] at q
          subst q
          exact fun w => g ⟨w.1.symm, w.2.symm⟩
/-- The reference's positions are those of the book. -/
structure RlB (b : Bk) (R : List Px) : Prop where
  d : Dist R
  net : ∀ p c, netR R p c = netI b p c
theorem netI_bd {b : Bk} {B : Int} (h : BkI b B) (hB : 0 ≤ B) (p c : ByteArray) : -B ≤ netI b p c ∧ netI b p c ≤ B := by
  unfold netI
  split
  · exact h.rb _ _
  · omega
/-- What stands in the list of a book. -/
theorem list_mem {b : Bk} {B : Int} (h : BkI b B) (hnd : b.ps.Nodup) (x : Px) : x ∈ b.list ↔ x.a ≠ 0 ∧ netI b x.p x.c = x.a := by
  have hA : ∀ cs k, x ∈ liA b cs k ↔ ∃ j, j < k ∧ x ∈ liR (b.row (cs.getD j ⟨#[]⟩)) b.ps (cs.getD j ⟨#[]⟩) b.n := by
    intro cs k
    induction k with
    | zero => simp [liA]
    | succ k ih =>
      simp only [liA, List.mem_append, ih]
      constructor
      · rintro (⟨j, hj, q⟩ | q)
        · exact ⟨j, by omega, q⟩
        · exact ⟨k, by omega, q⟩
      · rintro ⟨j, hj, q⟩
        by_cases e : j = k
        · subst e; exact .inr q
        · exact .inl ⟨j, by omega, q⟩
  have hR : ∀ (r : List Int) (c : ByteArray) (n : Nat), x ∈ liR r b.ps c n ↔ x.c = c ∧ x.a ≠ 0 ∧ ∃ j, j < n ∧ x.p = b.ps.getD j ⟨#[]⟩ ∧ x.a = r.getD j 0 := by
    intro r c n
    refine ⟨liR_mem n x, ?_⟩
    rintro ⟨h1, h2, j, hj, h3, h4⟩
    induction n with
    | zero => omega
    | succ n ih =>
      simp only [liR]
      by_cases e : j = n
      · subst e
        rw [if_neg (by rw [← h4]; exact h2)]
        refine List.mem_append_right _ (List.mem_singleton.2 ?_)
        rw [← h3, ← h4, ← h1]
      · split
        · exact ih (by omega)
        · exact List.mem_append_left _ (ih (by omega))
  have hsl : (sortS b.cs).length = b.m := by rw [sortS_length, h.C.cl]
  unfold Bk.list
  rw [hA]
  constructor
  · rintro ⟨j, hj, q⟩
    obtain ⟨h1, h2, i, hi, h3, h4⟩ := (hR _ _ _).1 q
    refine ⟨h2, ?_⟩
    have hps : b.ps[i]? = some x.p := by
      rw [h3, List.getD, List.getElem?_eq_getElem (by rw [h.psl]; exact hi)]; rfl
    have e := Go.Sy.sidx_of_get hnd hps
    unfold netI
    rw [e, if_pos hi, h1, h4]
  · rintro ⟨h1, h2⟩
    unfold netI at h2
    by_cases hp : sidx b.ps x.p < b.n
    · rw [if_pos hp] at h2
      have hc : x.c ∈ b.cs := by
        rw [mem_row h]
        intro e
        rw [e, z16_get] at h2
        exact h1 h2.symm
      have hc2 : x.c ∈ sortS b.cs := (sortS_perm b.cs).mem_iff.2 hc
      obtain ⟨j, hj, e⟩ := List.getElem_of_mem hc2
      have e2 : (sortS b.cs).getD j ⟨#[]⟩ = x.c := by rw [List.getD, List.getElem?_eq_getElem hj]; exact e
      refine ⟨j, by omega, ?_⟩
      rw [e2, hR]
      exact ⟨rfl, h1, _, hp, (sidx_at b.ps (by rw [h.psl]; exact hp)).symm, h2.symm⟩
    · rw [if_neg hp] at h2; exact absurd h2.symm h1
theorem list_asc {b : Bk} {B : Int} (h : BkI b B) (hps : b.ps.Pairwise (fun a b => strLt a b = true)) : Asc b.list := by
  have hpl : ∀ i j, i < j → j < b.n → strLt (b.ps.getD i ⟨#[]⟩) (b.ps.getD j ⟨#[]⟩) = true := by
    intro i j hij hj
    have := List.pairwise_iff_getElem.1 hps i j (by rw [h.psl]; omega) (by rw [h.psl]; exact hj) hij
    rw [List.getD, List.getD, List.getElem?_eq_getElem (by rw [h.psl]; omega), List.getElem?_eq_getElem (by rw [h.psl]; exact hj)]; exact this
  have hsl : (sortS b.cs).length = b.m := by rw [sortS_length, h.C.cl]
  have hm : ∀ k x, x ∈ liA b (sortS b.cs) k → ∃ j, j < k ∧ x.c = (sortS b.cs).getD j ⟨#[]⟩ := by
    intro k
    induction k with
    | zero => intro x hx; simp [liA] at hx
    | succ k ih =>
      intro x hx
      simp only [liA] at hx
      rcases List.mem_append.1 hx with q | q
      · obtain ⟨j, hj, e⟩ := ih x q
        exact ⟨j, by omega, e⟩
      · exact ⟨k, by omega, (liR_mem _ _ q).1⟩
  have : ∀ k, k ≤ b.m → Asc (liA b (sortS b.cs) k) := by
    intro k
    induction k with
    | zero => intro _; exact List.Pairwise.nil
    | succ k ih =>
      intro hk
      simp only [liA]
      refine List.pairwise_append.2 ⟨ih (by omega), ?_, fun x hx y hy => ?_⟩
      · have ha := liR_asc (r := b.row ((sortS b.cs).getD k ⟨#[]⟩)) (c := (sortS b.cs).getD k ⟨#[]⟩) hpl b.n (Nat.le_refl _)
        refine ha.imp_of_mem fun {x y} hx hy q => plt_iff.2 (.inr ⟨?_, q⟩)
        rw [(liR_mem _ _ hx).1, (liR_mem _ _ hy).1]
      · obtain ⟨j, hj, e⟩ := hm k x hx
        refine plt_iff.2 (.inl ?_)
        rw [e, (liR_mem _ _ hy).1]
        exact sortS_lt h.C.nd hj (by rw [h.C.cl]; omega)
  exact this b.m (Nat.le_refl _)
/-- The reference's list is the book's. -/
theorem rl_list {b : Bk} {R : List Px} {B : Int} (h : BkI b B) (hps : b.ps.Pairwise (fun a b => strLt a b = true)) (hr : RlB b R) : srt (nz R) = b.list ∧ (nz R).length = b.list.length := by
  have hnd : b.ps.Nodup := hps.imp (fun {a b} h e => by subst e; rw [strLt_irrefl] at h; cases h)
  have ha := list_asc h hps
  have nd1 : b.list.Nodup := ha.imp (fun {a b} h e => by subst e; rw [plt_irrefl] at h; cases h)
  have nd2 : (nz R).Nodup := (hr.d.imp (fun {a b} h e => h (by subst e; exact ⟨rfl, rfl⟩))).sublist List.filter_sublist
  have hp : b.list.Perm (nz R) := (List.perm_ext_iff_of_nodup nd1 nd2).2 fun x => by
    rw [list_mem h hnd]
    unfold nz
    rw [List.mem_filter, decide_eq_true_eq]
    constructor
    · rintro ⟨h1, h2⟩
      rw [← hr.net] at h2
      refine ⟨?_, h1⟩
      rcases netR_cases R x.p x.c with ⟨y, hy, hy1, hy2⟩ | q
      · have := netR_mem hr.d hy
        rw [hy1, hy2, h2] at this
        have e : x = y := by cases x; cases y; simp_all
        rw [e]; exact hy
      · rw [netR_no q] at h2; exact absurd h2.symm h1
    · rintro ⟨h1, h2⟩
      refine ⟨h2, ?_⟩
      rw [← hr.net]; exact netR_mem hr.d h1
  exact ⟨srt_of hp ha, hp.length_eq.symm⟩
theorem cuK_mem (L : List Px) : ∀ k, k ≤ L.length → ∀ s, s ∈ cuK L k ↔ ∃ x ∈ L.take k, x.c = s
  | 0, _, s => by simp [cuK]
  | k + 1, h, s => by
    have ih := cuK_mem L k (by omega) s
    have ih2 := cuK_mem L k (by omega) (L.getD k px0).c
    rw [take_getD h]
    simp only [cuK]
    split
    · rename_i g
      rw [inK_mem rfl] at g
      rw [ih]
      constructor
      · rintro ⟨x, hx, e⟩; exact ⟨x, List.mem_append_left _ hx, e⟩
      · rintro ⟨x, hx, e⟩
        rcases List.mem_append.1 hx with q | q
        · exact ⟨x, q, e⟩
        · rw [List.mem_singleton] at q
          subst q
          rw [← e]; exact ih2.1 g
    · rw [List.mem_append, ih, List.mem_singleton]
      constructor
      · rintro (⟨x, hx, e⟩ | e)
        · exact ⟨x, List.mem_append_left _ hx, e⟩
        · exact ⟨_, List.mem_append_right _ (List.mem_singleton.2 rfl), e.symm⟩
      · rintro ⟨x, hx, e⟩
        rcases List.mem_append.1 hx with q | q
        · exact .inl ⟨x, q, e⟩
        · rw [List.mem_singleton] at q
          subst q
          exact .inr e.symm
theorem cuK_asc {L : List Px} (ha : Asc L) : ∀ k, k ≤ L.length → (cuK L k).Pairwise (fun a b => strLt a b = true)
  | 0, _ => List.Pairwise.nil
  | k + 1, h => by
    have ih := cuK_asc ha k (by omega)
    simp only [cuK]
    split
    · exact ih
    · rename_i g
      rw [inK_mem rfl] at g
      refine List.pairwise_append.2 ⟨ih, List.pairwise_singleton _ _, fun x hx y hy => ?_⟩
      rw [List.mem_singleton] at hy
      subst hy
      obtain ⟨z, hz, e⟩ := (cuK_mem L k (by omega) x).1 hx
      obtain ⟨j, hj, e2⟩ := List.getElem_of_mem hz
      rw [List.length_take] at hj
      rw [List.getElem_take] at e2
      have hlt := asc_lt ha (show j < k by omega) h
      rw [List.getD, List.getElem?_eq_getElem (show j < L.length by omega)] at hlt
      simp only [Option.getD_some] at hlt
      rw [e2] at hlt
      rcases plt_iff.1 hlt with q | ⟨q, _⟩
      · rw [← e]; exact q
      · exfalso; apply g
        rw [← q, e]; exact hx
theorem rl_cur {b : Bk} {R : List Px} {B : Int} (h : BkI b B) (hps : b.ps.Pairwise (fun a b => strLt a b = true)) (hr : RlB b R) : cuR R = sortS b.cs ∧ (cuR R).length = b.m := by
  have hnd : b.ps.Nodup := hps.imp (fun {a b} h e => by subst e; rw [strLt_irrefl] at h; cases h)
  obtain ⟨e1, e2⟩ := rl_list h hps hr
  have ha := list_asc h hps
  have hc : cuR R = sortS b.cs := by
    unfold cuR
    rw [e1, e2]
    have hasc := cuK_asc ha b.list.length (Nat.le_refl _)
    refine (sortS_of ?_ hasc).symm
    refine (List.perm_ext_iff_of_nodup (hasc.imp (fun {a b} h e => by subst e; rw [strLt_irrefl] at h; cases h)) h.C.nd).2 fun s => ?_
    rw [cuK_mem _ _ (Nat.le_refl _), List.take_length]
    constructor
    · rintro ⟨x, hx, rfl⟩
      obtain ⟨q1, q2⟩ := (list_mem h hnd x).1 hx
      rw [mem_row h]
      intro e
      unfold netI at q2
      rw [e, z16_get] at q2
      split at q2 <;> exact q1 q2.symm
    · intro hs
      have hz := h.nz s hs
      have : ∃ j, j < 16 ∧ (b.row s).getD j 0 ≠ 0 := by
        refine Classical.byContradiction fun q => hz ?_
        refine getD_ext (h.rl s) rfl fun j => ?_
        rw [z16_get]
        by_cases hj : j < 16
        · exact Classical.byContradiction fun w => q ⟨j, hj, w⟩
        · rw [List.getD, List.getElem?_eq_none (by rw [h.rl]; omega)]; rfl
      obtain ⟨j, _, hj⟩ := this
      have hjn : j < b.n := Nat.lt_of_not_le fun q => hj (h.rt s j q)
      refine ⟨⟨b.ps.getD j ⟨#[]⟩, (b.row s).getD j 0, s⟩, (list_mem h hnd _).2 ⟨hj, ?_⟩, rfl⟩
      have e := Go.Sy.sidx_of_get (s := b.ps.getD j ⟨#[]⟩) hnd (show b.ps[j]? = some (b.ps.getD j ⟨#[]⟩) by rw [List.getD, List.getElem?_eq_getElem (by rw [h.psl]; exact hjn)]; rfl)
      unfold netI
      dsimp only
      rw [e, if_pos hjn]
  exact ⟨hc, by rw [hc, sortS_length, h.C.cl]⟩
/-- The parties of a book as they were handed in. -/
theorem inK_idI {ps sp : List ByteArray} {n : Nat} (hp : sp.Perm ps) (hn : ps.length = n) (s : ByteArray) : inK ps s n = false ↔ idI sp s n < 0 := by
  have hl : sp.length = n := hp.length_eq.trans hn
  rw [← Bool.not_eq_true, inK_mem hn, ← hp.mem_iff, ← Go.Sy.sidx_lt, hl]
  unfold idI
  split
  · rename_i h; constructor
    · intro q; exact absurd h q
    · intro q; omega
  · rename_i h; exact ⟨fun _ => by decide, fun _ => h⟩
theorem rl_move {b : Bk} {R : List Px} (h : BkI b 4503599627370496) {ps : List ByteArray} (hp : b.ps.Perm ps) (hr : RlB b R) (f t c : ByteArray) (a : Int) : rmE b.n ps R f t c a = mvE b f t c a ∧ (mvE b f t c a = 0 → RlB (b.mv f t c a) (rmR R f t c a)) := by
  have hpl : ps.length = b.n := by rw [← hp.length_eq]; exact h.psl
  have i1 := inK_idI hp hpl f
  have i2 := inK_idI hp hpl t
  have e0 : rmE b.n ps R f t c a = mvE b f t c a := by
    unfold rmE mvE
    by_cases q : idI b.ps f b.n < 0 ∨ idI b.ps t b.n < 0
    · rw [if_pos q, if_pos (q.elim (fun w => .inl (i1.2 w)) (fun w => .inr (i2.2 w)))]
    · rw [if_neg q, if_neg (fun w => q (w.elim (fun w => .inl (i1.1 w)) (fun w => .inr (i2.1 w))))]
      have q1 : sidx b.ps f < b.n := by
        rcases Nat.lt_or_ge (sidx b.ps f) b.n with w | w
        · exact w
        · exact absurd (.inl (by rw [idI_no (by omega)]; decide)) q
      have q2 : sidx b.ps t < b.n := by
        rcases Nat.lt_or_ge (sidx b.ps t) b.n with w | w
        · exact w
        · exact absurd (.inr (by rw [idI_no (by omega)]; decide)) q
      have e3 : f = t ↔ idI b.ps f b.n = idI b.ps t b.n := by
        constructor
        · intro e; rw [e]
        · intro e
          rw [idI_lt q1, idI_lt q2] at e
          have g1 := sidx_at (s := f) b.ps (by rw [h.psl]; exact q1)
          have g2 := sidx_at (s := t) b.ps (by rw [h.psl]; exact q2)
          rw [← g1, ← g2]
          congr 1; omega
      rw [hr.net, hr.net]
      unfold netI
      rw [if_pos q1, if_pos q2]
      by_cases w : f = t
      · rw [if_pos w, if_pos (e3.1 w)]
      · rw [if_neg w, if_neg (fun z => w (e3.2 z))]
  refine ⟨e0, fun he => ?_⟩
  have s : stE b f t c a = 0 := by
    rw [mvE_st] at he
    by_cases q : stE b f t c a = 0
    · exact q
    · rw [if_pos q] at he; exact he
  obtain ⟨hF, hT, hne, _⟩ := stE_ok s
  have hft : f ≠ t := fun e => hne (by rw [e])
  have hrow := mv_row h (by rw [he, s])
  have hmp := mv_ps b f t c a
  refine ⟨put_dist (put_dist hr.d _ _ _) _ _ _, fun p' c' => ?_⟩
  unfold rmR
  rw [put_net (put_dist hr.d _ _ _), put_net hr.d]
  have hN : netI (b.mv f t c a) p' c' = if sidx b.ps p' < b.n then (b.row c').getD (sidx b.ps p') 0 + dM b f t c a c' (sidx b.ps p') else 0 := by
    unfold netI
    rw [hmp.1, hmp.2]
    split
    · exact hrow c' _
    · rfl
  have hd : dM b f t c a c' (sidx b.ps p') = if c' = c then (if sidx b.ps p' = sidx b.ps f then -a else 0) + (if sidx b.ps p' = sidx b.ps t then a else 0) else 0 := by
    unfold dM
    by_cases q : c' = c
    · rw [if_pos ⟨s, q⟩, if_pos q]
    · rw [if_neg (fun w => q w.2), if_neg q]
  have inj : ∀ x, sidx b.ps p' < b.n → sidx b.ps x < b.n → sidx b.ps p' = sidx b.ps x → p' = x := fun x g1 g2 e => by
    have k1 := sidx_at (s := p') b.ps (by rw [h.psl]; exact g1)
    have k2 := sidx_at (s := x) b.ps (by rw [h.psl]; exact g2)
    rw [← k1, ← k2, e]
  rw [hN, hd]
  by_cases q1 : p' = t ∧ c' = c
  · obtain ⟨rfl, rfl⟩ := q1
    rw [if_pos ⟨rfl, rfl⟩, if_pos hT, if_pos rfl, if_neg (fun e => hne e.symm), if_pos rfl, hr.net]
    unfold netI
    rw [if_pos hT]; omega
  · rw [if_neg q1]
    by_cases q2 : p' = f ∧ c' = c
    · obtain ⟨rfl, rfl⟩ := q2
      rw [if_pos ⟨rfl, rfl⟩, if_pos hF, if_pos rfl, if_pos rfl, if_neg hne, hr.net]
      unfold netI
      rw [if_pos hF]; omega
    · rw [if_neg q2, hr.net]
      unfold netI
      split
      · rename_i hP
        by_cases q3 : c' = c
        · rw [if_pos q3, if_neg (fun e => q2 ⟨inj f hP hF e, q3⟩), if_neg (fun e => q1 ⟨inj t hP hT e, q3⟩)]; omega
        · rw [if_neg q3]; omega
      · rfl
end Go.Proofs.YtkbidlijinclcaaGreatDoor

/- Plain facts: the stable order of the rests is the order in which the greatest rests are taken. No program in sight. -/
namespace Go.Proofs.YtkbidlijinclcaaGreatDoor
open Go.RowKit Go.Sy
set_option linter.unusedVariables false
set_option linter.unusedSimpArgs false

/-- A place stands before another one: the greater rest, and of equal rests the first place. -/
def ltR (rs : List Int) (a b : Int) : Prop := rs.getD b.toNat 0 < rs.getD a.toNat 0 ∨ (rs.getD a.toNat 0 = rs.getD b.toNat 0 ∧ a < b)
theorem ltR_trans {rs : List Int} {a b c : Int} (h : ltR rs a b) (k : ltR rs b c) : ltR rs a c := by unfold ltR at *; omega
theorem ltR_irr {rs : List Int} {a : Int} (h : ltR rs a a) : False := by unfold ltR at h; omega
theorem insJ_sorted {n m : Nat} {rs : List Int} (hm : m < n) : ∀ (j : Nat) (l : List Int), j ≤ m → inR n l → l.getD j 0 = m → (∀ a, a ≤ m → a ≠ j → l.getD a 0 < m) → (∀ a b, a < b → b ≤ m → a ≠ j → b ≠ j → ltR rs (l.getD a 0) (l.getD b 0)) → (∀ b, j < b → b ≤ m → ltR rs (l.getD j 0) (l.getD b 0)) →
    (∀ p, m < p → (insJ rs j l).getD p 0 = l.getD p 0) ∧ (∀ a, a ≤ m → (insJ rs j l).getD a 0 ≤ m) ∧ (∀ a b, a < b → b ≤ m → ltR rs ((insJ rs j l).getD a 0) ((insJ rs j l).getD b 0))
  | 0, l, hj, hl, hx, hv, hs, hb => by
    refine ⟨fun _ _ => rfl, fun a ha => ?_, fun a b hab hbm => ?_⟩
    · simp only [insJ]
      by_cases e : a = 0
      · subst e; omega
      · have := hv a ha e; omega
    · simp only [insJ]
      by_cases e : a = 0
      · subst e; exact hb b hab hbm
      · exact hs a b hab hbm e (by omega)
  | j + 1, l, hj, hl, hx, hv, hs, hb => by
    have hlen := hl.1
    simp only [insJ]
    by_cases q : rs.getD (l.getD j 0).toNat 0 < rs.getD (l.getD (j + 1) 0).toNat 0
    · rw [if_pos q]
      have hg := fun k => sw1_getD l j k (by omega)
      obtain ⟨r1, r2, r3⟩ := insJ_sorted hm j (sw1 l j) (by omega) (sw1_in (by omega) hl) (by rw [hg, if_pos rfl]; exact hx) (fun a ha hne => by
        rw [hg, if_neg hne]
        split
        · exact hv j (by omega) (by omega)
        · exact hv a ha (by omega)) (fun a b hab hbm ha hb2 => by
        rw [hg, hg, if_neg ha, if_neg hb2]
        by_cases e1 : a = j + 1
        · rw [if_pos e1, if_neg (by omega)]
          exact hs j b (by omega) hbm (by omega) (by omega)
        · rw [if_neg e1]
          by_cases e2 : b = j + 1
          · rw [if_pos e2]
            exact hs a j (by omega) (by omega) (by omega) (by omega)
          · rw [if_neg e2]
            exact hs a b hab hbm e1 e2) (fun b hjb hbm => by
        rw [hg, hg, if_pos rfl, if_neg (by omega)]
        by_cases e2 : b = j + 1
        · rw [if_pos e2]; exact .inl q
        · rw [if_neg e2]; exact hb b (by omega) hbm)
      refine ⟨fun p hp => ?_, r2, r3⟩
      rw [r1 p hp, hg, if_neg (by omega), if_neg (by omega)]
    · rw [if_neg q]
      have hj1 : ltR rs (l.getD j 0) (l.getD (j + 1) 0) := by
        have := hv j (by omega) (by omega)
        unfold ltR
        rw [hx] at q ⊢
        omega
      refine ⟨fun _ _ => rfl, fun a ha => ?_, fun a b hab hbm => ?_⟩
      · by_cases e : a = j + 1
        · subst e; omega
        · have := hv a ha e; omega
      · by_cases e1 : a = j + 1
        · subst e1; exact hb b hab hbm
        · by_cases e2 : b = j + 1
          · subst e2
            by_cases e3 : a = j
            · subst e3; exact hj1
            · exact ltR_trans (hs a j (by omega) (by omega) e1 (by omega)) hj1
          · exact hs a b hab hbm e1 e2
theorem spI_get {n i : Nat} (h : i < n) : (spI n).getD i 0 = i := by unfold spI; rw [fillK_get _ _ _ _ _ _ h h]
theorem insO_sorted {n : Nat} (rs : List Int) : ∀ k, k < n → (∀ p, k < p → p < n → (insO rs (spI n) k).getD p 0 = p) ∧ (∀ a, a ≤ k → (insO rs (spI n) k).getD a 0 ≤ k) ∧ (∀ a b, a < b → b ≤ k → ltR rs ((insO rs (spI n) k).getD a 0) ((insO rs (spI n) k).getD b 0))
  | 0, hk => by
    refine ⟨fun p _ hp => spI_get hp, fun a ha => ?_, fun a b h1 h2 => by omega⟩
    have e : a = 0 := by omega
    subst e
    simp only [insO]
    rw [spI_get hk]; exact Int.le_refl _
  | k + 1, hk => by
    obtain ⟨h1, h2, h3⟩ := insO_sorted (n := n) rs k (by omega)
    have hin := insO_in rs (spI n) (spI_in n) k (by omega)
    obtain ⟨r1, r2, r3⟩ := insJ_sorted (rs := rs) hk (k + 1) (insO rs (spI n) k) (Nat.le_refl _) hin (h1 (k + 1) (by omega) hk) (fun a ha hne => by have := h2 a (by omega); omega) (fun a b hab hbm ha hb => h3 a b hab (by omega)) (fun b hb1 hb2 => by omega)
    refine ⟨fun p hp hpn => ?_, r2, r3⟩
    simp only [insO]
    rw [r1 p hp]; exact h1 p (by omega) hpn
/-- The order is strictly ascending, and has every place. -/
theorem spO_sorted {rs : List Int} {n : Nat} (hn : 1 ≤ n) {a b : Nat} (hab : a < b) (hb : b < n) : ltR rs ((insO rs (spI n) (n - 1)).getD a 0) ((insO rs (spI n) (n - 1)).getD b 0) := (insO_sorted rs (n - 1) (by omega)).2.2 a b hab (by omega)
theorem spO_all {rs : List Int} {n : Nat} (hn : 1 ≤ n) {i : Nat} (hi : i < n) : ∃ j, j < n ∧ ((insO rs (spI n) (n - 1)).getD j 0).toNat = i := by
  have hin := insO_in rs (spI n) (spI_in n) (n - 1) (by omega)
  refine Classical.byContradiction fun hno => ?_
  have hnd : ((insO rs (spI n) (n - 1)).map Int.toNat).Nodup := by
    refine List.pairwise_iff_getElem.2 fun a b ha hb hab e => ?_
    rw [List.length_map, hin.1] at ha hb
    have h := spO_sorted (rs := rs) hn hab hb
    have ga := hin.2 a ha
    have gb := hin.2 b hb
    rw [List.getElem_map, List.getElem_map] at e
    have ea : (insO rs (spI n) (n - 1)).getD a 0 = (insO rs (spI n) (n - 1))[a]'(by rw [hin.1]; exact ha) := by rw [List.getD, List.getElem?_eq_getElem (by rw [hin.1]; exact ha)]; rfl
    have eb : (insO rs (spI n) (n - 1)).getD b 0 = (insO rs (spI n) (n - 1))[b]'(by rw [hin.1]; exact hb) := by rw [List.getD, List.getElem?_eq_getElem (by rw [hin.1]; exact hb)]; rfl
    rw [← ea, ← eb] at e
    have : (insO rs (spI n) (n - 1)).getD a 0 = (insO rs (spI n) (n - 1)).getD b 0 := by omega
    rw [this] at h
    exact ltR_irr h
  have hlt := nodup_cons_lt (n := n) (i := i) hnd (fun x hx => by
    obtain ⟨y, hy, rfl⟩ := List.mem_map.1 hx
    obtain ⟨j, hj, rfl⟩ := List.getElem_of_mem hy
    rw [hin.1] at hj
    have := hin.2 j hj
    rw [List.getD, List.getElem?_eq_getElem (by rw [hin.1]; exact hj)] at this
    simp only [Option.getD_some] at this
    omega) hi (fun hm => by
    obtain ⟨y, hy, e⟩ := List.mem_map.1 hm
    obtain ⟨j, hj, rfl⟩ := List.getElem_of_mem hy
    rw [hin.1] at hj
    exact hno ⟨j, hj, by rw [List.getD, List.getElem?_eq_getElem (by rw [hin.1]; exact hj)]; exact e⟩)
  rw [List.length_map, hin.1] at hlt
  omega
/-- The first of the greatest among the first places. -/
def bsK (R : List Int) : Nat → Nat
  | 0 => 0
  | k + 1 => if R.getD (bsK R k) 0 < R.getD k 0 then k else bsK R k
theorem bsK_spec (R : List Int) : ∀ k, (1 ≤ k → bsK R k < k) ∧ (∀ j, j < k → R.getD j 0 ≤ R.getD (bsK R k) 0) ∧ (∀ j, j < bsK R k → R.getD j 0 < R.getD (bsK R k) 0)
  | 0 => ⟨fun h => by omega, fun j hj => by omega, fun j hj => by simp [bsK] at hj⟩
  | k + 1 => by
    obtain ⟨h1, h2, h3⟩ := bsK_spec R k
    simp only [bsK]
    by_cases q : R.getD (bsK R k) 0 < R.getD k 0
    · rw [if_pos q]
      refine ⟨fun _ => by omega, fun j hj => ?_, fun j hj => ?_⟩
      · by_cases e : j = k
        · subst e; exact Int.le_refl _
        · have := h2 j (by omega); omega
      · have := h2 j hj; omega
    · rw [if_neg q]
      refine ⟨fun _ => ?_, fun j hj => ?_, h3⟩
      · rcases Nat.eq_zero_or_pos k with e | e
        · subst e; simp [bsK]
        · have := h1 e; omega
      · by_cases e : j = k
        · subst e; omega
        · exact h2 j (by omega)
/-- The rests, those that were taken out of the way. -/
def rsT (R O : List Int) : Nat → List Int
  | 0 => R
  | t + 1 => (rsT R O t).set (O.getD t 0).toNat (-1)
theorem rsT_len (R O : List Int) : ∀ t, (rsT R O t).length = R.length
  | 0 => rfl
  | t + 1 => by simp only [rsT, List.length_set]; exact rsT_len R O t
theorem rsT_in {R O : List Int} {n : Nat} (hR : R.length = n) (hO : inR n O) : ∀ t, t ≤ n → ∀ i, (rsT R O t).getD i 0 = R.getD i 0 ∧ (∀ j, j < t → (O.getD j 0).toNat ≠ i) ∨ (rsT R O t).getD i 0 = -1 ∧ ∃ j, j < t ∧ (O.getD j 0).toNat = i
  | 0, _, i => .inl ⟨rfl, fun j hj => by omega⟩
  | t + 1, ht, i => by
    have ho := hO.2 t (by omega)
    simp only [rsT]
    rw [set_getD2 _ _ _ _ (by rw [rsT_len, hR]; omega)]
    by_cases e : i = (O.getD t 0).toNat
    · rw [if_pos e]; exact .inr ⟨rfl, t, by omega, e.symm⟩
    · rw [if_neg e]
      rcases rsT_in hR hO t (by omega) i with ⟨a, b⟩ | ⟨a, j, hj, b⟩
      · refine .inl ⟨a, fun j hj => ?_⟩
        by_cases e2 : j = t
        · subst e2; exact fun q => e q.symm
        · exact b j (by omega)
      · exact .inr ⟨a, j, by omega, b⟩
theorem best_is {R : List Int} {n : Nat} (hR : R.length = n) (hn : 1 ≤ n) (h0 : ∀ i, 0 ≤ R.getD i 0) {t : Nat} (ht : t < n) : bsK (rsT R (insO R (spI n) (n - 1)) t) n = ((insO R (spI n) (n - 1)).getD t 0).toNat := by
  have hin := insO_in R (spI n) (spI_in n) (n - 1) (by omega)
  obtain ⟨b1, b2, b3⟩ := bsK_spec (rsT R (insO R (spI n) (n - 1)) t) n
  have hbn := b1 hn
  obtain ⟨j, hj, ej⟩ := spO_all (rs := R) hn hbn
  have hot := hin.2 t ht
  have hoj := hin.2 j hj
  have hmax := b2 ((insO R (spI n) (n - 1)).getD t 0).toNat (by omega)
  have hfst := b3 ((insO R (spI n) (n - 1)).getD t 0).toNat
  have inj : ∀ a b, a < n → b < n → ((insO R (spI n) (n - 1)).getD a 0).toNat = ((insO R (spI n) (n - 1)).getD b 0).toNat → a = b := by
    intro a b ha hb e
    have ga := hin.2 a ha
    have gb := hin.2 b hb
    have e2 : (insO R (spI n) (n - 1)).getD a 0 = (insO R (spI n) (n - 1)).getD b 0 := by omega
    rcases Nat.lt_trichotomy a b with q | q | q
    · have := spO_sorted (rs := R) hn q hb; rw [e2] at this; exact (ltR_irr this).elim
    · exact q
    · have := spO_sorted (rs := R) hn q ha; rw [e2] at this; exact (ltR_irr this).elim
  have et : (rsT R (insO R (spI n) (n - 1)) t).getD ((insO R (spI n) (n - 1)).getD t 0).toNat 0 = R.getD ((insO R (spI n) (n - 1)).getD t 0).toNat 0 := by
    rcases rsT_in hR hin t (by omega) ((insO R (spI n) (n - 1)).getD t 0).toNat with ⟨a, _⟩ | ⟨_, i, hi, q⟩
    · exact a
    · have := inj i t (by omega) ht q; omega
  rw [et] at hmax hfst
  have h0t := h0 ((insO R (spI n) (n - 1)).getD t 0).toNat
  rcases rsT_in hR hin t (by omega) (bsK (rsT R (insO R (spI n) (n - 1)) t) n) with ⟨a, c⟩ | ⟨a, _⟩
  · rw [a] at hmax hfst
    rw [← ej] at hmax hfst c ⊢
    rcases Nat.lt_trichotomy j t with q | q | q
    · exact absurd rfl (c j q)
    · rw [q]
    · have hs := spO_sorted (rs := R) hn q hj
      unfold ltR at hs
      exfalso
      rcases hs with hs | ⟨hs1, hs2⟩
      · omega
      · have := hfst (by omega)
        omega
  · rw [a] at hmax; omega
end Go.Proofs.YtkbidlijinclcaaGreatDoor

/- Plain facts: amounts are added to positions, one after the other. No program in sight. -/
namespace Go.Proofs.YtkbidlijinclcaaGreatDoor
open Go.RowKit Go.Sy
set_option linter.unusedVariables false
set_option linter.unusedSimpArgs false

/-- The amount of the last position of a party, among the first ones. -/
def oldK (O : List Px) (p : ByteArray) : Nat → Int
  | 0 => 0
  | k + 1 => if (O.getD k px0).p = p then (O.getD k px0).a else oldK O p k
theorem oldK_net {O : List Px} {t : ByteArray} (hd : Dist O) (hc : ∀ x ∈ O, x.c = t) (p : ByteArray) : oldK O p O.length = netR O p t := by
  have key : ∀ k, k ≤ O.length → (∃ x ∈ O.take k, x.p = p ∧ oldK O p k = x.a) ∨ ((∀ x ∈ O.take k, x.p ≠ p) ∧ oldK O p k = 0) := by
    intro k
    induction k with
    | zero => intro _; exact .inr ⟨fun x hx => by simp at hx, rfl⟩
    | succ k ih =>
      intro hk
      rw [take_getD hk]
      simp only [oldK]
      by_cases e : (O.getD k px0).p = p
      · rw [if_pos e]
        exact .inl ⟨_, List.mem_append_right _ (List.mem_singleton.2 rfl), e, rfl⟩
      · rw [if_neg e]
        rcases ih (by omega) with ⟨x, h1, h2, h3⟩ | ⟨h1, h2⟩
        · exact .inl ⟨x, List.mem_append_left _ h1, h2, h3⟩
        · refine .inr ⟨fun x hx => ?_, h2⟩
          rcases List.mem_append.1 hx with q | q
          · exact h1 x q
          · rw [List.mem_singleton] at q; subst q; exact e
  have h := key O.length (Nat.le_refl _)
  rw [List.take_length] at h
  rcases h with ⟨x, h1, h2, h3⟩ | ⟨h1, h2⟩
  · rw [h3]
    have := netR_mem hd h1
    rw [h2, hc x h1] at this
    exact this.symm
  · rw [h2, netR_no fun x hx hh => h1 x hx hh.1]
/-- An amount is added to the position of a party. -/
def upd (O : List Px) (t p : ByteArray) (v : Int) : List Px := putR O p t (netR O p t + v)
def stL (t : ByteArray) (Z : List (ByteArray × Int)) (O : List Px) : List Px := Z.foldl (fun O z => upd O t z.1 z.2) O
theorem stL_snoc (t : ByteArray) (Z : List (ByteArray × Int)) (z : ByteArray × Int) (O : List Px) : stL t (Z ++ [z]) O = upd (stL t Z O) t z.1 z.2 := by unfold stL; rw [List.foldl_append]; rfl
theorem put_c {O : List Px} {t : ByteArray} (hc : ∀ x ∈ O, x.c = t) (p : ByteArray) (v : Int) : ∀ x ∈ putR O p t v, x.c = t := by
  rcases putR_eq O p t v with ⟨e, _⟩ | ⟨e, _⟩
  · rw [e]
    intro x hx
    obtain ⟨y, hy, rfl⟩ := List.mem_map.1 hx
    rw [(ptX_same p t v y).2]; exact hc y hy
  · rw [e]
    intro x hx
    rcases List.mem_append.1 hx with q | q
    · exact hc x q
    · rw [List.mem_singleton] at q; subst q; rfl
/-- Positions of one currency, each party once, within a bound. -/
structure OneC (t : ByteArray) (B : Int) (O : List Px) : Prop where
  d : Dist O
  c : ∀ x ∈ O, x.c = t
  b : ∀ p, -B ≤ netR O p t ∧ netR O p t ≤ B
theorem upd_one {t : ByteArray} {B V : Int} {O : List Px} (h : OneC t B O) (p : ByteArray) {v : Int} (h0 : 0 ≤ V) (hv : -V ≤ v ∧ v ≤ V) : OneC t (B + V) (upd O t p v) := by
  refine ⟨put_dist h.d _ _ _, put_c h.c _ _, fun p' => ?_⟩
  unfold upd
  rw [put_net h.d]
  have h1 := h.b p
  have h2 := h.b p'
  split <;> omega
theorem stL_one {t : ByteArray} {B V : Int} {O : List Px} (h : OneC t B O) (h0 : 0 ≤ V) : ∀ (Z : List (ByteArray × Int)), (∀ z ∈ Z, -V ≤ z.2 ∧ z.2 ≤ V) → OneC t (B + V * (Z.length : Int)) (stL t Z O) := by
  intro Z
  induction Z generalizing O B with
  | nil => intro _; simpa [stL] using h
  | cons z Z ih =>
    intro hz
    have h1 := upd_one h z.1 h0 (hz z (List.mem_cons_self))
    have h2 := ih h1 (fun y hy => hz y (List.mem_cons_of_mem _ hy))
    have e : B + V * (((z :: Z).length : Nat) : Int) = B + V + V * (Z.length : Int) := by
      rw [List.length_cons, Int.natCast_add, Int.mul_add]; omega
    rw [e]; exact h2
theorem stL_len (t : ByteArray) : ∀ (Z : List (ByteArray × Int)) (O : List Px), (stL t Z O).length ≤ O.length + Z.length
  | [], O => Nat.le_refl _
  | z :: Z, O => by
    have h1 := stL_len t Z (upd O t z.1 z.2)
    have h2 := putR_len O z.1 t (netR O z.1 t + z.2)
    have e : stL t (z :: Z) O = stL t Z (upd O t z.1 z.2) := rfl
    rw [e, List.length_cons]
    unfold upd at h1 ⊢
    omega
/-- The positions are those of a row of sums. -/
def RelS (b : Bk) (t : ByteArray) (O : List Px) (f : Nat → Int) : Prop := ∀ p, netR O p t = if sidx b.ps p < b.n then f (sidx b.ps p) else 0
/-- What a list of amounts adds at a place. -/
def gZ (ps : List ByteArray) (Z : List (ByteArray × Int)) (j : Nat) : Int := (Z.map (fun z => if sidx ps z.1 = j then z.2 else 0)).sum
theorem stL_rel {b : Bk} {t : ByteArray} (hl : b.ps.length = b.n) : ∀ (Z : List (ByteArray × Int)) {O : List Px} {f : Nat → Int}, Dist O → (∀ z ∈ Z, sidx b.ps z.1 < b.n) → RelS b t O f → RelS b t (stL t Z O) (fun j => f j + gZ b.ps Z j) := by
  intro Z
  induction Z with
  | nil => intro O f _ _ h p; rw [show stL t [] O = O from rfl, h p]; simp [gZ]
  | cons z Z ih =>
    intro O f hd hz h
    have hzn := hz z (List.mem_cons_self)
    have h1 : RelS b t (upd O t z.1 z.2) (fun j => f j + (if sidx b.ps z.1 = j then z.2 else 0)) := by
      intro p
      unfold upd
      rw [put_net hd]
      by_cases e : p = z.1
      · subst e
        rw [if_pos ⟨rfl, rfl⟩, if_pos hzn]
        dsimp only
        rw [if_pos rfl, h z.1, if_pos hzn]
      · rw [if_neg (fun q => e q.1), h p]
        by_cases q : sidx b.ps p < b.n
        · rw [if_pos q, if_pos q]
          dsimp only
          rw [if_neg, Int.add_zero]
          intro w
          apply e
          have k1 := sidx_at (s := p) b.ps (by rw [hl]; exact q)
          have k2 := sidx_at (s := z.1) b.ps (by rw [hl]; exact hzn)
          rw [← k1, ← k2, w]
        · rw [if_neg q, if_neg q]
    have h2 := ih (put_dist hd _ _ _) (fun y hy => hz y (List.mem_cons_of_mem _ hy)) h1
    intro p
    have h3 := h2 p
    have e : stL t (z :: Z) O = stL t Z (upd O t z.1 z.2) := rfl
    rw [e]
    refine h3.trans ?_
    split
    · dsimp only
      unfold gZ
      rw [List.map_cons, List.sum_cons]
      omega
    · rfl
/-- The positions of a currency with a sign. -/
def fS (L : List Px) (c : ByteArray) (s : Int) : List Px := L.filter (fun x => decide (x.c = c ∧ 0 < x.a * s))
theorem fS_succ {L : List Px} {c : ByteArray} {s : Int} {k : Nat} (hk : k < L.length) : fS (L.take (k + 1)) c s = if (L.getD k px0).c = c ∧ 0 < (L.getD k px0).a * s then fS (L.take k) c s ++ [L.getD k px0] else fS (L.take k) c s := by
  unfold fS
  rw [take_getD hk, List.filter_append, List.filter_cons]
  split
  · rename_i h; rw [if_pos (of_decide_eq_true h)]; rfl
  · rename_i h; rw [if_neg (fun q => h (decide_eq_true q))]; simp
theorem fS_row {r : List Int} {ps : List ByteArray} {c : ByteArray} {s : Int} : ∀ n, fS (liR r ps c n) c s = (plK r s n).map (fun j => ⟨ps.getD j.toNat ⟨#[]⟩, r.getD j.toNat 0, c⟩)
  | 0 => rfl
  | n + 1 => by
    have ih := fS_row (r := r) (ps := ps) (c := c) (s := s) n
    simp only [liR, plK]
    by_cases z : r.getD n 0 = 0
    · rw [if_pos z, if_neg (by rw [z]; simp), ih]
    · rw [if_neg z]
      unfold fS at ih ⊢
      rw [List.filter_append, ih, List.filter_cons]
      by_cases q : 0 < r.getD n 0 * s
      · rw [if_pos q, if_pos (decide_eq_true ⟨rfl, q⟩), List.map_append]
        simp
      · rw [if_neg q, if_neg (by simpa using q)]
        simp
theorem fS_other {r : List Int} {ps : List ByteArray} {c c' : ByteArray} {s : Int} (h : c' ≠ c) (n : Nat) : fS (liR r ps c' n) c s = [] := by
  unfold fS
  rw [List.filter_eq_nil_iff]
  intro x hx
  have := (liR_mem n x hx).1
  rw [decide_eq_true_eq]
  rintro ⟨q, _⟩
  exact h (this.symm.trans q)
theorem plK_more {r : List Int} {s : Int} {n : Nat} (h : ∀ j, n ≤ j → r.getD j 0 = 0) : ∀ d, plK r s (n + d) = plK r s n ∧ wtK r s (n + d) = wtK r s n
  | 0 => ⟨rfl, rfl⟩
  | d + 1 => by
    obtain ⟨h1, h2⟩ := plK_more (s := s) h d
    have e : r.getD (n + d) 0 = 0 := h _ (by omega)
    have e1 : plK r s (n + (d + 1)) = if 0 < r.getD (n + d) 0 * s then plK r s (n + d) ++ [((n + d : Nat) : Int)] else plK r s (n + d) := rfl
    have e2 : wtK r s (n + (d + 1)) = if 0 < r.getD (n + d) 0 * s then wtK r s (n + d) ++ [r.getD (n + d) 0 * s] else wtK r s (n + d) := rfl
    rw [e1, e2, e, if_neg (by simp), if_neg (by simp)]
    exact ⟨h1, h2⟩
theorem wt_map (r : List Int) (s : Int) : ∀ n, wtK r s n = (plK r s n).map (fun j => r.getD j.toNat 0 * s)
  | 0 => rfl
  | n + 1 => by
    simp only [wtK, plK]
    split
    · rw [List.map_append, wt_map r s n]; simp
    · exact wt_map r s n
/-- The positions of a currency with a sign, by the row. -/
theorem fS_list {b : Bk} {B : Int} (h : BkI b B) {c : ByteArray} (hc : c ∈ b.cs) (s : Int) : fS b.list c s = (plK (b.row c) s 16).map (fun j => ⟨b.ps.getD j.toNat ⟨#[]⟩, (b.row c).getD j.toNat 0, c⟩) := by
  have hsl : (sortS b.cs).length = b.m := by rw [sortS_length, h.C.cl]
  have hnd : (sortS b.cs).Nodup := (sortS_perm b.cs).symm.nodup h.C.nd
  have hc2 : c ∈ sortS b.cs := (sortS_perm b.cs).mem_iff.2 hc
  obtain ⟨i, hi, e⟩ := List.getElem_of_mem hc2
  have hat : ∀ k, k < b.m → ((sortS b.cs).getD k ⟨#[]⟩ = c ↔ k = i) := fun k hk => by
    have e1 : (sortS b.cs).getD k ⟨#[]⟩ = (sortS b.cs)[k]'(by omega) := by rw [List.getD, List.getElem?_eq_getElem (by omega)]; rfl
    rw [e1, ← e]
    exact ⟨fun q => (List.getElem_inj hnd).1 q, fun q => by subst q; rfl⟩
  have hcat : ∀ A M : List Px, fS (A ++ M) c s = fS A c s ++ fS M c s := fun A M => List.filter_append _ _
  have key : ∀ k, k ≤ b.m → fS (liA b (sortS b.cs) k) c s = if i < k then (plK (b.row c) s b.n).map (fun j => ⟨b.ps.getD j.toNat ⟨#[]⟩, (b.row c).getD j.toNat 0, c⟩) else [] := by
    intro k
    induction k with
    | zero => intro _; rw [if_neg (by omega)]; rfl
    | succ k ih =>
      intro hk
      simp only [liA]
      rw [hcat, ih (by omega)]
      by_cases q : k = i
      · have ec := (hat k (by omega)).2 q
        rw [ec, fS_row, if_neg (by omega), if_pos (by omega)]; rfl
      · rw [fS_other (fun w => q ((hat k (by omega)).1 w)), List.append_nil]
        by_cases w : i < k
        · rw [if_pos w, if_pos (by omega)]
        · rw [if_neg w, if_neg (by omega)]
  have hn := h.n16
  have := key b.m (Nat.le_refl _)
  unfold Bk.list
  rw [this, if_pos (by omega)]
  have hp := (plK_more (s := s) (h.rt c) (16 - b.n)).1
  rw [show b.n + (16 - b.n) = 16 by omega] at hp
  rw [hp]
/-- Sums over places that are named once. -/
theorem dvK_z {row pl P : List Int} {s : Int} {j : Nat} (hr : row.length = 16) (hp : ∀ i, i < pl.length → (pl.getD i 0).toNat < 16) (hz : ∀ i, i < pl.length → row.getD (pl.getD i 0).toNat 0 = 0) (hd : ∀ i k, i < k → k < pl.length → (pl.getD i 0).toNat ≠ (pl.getD k 0).toNat) : ∀ k, k ≤ pl.length → (dvK row pl P s k).getD j 0 = row.getD j 0 + (dvK z16 pl P s k).getD j 0
  | 0, _ => by simp only [dvK]; rw [z16_get]; omega
  | k + 1, hk => by
    have ih := dvK_z (P := P) (s := s) (j := j) hr hp hz hd k (by omega)
    have h16 := hp k (by omega)
    simp only [dvK]
    rw [set_getD2 _ _ _ _ (by rw [dvK_len, hr]; exact h16), set_getD2 _ _ _ _ (by rw [dvK_len]; exact h16)]
    by_cases e : j = (pl.getD k 0).toNat
    · rw [if_pos e, if_pos e, e, hz k (by omega)]; omega
    · rw [if_neg e, if_neg e]; exact ih
theorem gZ_dv {ps : List ByteArray} {pl P : List Int} {s : Int} {N : Nat} (hN : pl.length = N) (hp : ∀ i, i < N → (pl.getD i 0).toNat < 16) (hd : ∀ i k, i < k → k < N → (pl.getD i 0).toNat ≠ (pl.getD k 0).toNat) (Z : Nat → List (ByteArray × Int)) (h0 : Z 0 = []) (hs : ∀ k, k < N → Z (k + 1) = Z k ++ [(ps.getD (pl.getD k 0).toNat ⟨#[]⟩, s * P.getD k 0)]) (hi : ∀ k, k < N → sidx ps (ps.getD (pl.getD k 0).toNat ⟨#[]⟩) = (pl.getD k 0).toNat) (j : Nat) : ∀ k, k ≤ N → gZ ps (Z k) j = (dvK z16 pl P s k).getD j 0
  | 0, _ => by rw [h0]; simp only [dvK]; rw [z16_get]; rfl
  | k + 1, hk => by
    have ih := gZ_dv (s := s) (P := P) hN hp hd Z h0 hs hi j k (by omega)
    have h16 := hp k (by omega)
    have hget := dvK_get (row := z16) (P := P) (s := s) (j := (pl.getD k 0).toNat) (pl := pl) k (fun i hi => hd i k hi (by omega))
    rw [z16_get] at hget
    rw [hs k (by omega)]
    simp only [dvK]
    rw [set_getD2 _ _ _ _ (by rw [dvK_len]; exact h16)]
    unfold gZ at ih ⊢
    rw [List.map_append, List.sum_append, ih, List.map_singleton, List.sum_singleton]
    dsimp only
    rw [hi k (by omega)]
    by_cases e : j = (pl.getD k 0).toNat
    · subst e
      rw [if_pos rfl, if_pos rfl, hget, Int.mul_comm]; omega
    · rw [if_neg (fun q => e q.symm), if_neg e]; omega
end Go.Proofs.YtkbidlijinclcaaGreatDoor

