/- The laws of package auth: AuthConserves. -/
import Derived.Test.YtllgfdogieohaaaAuthParts
namespace Go.Proofs.Ytllgfdogieohaaa
open Go.RowKit Go.Sx
attribute [local irreducible] vcall vloop callQ
set_option maxRecDepth 100000
set_option linter.unusedVariables false

/-- A step that was done: what it keeps. -/
structure Kept (a b : Au) (k u r : Int) : Prop where
  chk : checkZ b = 0
  pos : 0 < openZ a
  u0 : 0 ≤ u
  r0 : 0 ≤ r
  app : a.app ≤ b.app
  kind : b.app = a.app ∨ k.tmod 4 = 1
  op : openZ b = openZ a + (b.app - a.app) - u - r
  sum : b.app = b.rev + b.cle + b.exp + openZ b
  rev : a.rev ≤ b.rev
  cle : b.cle = a.cle + u
  exp : a.exp ≤ b.exp

theorem openZ_ok {a : Au} (h : checkZ a = 0) : openZ a = a.app - a.rev - a.cle - a.exp := by
  unfold openZ; rw [if_pos h]; exact (facts_of h).funds
theorem kept_mk {a b : Au} {k u r : Int} (ha : checkZ a = 0) (hpos : 0 < fundsW a) (hid : b.id = a.id) (hcur : b.cur = a.cur) (h1 : a.app ≤ b.app) (h1' : b.app ≤ 999999999999) (h2 : a.rev ≤ b.rev) (h3 : b.cle = a.cle + u) (h4 : a.exp ≤ b.exp)
    (hu : 0 ≤ u) (hr : 0 ≤ r) (hk : b.app = a.app ∨ k.tmod 4 = 1) (hbal : b.app - b.rev - b.cle - b.exp = a.app - a.rev - a.cle - a.exp + (b.app - a.app) - u - r) (hnn : 0 ≤ b.app - b.rev - b.cle - b.exp)
    (ht : 0 ≤ b.att ∧ b.att ≤ 1099511627776 ∧ b.att < b.unt ∧ b.unt ≤ 1099511627776) (hp : 0 ≤ b.pa ∧ b.pa ≤ 8 ∧ b.pa ≤ b.cle ∧ (b.pa = 0 ↔ b.cle = 0)) (hs : b.st = stateOf b) (he : 0 < b.app - b.rev - b.cle - b.exp → b.exp = 0) : Kept a b k u r := by
  have f := facts_of ha
  have f3 := f.app; have f4 := f.rev; have f5 := f.cle; have f6 := f.exp; have f7 := f.funds
  have e := fundsW_eq b (by omega) (by omega) (by omega) (by omega) (by omega) (by omega) (by omega) (by omega)
  have hc : checkZ b = 0 := of_facts ⟨by rw [hid]; exact f.id, by rw [hcur]; exact f.cur, by omega, by omega, by omega, by omega, e, by omega, ht, hp, hs, by
    intro h1
    apply he
    rw [hs] at h1
    unfold stateOf at h1
    split at h1
    · omega
    · split at h1
      · simp at h1
      · split at h1 <;> simp at h1⟩
  have o1 := openZ_ok ha
  have o2 := openZ_ok hc
  exact ⟨hc, by omega, hu, hr, h1, hk, by omega, by omega, h2, h3, h4⟩

theorem stepZ_kept {a : Au} (ha : checkZ a = 0) (k n t : Int) (f : Bool) : (∃ e, e ≠ 0 ∧ stepZ a k n t f = (Au.zero, 0, 0, e)) ∨ ∃ b u r, stepZ a k n t f = (b, u, r, 0) ∧ Kept a b k u r := by
  by_cases hu : usableZ a = 0
  · obtain ⟨F, hst, hpos, ho, _, hexp⟩ := usable_facts hu
    have f3 := F.app; have f4 := F.rev; have f5 := F.cle; have f6 := F.exp; have f7 := F.funds; have f8 := F.time; have f9 := F.pa; have f10 := F.st
    unfold stepZ
    by_cases h1 : k.tmod 4 = 1
    · rw [if_pos h1]
      unfold raiseZ
      rw [if_neg (by rw [hu]; simp)]
      by_cases c1 : 1 ≤ n ∧ n ≤ 999999999999 - a.app
      · rw [if_neg (by omega)]
        by_cases c2 : t < a.unt ∨ 1099511627776 < t
        · rw [if_pos c2]; exact .inl ⟨14, by decide, rfl⟩
        · rw [if_neg c2]
          refine .inr ⟨_, _, _, rfl, kept_mk ha hpos rfl rfl ?_ ?_ ?_ ?_ ?_ (by omega) (by omega) (.inr h1) ?_ ?_ ?_ ?_ ?_ ?_⟩ <;> (try simp only) <;> try omega
          have e := fundsW_eq { a with app := a.app + n, unt := t } (by simp; omega) (by simp; omega) (by simp; omega) (by simp; omega) (by simp; omega) (by simp; omega) (by simp; omega) (by simp; omega)
          simp only at e
          unfold stateOf
          rw [if_pos (by omega), hst]
      · rw [if_pos (by omega)]; exact .inl ⟨4, by decide, rfl⟩
    · rw [if_neg h1]
      by_cases h2 : k.tmod 4 = 2
      · rw [if_pos h2]
        unfold reverseZ
        rw [if_neg (by rw [hu]; simp)]
        by_cases c1 : 0 ≤ n ∧ n ≤ fundsW a
        · rw [if_neg (by omega)]
          have hm : 0 ≤ (if n = 0 then fundsW a else n) ∧ (if n = 0 then fundsW a else n) ≤ fundsW a := by split <;> omega
          generalize (if n = 0 then fundsW a else n) = m at hm
          refine .inr ⟨_, _, _, rfl, kept_mk ha hpos rfl rfl ?_ ?_ ?_ ?_ ?_ (by omega) ?_ (.inl rfl) ?_ ?_ ?_ ?_ (stateOf_st _ _).symm ?_⟩ <;> (try simp only) <;> try omega
        · rw [if_pos (by omega)]; exact .inl ⟨4, by decide, rfl⟩
      · rw [if_neg h2]
        by_cases h3 : k.tmod 4 = 3
        · rw [if_pos h3]
          unfold expireZ
          rw [if_neg (by rw [hu]; simp)]
          by_cases c1 : t < a.unt
          · rw [if_pos c1]; exact .inl ⟨14, by decide, rfl⟩
          · rw [if_neg c1]
            refine .inr ⟨_, _, _, rfl, kept_mk ha hpos rfl rfl ?_ ?_ ?_ ?_ ?_ (by omega) ?_ (.inl rfl) ?_ ?_ ?_ ?_ (stateOf_st _ _).symm ?_⟩ <;> (try simp only) <;> try omega
        · rw [if_neg h3]
          unfold clearZ
          rw [if_neg (by rw [hu]; simp)]
          by_cases c1 : 1 ≤ n ∧ n ≤ 999999999999
          · rw [if_neg (by omega)]
            by_cases c2 : 8 ≤ a.pa
            · rw [if_pos c2]; exact .inl ⟨10, by decide, rfl⟩
            · rw [if_neg c2]
              have hm : 1 ≤ min n (fundsW a) ∧ min n (fundsW a) ≤ fundsW a := by omega
              generalize min n (fundsW a) = m at hm
              have hr : 0 ≤ (if f = true then fundsW a - m else 0) ∧ (if f = true then fundsW a - m else 0) ≤ fundsW a - m := by split <;> omega
              generalize (if f = true then fundsW a - m else 0) = r at hr
              refine .inr ⟨_, _, _, rfl, kept_mk ha hpos rfl rfl ?_ ?_ ?_ ?_ ?_ ?_ ?_ (.inl rfl) ?_ ?_ ?_ ?_ (stateOf_st _ _).symm ?_⟩ <;> (try simp only) <;> try omega
          · rw [if_pos (by omega)]; exact .inl ⟨4, by decide, rfl⟩
  · refine .inl ⟨usableZ a, hu, ?_⟩
    unfold stepZ raiseZ reverseZ expireZ clearZ
    simp [hu]

set_option maxHeartbeats 4000000 in
theorem authConserves_fc (n0 : Int) (hw0 : (Lit.int .i64 n0).wf = true) (l1 c1 : Nat) (hl1 : l1 ≤ c1) (hc1 : c1 ≤ maxLen) (q1_0 : List Int) (eq1_0 : q1_0.length = l1) (wq1_0 : ∀ x ∈ q1_0, (Lit.int .u8 x).wf = true) (q1_1 : List Int) (eq1_1 : q1_1.length = l1) (wq1_1 : ∀ x ∈ q1_1, (Lit.int .i64 x).wf = true) (q1_2 : List Int) (eq1_2 : q1_2.length = l1) (wq1_2 : ∀ x ∈ q1_2, (Lit.int .i64 x).wf = true) (q1_3 : List Bool) (eq1_3 : q1_3.length = l1) :
    FC Try.prog 1 5 [.int .i64 n0, .sl 0 0 l1 c1] [(0, ⟨true, .cols l1 [.ints .u8 q1_0, .ints .i64 q1_1, .ints .i64 q1_2, .bools q1_3]⟩)] (fun sv _ _ => sv = .bool true) := by
  by_cases hn : 1 ≤ n0 ∧ n0 ≤ 999999999999
  · obtain ⟨hn1, hn2⟩ := hn
    have hnew : Pure Try.prog 8 [.str ⟨#[120]⟩, .str ⟨#[69, 85, 82]⟩, .int .i64 n0, .int .i64 0, .int .i64 10] (t2 (pA n0 0 0, 0)) := pA_new n0 hn1 hn2 ▸ auth_new _ _ _ _ _
    refine fc_of mixed T_ok Try.func5 rfl (by kernel_rfl) (by kernel_rfl) (by kernel_rfl) ?_
    repeat' ((conv => whnf); first | (refine vcall_pure (hnew) rfl rfl ?_) | (refine vcall_pure (law_awake) rfl rfl ?_) | (refine br_dec (fun h => ?_) (fun h => ?_) <;> try (exfalso; omega)) | (refine br_ndec (fun h => ?_) (fun h => ?_) <;> try (exfalso; omega)) | refine br_seq (fun h => ?_) (fun h => ?_) | refine br_nseq (fun h => ?_) (fun h => ?_) | refine br_not (fun h => ?_) (fun h => ?_) | refine br_intro (fun h => ?_) (fun h => ?_) | (refine idx_intro ?_ ?_ ?_; (omega); (omega)) | (refine nz_intro ?_ ?_; (first | decide | omega)) | (refine lt_intro ?_ ?_; (omega)))
    (conv => whnf)
    refine vloop_of (fun x : Nat × Au => ⟨[(0, .int .i64 n0), (1, .sl 0 0 l1 c1), (5, .ptr 1 0 0), (7, .int .i64 x.1)], [(1, ⟨false, .cells x.2.l⟩), (0, ⟨true, .cols l1 [.ints .u8 q1_0, .ints .i64 q1_1, .ints .i64 q1_2, .bools q1_3]⟩)], 2⟩)
      (fun x => x.1 ≤ l1 ∧ x.1 ≤ 200 ∧ checkZ x.2 = 0) (fun x => l1 - x.1) (0, pA n0 0 0) ?_ ⟨Nat.zero_le _, Nat.zero_le _, pA_check n0 0 0 hn1 hn2 (by omega) (by omega) (by simp) (by simp) (by omega)⟩ ?_
    · exact weak_mk rfl rfl rfl (weakEnv_cons rfl (weakEnv_cons rfl (weakEnv_cons rfl (weakEnv_cons rfl weakEnv_nil)))) (weakHeap_cons rfl (weakHeap_cons rfl weakHeap_nil))
    rintro ⟨k, a⟩ ⟨hk, hk2, ha⟩
    simp only at hk hk2 ha
    by_cases hlt : k < l1 ∧ k < 200
    · obtain ⟨hlt, hlt2⟩ := hlt
      have e9 : IntKind.i64.wrap ((k : Int) + 1) = ((k + 1 : Nat) : Int) := by rw [w64_in (by omega) (by omega)]; rfl
      have hoa := auth_open a
      rcases stepZ_kept ha (q1_0.getD k 0) (q1_1.getD k 0) (q1_2.getD k 0) (q1_3.getD k false) with ⟨e, he, hs⟩ | ⟨b, u, r, hs, kp⟩
      · have hst := hs ▸ law_step a (q1_0.getD k 0) (q1_1.getD k 0) (q1_2.getD k 0) (q1_3.getD k false)
        repeat' ((conv => whnf); first | (refine vcall_pure (hst) rfl rfl ?_) | (refine callQ_pure (hst) rfl ?_) | (refine vcall_pure (hoa) rfl rfl ?_) | (refine vcall_pure (law_awake) rfl rfl ?_) | (refine br_dec (fun h => ?_) (fun h => ?_) <;> try (exfalso; omega)) | (refine br_ndec (fun h => ?_) (fun h => ?_) <;> try (exfalso; omega)) | refine br_seq (fun h => ?_) (fun h => ?_) | refine br_nseq (fun h => ?_) (fun h => ?_) | refine br_not (fun h => ?_) (fun h => ?_) | refine br_intro (fun h => ?_) (fun h => ?_) | (refine idx_intro ?_ ?_ ?_; (omega); (omega)) | (refine nz_intro ?_ ?_; (first | decide | omega)) | (refine lt_intro ?_ ?_; (omega)))
        all_goals (conv => whnf)
        all_goals first
          | (exfalso; apply he; assumption)
          | exact ⟨(k + 1, a), ⟨by simp only; omega, by simp only; omega, ha⟩, by simp only; omega, weak_mk rfl rfl rfl (weakEnv_cons rfl (weakEnv_cons rfl (weakEnv_cons rfl (weakEnv_cons (congrArg (fun z => some (SV.int .i64 z)) e9) weakEnv_nil)))) (weakHeap_cons rfl (weakHeap_cons rfl weakHeap_nil))⟩
      · have hst := hs ▸ law_step a (q1_0.getD k 0) (q1_1.getD k 0) (q1_2.getD k 0) (q1_3.getD k false)
        have hcb : Pure Try.prog 16 [b.s] (.int .i64 0) := kp.chk ▸ auth_check b
        have hob := auth_open b
        have F := facts_of ha
        have G := facts_of kp.chk
        have oa := openZ_ok ha
        have ob := openZ_ok kp.chk
        have f3 := F.app; have f4 := F.rev; have f5 := F.cle; have f6 := F.exp; have f7 := F.nneg; have f8 := F.funds
        have g3 := G.app; have g4 := G.rev; have g5 := G.cle; have g6 := G.exp; have g7 := G.nneg; have g8 := G.funds
        have k1 := kp.pos; have k2 := kp.u0; have k3 := kp.r0; have k4 := kp.app; have k5 := kp.op; have k6 := kp.sum; have k7 := kp.rev; have k8 := kp.cle; have k9 := kp.exp
        have e1 : IntKind.i64.wrap (b.app - a.app) = b.app - a.app := w64_in (by omega) (by omega)
        have e2 : openZ b = IntKind.i64.wrap (IntKind.i64.wrap (IntKind.i64.wrap (openZ a + IntKind.i64.wrap (b.app - a.app)) - u) - r) := by
          rw [e1, w64_in (n := openZ a + (b.app - a.app)) (by omega) (by omega), w64_in (n := openZ a + (b.app - a.app) - u) (by omega) (by omega), w64_in (by omega) (by omega)]; exact k5
        have e3 : b.app = IntKind.i64.wrap (IntKind.i64.wrap (IntKind.i64.wrap (b.rev + b.cle) + b.exp) + openZ b) := by
          rw [w64_in (n := b.rev + b.cle) (by omega) (by omega), w64_in (n := b.rev + b.cle + b.exp) (by omega) (by omega), w64_in (by omega) (by omega)]; exact k6
        have e4 : b.cle = IntKind.i64.wrap (a.cle + u) := by rw [w64_in (by omega) (by omega)]; exact k8
        clear F G oa ob f3 f4 f5 f6 f7 f8 g3 g4 g5 g6 g7 g8 k5 k6 k8
        repeat' ((conv => whnf); first | (refine vcall_pure (hst) rfl rfl ?_) | (refine callQ_pure (hst) rfl ?_) | (refine vcall_pure (hoa) rfl rfl ?_) | (refine vcall_pure (hcb) rfl rfl ?_) | (refine vcall_pure (hob) rfl rfl ?_) | (refine callQ_pure (hcb) rfl ?_) | (refine callQ_pure (hob) rfl ?_) | (refine vcall_pure (law_awake) rfl rfl ?_) | (refine br_dec (fun h => ?_) (fun h => ?_) <;> try (exfalso; omega)) | (refine br_ndec (fun h => ?_) (fun h => ?_) <;> try (exfalso; omega)) | refine br_seq (fun h => ?_) (fun h => ?_) | refine br_nseq (fun h => ?_) (fun h => ?_) | refine br_not (fun h => ?_) (fun h => ?_) | refine br_intro (fun h => ?_) (fun h => ?_) | (refine idx_intro ?_ ?_ ?_; (omega); (omega)) | (refine nz_intro ?_ ?_; (first | decide | omega)) | (refine lt_intro ?_ ?_; (omega)))
        all_goals (conv => whnf)
        all_goals first
          | exact ⟨(k + 1, b), ⟨by simp only; omega, by simp only; omega, kp.chk⟩, by simp only; omega, weak_mk rfl rfl rfl (weakEnv_cons rfl (weakEnv_cons rfl (weakEnv_cons rfl (weakEnv_cons (congrArg (fun z => some (SV.int .i64 z)) e9) weakEnv_nil)))) (weakHeap_cons rfl (weakHeap_cons rfl weakHeap_nil))⟩
          | (exfalso; rename_i h; exact h e2)
          | (exfalso; rename_i h; exact h e3)
          | (exfalso; rename_i h; exact h e4)
          | (exfalso; rename_i h; exact absurd k1 (Int.not_lt.mpr h))
          | (exfalso; rename_i h; exact absurd k2 (Int.not_le.mpr h))
          | (exfalso; rename_i h; exact absurd k3 (Int.not_le.mpr h))
          | (exfalso; rename_i h; exact absurd k7 (Int.not_le.mpr h))
          | (exfalso; rename_i h; exact absurd k9 (Int.not_le.mpr h))
          | (exfalso; rename_i h; have h' : IntKind.i64.wrap (b.app - a.app) < 0 := h; rw [e1] at h'; omega)
          | (exfalso; rcases kp.kind with hk1 | hk1
             · have h0 : IntKind.i64.wrap (b.app - a.app) = 0 := by rw [e1]; omega
               exact absurd h0 (by assumption)
             · exact absurd hk1 (by assumption))
    · repeat' ((conv => whnf); first | (refine vcall_pure (law_awake) rfl rfl ?_) | (refine br_dec (fun h => ?_) (fun h => ?_) <;> try (exfalso; omega)) | (refine br_ndec (fun h => ?_) (fun h => ?_) <;> try (exfalso; omega)) | refine br_seq (fun h => ?_) (fun h => ?_) | refine br_nseq (fun h => ?_) (fun h => ?_) | refine br_not (fun h => ?_) (fun h => ?_) | refine br_intro (fun h => ?_) (fun h => ?_) | (refine idx_intro ?_ ?_ ?_; (omega); (omega)) | (refine nz_intro ?_ ?_; (first | decide | omega)) | (refine lt_intro ?_ ?_; (omega)))
      all_goals (conv => whnf)
      all_goals rfl
  · have hnew : Pure Try.prog 8 [.str ⟨#[120]⟩, .str ⟨#[69, 85, 82]⟩, .int .i64 n0, .int .i64 0, .int .i64 10] (t2 (Au.zero, 4)) := new_bad n0 hn ▸ auth_new _ _ _ _ _
    refine fc_of mixed T_ok Try.func5 rfl (by kernel_rfl) (by kernel_rfl) (by kernel_rfl) ?_
    repeat' ((conv => whnf); first | (refine vcall_pure (hnew) rfl rfl ?_) | (refine vcall_pure (law_awake) rfl rfl ?_) | (refine br_dec (fun h => ?_) (fun h => ?_) <;> try (exfalso; omega)) | (refine br_ndec (fun h => ?_) (fun h => ?_) <;> try (exfalso; omega)) | refine br_seq (fun h => ?_) (fun h => ?_) | refine br_nseq (fun h => ?_) (fun h => ?_) | refine br_not (fun h => ?_) (fun h => ?_) | refine br_intro (fun h => ?_) (fun h => ?_) | (refine idx_intro ?_ ?_ ?_; (omega); (omega)) | (refine nz_intro ?_ ?_; (first | decide | omega)) | (refine lt_intro ?_ ?_; (omega)))
    all_goals (conv => whnf)
    all_goals rfl
end Go.Proofs.Ytllgfdogieohaaa
