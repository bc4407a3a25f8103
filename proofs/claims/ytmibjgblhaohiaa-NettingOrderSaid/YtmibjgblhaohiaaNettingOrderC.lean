/- Several texts in one: XNtC, XNtD, XNetOr. -/
import Derived.Test.YtmibjgblhaohiaaNetB
/- Plain facts: the order of positions does not matter. No program in sight. -/
namespace Go.Proofs.Ytmibjgblhaohiaa
open Go.RowKit Go.Sy
set_option linter.unusedVariables false
set_option linter.unusedSimpArgs false

theorem ckP_iff {L : List Ps} : ckP L = 0 ↔ L.length ≤ 512 ∧ Dist L ∧ (∀ x ∈ L, nmB x.p = true ∧ mchk x.a x.c = 0) ∧ ∀ c, sumC L c = 0 := by
  constructor
  · intro h
    obtain ⟨h1, h2⟩ := ckP_zero h
    refine ⟨(sgP_zero h1).1, sgP_dist h1, fun x hx => ?_, h2⟩
    obtain ⟨j, hj, rfl⟩ := mem_getD.1 hx
    have := erP_zero ((sgP_zero h1).2 j hj)
    exact ⟨this.1, this.2.1⟩
  · rintro ⟨h1, h2, h3, h4⟩
    have h5 := sgP_of h1 h2 h3
    unfold ckP
    rw [if_neg (fun q => q h5), if_pos (balB_iff.2 h4)]
theorem ckP_perm {L M : List Ps} (hp : L.Perm M) (h : ckP L = 0) : ckP M = 0 := by
  obtain ⟨h1, h2, h3, h4⟩ := ckP_iff.1 h
  exact ckP_iff.2 ⟨by rw [← hp.length_eq]; exact h1, dist_perm hp h2, fun x hx => h3 x (hp.symm.subset hx), fun c => by rw [← sumC_perm hp]; exact h4 c⟩
theorem seT_perm {L M : List Ps} (hp : L.Perm M) (h : ckP L = 0) : seT M = seT L := by
  unfold seT
  rw [if_neg (fun q => q (ckP_perm hp h)), if_neg (fun q => q h), srt_congr hp (ckP_iff.1 h).2.1, hp.length_eq]
/-- The rows backwards, turned by so many. -/
def rotL (L : List Ps) (s : Nat) : List Ps := L.reverse.drop (L.length - s) ++ L.reverse.take (L.length - s)
theorem rotL_perm (L : List Ps) (s : Nat) : L.Perm (rotL L s) := by
  refine (List.reverse_perm L).symm.trans ?_
  unfold rotL
  conv => lhs; rw [← List.take_append_drop (L.length - s) L.reverse]
  exact List.perm_append_comm
theorem rotL_len (L : List Ps) (s : Nat) : (rotL L s).length = L.length := (rotL_perm L s).length_eq.symm
theorem rev_getD (L : List Ps) {i : Nat} (h : i < L.length) : L.reverse.getD i ps0 = L.getD (L.length - 1 - i) ps0 := by
  rw [List.getD, List.getElem?_reverse h, List.getD]
theorem rotL_getD (L : List Ps) (t : Nat) {i : Nat} (h : i < L.length) : (rotL L (t % L.length)).getD i ps0 = L.getD ((L.length - 1 - i + t) % L.length) ps0 := by
  have hs : t % L.length < L.length := Nat.mod_lt _ (by omega)
  have e : (L.length - 1 - i + t) % L.length = (L.length - 1 - i + t % L.length) % L.length := by rw [Nat.add_mod_mod]
  rw [e]
  generalize t % L.length = s at *
  unfold rotL
  have hdl : (L.reverse.drop (L.length - s)).length = s := by rw [List.length_drop, List.length_reverse]; omega
  by_cases hi : i < s
  · rw [List.getD, List.getElem?_append_left (by omega), List.getElem?_drop, ← List.getD, rev_getD L (by omega)]
    rw [show L.length - 1 - i + s = (s - 1 - i) + L.length by omega, Nat.add_mod_right, Nat.mod_eq_of_lt (by omega)]
    congr 1; omega
  · rw [List.getD, List.getElem?_append_right (by omega), hdl, List.getElem?_take, if_pos (by omega), ← List.getD, rev_getD L (by omega)]
    rw [Nat.mod_eq_of_lt (by omega)]
    congr 1; omega
/-- The transfers' currencies ascend. -/
theorem PS_asc {R : List Ps} {T T' : List Tx} (h : PS R T T') : RfI R → ∃ X, T' = T ++ X ∧ X.Pairwise (fun x y => strLt y.c x.c = false) ∧ ∀ x ∈ X, strLt x.c (R.getD 0 ps0).c = false := by
  refine PS_rec (M := fun R T T' => RfI R → ∃ X, T' = T ++ X ∧ X.Pairwise (fun x y => strLt y.c x.c = false) ∧ ∀ x ∈ X, strLt x.c (R.getD 0 ps0).c = false) (fun T _ => ⟨[], by simp, List.Pairwise.nil, fun x hx => by simp at hx⟩) (fun R T T' d e x hS hn ih hI => ?_) h
  obtain ⟨X, e1, hP, hH⟩ := ih (step_RfI hS.toStepK hI)
  have hle : ∀ r ∈ R, strLt r.c (R.getD 0 ps0).c = false := by
    intro r hr
    obtain ⟨j, hj, rfl⟩ := mem_getD.1 hr
    by_cases h0 : j = 0
    · subst h0; exact strLt_irrefl _
    · rcases plt_iff.1 (asc_getD hI.asc (show 0 < j by omega) hj) with q | q
      · exact strLt_asymm q
      · rw [q.1]; exact strLt_irrefl _
  have hX : ∀ y ∈ X, strLt y.c (R.getD 0 ps0).c = false := by
    intro y hy
    have h1 := hH y hy
    by_cases hq : (nz (upd R x)).length = 0
    · rw [List.length_eq_zero_iff.1 hq] at hn
      have : X = [] := by
        cases hn with
        | done =>
          have e2 := congrArg List.length e1
          simp only [List.length_append] at e2
          exact List.length_eq_zero_iff.1 (by omega)
        | step h0 => simp at h0
      rw [this] at hy; simp at hy
    · have hm : (nz (upd R x)).getD 0 ps0 ∈ nz (upd R x) := mem_getD.2 ⟨0, by omega, rfl⟩
      obtain ⟨r, hr, er⟩ := List.mem_map.1 (nz_mem.1 hm).1
      have h2 := hle r hr
      rw [← er, updF_c] at h1
      cases h3 : strLt y.c (R.getD 0 ps0).c with
      | false => rfl
      | true =>
        exfalso
        by_cases hy2 : y.c = r.c
        · rw [hy2, h2] at h3; cases h3
        · have h4 := strLt_total h1 hy2
          have h5 := strLt_trans h4 h3
          rw [h2] at h5; cases h5
  refine ⟨x :: X, by rw [e1]; simp, List.pairwise_cons.2 ⟨fun y hy => by rw [hS.cc]; exact hX y hy, hP⟩, fun y hy => ?_⟩
  rcases List.mem_cons.1 hy with rfl | hy
  · rw [hS.cc]; exact strLt_irrefl _
  · exact hX y hy
theorem seT_asc {L : List Ps} (h : ckP L = 0) (hl : L.length ≤ 400) {i : Nat} (hi : i + 1 < (seT L).length) : strLt ((tcOf (seT L)).c.getD (i + 1) ⟨#[]⟩) ((tcOf (seT L)).c.getD i ⟨#[]⟩) = false := by
  obtain ⟨X, e, hP, _⟩ := PS_asc (seT_PS h) (RfI_of (ckP_zero h).1 hl)
  rw [List.nil_append] at e
  rw [e] at hi ⊢
  rw [(atT X (i + 1)).2.2.2, (atT X i).2.2.2]
  have := List.pairwise_iff_getElem.1 hP i (i + 1) (by omega) hi (by omega)
  rw [List.getD, List.getElem?_eq_getElem hi, List.getD, List.getElem?_eq_getElem (by omega)]
  exact this
end Go.Proofs.Ytmibjgblhaohiaa

/- The law NettingOrder, on rows. -/
namespace Go.Proofs.Ytmibjgblhaohiaa
open Go.RowKit Go.Sy
attribute [local irreducible] vcall vloop vcallD retP
set_option maxRecDepth 100000
set_option linter.unusedVariables false
set_option linter.unusedSimpArgs false

theorem u8_in {x : Int} (h : (Lit.int .u8 x).wf = true) : 0 ≤ x ∧ x ≤ 255 := by
  unfold Lit.wf at h
  simp only [IntKind.min, IntKind.max, IntKind.signed, IntKind.bits, Bool.and_eq_true, decide_eq_true_eq] at h
  simp at h
  omega
theorem lt_or_seq {a b : ByteArray} (h : strLt b a = false) : (strLt a b || seq a b) = true := by
  by_cases e : a = b
  · subst e; rw [seq_true.2 rfl, Bool.or_true]
  · rw [strLt_total h (fun q => e q.symm), Bool.true_or]
set_option maxHeartbeats 1600000 in
theorem law_Order (L : List Ps) (t : Nat) (ht : t < 256) (n : Nat) (hn : L.length = n) : FC Try.prog 2 6 [.sl 1 0 0 n, .int .u8 t] [(1, some (.one true (psB n (pcOf L))))] (isOut (.bool true) [] 2) := by
  have c0 := law_smallN L n hn
  have cw := law_awake
  by_cases hs : smL L []
  · rw [decide_eq_true hs] at c0
    have h1 := hs.1.1
    refine fc_of mixed T_ok Try.func6 rfl (by kernel_rfl) (by kernel_rfl) (by kernel_rfl) ?_
    repeat' ((conv => whnf); first | (refine vcall_out (l :=  [0, 1]) (c0 ) ⟨rfl, rfl, rfl, rfl, (by (repeat' (first | exact trivial | exact GB_wf | exact fun _ _ => rfl | constructor)); first | done | fail), (by (repeat' (first | exact trivial | exact GB_fits rfl | constructor)); first | done | fail)⟩ ?_) | (refine vcall_pure (cw) rfl rfl rfl ?_) | (refine vcallD_pure (cw) rfl rfl rfl ?_) | (refine br_dec (fun h => ?_) (fun h => ?_) <;> try (exfalso; (try dsimp only at h); omega)) | (refine br_ndec (fun h => ?_) (fun h => ?_) <;> try (exfalso; (try dsimp only at h); omega)) | refine br_seq (fun h => ?_) (fun h => ?_) | refine br_nseq (fun h => ?_) (fun h => ?_) | refine br_not (fun h => ?_) (fun h => ?_) | refine br_intro (fun h => ?_) (fun h => ?_) | refine cond_intro rfl ?_ | (refine cond_intro ⟨rfl, ?_⟩ ?_; (first | omega | (dsimp only; omega) | decide)) | (refine cond_intro ?_ ?_; (first | omega | (dsimp only; omega) | decide | (simp only [Nat.add_zero, Int.toNat_natCast, *]; omega))))
    all_goals (conv => whnf)
    refine vloop_lp (fun i : Nat => ⟨[(0, .sl 1 0 0 n), (1, .int .u8 t), (5, .sl 2 0 0 i), (6, .int .i64 i)], [(1, some (.one true (psB n (pcOf L)))), (2, some (.one false (psB i (pcOf ((rotL L (t % n)).take i)))))], 3⟩) (fun i => i ≤ n) (fun i => n - i) 0 [0, 1, 3] [.slot 5 [.sc (.strs []), .sc (.ints .i64 []), .sc (.strs [])]] ⟨rfl, ⟨rfl, rfl, rfl, rfl, trivial⟩, ⟨rfl, rfl, trivial⟩⟩ (Nat.zero_le _) ?_
    intro i hi
    by_cases hi2 : i < n
    · have hE : (IntKind.i64.wrap (IntKind.i64.wrap (IntKind.i64.wrap ((n : Int) - 1) - (i : Int)) + IntKind.i64.wrap (t : Int))).tmod (n : Int) = (((n - 1 - i + t) % n : Nat) : Int) := by
        rw [w64_in (n := (n : Int) - 1) (by omega) (by omega), w64_in (n := (n : Int) - 1 - i) (by omega) (by omega), w64_in (n := (t : Int)) (by omega) (by omega), w64_in (by omega) (by omega)]
        rw [show (n : Int) - 1 - i + t = ((n - 1 - i + t : Nat) : Int) by omega]
        rfl
      have hjl : (n - 1 - i + t) % n < n := Nat.mod_lt _ (by omega)
      have hg := rotL_getD L t (i := i) (by omega)
      rw [hn] at hg
      have htk := take_getD (L := rotL L (t % n)) (k := i) (by rw [rotL_len]; omega)
      rw [hg] at htk
      generalize (n - 1 - i + t) % n = j at *
      repeat' ((conv => whnf); first | (refine br_dec (fun h => ?_) (fun h => ?_) <;> try (exfalso; (try dsimp only at h); omega)) | (refine br_ndec (fun h => ?_) (fun h => ?_) <;> try (exfalso; (try dsimp only at h); omega)) | refine br_seq (fun h => ?_) (fun h => ?_) | refine br_nseq (fun h => ?_) (fun h => ?_) | refine br_not (fun h => ?_) (fun h => ?_) | refine br_intro (fun h => ?_) (fun h => ?_) | refine cond_intro rfl ?_ | (refine cond_intro ⟨rfl, ?_⟩ ?_; (first | omega | (dsimp only; omega) | decide)) | (refine cond_intro ?_ ?_; (first | omega | (dsimp only; omega) | decide | (simp only [Nat.add_zero, Int.toNat_natCast, *]; omega))))
      all_goals (conv => whnf)
      all_goals rw [hE]
      all_goals (try simp only [toNat0] at *)
      all_goals have hr := rowApp (Q := (rotL L (t % n)).take i) (k := i) (colP_eq L j).symm
      all_goals rw [← htk] at hr
      all_goals first
        | (exfalso; first | omega | contradiction)
        | exact ⟨i + 1, [0, 1, 4], [], hi2, (show n - (i + 1) < n - i by omega), ⟨rfl, ⟨rfl, rfl, rfl, congrArg (fun z => some (SV.int .i64 z)) (i64_succ (by omega)), trivial⟩, ⟨rfl, hr, trivial⟩⟩⟩
        | trace_state
    · have e : i = n := by omega
      subst e
      have eQ : (rotL L (t % i)).take i = rotL L (t % i) := by rw [List.take_of_length_le]; rw [rotL_len]; omega
      rw [eQ]
      have hp := rotL_perm L (t % i)
      have hlq := rotL_len L (t % i)
      generalize rotL L (t % i) = Q at *
      have c1 := net_Settle L i hn (by omega)
      have c2 := net_Settle Q i (by omega) (by omega)
      unfold seOut at c1 c2
      by_cases he : ckP L ≠ 0
      · have he2 : ckP Q ≠ 0 := fun q => he (ckP_perm hp.symm q)
        rw [if_pos he] at c1
        rw [if_pos he2] at c2
        have c9 := r41_SameTrN
        generalize ckP L = er at *
        generalize ckP Q = eq at *
        have hd : decide (er = 0) = decide (eq = 0) := by rw [decide_eq_false he, decide_eq_false he2]
        repeat' ((conv => whnf); first | (refine vcall_out (l :=  [0, 1]) (c1 ) ⟨rfl, rfl, rfl, rfl, (by (repeat' (first | exact trivial | exact GB_wf | exact fun _ _ => rfl | constructor)); first | done | fail), (by (repeat' (first | exact trivial | exact GB_fits rfl | constructor)); first | done | fail)⟩ ?_) | (refine vcall_out (l :=  [0, 2]) (c2 ) ⟨rfl, rfl, rfl, rfl, (by (repeat' (first | exact trivial | exact GB_wf | exact fun _ _ => rfl | constructor)); first | done | fail), (by (repeat' (first | exact trivial | exact GB_fits rfl | constructor)); first | done | fail)⟩ ?_) | (refine vcall_pure (c9) rfl rfl rfl ?_) | (refine vcallD_pure (c9) rfl rfl rfl ?_) | (refine br_dec (fun h => ?_) (fun h => ?_) <;> try (exfalso; (try dsimp only at h); omega)) | (refine br_ndec (fun h => ?_) (fun h => ?_) <;> try (exfalso; (try dsimp only at h); omega)) | refine br_seq (fun h => ?_) (fun h => ?_) | refine br_nseq (fun h => ?_) (fun h => ?_) | refine br_not (fun h => ?_) (fun h => ?_) | refine br_intro (fun h => ?_) (fun h => ?_) | refine cond_intro rfl ?_ | (refine cond_intro ⟨rfl, ?_⟩ ?_; (first | omega | (dsimp only; omega) | decide)) | (refine cond_intro ?_ ?_; (first | omega | (dsimp only; omega) | decide | (simp only [Nat.add_zero, Int.toNat_natCast, *]; omega))))
        all_goals (conv => whnf)
        all_goals first
          | (exfalso; first | omega | contradiction)
          | skip
        refine vloop_lp (fun _ : Unit => ⟨[(7, .nsl), (11, .int .i64 1)], [], 2⟩) (fun _ => True) (fun _ => 0) () [0, 1] [] ⟨rfl, ⟨rfl, rfl, trivial⟩, trivial⟩ trivial ?_
        rintro ⟨⟩ _
        repeat' ((conv => whnf); first | (refine vcall_pure (cw) rfl rfl rfl ?_) | (refine vcallD_pure (cw) rfl rfl rfl ?_) | (refine br_dec (fun h => ?_) (fun h => ?_) <;> try (exfalso; (try dsimp only at h); omega)) | (refine br_ndec (fun h => ?_) (fun h => ?_) <;> try (exfalso; (try dsimp only at h); omega)) | refine br_seq (fun h => ?_) (fun h => ?_) | refine br_nseq (fun h => ?_) (fun h => ?_) | refine br_not (fun h => ?_) (fun h => ?_) | refine br_intro (fun h => ?_) (fun h => ?_) | refine cond_intro rfl ?_ | (refine cond_intro ⟨rfl, ?_⟩ ?_; (first | omega | (dsimp only; omega) | decide)) | (refine cond_intro ?_ ?_; (first | omega | (dsimp only; omega) | decide | (simp only [Nat.add_zero, Int.toNat_natCast, *]; omega))))
        all_goals (conv => whnf)
        all_goals first
          | exact ret_out (l := [0, 1]) rfl rfl trivial allRw_nil
          | (exfalso; first | omega | contradiction)
          | trace_state
      · have he0 := Classical.not_not.1 he
        have he2 := ckP_perm hp he0
        rw [if_neg he] at c1
        rw [if_neg (fun q => q he2), seT_perm hp he0] at c2
        have hl := seT_len he0 (by omega)
        have hasc := fun j => seT_asc (i := j) he0 (by omega)
        have c9 := r41_SameTr (seT L) (seT L).length (by omega)
        generalize hm : (seT L).length = m at *
        generalize seT L = T at *
        repeat' ((conv => whnf); first | (refine vcall_out (l :=  [0, 1]) (c1 ) ⟨rfl, rfl, rfl, rfl, (by (repeat' (first | exact trivial | exact GB_wf | exact fun _ _ => rfl | constructor)); first | done | fail), (by (repeat' (first | exact trivial | exact GB_fits rfl | constructor)); first | done | fail)⟩ ?_) | (refine vcall_out (l :=  [0, 2]) (c2 ) ⟨rfl, rfl, rfl, rfl, (by (repeat' (first | exact trivial | exact GB_wf | exact fun _ _ => rfl | constructor)); first | done | fail), (by (repeat' (first | exact trivial | exact GB_fits rfl | constructor)); first | done | fail)⟩ ?_) | (refine vcall_out (l :=  [0, 3, 4]) (c9 ) ⟨rfl, rfl, rfl, rfl, (by (repeat' (first | exact trivial | exact GB_wf | exact fun _ _ => rfl | constructor)); first | done | fail), (by (repeat' (first | exact trivial | exact GB_fits rfl | constructor)); first | done | fail)⟩ ?_) | (refine vcallD_out (l :=  [0, 3, 4]) (c9 ) ⟨rfl, rfl, rfl, rfl, (by (repeat' (first | exact trivial | exact GB_wf | exact fun _ _ => rfl | constructor)); first | done | fail), (by (repeat' (first | exact trivial | exact GB_fits rfl | constructor)); first | done | fail)⟩ ?_) | (refine br_dec (fun h => ?_) (fun h => ?_) <;> try (exfalso; (try dsimp only at h); omega)) | (refine br_ndec (fun h => ?_) (fun h => ?_) <;> try (exfalso; (try dsimp only at h); omega)) | refine br_seq (fun h => ?_) (fun h => ?_) | refine br_nseq (fun h => ?_) (fun h => ?_) | refine br_not (fun h => ?_) (fun h => ?_) | refine br_intro (fun h => ?_) (fun h => ?_) | refine cond_intro rfl ?_ | (refine cond_intro ⟨rfl, ?_⟩ ?_; (first | omega | (dsimp only; omega) | decide)) | (refine cond_intro ?_ ?_; (first | omega | (dsimp only; omega) | decide | (simp only [Nat.add_zero, Int.toNat_natCast, *]; omega))))
        all_goals (conv => whnf)
        all_goals first
          | (exfalso; first | omega | contradiction)
          | skip
        refine vloop_lp (fun j : Nat => ⟨[(7, .sl 2 0 0 m), (11, .int .i64 (j + 1 : Nat))], [(2, some (.one false (txB m (tcOf T))))], 3⟩) (fun j => True) (fun j => m - j) 0 [0, 1, 3] [] ⟨rfl, ⟨rfl, rfl, trivial⟩, ⟨rfl, trivial⟩⟩ trivial ?_
        intro j _
        by_cases hj : j + 1 < m
        · have h2 := lt_or_seq (hasc j hj)
          have hE : IntKind.i64.wrap (((j + 1 : Nat) : Int) - 1) = (j : Int) := by rw [w64_in (by omega) (by omega)]; omega
          repeat' ((conv => whnf); first | (refine br_dec (fun h => ?_) (fun h => ?_) <;> try (exfalso; (try dsimp only at h); omega)) | (refine br_ndec (fun h => ?_) (fun h => ?_) <;> try (exfalso; (try dsimp only at h); omega)) | refine br_seq (fun h => ?_) (fun h => ?_) | refine br_nseq (fun h => ?_) (fun h => ?_) | refine br_not (fun h => ?_) (fun h => ?_) | refine br_intro (fun h => ?_) (fun h => ?_) | refine cond_intro rfl ?_ | (refine cond_intro ⟨rfl, ?_⟩ ?_; (first | omega | (dsimp only; omega) | decide)) | (refine cond_intro ?_ ?_; (first | omega | (dsimp only; omega) | decide | (simp only [Nat.add_zero, Int.toNat_natCast, *]; omega))))
          all_goals (conv => whnf)
          all_goals (try simp only [hE, toNat0] at *)
          all_goals first
            | (exfalso; first | omega | contradiction | exact absurd (h2.symm.trans (by assumption)) (by decide))
            | exact ⟨j + 1, [0, 1, 2], [], trivial, (show m - (j + 1) < m - j by omega), ⟨rfl, ⟨rfl, congrArg (fun z => some (SV.int .i64 z)) (i64_succ (by omega)), trivial⟩, ⟨rfl, trivial⟩⟩⟩
            | trace_state
        · repeat' ((conv => whnf); first | (refine vcall_pure (cw) rfl rfl rfl ?_) | (refine vcallD_pure (cw) rfl rfl rfl ?_) | (refine br_dec (fun h => ?_) (fun h => ?_) <;> try (exfalso; (try dsimp only at h); omega)) | (refine br_ndec (fun h => ?_) (fun h => ?_) <;> try (exfalso; (try dsimp only at h); omega)) | refine br_seq (fun h => ?_) (fun h => ?_) | refine br_nseq (fun h => ?_) (fun h => ?_) | refine br_not (fun h => ?_) (fun h => ?_) | refine br_intro (fun h => ?_) (fun h => ?_) | refine cond_intro rfl ?_ | (refine cond_intro ⟨rfl, ?_⟩ ?_; (first | omega | (dsimp only; omega) | decide)) | (refine cond_intro ?_ ?_; (first | omega | (dsimp only; omega) | decide | (simp only [Nat.add_zero, Int.toNat_natCast, *]; omega))))
          all_goals (conv => whnf)
          all_goals first
            | exact ret_out (l := [0, 1]) rfl rfl trivial allRw_nil
            | (exfalso; first | omega | contradiction)
            | trace_state
  · rw [decide_eq_false hs] at c0
    refine fc_of mixed T_ok Try.func6 rfl (by kernel_rfl) (by kernel_rfl) (by kernel_rfl) ?_
    repeat' ((conv => whnf); first | (refine vcall_out (l :=  [0, 1]) (c0 ) ⟨rfl, rfl, rfl, rfl, (by (repeat' (first | exact trivial | exact GB_wf | exact fun _ _ => rfl | constructor)); first | done | fail), (by (repeat' (first | exact trivial | exact GB_fits rfl | constructor)); first | done | fail)⟩ ?_) | (refine vcall_pure (cw) rfl rfl rfl ?_) | (refine vcallD_pure (cw) rfl rfl rfl ?_) | (refine br_dec (fun h => ?_) (fun h => ?_) <;> try (exfalso; (try dsimp only at h); omega)) | (refine br_ndec (fun h => ?_) (fun h => ?_) <;> try (exfalso; (try dsimp only at h); omega)) | refine br_seq (fun h => ?_) (fun h => ?_) | refine br_nseq (fun h => ?_) (fun h => ?_) | refine br_not (fun h => ?_) (fun h => ?_) | refine br_intro (fun h => ?_) (fun h => ?_) | refine cond_intro rfl ?_ | (refine cond_intro ⟨rfl, ?_⟩ ?_; (first | omega | (dsimp only; omega) | decide)) | (refine cond_intro ?_ ?_; (first | omega | (dsimp only; omega) | decide | (simp only [Nat.add_zero, Int.toNat_natCast, *]; omega))))
    all_goals (conv => whnf)
    all_goals first
      | exact ret_out (l := [0, 1]) rfl rfl trivial allRw_nil
      | trace_state
end Go.Proofs.Ytmibjgblhaohiaa

/- The law NettingOrder: the transfers do not depend on the order of the positions; for all arguments. -/
namespace Go.Proofs.Ytmibjgblhaohiaa
open Go.RowKit Go.Sy
set_option linter.unusedVariables false

theorem nettingOrder_fc (l0 : Nat) (hl0 : l0 ≤ maxLen) (q0_0 : List ByteArray) (eq0_0 : q0_0.length = l0) (wq0_0 : ∀ x ∈ q0_0, x.size ≤ maxLen) (q0_1 : List Int) (eq0_1 : q0_1.length = l0) (wq0_1 : ∀ x ∈ q0_1, (Lit.int .i64 x).wf = true) (q0_2 : List ByteArray) (eq0_2 : q0_2.length = l0) (wq0_2 : ∀ x ∈ q0_2, x.size ≤ maxLen) (n1 : Int) (hw1 : (Lit.int .u8 n1).wf = true) :
    FC Try.prog 2 6 [.sl 1 0 0 l0, .int .u8 n1] [(1, some (.one true (.cols l0 [.sc (.strs q0_0), .sc (.ints .i64 q0_1), .sc (.strs q0_2)])))] (isOut (.bool true) [] 2) := by
  obtain ⟨L, hL, eL⟩ := mkPs q0_0 q0_1 q0_2 l0 eq0_0 eq0_1 eq0_2
  have hb := u8_in hw1
  obtain ⟨t, rfl⟩ := Int.eq_ofNat_of_zero_le hb.1
  have h := law_Order L t (by omega) l0 hL
  unfold psB at h
  rw [eL] at h
  exact h
end Go.Proofs.Ytmibjgblhaohiaa

