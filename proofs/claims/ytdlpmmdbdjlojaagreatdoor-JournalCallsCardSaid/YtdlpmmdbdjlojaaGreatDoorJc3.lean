/- Several texts in one: XJsG, XJsH, XJsI, XJsJ. -/
import Derived.Test.YtdlpmmdbdjlojaaGreatDoorJc2
import Derived.Test.YtdlpmmdbdjlojaaGreatDoorYPlain
/- The reference of the journal: Commit. -/
namespace Go.Proofs.YtdlpmmdbdjlojaaGreatDoor
open Go.RowKit Go.Sy
attribute [local irreducible] vcall vloop vcallD retP
set_option maxRecDepth 100000
set_option linter.unusedVariables false
set_option linter.unusedSimpArgs false
attribute [local irreducible] seq ByteArray.extract
/-- The reference's journal with its disk: the journal 1, the disk 2 3 p, the groups t f, the present group n. -/
def rjH (p t f n : Nat) (j : Jr) (L : List (List ByteArray)) (d : Dk) : Heap :=
  [(1, cellB false (rjC 2 t n L.length j)), (2, cellB false [.sl 3 0 0 d.nn, .sl p 0 0 d.np, .bool d.down, .int .i64 d.steps, .int .u64 d.mask]), (3, grW d.nn d.kept), (p, some (.one false (.cols d.np [.sc (.ints .i64 d.pn), .sc (.strs d.ps)]))),
    (t, tabB false f L.length (L.map List.length)), (n, grW j.ng j.grp), (f, famO L)]
theorem rjH_rw (p t f n : Nat) (j : Jr) (L : List (List ByteArray)) (d : Dk) : allRw (rjH p t f n j L d) := allRw_cons (allRw_cons (allRw_cons (allRw_cons (allRw_cons (allRw_cons (allRw_fam allRw_nil))))))
/-- The groups behind a commit. -/
def cmL (j : Jr) (L : List (List ByteArray)) (d : Dk) : List (List ByteArray) := if (cmR j d).2.2 = 0 then L ++ [j.grp] else L
theorem cmL_no {j : Jr} {L : List (List ByteArray)} {d D : Dk} {J : Jr} {e : Int} (h : cmR j d = (J, D, e)) (he : e ≠ 0) : cmL j L d = L := by
  unfold cmL
  rw [h]
  exact if_neg he
theorem cmL_ok {j : Jr} {L : List (List ByteArray)} {d D : Dk} {J : Jr} (h : cmR j d = (J, D, 0)) : cmL j L d = L ++ [j.grp] := by
  unfold cmL
  rw [h]
  exact if_pos rfl
theorem rjH_put (p t f n : Nat) (j : Jr) (L : List (List ByteArray)) (o : List ByteArray) (d : Dk) : rjH p t f n j (L ++ [o]) d =
  [(1, cellB false (rjC 2 t n (L.length + 1) j)), (2, cellB false [.sl 3 0 0 d.nn, .sl p 0 0 d.np, .bool d.down, .int .i64 d.steps, .int .u64 d.mask]), (3, grW d.nn d.kept), (p, some (.one false (.cols d.np [.sc (.ints .i64 d.pn), .sc (.strs d.ps)]))),
    (t, tabB false f (L.length + 1) (L.map List.length ++ [o.length])), (n, grW j.ng j.grp), (f, some (.fam false (fun x => x < L.length + 1) (gF (L ++ [o]))))] := by
  have hmap : (L ++ [o]).map List.length = L.map List.length ++ [o.length] := by rw [List.map_append]; rfl
  have hlen : (L ++ [o]).length = L.length + 1 := by rw [List.length_append]; rfl
  unfold rjH famO
  simp only [hmap, hlen]
theorem wr_mask {d : Dk} (h : 0 ≤ d.mask ∧ d.mask < 2 ^ 64) (n : Int) (s : ByteArray) : 0 ≤ (writeD d n s).1.mask ∧ (writeD d n s).1.mask < 2 ^ 64 := by
  unfold writeD
  have z : (0 : Int) ≤ 0 ∧ (0 : Int) < 2 ^ 64 := by decide
  (repeat' split) <;> first | exact h | exact z
theorem rj_Commit (j : Jr) (L : List (List ByteArray)) (d : Dk) (hj : j.ok d) (hd : d.ok) (hm : 0 ≤ d.mask ∧ d.mask < 2 ^ 64) (hL : L.length ≤ 4096) (hng : j.stopped = false → j.ng = 0 ∨ 0 < j.ng) : FC Tryz.prog 8 12 [.ptr 1 0 0 0] (rjH 4 5 7 6 j L d)
    (isOut (.int .i64 (cmR j d).2.2) (rjH 8 9 11 10 (cmR j d).1 (cmL j L d) (cmR j d).2.1) 12) := by
  have gl := hj.gl
  have gm := hj.gm
  have us := hj.us
  have go := hj.go
  have gs := hj.gs
  have hnn := hd.nm
  by_cases h1 : j.stopped = true
  · have er : cmR j d = (j, d, 13) := by unfold cmR; rw [if_pos h1]
    rw [cmL_no er (by decide), er]
    refine fc_of mixed T_ok Tryz.func12 rfl (by kernel_rfl) (by kernel_rfl) (by kernel_rfl) ?_
    repeat' ((conv => whnf); first | ((first | apply br_dec | apply br_ndec) <;> intro h <;> try (exfalso; (try dsimp only at h); omega)) | ((first | apply br_seq | apply br_nseq | apply br_not | apply br_intro) <;> intro h) | refine cond_a ?_)
    all_goals (conv => whnf)
    all_goals first
      | exact ret_out (l := [0, 1, 2, 3, 4, 5, 6, 7, 4, 5, 6, 7]) rfl rfl ⟨rfl, rfl, rfl, rfl, rfl, rfl, rfl, trivial⟩ (rjH_rw _ _ _ _ _ _ _)
      | (exfalso; simp_all; done)
  · have h1' : j.stopped = false := by cases h : j.stopped with | false => rfl | true => exact absurd h h1
    by_cases h0 : j.ng = 0
    · have eg : j.grp = [] := List.eq_nil_of_length_eq_zero (by omega)
      have er : cmR j d = (j, d, 8) := by unfold cmR; rw [if_neg h1, eg, if_pos (by decide)]; rfl
      rw [cmL_no er (by decide), er]
      refine fc_of mixed T_ok Tryz.func12 rfl (by kernel_rfl) (by kernel_rfl) (by kernel_rfl) ?_
      repeat' ((conv => whnf); first | ((first | apply br_dec | apply br_ndec) <;> intro h <;> try (exfalso; (try dsimp only at h); omega)) | ((first | apply br_seq | apply br_nseq | apply br_not | apply br_intro) <;> intro h) | refine cond_a ?_)
      all_goals (conv => whnf)
      all_goals first
        | exact ret_out (l := [0, 1, 2, 3, 4, 5, 6, 7, 4, 5, 6, 7]) rfl rfl ⟨rfl, rfl, rfl, rfl, rfl, rfl, rfl, trivial⟩ (rjH_rw _ _ _ _ _ _ _)
        | (exfalso; simp_all; done)
        | (exfalso; omega)
    · have h2' : cutE j.grp = 0 := by unfold cutE; rw [if_neg (by omega), if_neg (by omega), longK_of go, if_neg (by decide)]
      have c1 := rj_Blocks j.head j.grp j.ng gl h2'
      obtain ⟨W, hW⟩ : ∃ W, cmW j d = W := ⟨_, rfl⟩
      have er : cmR j d = if W.2 = false then (stopJ j, W.1, 13) else if (flushD W.1).2 ≠ 0 then (stopJ j, (flushD W.1).1, 13) else (doneJ j, (flushD W.1).1, 0) := by
        unfold cmR; rw [if_neg h1, if_neg (by rw [h2']; decide), hW]
      have hnb : nblk (strm j.grp) ≤ 30000 := by
        have := szK_le go j.grp.length
        rw [← stK_size go, stK_strm] at this
        unfold nblk; omega
      have hsp : 0 < (strm j.grp).size := by rw [← stK_strm, stK_size go]; have := szK_lt (g := j.grp) j.grp.length; omega
      have hnb0 : 0 < nblk (strm j.grp) := by unfold nblk; omega
      have hHK := hK_bd hj.hb (strm j.grp) (nblk (strm j.grp))
      have hlast : ((bkL j.head (strm j.grp) (nblk (strm j.grp))).getD (nblk (strm j.grp) - 1) ⟨#[]⟩).extract 0 16 = hxS (hK j.head (strm j.grp) (nblk (strm j.grp))) := by
        rw [bkL_get _ _ (by omega), show nblk (strm j.grp) = (nblk (strm j.grp) - 1) + 1 from by omega]
        simp only [Nat.add_sub_cancel]
        exact extract_left (hxS_size _)
      have hlz : 16 ≤ ((bkL j.head (strm j.grp) (nblk (strm j.grp))).getD (nblk (strm j.grp) - 1) ⟨#[]⟩).size := by
        rw [bkL_get _ _ (by omega), bK_size]; omega
      obtain ⟨hk, hhk⟩ := Int.eq_ofNat_of_zero_le hHK.1
      have c6 := rj_Number hk (by omega)
      rw [← hhk] at c6
      rw [← hlast] at c6
      unfold cmW at hW
      have ed : doneJ j = { j with recs := j.recs ++ j.grp, nr := j.nr + j.ng, groups := j.groups + 1, used := j.used + nblk (strm j.grp), head := hK j.head (strm j.grp) (nblk (strm j.grp)), grp := [], ng := 0, stopped := j.stopped } := by rw [h1']; rfl
      obtain ⟨NB, hNB⟩ : ∃ NB, nblk (strm j.grp) = NB := ⟨_, rfl⟩
      obtain ⟨BL, hBL⟩ : ∃ BL, bkL j.head (strm j.grp) NB = BL := ⟨_, rfl⟩
      obtain ⟨HK, hHKe⟩ : ∃ HK, hK j.head (strm j.grp) NB = HK := ⟨_, rfl⟩
      rw [hNB] at c1 hW hnb hnb0 c6 hlz ed
      rw [hBL] at c1 hW c6 hlz
      rw [hHKe] at c6 ed
      refine fc_of mixed T_ok Tryz.func12 rfl (by kernel_rfl) (by kernel_rfl) (by kernel_rfl) ?_
      repeat' ((conv => whnf); first | refine vcall_o (l := [0, 6]) (c1) ?_ | refine vcallD_o (l := [0, 6]) (c1) ?_ | ((first | apply br_dec | apply br_ndec) <;> intro h <;> try (exfalso; (try dsimp only at h); omega)) | ((first | apply br_seq | apply br_nseq | apply br_not | apply br_intro) <;> intro h) | refine cond_a ?_)
      all_goals (conv => whnf)
      all_goals first
        | (exfalso; simp_all; done)
        | (exfalso; omega)
        | skip
      refine vloop_of (fun x : Nat × Dk => ⟨[(0, .ptr 1 0 0 0), (3, .sl 8 0 0 NB), (5, .sl 6 0 0 j.ng), (6, .int .i64 x.1)], [(1, cellB false [.ptr 2 0 0 0, .sl 5 0 0 L.length, .nsl, .int .i64 j.used, .int .u64 j.head, .bool j.stopped]), (2, cellB false [.sl 3 0 0 x.2.nn, .sl 9 0 0 x.2.np, .bool x.2.down, .int .i64 x.2.steps, .int .u64 x.2.mask]), (3, grW x.2.nn x.2.kept), (9, some (.one false (.cols x.2.np [.sc (.ints .i64 x.2.pn), .sc (.strs x.2.ps)]))),
        (5, tabB false 7 L.length (L.map List.length)), (6, grW j.ng j.grp), (7, famO L), (8, grW NB BL)], 10⟩) (fun x => x.1 ≤ NB ∧ wrAll j.used BL (NB - x.1) x.1 x.2 = W ∧ x.2.ok ∧ x.2.nn = d.nn ∧ 0 ≤ x.2.mask ∧ x.2.mask < 2 ^ 64) (fun x => NB - x.1) (0, d) [0, 1, 2, 3, 4, 5, 6, 7, 8, 4] [] ⟨rfl, ⟨rfl, rfl, rfl, rfl, trivial⟩, ⟨rfl, rfl, rfl, rfl, rfl, rfl, rfl, rfl, trivial⟩⟩ ⟨Nat.zero_le _, hW, hd, rfl, hm⟩ ?_
      rintro ⟨k, dk⟩ ⟨hk1, hw, hok, hdn, hmk⟩
      dsimp only at hk1 hw hok hdn hmk ⊢
      by_cases hlt : k < NB
      · obtain ⟨m, hm'⟩ : ∃ m, NB - k = m + 1 := ⟨NB - k - 1, by omega⟩
        have hm2 : NB - (k + 1) = m := by omega
        rw [hm'] at hw
        have c2 := ref_Write dk hok hmk ((j.used + k : Nat) : Int) (BL.getD k ⟨#[]⟩)
        have pk := put_ok hok (n := ((j.used + k : Nat) : Int)) (s := BL.getD k ⟨#[]⟩)
        have mk := wr_mask hmk ((j.used + k : Nat) : Int) (BL.getD k ⟨#[]⟩)
        simp only [wrAll] at hw
        obtain ⟨WD, hWD⟩ : ∃ WD, writeD dk ((j.used + k : Nat) : Int) (BL.getD k ⟨#[]⟩) = WD := ⟨_, rfl⟩
        rw [hWD] at c2 hw pk mk
        have e1 : IntKind.i64.wrap ((j.used : Int) + (k : Int)) = ((j.used + k : Nat) : Int) := by rw [w64_in (by omega) (by omega)]; omega
        rw [← e1] at c2
        by_cases h0 : WD.2 = 0
        · rw [if_pos h0] at hw
          rw [h0] at c2
          repeat' ((conv => whnf); first | refine vcall_o (l := [0, 2, 3, 9]) (c2) ?_ | refine vcallD_o (l := [0, 2, 3, 9]) (c2) ?_ | ((first | apply br_dec | apply br_ndec) <;> intro h <;> try (exfalso; (try dsimp only at h); omega)) | ((first | apply br_seq | apply br_nseq | apply br_not | apply br_intro) <;> intro h) | refine cond_a ?_)
          all_goals (conv => whnf)
          all_goals first
            | (exfalso; omega)
            | (exfalso; exact h rfl)
            | skip
          exact ⟨(k + 1, WD.1), [0, 1, 2, 3, 4, 5, 6, 7, 8, 10], [], ⟨by dsimp only; omega, by dsimp only; rw [hm2]; exact hw, pk.1, pk.2.trans hdn, mk⟩, by dsimp only; omega, ⟨rfl, ⟨rfl, rfl, rfl, congrArg (fun z => some (SV.int .i64 z)) (i64_succ (by omega)), trivial⟩, ⟨rfl, rfl, rfl, rfl, rfl, rfl, rfl, rfl, trivial⟩⟩⟩
        · rw [if_neg h0] at hw
          rw [← hw, if_pos rfl] at er
          rw [cmL_no er (by decide), er]
          repeat' ((conv => whnf); first | refine vcall_o (l := [0, 2, 3, 9]) (c2) ?_ | refine vcallD_o (l := [0, 2, 3, 9]) (c2) ?_ | ((first | apply br_dec | apply br_ndec) <;> intro h <;> try (exfalso; (try dsimp only at h); omega)) | ((first | apply br_seq | apply br_nseq | apply br_not | apply br_intro) <;> intro h) | refine cond_a ?_)
          all_goals (conv => whnf)
          all_goals first
            | (exfalso; omega)
            | (exfalso; exact h0 h)
            | exact ret_up (l := [0, 1, 2, 3, 4, 5, 6, 7, 10, 5, 11, 7]) [.cell 1 2 [.sc (.strs [])]] ⟨rfl, rfl, rfl, rfl, rfl, rfl, rfl, rfl, rfl, trivial⟩ (rjH_rw _ _ _ _ _ _ _)
      · have ek : NB - k = 0 := by omega
        rw [ek] at hw
        have ek2 : k = NB := by omega
        have hw : W = (dk, true) := hw.symm
        rw [hw, if_neg (by simp)] at er
        have c3 := ref_Flush dk hok hmk
        obtain ⟨FD, hFD⟩ : ∃ FD, flushD dk = FD := ⟨_, rfl⟩
        dsimp only at er
        rw [hFD] at c3 er
        by_cases h0 : FD.2 = 0
        · rw [if_neg (by simp [h0])] at er
          rw [h0] at c3
          rw [cmL_ok er, er]
          dsimp only
          rw [ed, rjH_put, gl]
          have e1 : IntKind.i64.wrap ((NB : Int) - 1) = ((NB - 1 : Nat) : Int) := by rw [w64_in (by omega) (by omega)]; omega
          have e2 : (IntKind.i64.wrap ((NB : Int) - 1)).toNat = NB - 1 := by rw [e1, Int.toNat_natCast]
          have e3 : IntKind.i64.wrap ((j.used : Int) + (NB : Int)) = ((j.used + NB : Nat) : Int) := by rw [w64_in (by omega) (by omega)]; omega
          rw [← e2] at c6 hlz
          have k1 : (0 : Int) ≤ IntKind.i64.wrap ((NB : Int) - 1) ∧ IntKind.i64.wrap ((NB : Int) - 1) < (NB : Int) := by rw [e1]; omega
          have k2 : (0 : Int) ≤ 0 ∧ (0 : Int) ≤ 16 ∧ (16 : Int) ≤ ((BL.getD (IntKind.i64.wrap ((NB : Int) - 1)).toNat ⟨#[]⟩).size : Int) := by omega
          repeat' ((conv => whnf); first | refine vcall_o (l := [0, 2, 3, 9]) (c3) ?_ | refine vcallD_o (l := [0, 2, 3, 9]) (c3) ?_ | (refine vcall_pure (c6) rfl rfl rfl ?_) | (refine vcallD_pure (c6) rfl rfl rfl ?_) | (refine cond_intro k1 ?_) | (refine cond_intro k2 ?_) | ((first | apply br_dec | apply br_ndec) <;> intro h <;> try (exfalso; (try dsimp only at h); omega)) | ((first | apply br_seq | apply br_nseq | apply br_not | apply br_intro) <;> intro h) | refine cond_a ?_)
          all_goals (conv => whnf)
          all_goals first
            | (exfalso; omega)
            | (exfalso; exact h rfl)
            | skip
          rw [e3]
          exact ret_up (l := [0, 1, 2, 3, 4, 5, 6, 7, 10, 12, 13, 14]) [.cell 1 2 [.sc (.strs [])], .relab (gdR 14 L.length [⟨7, 6, gF (L ++ [j.grp])⟩]) (fun _ => 0) [(12, some (.one false (.cols (L.length + 1) [.own 14 (L.map List.length ++ [j.ng])]))), (14 + 0, some (.fam false (fun x => x < L.length + 1) (gF (L ++ [j.grp]))))] [7, 6] 1]
            ⟨relab_own_put (by rw [List.length_map]) (by omega) rfl rfl (fun q hq => hq) rfl (by decide) (by decide) (by decide) gF_old (by rw [gF_new, gl]), rfl, rfl, rfl, rfl, rfl, rfl, rfl, rfl, rfl, trivial⟩ (allRw_cons (allRw_cons (allRw_cons (allRw_cons (allRw_cons (allRw_cons (allRw_fam allRw_nil)))))))
        · rw [if_pos h0] at er
          rw [cmL_no er (by decide), er]
          repeat' ((conv => whnf); first | refine vcall_o (l := [0, 2, 3, 9]) (c3) ?_ | refine vcallD_o (l := [0, 2, 3, 9]) (c3) ?_ | ((first | apply br_dec | apply br_ndec) <;> intro h <;> try (exfalso; (try dsimp only at h); omega)) | ((first | apply br_seq | apply br_nseq | apply br_not | apply br_intro) <;> intro h) | refine cond_a ?_)
          all_goals (conv => whnf)
          all_goals first
            | (exfalso; omega)
            | (exfalso; exact h0 h)
            | exact ret_up (l := [0, 1, 2, 3, 4, 5, 6, 7, 10, 5, 11, 7]) [.cell 1 2 [.sc (.strs [])]] ⟨rfl, rfl, rfl, rfl, rfl, rfl, rfl, rfl, rfl, trivial⟩ (rjH_rw _ _ _ _ _ _ _)
end Go.Proofs.YtdlpmmdbdjlojaaGreatDoor

/- The law JournalCalls: what every disk is like; alike; a journal that is none. -/
namespace Go.Proofs.YtdlpmmdbdjlojaaGreatDoor
open Go.RowKit Go.Sy
attribute [local irreducible] vcall vloop vcallD retP
set_option maxRecDepth 100000
set_option linter.unusedVariables false
set_option linter.unusedSimpArgs false
attribute [local irreducible] seq ByteArray.extract
structure Cd (d : Dk) : Prop where
  ok : d.ok
  wh : Whole d
  ms : 0 ≤ d.mask ∧ d.mask < 2 ^ 64
  sn : ∀ b ∈ d.now, b.size ≤ 64
  sk : ∀ b ∈ d.kept, b.size ≤ 64
  sp : ∀ b ∈ d.ps, b.size ≤ 64
theorem z64 : (0 : Int) ≤ 0 ∧ (0 : Int) < 2 ^ 64 := by decide
theorem crashTo_sz {bits : Nat → Bool} {pn : List Int} {ps l : List ByteArray} (hl : ∀ b ∈ l, b.size ≤ 64) (hp : ∀ b ∈ ps, b.size ≤ 64) : ∀ k, ∀ b ∈ crashTo bits pn ps k l, b.size ≤ 64
  | 0 => hl
  | k + 1 => by
    have ih := crashTo_sz (bits := bits) (pn := pn) hl hp k
    simp only [crashTo]
    cases bits k with
    | false => exact ih
    | true =>
      intro b hb
      rcases List.mem_or_eq_of_mem_set hb with hb | rfl
      · exact ih b hb
      · exact sz_at hp k
theorem cd_crash {d : Dk} (h : Cd d) (m : Int) : Cd (crashD m d) := ⟨crashD_ok h.ok m, rfl, z64, crashTo_sz h.sk h.sp _, crashTo_sz h.sk h.sp _, (fun b hb => by cases hb)⟩
theorem cd_put {d : Dk} (h : Cd d) {n : Int} {s : ByteArray} (hn : 0 ≤ n ∧ n < (d.nn : Int)) (hp : d.np < 4096) (hs : s.size ≤ 64) : Cd (putD d n s) := by
  refine ⟨putD_ok h.ok hn hp, putD_whole h.ok h.wh n s, h.ms, ?_, h.sk, ?_⟩
  · intro b hb
    rcases List.mem_or_eq_of_mem_set (show b ∈ d.now.set n.toNat s from hb) with hb | rfl
    · exact h.sn b hb
    · exact hs
  · intro b hb
    rcases List.mem_append.1 (show b ∈ d.ps ++ [s] from hb) with hb | hb
    · exact h.sp b hb
    · rw [List.mem_singleton.1 hb]; exact hs
theorem cd_count {d : Dk} (h : Cd d) : Cd (countD d) := ⟨countD_ok h.ok, h.wh, h.ms, h.sn, h.sk, h.sp⟩
theorem cd_write {d : Dk} (h : Cd d) (n : Int) (s : ByteArray) : Cd (writeD d n s).1 := by
  unfold writeD
  split
  · exact h
  · split
    · exact h
    · split
      · exact h
      · split
        · exact h
        · have hp := cd_put h (n := n) (s := s) (by omega) (by omega) (by omega)
          split
          · exact cd_crash hp _
          · exact cd_count hp
theorem cd_flush {d : Dk} (h : Cd d) : Cd (flushD d).1 := by
  unfold flushD
  split
  · exact h
  · split
    · exact cd_crash h _
    · refine cd_count ⟨keepD_ok h.ok, ?_, h.ms, h.sn, crashTo_sz h.sk h.sp _, (fun b hb => by cases hb)⟩
      show crashTo allB [] [] 0 (crashTo allB d.pn d.ps d.np d.kept) = d.now
      exact h.wh
theorem cd_crashed {d : Dk} (h : Cd d) (m : Int) : Cd (crashed m d) := by
  unfold crashed
  split
  · exact h
  · exact cd_crash h m
theorem cd_recover {d : Dk} (h : Cd d) : Cd (recoverD d).1 := by
  unfold recoverD
  split
  · exact ⟨⟨h.ok.kl, h.ok.nl, h.ok.pl, h.ok.sl, h.ok.pb, h.ok.pm, h.ok.nm, h.ok.sb⟩, h.wh, h.ms, h.sn, h.sk, h.sp⟩
  · exact h
theorem cd_arm {d : Dk} (h : Cd d) {n m : Int} (hm : 0 ≤ m ∧ m < 2 ^ 64) : Cd (armD d n m).1 := by
  have ok := armD_ok h.ok n m
  unfold armD at ok ⊢
  split
  · exact h
  · split
    · exact h
    · rename_i h1 h2
      rw [if_neg h1, if_neg h2] at ok
      exact ⟨ok, h.wh, hm, h.sn, h.sk, h.sp⟩
theorem arm_nn (d : Dk) (n m : Int) : (armD d n m).1.nn = d.nn := by unfold armD; (repeat' split) <;> rfl
theorem recover_nn (d : Dk) : (recoverD d).1.nn = d.nn := by unfold recoverD; split <;> rfl
theorem recover_up (d : Dk) : (recoverD d).1.down = false := by
  unfold recoverD
  cases h : d.down with
  | true => rw [if_pos rfl]
  | false => rw [if_neg (by decide)]; exact h
theorem crashed_nn (m : Int) (d : Dk) : (crashed m d).nn = d.nn := by unfold crashed; split <;> rfl
theorem cd_wrAll {u : Nat} {bl : List ByteArray} : ∀ (r k : Nat) {d : Dk}, Cd d → Cd (wrAll u bl r k d).1 ∧ (wrAll u bl r k d).1.nn = d.nn ∧ ((wrAll u bl r k d).2 = true → 0 < r → u + k + r ≤ d.nn)
  | 0, _, d, h => ⟨h, rfl, fun _ h0 => by omega⟩
  | r + 1, k, d, h => by
    simp only [wrAll]
    have hw := cd_write h ((u + k : Nat) : Int) (bl.getD k ⟨#[]⟩)
    have hn := writeD_nn d ((u + k : Nat) : Int) (bl.getD k ⟨#[]⟩)
    split
    · rename_i h0
      obtain ⟨a, b, c⟩ := cd_wrAll (u := u) (bl := bl) r (k + 1) hw
      refine ⟨a, b.trans hn, fun h1 _ => ?_⟩
      have hlt : u + k < d.nn := by
        rcases Nat.lt_or_ge (u + k) d.nn with h2 | h2
        · exact h2
        · exfalso
          unfold writeD at h0
          split at h0
          · exact absurd (show (13 : Int) = 0 from h0) (by decide)
          · rw [if_pos (by omega)] at h0; exact absurd (show (4 : Int) = 0 from h0) (by decide)
      cases r with
      | zero => omega
      | succ r => have := c h1 (by omega); omega
    · exact ⟨hw, hn, fun h1 => by cases h1⟩
/-- A journal on a disk, with its groups. -/
structure Cj (d : Dk) (j : Jr) (L : List (List ByteArray)) : Prop where
  ok : j.ok d
  lj : LJ L j
  st : j.stopped = true → j.grp = [] ∧ j.ng = 0
theorem cj_app {d : Dk} {j : Jr} {L : List (List ByteArray)} (h : Cj d j L) (r : ByteArray) : Cj d (jaJ j d r) L := by
  by_cases h0 : jaE j d r = 0
  · rw [jaJ_ok h0]
    unfold jaE at h0
    by_cases h1 : j.stopped = true
    · rw [if_pos h1] at h0; omega
    · rw [if_neg h1] at h0
      by_cases h2 : 4000 < r.size
      · rw [if_pos h2] at h0; omega
      · rw [if_neg h2] at h0
        by_cases h3 : 256 ≤ j.ng
        · rw [if_pos h3] at h0; omega
        · have k := h.ok
          refine ⟨⟨k.rl, ?_, k.us, k.gs, k.rm, ?_, app_sz k.go (by omega), k.hb⟩, ⟨h.lj.gr, h.lj.rc, h.lj.le⟩, fun e => absurd e h1⟩
          · show (j.grp ++ [r]).length = j.ng + 1
            rw [List.length_append, k.gl]; rfl
          · show j.ng + 1 ≤ 256
            omega
  · rw [jaJ_no h0]; exact h
theorem cj_drop {d : Dk} {j : Jr} {L : List (List ByteArray)} (h : Cj d j L) : Cj d { j with grp := [], ng := 0 } L :=
  ⟨⟨h.ok.rl, rfl, h.ok.us, h.ok.gs, h.ok.rm, Nat.zero_le _, (fun r hr => by cases hr), h.ok.hb⟩, ⟨h.lj.gr, h.lj.rc, h.lj.le⟩, fun _ => ⟨rfl, rfl⟩⟩
theorem drop_eq {j : Jr} (h : j.stopped = true → j.grp = [] ∧ j.ng = 0) : (if j.stopped = true then j else { j with grp := [], ng := 0 }) = { j with grp := [], ng := 0 } := by
  by_cases h1 : j.stopped = true
  · rw [if_pos h1]
    obtain ⟨a, b⟩ := h h1
    obtain ⟨x1, x2, x3, x4, x5, x6, x7, x8⟩ := j
    simp only at a b
    subst a b
    rfl
  · rw [if_neg h1]
theorem cj_open {d : Dk} : Cj d (opJ d) (opG d) := by
  have h := opJ_jo d
  exact ⟨⟨h.rl, by rw [h.ge, h.gz]; rfl, h.us, h.gs, h.rm, by rw [h.gz]; exact Nat.zero_le _, (by rw [h.ge]; intro r hr; cases hr), h.hb⟩, opG_lj d, fun _ => ⟨h.ge, h.gz⟩⟩
theorem cj_nn {d d' : Dk} {j : Jr} {L : List (List ByteArray)} (h : Cj d j L) (hn : d'.nn = d.nn) : Cj d' j L :=
  ⟨⟨h.ok.rl, h.ok.gl, by rw [hn]; exact h.ok.us, h.ok.gs, h.ok.rm, h.ok.gm, h.ok.go, h.ok.hb⟩, h.lj, h.st⟩
theorem cj_commit {d : Dk} {j : Jr} {L : List (List ByteArray)} (hc : Cd d) (h : Cj d j L) : Cd (cmR j d).2.1 ∧ (cmR j d).2.1.nn = d.nn ∧ Cj (cmR j d).2.1 (cmR j d).1 (cmL j L d) := by
  have k := h.ok
  by_cases h1 : j.stopped = true
  · have er : cmR j d = (j, d, 13) := by unfold cmR; rw [if_pos h1]
    rw [cmL_no er (by decide), er]
    exact ⟨hc, rfl, h⟩
  · by_cases h2 : cutE j.grp ≠ 0
    · have er : cmR j d = (j, d, cutE j.grp) := by unfold cmR; rw [if_neg h1, if_pos h2]
      rw [cmL_no er h2, er]
      exact ⟨hc, rfl, h⟩
    · obtain ⟨a, b, c⟩ := cd_wrAll (u := j.used) (bl := bkL j.head (strm j.grp) (nblk (strm j.grp))) (nblk (strm j.grp)) 0 hc
      have hst : Cj d (stopJ j) L := ⟨⟨k.rl, rfl, k.us, k.gs, k.rm, Nat.zero_le _, (fun r hr => by cases hr), k.hb⟩, ⟨h.lj.gr, h.lj.rc, h.lj.le⟩, fun _ => ⟨rfl, rfl⟩⟩
      have eW : cmW j d = wrAll j.used (bkL j.head (strm j.grp) (nblk (strm j.grp))) (nblk (strm j.grp)) 0 d := rfl
      rw [← eW] at a b c
      generalize hW : cmW j d = W at a b c
      by_cases h3 : W.2 = false
      · have er : cmR j d = (stopJ j, W.1, 13) := by unfold cmR; rw [if_neg h1, if_neg h2, hW, if_pos h3]
        rw [cmL_no er (by decide), er]
        exact ⟨a, b, cj_nn hst b⟩
      · by_cases h4 : (flushD W.1).2 ≠ 0
        · have er : cmR j d = (stopJ j, (flushD W.1).1, 13) := by unfold cmR; rw [if_neg h1, if_neg h2, hW, if_neg h3, if_pos h4]
          rw [cmL_no er (by decide), er]
          have e := (flushD_nn W.1).trans b
          exact ⟨cd_flush a, e, cj_nn hst e⟩
        · have er : cmR j d = (doneJ j, (flushD W.1).1, 0) := by unfold cmR; rw [if_neg h1, if_neg h2, hW, if_neg h3, if_neg h4]
          rw [cmL_ok er, er]
          have e := (flushD_nn W.1).trans b
          have hng : 0 < j.grp.length := by
            rcases Nat.eq_zero_or_pos j.grp.length with h0 | h0
            · exfalso; apply h2; unfold cutE; rw [if_pos h0]; decide
            · exact h0
          have hnb : 0 < nblk (strm j.grp) := by
            have : 0 < (strm j.grp).size := by rw [← stK_strm, stK_size k.go]; have := szK_lt (g := j.grp) j.grp.length; omega
            unfold nblk; omega
          have hle := c (by cases hb : W.2 with | true => rfl | false => exact absurd hb h3) hnb
          have gl := k.gl
          have gm := k.gm
          have gs := k.gs
          have rl := k.rl
          have rm := k.rm
          refine ⟨cd_flush a, e, ⟨⟨?_, rfl, ?_, ?_, ?_, Nat.zero_le _, (fun r hr => by cases hr), hK_bd k.hb _ _⟩, ⟨?_, ?_, ?_⟩, fun e => by cases e⟩⟩
          · show (j.recs ++ j.grp).length = j.nr + j.ng; rw [List.length_append]; omega
          · rw [e]; show j.used + nblk (strm j.grp) ≤ d.nn; omega
          · show j.groups + 1 ≤ j.used + nblk (strm j.grp); omega
          · show j.nr + j.ng ≤ 256 * (j.groups + 1); omega
          · rw [List.length_append, List.length_singleton, h.lj.gr]; rfl
          · rw [List.flatten_append, h.lj.rc]; show j.recs ++ [j.grp].flatten = j.recs ++ j.grp; simp
          · intro x hx
            rcases List.mem_append.1 hx with hx | hx
            · exact h.lj.le x hx
            · rw [List.mem_singleton.1 hx]; omega

/-- Both journals with their disks: the journal 1, its disk 2 3 4 7, its records 5; the reference's journal 8, its disk 9 10 11, its groups 12 14. -/
theorem law_alike (j : Jr) (d : Dk) (L : List (List ByteArray)) (h : Cj d j L) (hnn : d.nn ≤ 3000) : FC Tryz.prog 15 25 [.ptr 1 0 0 0, .ptr 8 0 0 0]
    [(1, cellB true (jrC 5 6 j)), (2, cellB true (dkJ 7 d)), (5, grB j.nr j.recs), (8, cellB true (rjC 9 12 13 L.length j)), (9, cellB true [.sl 10 0 0 d.nn, .sl 11 0 0 d.np, .bool d.down, .int .i64 d.steps, .int .u64 d.mask]), (12, tabB true 14 L.length (L.map List.length)), (14, famR L)] (isOut (.bool true) [] 15) := by
  have k := h.ok
  have us := k.us
  have gs := k.gs
  have rm := k.rm
  have lg := h.lj.gr
  have c1 := jr_Records j k.rl (by omega)
  have c2 := rj_Records j L h.lj k.rl (by omega)
  have c3 := law_same j.recs j.nr k.rl (by unfold maxLen; omega)
  have c4 := jr_Groups j
  have c5 := rj_Groups j L.length lg
  have c6 := jr_Pending j
  have c7 := rj_Pending j L.length
  have c8 := jr_Room j d (by omega) us
  have c9 := rj_Room j L.length d (by omega) us
  have c10 := jr_Head j
  have c11 := rj_Head j L.length
  refine fc_of mixed T_ok Tryz.func25 rfl (by kernel_rfl) (by kernel_rfl) (by kernel_rfl) ?_
  repeat' ((conv => whnf); first | refine vcall_o (l := [0, 1, 2, 3, 4, 5, 6, 7]) (c1) ?_ | refine vcallD_o (l := [0, 1, 2, 3, 4, 5, 6, 7]) (c1) ?_ | refine vcall_o (l := [0, 8, 9, 10, 11, 12, 13, 14]) (c2) ?_ | refine vcallD_o (l := [0, 8, 9, 10, 11, 12, 13, 14]) (c2) ?_ | refine vcall_o (l := [0, 15, 16]) (c3) ?_ | refine vcallD_o (l := [0, 15, 16]) (c3) ?_ | refine vcall_o (l := [0, 1, 2, 3, 4, 5, 6, 7]) (c4) ?_ | refine vcallD_o (l := [0, 1, 2, 3, 4, 5, 6, 7]) (c4) ?_ | refine vcall_o (l := [0, 8, 9, 10, 11, 12, 13, 14]) (c5) ?_ | refine vcallD_o (l := [0, 8, 9, 10, 11, 12, 13, 14]) (c5) ?_ | refine vcall_o (l := [0, 1, 2, 3, 4, 5, 6, 7]) (c6) ?_ | refine vcallD_o (l := [0, 1, 2, 3, 4, 5, 6, 7]) (c6) ?_ | refine vcall_o (l := [0, 8, 9, 10, 11, 12, 13, 14]) (c7) ?_ | refine vcallD_o (l := [0, 8, 9, 10, 11, 12, 13, 14]) (c7) ?_ | refine vcall_o (l := [0, 1, 2, 3, 4, 5, 6, 7]) (c8) ?_ | refine vcallD_o (l := [0, 1, 2, 3, 4, 5, 6, 7]) (c8) ?_ | refine vcall_o (l := [0, 8, 9, 10, 11, 12, 13, 14]) (c9) ?_ | refine vcallD_o (l := [0, 8, 9, 10, 11, 12, 13, 14]) (c9) ?_ | refine vcall_o (l := [0, 1, 2, 3, 4, 5, 6, 7]) (c10) ?_ | refine vcallD_o (l := [0, 1, 2, 3, 4, 5, 6, 7]) (c10) ?_ | refine vcall_o (l := [0, 8, 9, 10, 11, 12, 13, 14]) (c11) ?_ | refine vcallD_o (l := [0, 8, 9, 10, 11, 12, 13, 14]) (c11) ?_ | ((first | apply br_dec | apply br_ndec) <;> intro h <;> try (exfalso; (try dsimp only at h); omega)) | ((first | apply br_seq | apply br_nseq | apply br_not | apply br_intro) <;> intro h) | refine cond_a ?_)
  all_goals (conv => whnf)
  all_goals first
    | (exfalso; exact h rfl)
    | (refine ret_out (l := [0, 1, 2, 3, 4, 5, 6, 7, 8, 9, 10, 11, 12, 13, 14]) rfl ?_ trivial allRw_nil
       exact congrArg SV.bool (decide_eq_true rfl))
theorem no_Open : Pure Tryz.prog 7 [.nptr] (.tup [.nptr, .int .i64 6]) := by
  refine fc_of mixed T_ok Tryz.func7 rfl (by kernel_rfl) (by kernel_rfl) (by kernel_rfl) ?_
  repeat' ((conv => whnf); first | ((first | apply br_dec | apply br_ndec) <;> intro h <;> try (exfalso; (try dsimp only at h); omega)) | ((first | apply br_seq | apply br_nseq | apply br_not | apply br_intro) <;> intro h) | refine cond_a ?_)
  all_goals (conv => whnf)
  exact ret_pure rfl
theorem no_Append (s : ByteArray) : Pure Tryz.prog 9 [.nptr, .str s] (.int .i64 6) := by
  refine fc_of mixed T_ok Tryz.func9 rfl (by kernel_rfl) (by kernel_rfl) (by kernel_rfl) ?_
  repeat' ((conv => whnf); first | ((first | apply br_dec | apply br_ndec) <;> intro h <;> try (exfalso; (try dsimp only at h); omega)) | ((first | apply br_seq | apply br_nseq | apply br_not | apply br_intro) <;> intro h) | refine cond_a ?_)
  all_goals (conv => whnf)
  exact ret_pure rfl
theorem no_Commit : Pure Tryz.prog 11 [.nptr] (.int .i64 6) := by
  refine fc_of_defer mixed T_ok Tryz.func11 rfl (by kernel_rfl) (by kernel_rfl) (by kernel_rfl) ?_
  repeat' ((conv => whnf); first | ((first | apply br_dec | apply br_ndec) <;> intro h <;> try (exfalso; (try dsimp only at h); omega)) | ((first | apply br_seq | apply br_nseq | apply br_not | apply br_intro) <;> intro h) | refine cond_a ?_)
  all_goals (conv => whnf)
  exact ret_pure rfl
theorem no_Drop : Pure Tryz.prog 13 [.nptr] (.tup []) := by
  refine fc_of mixed T_ok Tryz.func13 rfl (by kernel_rfl) (by kernel_rfl) (by kernel_rfl) ?_
  repeat' ((conv => whnf); first | ((first | apply br_dec | apply br_ndec) <;> intro h <;> try (exfalso; (try dsimp only at h); omega)) | ((first | apply br_seq | apply br_nseq | apply br_not | apply br_intro) <;> intro h) | refine cond_a ?_)
  all_goals (conv => whnf)
  exact ret_pure rfl
theorem no_Records : Pure Tryz.prog 26 [.nptr] .nsl := by
  refine fc_of mixed T_ok Tryz.func26 rfl (by kernel_rfl) (by kernel_rfl) (by kernel_rfl) ?_
  repeat' ((conv => whnf); first | ((first | apply br_dec | apply br_ndec) <;> intro h <;> try (exfalso; (try dsimp only at h); omega)) | ((first | apply br_seq | apply br_nseq | apply br_not | apply br_intro) <;> intro h) | refine cond_a ?_)
  all_goals (conv => whnf)
  exact ret_pure rfl
theorem no_Groups : Pure Tryz.prog 27 [.nptr] (.int .i64 0) := by
  refine fc_of mixed T_ok Tryz.func27 rfl (by kernel_rfl) (by kernel_rfl) (by kernel_rfl) ?_
  repeat' ((conv => whnf); first | ((first | apply br_dec | apply br_ndec) <;> intro h <;> try (exfalso; (try dsimp only at h); omega)) | ((first | apply br_seq | apply br_nseq | apply br_not | apply br_intro) <;> intro h) | refine cond_a ?_)
  all_goals (conv => whnf)
  exact ret_pure rfl
theorem no_Pending : Pure Tryz.prog 28 [.nptr] (.int .i64 0) := by
  refine fc_of mixed T_ok Tryz.func28 rfl (by kernel_rfl) (by kernel_rfl) (by kernel_rfl) ?_
  repeat' ((conv => whnf); first | ((first | apply br_dec | apply br_ndec) <;> intro h <;> try (exfalso; (try dsimp only at h); omega)) | ((first | apply br_seq | apply br_nseq | apply br_not | apply br_intro) <;> intro h) | refine cond_a ?_)
  all_goals (conv => whnf)
  exact ret_pure rfl
theorem no_Room : Pure Tryz.prog 29 [.nptr] (.int .i64 0) := by
  refine fc_of mixed T_ok Tryz.func29 rfl (by kernel_rfl) (by kernel_rfl) (by kernel_rfl) ?_
  repeat' ((conv => whnf); first | ((first | apply br_dec | apply br_ndec) <;> intro h <;> try (exfalso; (try dsimp only at h); omega)) | ((first | apply br_seq | apply br_nseq | apply br_not | apply br_intro) <;> intro h) | refine cond_a ?_)
  all_goals (conv => whnf)
  exact ret_pure rfl
theorem no_Head : Pure Tryz.prog 30 [.nptr] (.int .u64 0) := by
  refine fc_of mixed T_ok Tryz.func30 rfl (by kernel_rfl) (by kernel_rfl) (by kernel_rfl) ?_
  repeat' ((conv => whnf); first | ((first | apply br_dec | apply br_ndec) <;> intro h <;> try (exfalso; (try dsimp only at h); omega)) | ((first | apply br_seq | apply br_nseq | apply br_not | apply br_intro) <;> intro h) | refine cond_a ?_)
  all_goals (conv => whnf)
  exact ret_pure rfl
end Go.Proofs.YtdlpmmdbdjlojaaGreatDoor

/- The law JournalCalls: the rounds. -/
namespace Go.Proofs.YtdlpmmdbdjlojaaGreatDoor
open Go.RowKit Go.Sy
attribute [local irreducible] vcall vloop vcallD retP
set_option maxRecDepth 100000
set_option linter.unusedVariables false
set_option linter.unusedSimpArgs false
attribute [local irreducible] seq ByteArray.extract
abbrev argB (n : Nat) (q0 : List Int) (q1 : List ByteArray) (q2 q3 : List Int) : Option HB := some (.one true (.cols n [.sc (.ints .u8 q0), .sc (.strs q1), .sc (.ints .i64 q2), .sc (.ints .u64 q3)]))
def jcS (n : Nat) (q0 : List Int) (q1 : List ByteArray) (q2 q3 : List Int) (x : Nat × Int × Jr × Dk × List (List ByteArray)) : VS :=
  ⟨[(1, .sl 1 0 0 n), (5, .ptr 2 0 0 0), (7, .ptr 6 0 0 0), (11, .ptr 9 0 0 0), (12, .int .i64 x.2.1), (13, .ptr 12 0 0 0), (14, .int .i64 x.2.1), (15, .int .i64 x.1)],
    [(0, some (GB glT)), (1, argB n q0 q1 q2 q3),
      (2, cellB false [.sl 3 0 0 x.2.2.2.1.nn, .sl 4 0 0 x.2.2.2.1.nn, .sl 5 0 0 x.2.2.2.1.np, .bool x.2.2.2.1.down, .int .i64 x.2.2.2.1.steps, .int .u64 x.2.2.2.1.mask]), (3, grW x.2.2.2.1.nn x.2.2.2.1.kept), (4, grW x.2.2.2.1.nn x.2.2.2.1.now), (5, some (.one false (.cols x.2.2.2.1.np [.sc (.ints .i64 x.2.2.2.1.pn), .sc (.strs x.2.2.2.1.ps)]))),
      (6, cellB false [.sl 7 0 0 x.2.2.2.1.nn, .sl 8 0 0 x.2.2.2.1.np, .bool x.2.2.2.1.down, .int .i64 x.2.2.2.1.steps, .int .u64 x.2.2.2.1.mask]), (7, grW x.2.2.2.1.nn x.2.2.2.1.kept), (8, some (.one false (.cols x.2.2.2.1.np [.sc (.ints .i64 x.2.2.2.1.pn), .sc (.strs x.2.2.2.1.ps)]))),
      (9, cellB false [.ptr 2 0 0 0, .sl 10 0 0 x.2.2.1.nr, .int .i64 x.2.2.1.groups, .int .i64 x.2.2.1.used, .int .u64 x.2.2.1.head, .sl 11 0 0 x.2.2.1.ng, .bool x.2.2.1.stopped]), (10, grW x.2.2.1.nr x.2.2.1.recs), (11, grW x.2.2.1.ng x.2.2.1.grp),
      (12, cellB false (rjC 6 13 14 x.2.2.2.2.length x.2.2.1)), (13, tabB false 15 x.2.2.2.2.length (x.2.2.2.2.map List.length)), (14, grW x.2.2.1.ng x.2.2.1.grp), (15, famO x.2.2.2.2)], 16⟩
def jcI (n : Nat) (x : Nat × Int × Jr × Dk × List (List ByteArray)) : Prop := x.1 ≤ n ∧ Cd x.2.2.2.1 ∧ x.2.2.2.1.nn ≤ 600 ∧ Cj x.2.2.2.1 x.2.2.1 x.2.2.2.2
theorem ja_form (j : Jr) (d : Dk) (r : ByteArray) : ∃ g m, jaJ j d r = { j with grp := g, ng := m } := by
  by_cases h : jaE j d r = 0
  · exact ⟨_, _, jaJ_ok h⟩
  · exact ⟨j.grp, j.ng, jaJ_no h⟩
theorem arm_form (d : Dk) (n m : Int) : ∃ s k w, armD d n m = ({ d with steps := s, mask := k }, w) := by
  unfold armD
  split
  · exact ⟨d.steps, d.mask, 13, rfl⟩
  · split
    · exact ⟨d.steps, d.mask, 4, rfl⟩
    · exact ⟨n, m, 0, rfl⟩
section
variable (n i : Nat) (q0 : List Int) (q1 : List ByteArray) (q2 q3 : List Int) (E0 : Int) (j : Jr) (d : Dk) (L : List (List ByteArray)) (hi : i < n) (hn : n ≤ 60) (hc : Cd d) (hnn : d.nn ≤ 600) (hj : Cj d j L)
  (K : Exit → VS → Prop) (hK : ∀ v, (∃ (y : Nat × Int × Jr × Dk × List (List ByteArray)) (l : List Nat) (u : List Up), jcI n y ∧ n - y.1 < n - i ∧ upK u v (fun v => Weak 2 l v (jcS n q0 q1 q2 q3 y))) → K .normal v)
include hi hn hc hnn hj hK
set_option maxHeartbeats 1000000 in
theorem jc_app (hk : (q0.getD i 0).tmod 6 = 0) : vcode Tryz.prog T 2 (lpc Tryz.f3 1) (jcS n q0 q1 q2 q3 (i, E0, j, d, L)) K := by
  have k := hj.ok
  have c1 := jr_Append j d (q1.getD i ⟨#[]⟩) k (by omega)
  have c2 := rj_Append j L.length d (q1.getD i ⟨#[]⟩) k (by omega)
  have F := cj_app hj (q1.getD i ⟨#[]⟩)
  obtain ⟨g, m, eJ⟩ := ja_form j d (q1.getD i ⟨#[]⟩)
  rw [eJ] at c1 c2 F
  have cA := law_alike _ d L F (by omega)
  generalize jaE j d (q1.getD i ⟨#[]⟩) = E at c1 c2
  repeat' ((conv => whnf); first | refine vcall_o (l := [0, 9, 2, 3, 4, 10, 11, 5]) (c1) ?_ | refine vcallD_o (l := [0, 9, 2, 3, 4, 10, 11, 5]) (c1) ?_ | refine vcall_o (l := [0, 12, 6, 7, 8, 13, 14, 15]) (c2) ?_ | refine vcallD_o (l := [0, 12, 6, 7, 8, 13, 14, 15]) (c2) ?_ | refine vcall_o (l := [0, 9, 2, 3, 4, 10, 17, 5, 12, 6, 7, 8, 13, 18, 15]) (cA) ?_ | refine vcallD_o (l := [0, 9, 2, 3, 4, 10, 17, 5, 12, 6, 7, 8, 13, 18, 15]) (cA) ?_ | ((first | apply br_dec | apply br_ndec) <;> intro h <;> try (exfalso; (first | omega | (have h' : (q0.getD i 0).tmod 6 = 0 := h; omega) | (have h' : ¬ (q0.getD i 0).tmod 6 = 0 := h; omega) | (have h' : (q0.getD i 0).tmod 6 = 1 := h; omega) | (have h' : ¬ (q0.getD i 0).tmod 6 = 1 := h; omega) | (have h' : (q0.getD i 0).tmod 6 = 2 := h; omega) | (have h' : ¬ (q0.getD i 0).tmod 6 = 2 := h; omega) | (have h' : (q0.getD i 0).tmod 6 = 4 := h; omega) | (have h' : ¬ (q0.getD i 0).tmod 6 = 4 := h; omega) | (have h' : (q0.getD i 0).tmod 6 = 3 := h; omega) | (have h' : ¬ (q0.getD i 0).tmod 6 = 3 := h; omega) | (exact h rfl)))) | ((first | apply br_dec | apply br_ndec) <;> intro h <;> try (exfalso; (try dsimp only at h); omega)) | ((first | apply br_seq | apply br_nseq | apply br_not | apply br_intro) <;> intro h) | refine cond_a ?_)
  all_goals (conv => whnf)
  all_goals first
    | (exfalso; omega)
    | (exfalso; exact h rfl)
    | skip
  exact hK _ ⟨(i + 1, E, { j with grp := g, ng := m }, d, L), [0, 1, 2, 3, 4, 5, 6, 7, 8, 9, 10, 17, 12, 13, 18, 15], [], ⟨by dsimp only; omega, hc, hnn, F⟩, by dsimp only; omega, ⟨rfl, ⟨rfl, rfl, rfl, rfl, rfl, rfl, rfl, congrArg (fun z => some (SV.int .i64 z)) (i64_succ (by omega)), trivial⟩, ⟨gwk rfl, rfl, rfl, rfl, rfl, rfl, rfl, rfl, rfl, rfl, rfl, rfl, rfl, rfl, rfl, rfl, trivial⟩⟩⟩
set_option maxHeartbeats 1000000 in
theorem jc_commit (hk : (q0.getD i 0).tmod 6 = 1) : vcode Tryz.prog T 2 (lpc Tryz.f3 1) (jcS n q0 q1 q2 q3 (i, E0, j, d, L)) K := by
  have k := hj.ok
  have lg := hj.lj.gr
  have gs := k.gs
  have us := k.us
  have c1 := jr_Commit j d k hc.ok
  have c2 := rj_Commit j L d k hc.ok hc.ms (by omega) (fun _ => Nat.eq_zero_or_pos _)
  obtain ⟨F1, F2, F3⟩ := cj_commit hc hj
  have cA := law_alike _ _ _ F3 (by omega)
  generalize cmL j L d = M at c2 F3 cA
  generalize cmR j d = R at c1 c2 F1 F2 F3 cA
  obtain ⟨J, D, E⟩ := R
  dsimp only at F1 F2 F3 cA
  repeat' ((conv => whnf); first | refine vcall_o (l := [0, 9, 2, 3, 4, 10, 11, 5]) (c1) ?_ | refine vcallD_o (l := [0, 9, 2, 3, 4, 10, 11, 5]) (c1) ?_ | refine vcall_o (l := [0, 12, 6, 7, 8, 13, 14, 15]) (c2) ?_ | refine vcallD_o (l := [0, 12, 6, 7, 8, 13, 14, 15]) (c2) ?_ | refine vcall_o (l := [0, 9, 2, 3, 4, 17, 18, 19, 12, 6, 7, 20, 21, 22, 23]) (cA) ?_ | refine vcallD_o (l := [0, 9, 2, 3, 4, 17, 18, 19, 12, 6, 7, 20, 21, 22, 23]) (cA) ?_ | ((first | apply br_dec | apply br_ndec) <;> intro h <;> try (exfalso; (first | omega | (have h' : (q0.getD i 0).tmod 6 = 0 := h; omega) | (have h' : ¬ (q0.getD i 0).tmod 6 = 0 := h; omega) | (have h' : (q0.getD i 0).tmod 6 = 1 := h; omega) | (have h' : ¬ (q0.getD i 0).tmod 6 = 1 := h; omega) | (have h' : (q0.getD i 0).tmod 6 = 2 := h; omega) | (have h' : ¬ (q0.getD i 0).tmod 6 = 2 := h; omega) | (have h' : (q0.getD i 0).tmod 6 = 4 := h; omega) | (have h' : ¬ (q0.getD i 0).tmod 6 = 4 := h; omega) | (have h' : (q0.getD i 0).tmod 6 = 3 := h; omega) | (have h' : ¬ (q0.getD i 0).tmod 6 = 3 := h; omega) | (exact h rfl)))) | ((first | apply br_dec | apply br_ndec) <;> intro h <;> try (exfalso; (try dsimp only at h); omega)) | ((first | apply br_seq | apply br_nseq | apply br_not | apply br_intro) <;> intro h) | refine cond_a ?_)
  all_goals (conv => whnf)
  all_goals first
    | (exfalso; omega)
    | (exfalso; exact h rfl)
    | skip
  exact hK _ ⟨(i + 1, E, J, D, M), [0, 1, 2, 3, 4, 19, 6, 7, 20, 9, 17, 18, 12, 21, 22, 23], [], ⟨by dsimp only; omega, F1, by dsimp only; omega, F3⟩, by dsimp only; omega, ⟨rfl, ⟨rfl, rfl, rfl, rfl, rfl, rfl, rfl, congrArg (fun z => some (SV.int .i64 z)) (i64_succ (by omega)), trivial⟩, ⟨gwk rfl, rfl, rfl, rfl, rfl, rfl, rfl, rfl, rfl, rfl, rfl, rfl, rfl, rfl, rfl, rfl, trivial⟩⟩⟩
set_option maxHeartbeats 1000000 in
theorem jc_drop (hk : (q0.getD i 0).tmod 6 = 2) : vcode Tryz.prog T 2 (lpc Tryz.f3 1) (jcS n q0 q1 q2 q3 (i, E0, j, d, L)) K := by
  have c1 := jr_Drop j
  rw [drop_eq hj.st] at c1
  have c2 := rj_Drop j L.length
  have F := cj_drop hj
  have cA := law_alike _ d L F (by omega)
  repeat' ((conv => whnf); first | refine vcall_o (l := [0, 9, 2, 3, 4, 10, 11, 5]) (c1) ?_ | refine vcallD_o (l := [0, 9, 2, 3, 4, 10, 11, 5]) (c1) ?_ | refine vcall_o (l := [0, 12, 6, 7, 8, 13, 14, 15]) (c2) ?_ | refine vcallD_o (l := [0, 12, 6, 7, 8, 13, 14, 15]) (c2) ?_ | refine vcall_o (l := [0, 9, 2, 3, 4, 10, 17, 5, 12, 6, 7, 8, 13, 18, 15]) (cA) ?_ | refine vcallD_o (l := [0, 9, 2, 3, 4, 10, 17, 5, 12, 6, 7, 8, 13, 18, 15]) (cA) ?_ | ((first | apply br_dec | apply br_ndec) <;> intro h <;> try (exfalso; (first | omega | (have h' : (q0.getD i 0).tmod 6 = 0 := h; omega) | (have h' : ¬ (q0.getD i 0).tmod 6 = 0 := h; omega) | (have h' : (q0.getD i 0).tmod 6 = 1 := h; omega) | (have h' : ¬ (q0.getD i 0).tmod 6 = 1 := h; omega) | (have h' : (q0.getD i 0).tmod 6 = 2 := h; omega) | (have h' : ¬ (q0.getD i 0).tmod 6 = 2 := h; omega) | (have h' : (q0.getD i 0).tmod 6 = 4 := h; omega) | (have h' : ¬ (q0.getD i 0).tmod 6 = 4 := h; omega) | (have h' : (q0.getD i 0).tmod 6 = 3 := h; omega) | (have h' : ¬ (q0.getD i 0).tmod 6 = 3 := h; omega) | (exact h rfl)))) | ((first | apply br_dec | apply br_ndec) <;> intro h <;> try (exfalso; (try dsimp only at h); omega)) | ((first | apply br_seq | apply br_nseq | apply br_not | apply br_intro) <;> intro h) | refine cond_a ?_)
  all_goals (conv => whnf)
  all_goals first
    | (exfalso; omega)
    | (exfalso; exact h rfl)
    | skip
  exact hK _ ⟨(i + 1, E0, { j with grp := [], ng := 0 }, d, L), [0, 1, 2, 3, 4, 5, 6, 7, 8, 9, 10, 17, 12, 13, 18, 15], [], ⟨by dsimp only; omega, hc, hnn, F⟩, by dsimp only; omega, ⟨rfl, ⟨rfl, rfl, rfl, rfl, rfl, rfl, rfl, congrArg (fun z => some (SV.int .i64 z)) (i64_succ (by omega)), trivial⟩, ⟨gwk rfl, rfl, rfl, rfl, rfl, rfl, rfl, rfl, rfl, rfl, rfl, rfl, rfl, rfl, rfl, rfl, trivial⟩⟩⟩
set_option maxHeartbeats 1000000 in
theorem jc_arm (hm : 0 ≤ q3.getD i 0 ∧ q3.getD i 0 < 2 ^ 64) (hk : (q0.getD i 0).tmod 6 = 4) : vcode Tryz.prog T 2 (lpc Tryz.f3 1) (jcS n q0 q1 q2 q3 (i, E0, j, d, L)) K := by
  have c1 := disk_Arm d (q2.getD i 0) (q3.getD i 0)
  have c2 := ref_Arm d (q2.getD i 0) (q3.getD i 0)
  have F1 := cd_arm hc (n := q2.getD i 0) hm
  have F2 := arm_nn d (q2.getD i 0) (q3.getD i 0)
  obtain ⟨s, m, w, eA⟩ := arm_form d (q2.getD i 0) (q3.getD i 0)
  rw [eA] at c1 c2 F1 F2
  have F := cj_nn (d' := { d with steps := s, mask := m }) hj rfl
  have cA := law_alike j { d with steps := s, mask := m } L F (by show d.nn ≤ 3000; omega)
  repeat' ((conv => whnf); first | refine vcall_o (l := [0, 2, 3, 4, 5]) (c1) ?_ | refine vcallD_o (l := [0, 2, 3, 4, 5]) (c1) ?_ | refine vcall_o (l := [0, 6, 7, 8]) (c2) ?_ | refine vcallD_o (l := [0, 6, 7, 8]) (c2) ?_ | refine vcall_o (l := [0, 9, 2, 3, 4, 10, 11, 5, 12, 6, 7, 8, 13, 14, 15]) (cA) ?_ | refine vcallD_o (l := [0, 9, 2, 3, 4, 10, 11, 5, 12, 6, 7, 8, 13, 14, 15]) (cA) ?_ | ((first | apply br_dec | apply br_ndec) <;> intro h <;> try (exfalso; (first | omega | (have h' : (q0.getD i 0).tmod 6 = 0 := h; omega) | (have h' : ¬ (q0.getD i 0).tmod 6 = 0 := h; omega) | (have h' : (q0.getD i 0).tmod 6 = 1 := h; omega) | (have h' : ¬ (q0.getD i 0).tmod 6 = 1 := h; omega) | (have h' : (q0.getD i 0).tmod 6 = 2 := h; omega) | (have h' : ¬ (q0.getD i 0).tmod 6 = 2 := h; omega) | (have h' : (q0.getD i 0).tmod 6 = 4 := h; omega) | (have h' : ¬ (q0.getD i 0).tmod 6 = 4 := h; omega) | (have h' : (q0.getD i 0).tmod 6 = 3 := h; omega) | (have h' : ¬ (q0.getD i 0).tmod 6 = 3 := h; omega) | (exact h rfl)))) | ((first | apply br_dec | apply br_ndec) <;> intro h <;> try (exfalso; (try dsimp only at h); omega)) | ((first | apply br_seq | apply br_nseq | apply br_not | apply br_intro) <;> intro h) | refine cond_a ?_)
  all_goals (conv => whnf)
  all_goals first
    | (exfalso; omega)
    | (exfalso; exact h rfl)
    | skip
  exact hK _ ⟨(i + 1, w, j, { d with steps := s, mask := m }, L), [0, 1, 2, 3, 4, 5, 6, 7, 8, 9, 10, 11, 12, 13, 14, 15], [], ⟨by dsimp only; omega, F1, by dsimp only; omega, F⟩, by dsimp only; omega, ⟨rfl, ⟨rfl, rfl, rfl, rfl, rfl, rfl, rfl, congrArg (fun z => some (SV.int .i64 z)) (i64_succ (by omega)), trivial⟩, ⟨gwk rfl, rfl, rfl, rfl, rfl, rfl, rfl, rfl, rfl, rfl, rfl, rfl, rfl, rfl, rfl, rfl, trivial⟩⟩⟩
end
end Go.Proofs.YtdlpmmdbdjlojaaGreatDoor

/- The law JournalCalls: the rounds in which the journal is opened again. -/
namespace Go.Proofs.YtdlpmmdbdjlojaaGreatDoor
open Go.RowKit Go.Sy
attribute [local irreducible] vcall vloop vcallD retP
set_option maxRecDepth 100000
set_option linter.unusedVariables false
set_option linter.unusedSimpArgs false
attribute [local irreducible] seq ByteArray.extract
theorem rec_form (d : Dk) : ∃ b w, recoverD d = ({ d with down := b }, w) := by
  unfold recoverD
  split
  · exact ⟨false, 0, rfl⟩
  · exact ⟨d.down, 8, rfl⟩
section
variable (n i : Nat) (q0 : List Int) (q1 : List ByteArray) (q2 q3 : List Int) (E0 : Int) (j : Jr) (d : Dk) (L : List (List ByteArray)) (hi : i < n) (hn : n ≤ 60) (hc : Cd d) (hnn : d.nn ≤ 600) (hj : Cj d j L)
  (K : Exit → VS → Prop) (hK : ∀ v, (∃ (y : Nat × Int × Jr × Dk × List (List ByteArray)) (l : List Nat) (u : List Up), jcI n y ∧ n - y.1 < n - i ∧ upK u v (fun v => Weak 2 l v (jcS n q0 q1 q2 q3 y))) → K .normal v)
include hi hn hc hnn hj hK
set_option maxHeartbeats 1000000 in
theorem jc_crash (hm : 0 ≤ q3.getD i 0 ∧ q3.getD i 0 < 2 ^ 64) (hk : (q0.getD i 0).tmod 6 = 3) : vcode Tryz.prog T 2 (lpc Tryz.f3 1) (jcS n q0 q1 q2 q3 (i, E0, j, d, L)) K := by
  have hj' := hj
  have c1 := disk_Crash d hc.ok (q3.getD i 0)
  have c2 := ref_CrashZ d hc.ok (q3.getD i 0) hm
  have F1 := cd_crashed hc (q3.getD i 0)
  have F2 := crashed_nn (q3.getD i 0) d
  generalize crashed (q3.getD i 0) d = D at c1 c2 F1 F2
  have R1 := cd_recover F1
  have R2 := recover_nn D
  have R3 := recover_up D
  obtain ⟨b, w, eR⟩ := rec_form D
  have cr := disk_Recover D
  have cs := ref_Recover D
  rw [eR] at R1 R2 R3 cr cs
  dsimp only at R1 R2 R3 cr cs
  subst R3
  have co := jr_Open { D with down := false } rfl (by show D.nn ≤ 4096; omega) R1.sn
  have cp := rj_Open { D with down := false } rfl R1.ok R1.wh R1.sn
  have F := cj_open (d := { D with down := false })
  have cA := law_alike _ _ _ F (by show D.nn ≤ 3000; omega)
  generalize opJ { D with down := false } = J at co cp F cA
  generalize opG { D with down := false } = M at cp F cA
  repeat' ((conv => whnf); first | refine vcall_o (l := [0, 2, 3, 4, 5]) (c1) ?_ | refine vcallD_o (l := [0, 2, 3, 4, 5]) (c1) ?_ | refine vcall_o (l := [0, 6, 7, 8]) (c2) ?_ | refine vcallD_o (l := [0, 6, 7, 8]) (c2) ?_ | refine vcall_o (l := [0, 2, 3, 4, 17]) (cr) ?_ | refine vcallD_o (l := [0, 2, 3, 4, 17]) (cr) ?_ | refine vcall_o (l := [0, 6, 7, 18]) (cs) ?_ | refine vcallD_o (l := [0, 6, 7, 18]) (cs) ?_ | refine vcall_o (l := [0, 2, 3, 4, 17]) (co) ?_ | refine vcallD_o (l := [0, 2, 3, 4, 17]) (co) ?_ | refine vcall_o (l := [0, 6, 7, 18]) (cp) ?_ | refine vcallD_o (l := [0, 6, 7, 18]) (cp) ?_ | refine vcall_o (l := [0, 19, 2, 3, 4, 20, 21, 17, 22, 6, 7, 18, 23, 24, 25]) (cA) ?_ | refine vcallD_o (l := [0, 19, 2, 3, 4, 20, 21, 17, 22, 6, 7, 18, 23, 24, 25]) (cA) ?_ | ((first | apply br_dec | apply br_ndec) <;> intro h <;> try (exfalso; (first | omega | (have h' : (q0.getD i 0).tmod 6 = 0 := h; omega) | (have h' : ¬ (q0.getD i 0).tmod 6 = 0 := h; omega) | (have h' : (q0.getD i 0).tmod 6 = 1 := h; omega) | (have h' : ¬ (q0.getD i 0).tmod 6 = 1 := h; omega) | (have h' : (q0.getD i 0).tmod 6 = 2 := h; omega) | (have h' : ¬ (q0.getD i 0).tmod 6 = 2 := h; omega) | (have h' : (q0.getD i 0).tmod 6 = 4 := h; omega) | (have h' : ¬ (q0.getD i 0).tmod 6 = 4 := h; omega) | (have h' : (q0.getD i 0).tmod 6 = 3 := h; omega) | (have h' : ¬ (q0.getD i 0).tmod 6 = 3 := h; omega) | (exact h rfl)))) | ((first | apply br_dec | apply br_ndec) <;> intro h <;> try (exfalso; (try dsimp only at h); omega)) | ((first | apply br_seq | apply br_nseq | apply br_not | apply br_intro) <;> intro h) | refine cond_a ?_)
  all_goals (conv => whnf)
  all_goals first
    | (exfalso; omega)
    | (exfalso; exact h rfl)
    | skip
  exact hK _ ⟨(i + 1, 0, J, { D with down := false }, M), [0, 1, 2, 3, 4, 17, 6, 7, 18, 19, 20, 21, 22, 23, 24, 25], [], ⟨by dsimp only; omega, R1, by dsimp only; omega, F⟩, by dsimp only; omega, ⟨rfl, ⟨rfl, rfl, rfl, rfl, rfl, rfl, rfl, congrArg (fun z => some (SV.int .i64 z)) (i64_succ (by omega)), trivial⟩, ⟨gwk rfl, rfl, rfl, rfl, rfl, rfl, rfl, rfl, rfl, rfl, rfl, rfl, rfl, rfl, rfl, rfl, trivial⟩⟩⟩
set_option maxHeartbeats 1000000 in
theorem jc_write (hk : (q0.getD i 0).tmod 6 = 5) : vcode Tryz.prog T 2 (lpc Tryz.f3 1) (jcS n q0 q1 q2 q3 (i, E0, j, d, L)) K := by
  have hj' := hj
  have c1 := disk_Write d hc.ok (q2.getD i 0) (q1.getD i ⟨#[]⟩)
  have c2 := ref_Write d hc.ok hc.ms (q2.getD i 0) (q1.getD i ⟨#[]⟩)
  have G1 := cd_write hc (q2.getD i 0) (q1.getD i ⟨#[]⟩)
  have G2 := writeD_nn d (q2.getD i 0) (q1.getD i ⟨#[]⟩)
  generalize (writeD d (q2.getD i 0) (q1.getD i ⟨#[]⟩)).1 = D1 at c1 c2 G1 G2
  have c3 := disk_Flush D1 G1.ok
  have c4 := ref_Flush D1 G1.ok G1.ms
  have F1 := cd_flush G1
  have F2 := flushD_nn D1
  generalize (flushD D1).1 = D at c3 c4 F1 F2
  have R1 := cd_recover F1
  have R2 := recover_nn D
  have R3 := recover_up D
  obtain ⟨b, w, eR⟩ := rec_form D
  have cr := disk_Recover D
  have cs := ref_Recover D
  rw [eR] at R1 R2 R3 cr cs
  dsimp only at R1 R2 R3 cr cs
  subst R3
  have co := jr_Open { D with down := false } rfl (by show D.nn ≤ 4096; omega) R1.sn
  have cp := rj_Open { D with down := false } rfl R1.ok R1.wh R1.sn
  have F := cj_open (d := { D with down := false })
  have cA := law_alike _ _ _ F (by show D.nn ≤ 3000; omega)
  generalize opJ { D with down := false } = J at co cp F cA
  generalize opG { D with down := false } = M at cp F cA
  repeat' ((conv => whnf); first | refine vcall_o (l := [0, 2, 3, 4, 5]) (c1) ?_ | refine vcallD_o (l := [0, 2, 3, 4, 5]) (c1) ?_ | refine vcall_o (l := [0, 6, 7, 8]) (c2) ?_ | refine vcallD_o (l := [0, 6, 7, 8]) (c2) ?_ | refine vcall_o (l := [0, 2, 3, 4, 17]) (c3) ?_ | refine vcallD_o (l := [0, 2, 3, 4, 17]) (c3) ?_ | refine vcall_o (l := [0, 6, 7, 18]) (c4) ?_ | refine vcallD_o (l := [0, 6, 7, 18]) (c4) ?_ | refine vcall_o (l := [0, 2, 3, 4, 19]) (cr) ?_ | refine vcallD_o (l := [0, 2, 3, 4, 19]) (cr) ?_ | refine vcall_o (l := [0, 6, 7, 20]) (cs) ?_ | refine vcallD_o (l := [0, 6, 7, 20]) (cs) ?_ | refine vcall_o (l := [0, 2, 3, 4, 19]) (co) ?_ | refine vcallD_o (l := [0, 2, 3, 4, 19]) (co) ?_ | refine vcall_o (l := [0, 6, 7, 20]) (cp) ?_ | refine vcallD_o (l := [0, 6, 7, 20]) (cp) ?_ | refine vcall_o (l := [0, 21, 2, 3, 4, 22, 23, 19, 24, 6, 7, 20, 25, 26, 27]) (cA) ?_ | refine vcallD_o (l := [0, 21, 2, 3, 4, 22, 23, 19, 24, 6, 7, 20, 25, 26, 27]) (cA) ?_ | ((first | apply br_dec | apply br_ndec) <;> intro h <;> try (exfalso; (first | omega | (have h' : (q0.getD i 0).tmod 6 = 0 := h; omega) | (have h' : ¬ (q0.getD i 0).tmod 6 = 0 := h; omega) | (have h' : (q0.getD i 0).tmod 6 = 1 := h; omega) | (have h' : ¬ (q0.getD i 0).tmod 6 = 1 := h; omega) | (have h' : (q0.getD i 0).tmod 6 = 2 := h; omega) | (have h' : ¬ (q0.getD i 0).tmod 6 = 2 := h; omega) | (have h' : (q0.getD i 0).tmod 6 = 4 := h; omega) | (have h' : ¬ (q0.getD i 0).tmod 6 = 4 := h; omega) | (have h' : (q0.getD i 0).tmod 6 = 3 := h; omega) | (have h' : ¬ (q0.getD i 0).tmod 6 = 3 := h; omega) | (exact h rfl)))) | ((first | apply br_dec | apply br_ndec) <;> intro h <;> try (exfalso; (try dsimp only at h); omega)) | ((first | apply br_seq | apply br_nseq | apply br_not | apply br_intro) <;> intro h) | refine cond_a ?_)
  all_goals (conv => whnf)
  all_goals first
    | (exfalso; omega)
    | (exfalso; exact h rfl)
    | skip
  exact hK _ ⟨(i + 1, 0, J, { D with down := false }, M), [0, 1, 2, 3, 4, 19, 6, 7, 20, 21, 22, 23, 24, 25, 26, 27], [], ⟨by dsimp only; omega, R1, by dsimp only; omega, F⟩, by dsimp only; omega, ⟨rfl, ⟨rfl, rfl, rfl, rfl, rfl, rfl, rfl, congrArg (fun z => some (SV.int .i64 z)) (i64_succ (by omega)), trivial⟩, ⟨gwk rfl, rfl, rfl, rfl, rfl, rfl, rfl, rfl, rfl, rfl, rfl, rfl, rfl, rfl, rfl, rfl, trivial⟩⟩⟩
end
end Go.Proofs.YtdlpmmdbdjlojaaGreatDoor

