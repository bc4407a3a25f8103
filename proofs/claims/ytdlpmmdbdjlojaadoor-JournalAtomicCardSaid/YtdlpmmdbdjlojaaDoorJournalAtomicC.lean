/- Several texts in one: XJrY. -/
import Derived.Test.YtdlpmmdbdjlojaaDoorJa2
/- The law JournalAtomic. -/
namespace Go.Proofs.YtdlpmmdbdjlojaaDoor
open Go.RowKit Go.Sy
attribute [local irreducible] vcall vloop vcallD retP
set_option maxRecDepth 100000
set_option linter.unusedVariables false
set_option linter.unusedSimpArgs false
attribute [local irreducible] seq ByteArray.extract

/-- The head of the last loop: the records of the first groups, put together. -/
def acX (G : List (List ByteArray)) (kj : Jr) (x : Nat × Nat × List ByteArray) : VS :=
  ⟨[(12, .sl 3 0 0 G.length), (17, .ptr 5 0 0 0), (19, .sl 7 0 0 x.2.1), (20, .int .i64 x.1)],
    [(0, some (GB glT)), (3, some (.one false (.cols G.length [.own 4 (G.map List.length)]))), (4, famO G), (5, cellB false [.ptr 8 0 0 0, .sl 6 0 0 kj.nr, .int .i64 kj.groups, .int .i64 kj.used, .int .u64 kj.head, .sl 9 0 0 kj.ng, .bool kj.stopped]), (6, grW kj.nr kj.recs), (7, grW x.2.1 x.2.2)], 10⟩
def acI (G : List (List ByteArray)) (kj : Jr) (x : Nat × Nat × List ByteArray) : Prop := x.1 ≤ kj.groups ∧ x.2.2 = (G.take x.1).flatten ∧ x.2.2.length = x.2.1 ∧ x.2.1 ≤ 256 * x.1
theorem map_getD {G : List (List ByteArray)} {i : Nat} (hi : i < G.length) : (G.map List.length).getD i 0 = (G.getD i []).length := by
  rw [List.getD, List.getD, List.getElem?_map, List.getElem?_eq_getElem hi]; rfl
theorem take_next {G : List (List ByteArray)} {i : Nat} (hi : i < G.length) : (G.take (i + 1)).flatten = (G.take i).flatten ++ G.getD i [] := by
  rw [List.take_add_one, List.flatten_append, List.getD, List.getElem?_eq_getElem hi]
  simp
theorem ac_round (G : List (List ByteArray)) (kj : Jr) (i w : Nat) (W : List ByteArray) (hI : acI G kj (i, w, W)) (hi : i < kj.groups) (hg : kj.groups ≤ G.length) (h20 : G.length ≤ 20) (hG : ∀ g ∈ G, g.length ≤ 256) (K : Exit → VS → Prop)
    (hK : ∀ v, (∃ (y : Nat × Nat × List ByteArray) (l : List Nat) (u : List Up), acI G kj y ∧ kj.groups - y.1 < kj.groups - i ∧ upK u v (fun v => Weak 3 l v (acX G kj y))) → K .normal v) :
    vcode Tryd.prog T 3 (lpc Tryd.f5 2) (acX G kj (i, w, W)) K := by
  obtain ⟨i1, i2, i3, i4⟩ := hI
  dsimp only at i1 i2 i3 i4
  have c1 := jr_Groups kj
  have hlt : i < G.length := by omega
  have em := map_getD hlt
  have gl : (G.getD i []).length ≤ 256 := by
    rw [List.getD, List.getElem?_eq_getElem hlt]; exact hG _ (List.getElem_mem hlt)
  generalize hN : (G.map List.length).getD i 0 = N at em
  have hseg : seg 0 ((G.map List.length).getD i 0) (G.getD i []) = G.getD i [] := seg_all (by rw [hN]; exact em.symm)
  have k1 : i < G.length ∧ 0 + (G.map List.length).getD i 0 ≤ (G.map List.length).getD i 0 ∧ 0 + w = w ∧ (w + (G.map List.length).getD i 0 + 500) * 17 ≤ 70368744177664 := by
    rw [hN]; exact ⟨hlt, by omega, by omega, by omega⟩
  repeat' ((conv => whnf); first | refine vcall_o (l := [0, 5, 8, 8, 8, 6, 9, 8]) (c1) ?_ | refine vcallD_o (l := [0, 5, 8, 8, 8, 6, 9, 8]) (c1) ?_ | (refine cond_intro k1 ?_) | ((first | apply br_dec | apply br_ndec) <;> intro h <;> try (exfalso; (try dsimp only at h); omega)) | ((first | apply br_seq | apply br_nseq | apply br_not | apply br_intro) <;> intro h) | refine cond_a ?_)
  all_goals (conv => whnf)
  all_goals first
    | (exfalso; omega)
    | skip
  refine hK _ ⟨(i + 1, w + (G.map List.length).getD i 0, W ++ seg 0 ((G.map List.length).getD i 0) (G.getD i [])), [0, 1, 2, 3, 4, 5, 6, 10, 8, 9], [], ⟨by dsimp only; omega, ?_, ?_, by dsimp only; rw [hN]; omega⟩, by dsimp only; omega, ⟨rfl, ⟨rfl, rfl, rfl, congrArg (fun z => some (SV.int .i64 z)) (i64_succ (by omega)), trivial⟩, ⟨gwk rfl, rfl, rfl, rfl, rfl, rfl, trivial⟩⟩⟩
  · dsimp only
    rw [hseg, i2, take_next hlt]
  · dsimp only
    rw [hseg, hN, List.length_append, i3, em]
theorem wf8 {n : Int} (h : (Lit.int .u8 n).wf = true) : 0 ≤ n ∧ n ≤ 255 := by
  simp only [Lit.wf, Bool.and_eq_true, decide_eq_true_eq] at h
  exact h
theorem wr8 {n : Int} (h : 0 ≤ n ∧ n ≤ 255) : IntKind.i64.wrap (IntKind.i64.wrap n + 1) = n + 1 := by
  rw [w64_in (n := n) (by omega) (by omega), w64_in (by omega) (by omega)]
def armJ (n m : Int) : Dk := { newD 2000 with steps := n, mask := m }
theorem arm_ok {n m : Int} (h : 0 ≤ n ∧ n ≤ 1000000) : armD (newD 2000) n m = (armJ n m, 0) := by
  unfold armD
  rw [if_neg (by decide), if_neg (by omega)]; rfl
theorem arm_up {n m : Int} (h : 0 ≤ n ∧ n ≤ 1000000) : AtU (armJ n m) jr0 [] 0 := by
  have J0 := jw_new 2000 (by omega)
  have ok := armD_ok J0.ok n m
  rw [arm_ok h] at ok
  exact ⟨⟨ok, rfl, rfl, rfl, Nat.le_refl 2000, J0.sz, jo_zero _, J0.js⟩, rfl, rfl, rfl, rfl⟩
theorem ja_stop {j : Jr} {d : Dk} {r : ByteArray} (h : j.stopped = true) : jaE j d r = 13 := by unfold jaE; rw [if_pos h]
theorem cm_stop {j : Jr} {d : Dk} (h : j.stopped = true) : cmR j d = (j, d, 13) := by unfold cmR; rw [if_pos h]
theorem rec_eq {d : Dk} (h : d.down = true) : recoverD d = ({ d with down := false }, 0) := by unfold recoverD; rw [if_pos h]
set_option maxHeartbeats 2000000 in
theorem journalAtomic_fc (l0 : Nat) (hl0 : l0 ≤ maxLen) (ns0 : List Nat) (ens0 : ns0.length = l0) (hns0 : ∀ i, i < l0 → ns0.getD i 0 ≤ maxLen) (z0_0 : Nat → List ByteArray) (ez0_0 : ∀ i, i < l0 → (z0_0 i).length = ns0.getD i 0) (wz0_0 : ∀ i, i < l0 → ∀ x ∈ z0_0 i, x.size ≤ maxLen) (n1 : Int) (hw1 : (Lit.int .u8 n1).wf = true) (n2 : Int) (hw2 : (Lit.int .u64 n2).wf = true) :
    FC Tryd.prog 3 5 [.sl 1 0 0 l0, .int .u8 n1, .int .u64 n2] [(0, some (GB glT)), (1, some (.one true (.cols l0 [.own 2 ns0]))), (2, some (.fam true (fun x => x < l0) (fun x => .cols (ns0.getD x 0) [.sc (.strs (z0_0 x))])))] (isOut (.bool true) [] 3) := by
  have cA := law_awake
  have cN := disk_New 2000 (by omega)
  unfold maxLen at hl0
  by_cases h20 : 20 < l0
  · refine fc_of mixed T_ok Tryd.func5 rfl (by kernel_rfl) (by kernel_rfl) (by kernel_rfl) ?_
    repeat' ((conv => whnf); first | refine vcall_o (l := [0]) (cN) ?_ | refine vcallD_o (l := [0]) (cN) ?_ | (refine vcall_glob (cA) rfl rfl rfl rfl ?_) | (refine vcallD_glob (cA) rfl rfl rfl rfl ?_) | ((first | apply br_dec | apply br_ndec) <;> intro h <;> try (exfalso; (try dsimp only at h); omega)) | ((first | apply br_seq | apply br_nseq | apply br_not | apply br_intro) <;> intro h) | refine cond_a ?_)
    all_goals (conv => whnf)
    all_goals first
      | (exfalso; exact h rfl)
      | exact ret_out (l := [0, 1, 2]) rfl rfl trivial allRw_nil
  · refine fc_of mixed T_ok Tryd.func5 rfl (by kernel_rfl) (by kernel_rfl) (by kernel_rfl) ?_
    repeat' ((conv => whnf); first | refine vcall_o (l := [0]) (cN) ?_ | refine vcallD_o (l := [0]) (cN) ?_ | ((first | apply br_dec | apply br_ndec) <;> intro h <;> try (exfalso; (try dsimp only at h); omega)) | ((first | apply br_seq | apply br_nseq | apply br_not | apply br_intro) <;> intro h) | refine cond_a ?_)
    all_goals (conv => whnf)
    all_goals first
      | (exfalso; exact h rfl)
      | skip
    refine vloop_of (fun k : Nat => ⟨[(0, .sl 1 0 0 l0), (1, .int .u8 n1), (2, .int .u64 n2), (7, .ptr 3 0 0 0), (9, .int .i64 k)], (0, some (GB glT)) :: (1, some (.one true (.cols l0 [.own 2 ns0]))) :: (2, famG l0 ns0 z0_0) :: dkY (newD 2000) 6, 7⟩) (fun k => k ≤ l0 ∧ ∀ i, i < k → ns0.getD i 0 ≤ 300) (fun k => l0 - k) 0 [0, 1, 2, 3, 4, 5, 6] [] ⟨rfl, ⟨rfl, rfl, rfl, rfl, rfl, trivial⟩, ⟨gwk rfl, rfl, rfl, rfl, rfl, rfl, rfl, trivial⟩⟩ ⟨Nat.zero_le _, fun i hi => by omega⟩ ?_
    rintro k ⟨hk, hall⟩
    by_cases hlt : k < l0
    · have c1 := law_longF l0 k ns0 z0_0 hlt 5000 (hns0 k hlt)
      cases hlk : longB (z0_0 k) (ns0.getD k 0) 5000 with
      | true =>
        rw [hlk] at c1
        repeat' ((conv => whnf); first | refine vcall_o (l := [0, 2]) (c1) ?_ | refine vcallD_o (l := [0, 2]) (c1) ?_ | (refine vcall_glob (cA) rfl rfl rfl rfl ?_) | (refine vcallD_glob (cA) rfl rfl rfl rfl ?_) | ((first | apply br_dec | apply br_ndec) <;> intro h <;> try (exfalso; (try dsimp only at h); omega)) | ((first | apply br_seq | apply br_nseq | apply br_not | apply br_intro) <;> intro h) | refine cond_a ?_)
        all_goals (conv => whnf)
        all_goals first
          | (exfalso; omega)
          | exact ret_out (l := [0, 1, 2]) rfl rfl trivial allRw_nil
      | false =>
        rw [hlk] at c1
        have hk300 := long_no hlk
        repeat' ((conv => whnf); first | refine vcall_o (l := [0, 2]) (c1) ?_ | refine vcallD_o (l := [0, 2]) (c1) ?_ | (refine vcall_glob (cA) rfl rfl rfl rfl ?_) | (refine vcallD_glob (cA) rfl rfl rfl rfl ?_) | ((first | apply br_dec | apply br_ndec) <;> intro h <;> try (exfalso; (try dsimp only at h); omega)) | ((first | apply br_seq | apply br_nseq | apply br_not | apply br_intro) <;> intro h) | refine cond_a ?_)
        all_goals (conv => whnf)
        all_goals first
          | (exfalso; omega)
          | (refine ⟨k + 1, [0, 1, 2, 3, 4, 5, 6], [], ⟨by omega, fun i hi => ?_⟩, by omega, ⟨rfl, ⟨rfl, rfl, rfl, rfl, congrArg (fun z => some (SV.int .i64 z)) (i64_succ2 (by omega)), trivial⟩, ⟨gwk rfl, rfl, rfl, rfl, rfl, rfl, rfl, trivial⟩⟩⟩
             by_cases e : i = k
             · subst e; exact hk300
             · exact hall i (by omega))
    · obtain rfl : k = l0 := by omega
      have J0 := jw_new 2000 (by omega)
      have cO := jr_Open (newD 2000) rfl (by decide) J0.sz
      rw [J0.op] at cO
      have b8 := wf8 hw1
      have bs := wr8 b8
      obtain ⟨s, hs⟩ : ∃ s, IntKind.i64.wrap (IntKind.i64.wrap n1 + 1) = s := ⟨_, rfl⟩
      have cR := disk_Arm (newD 2000) (IntKind.i64.wrap (IntKind.i64.wrap n1 + 1)) n2
      rw [arm_ok (by omega)] at cR
      have hU : AtU (armJ (IntKind.i64.wrap (IntKind.i64.wrap n1 + 1)) n2) jr0 [] 0 := arm_up (by omega)
      repeat' ((conv => whnf); first | refine vcall_o (l := [0, 3, 4, 5, 6]) (cO) ?_ | refine vcallD_o (l := [0, 3, 4, 5, 6]) (cO) ?_ | refine vcall_o (l := [0, 3, 4, 5, 6]) (cR) ?_ | refine vcallD_o (l := [0, 3, 4, 5, 6]) (cR) ?_ | ((first | apply br_dec | apply br_ndec) <;> intro h <;> try (exfalso; (try dsimp only at h); omega)) | ((first | apply br_seq | apply br_nseq | apply br_not | apply br_intro) <;> intro h) | refine cond_a ?_)
      all_goals (conv => whnf)
      all_goals first
        | (exfalso; omega)
        | (exfalso; exact h rfl)
        | skip
      refine vloop_of (atX k ns0 z0_0) (atI k) (fun x => k - x.1) (0, jr0, armJ (IntKind.i64.wrap (IntKind.i64.wrap n1 + 1)) n2, [], 0) [0, 1, 2, 3, 4, 5, 6, 7, 8, 9, 10, 11] [.slot 12 [.svs []], .relab (fun _ _ => none) (fun _ => 0) [(10, some (.one false (.cols 0 [.own 11 []]))), (11 + 0, some (.fam false (fun x => x < 0) (gF [])))] [] 1] ⟨relab_own_start (n := 11) (a := 10) (by decide) rfl, rfl, ⟨rfl, rfl, rfl, rfl, rfl, rfl, trivial⟩, ⟨gwk rfl, rfl, rfl, rfl, rfl, rfl, rfl, rfl, rfl, rfl, rfl, rfl, trivial⟩⟩ ⟨Nat.zero_le _, Nat.zero_le _, (fun g hg => by cases hg), .inl hU⟩ ?_
      rintro ⟨i, j, d, G, dn⟩ ⟨hi, hGi, hG2, hUD⟩
      dsimp only at hi hGi hG2 hUD
      rcases hUD with hu | hd
      · by_cases hlt : i < k
        · exact at_round k i ns0 z0_0 j d G dn hlt (by omega) (hall i hlt) hGi hG2 hu _ (fun v h => h)
        · have aw := hu.aw
          have hdn := hu.dn
          have hnn := hu.nn
          have cO2 := jr_Open d aw.dn (by omega) aw.sz
          rw [aw.op] at cO2
          have kjo := aw.jo
          have hgr := hu.gr
          have hrc0 := hu.rc
          have c1 := disk_Down d
          rw [aw.dn] at c1
          have c7 := jr_Groups j
          have rm := kjo.rm
          have c8 := jr_Records j kjo.rl (by omega)
          have c9 := law_same j.recs j.nr kjo.rl (by unfold maxLen; omega)
          have hmG : j.groups ≤ G.length := by omega
          have hm : j.groups = G.length := hgr
          have hrc : j.recs = (G.take G.length).flatten := by rw [List.take_length]; exact hrc0
          repeat' ((conv => whnf); first | refine vcall_o (l := [0, 3, 4, 5, 6]) (c1) ?_ | refine vcallD_o (l := [0, 3, 4, 5, 6]) (c1) ?_ | refine vcall_o (l := [0, 3, 4, 5, 6]) (cO2) ?_ | refine vcallD_o (l := [0, 3, 4, 5, 6]) (cO2) ?_ | refine vcall_o (l := [0, 12, 3, 4, 5, 13, 14, 6]) (c7) ?_ | refine vcallD_o (l := [0, 12, 3, 4, 5, 13, 14, 6]) (c7) ?_ | ((first | apply br_dec | apply br_ndec) <;> intro h <;> try (exfalso; (try dsimp only at h); omega)) | ((first | apply br_seq | apply br_nseq | apply br_not | apply br_intro) <;> intro h) | refine cond_a ?_)
          all_goals (conv => whnf)
          all_goals first
            | (exfalso; omega)
            | (exfalso; exact h rfl)
            | (exfalso; have h' : (j.groups : Int) < (dn : Int) := h; omega)
            | (exfalso; have h' : (G.length : Int) < (j.groups : Int) := h; omega)
            | skip
          refine vloop_of (acX G j) (acI G j) (fun x => (j).groups - x.1) (0, 0, []) [0, 1, 2, 10, 11, 12, 13, 15, 3, 14] [.slot 19 [.sc (.strs [])]] ⟨rfl, ⟨rfl, rfl, rfl, rfl, trivial⟩, ⟨gwk rfl, rfl, rfl, rfl, rfl, rfl, trivial⟩⟩ ⟨Nat.zero_le _, rfl, rfl, Nat.zero_le _⟩ ?_
          rintro ⟨i3, w, W⟩ hI
          by_cases h3 : i3 < (j).groups
          · exact ac_round G _ i3 w W hI h3 hmG (by omega) hG2 _ (fun v h => h)
          · obtain ⟨e1, e2, e3, e4⟩ := hI
            dsimp only at e1 e2 e3 e4
            obtain rfl : i3 = (j).groups := by omega
            rw [hm, ← hrc] at e2
            obtain rfl : W = (j).recs := e2
            obtain rfl : w = (j).nr := by rw [← e3]; exact kjo.rl
            repeat' ((conv => whnf); first | refine vcall_o (l := [0, 5, 8, 8, 8, 6, 9, 8]) (c7) ?_ | refine vcallD_o (l := [0, 5, 8, 8, 8, 6, 9, 8]) (c7) ?_ | refine vcall_o (l := [0, 5, 8, 8, 8, 6, 9, 8]) (c8) ?_ | refine vcallD_o (l := [0, 5, 8, 8, 8, 6, 9, 8]) (c8) ?_ | refine vcall_o (l := [0, 10, 7]) (c9) ?_ | refine vcallD_o (l := [0, 10, 7]) (c9) ?_ | (refine vcall_glob (cA) rfl rfl rfl rfl ?_) | (refine vcallD_glob (cA) rfl rfl rfl rfl ?_) | ((first | apply br_dec | apply br_ndec) <;> intro h <;> try (exfalso; (try dsimp only at h); omega)) | ((first | apply br_seq | apply br_nseq | apply br_not | apply br_intro) <;> intro h) | refine cond_a ?_)
            all_goals (conv => whnf)
            all_goals first
              | (exfalso; omega)
              | exact ret_out (l := [0, 1, 2]) rfl rfl trivial allRw_nil
      · have hnn := hd.nn
        have c1 := disk_Down d
        rw [hd.dw] at c1
        have hok := hd.ok
        have c2 := disk_Recover d
        have okD := recoverD_ok hok
        obtain ⟨m, hm1, hm2, hm, hrc⟩ := hd.op
        rw [rec_eq hd.dw] at c2 okD hm hrc
        dsimp only at c2 okD hm hrc
        obtain ⟨D, hD⟩ : ∃ D : Dk, ({ d with down := false } : Dk) = D := ⟨_, rfl⟩
        have jok : j.ok { d with down := false } := ⟨hd.jok.rl, hd.jok.gl, hd.jok.us, hd.jok.gs, hd.jok.rm, hd.jok.gm, hd.jok.go, hd.jok.hb⟩
        have c3 := jr_Append j { d with down := false } ⟨#[120]⟩ jok (by show d.nn ≤ 4096; omega)
        rw [jaJ_no (by rw [ja_stop hd.st]; decide), ja_stop hd.st] at c3
        have c4 := jr_Commit j { d with down := false } jok okD
        rw [cm_stop hd.st] at c4
        have cO2 := jr_Open { d with down := false } rfl (by show d.nn ≤ 4096; omega) hd.sz
        have kjo := opJ_jo { d with down := false }
        obtain ⟨kj, hkj⟩ : ∃ kj, opJ { d with down := false } = kj := ⟨_, rfl⟩
        rw [hkj] at cO2 hm hrc kjo
        have c7 := jr_Groups kj
        have rm := kjo.rm
        have c8 := jr_Records kj kjo.rl (by omega)
        have c9 := law_same kj.recs kj.nr kjo.rl (by unfold maxLen; omega)
        have hmG : kj.groups ≤ G.length := by omega
        repeat' ((conv => whnf); first | refine vcall_o (l := [0, 3, 4, 5, 6]) (c1) ?_ | refine vcallD_o (l := [0, 3, 4, 5, 6]) (c1) ?_ | refine vcall_o (l := [0, 3, 4, 5, 6]) (c2) ?_ | refine vcallD_o (l := [0, 3, 4, 5, 6]) (c2) ?_ | refine vcall_o (l := [0, 7, 3, 4, 5, 8, 9, 6]) (c3) ?_ | refine vcallD_o (l := [0, 7, 3, 4, 5, 8, 9, 6]) (c3) ?_ | refine vcall_o (l := [0, 7, 3, 4, 5, 8, 12, 6]) (c4) ?_ | refine vcallD_o (l := [0, 7, 3, 4, 5, 8, 12, 6]) (c4) ?_ | refine vcall_o (l := [0, 3, 4, 5, 15]) (cO2) ?_ | refine vcallD_o (l := [0, 3, 4, 5, 15]) (cO2) ?_ | refine vcall_o (l := [0, 16, 3, 4, 5, 17, 18, 15]) (c7) ?_ | refine vcallD_o (l := [0, 16, 3, 4, 5, 17, 18, 15]) (c7) ?_ | ((first | apply br_dec | apply br_ndec) <;> intro h <;> try (exfalso; (try dsimp only at h); omega)) | ((first | apply br_seq | apply br_nseq | apply br_not | apply br_intro) <;> intro h) | refine cond_a ?_)
        all_goals (conv => whnf)
        all_goals first
          | (exfalso; omega)
          | (exfalso; exact h rfl)
          | (exfalso; have h' : (kj.groups : Int) < (dn : Int) := h; omega)
          | (exfalso; have h' : (G.length : Int) < (kj.groups : Int) := h; omega)
          | skip
        all_goals
          refine vloop_of (acX G kj) (acI G kj) (fun x => (kj).groups - x.1) (0, 0, []) [0, 1, 2, 10, 11, 16, 17, 19, 3, 18] [.slot 19 [.sc (.strs [])]] ⟨rfl, ⟨rfl, rfl, rfl, rfl, trivial⟩, ⟨gwk rfl, rfl, rfl, rfl, rfl, rfl, trivial⟩⟩ ⟨Nat.zero_le _, rfl, rfl, Nat.zero_le _⟩ ?_
          rintro ⟨i3, w, W⟩ hI
          by_cases h3 : i3 < (kj).groups
          · exact ac_round G _ i3 w W hI h3 hmG (by omega) hG2 _ (fun v h => h)
          · obtain ⟨e1, e2, e3, e4⟩ := hI
            dsimp only at e1 e2 e3 e4
            obtain rfl : i3 = (kj).groups := by omega
            rw [hm, ← hrc] at e2
            obtain rfl : W = (kj).recs := e2
            obtain rfl : w = (kj).nr := by rw [← e3]; exact kjo.rl
            repeat' ((conv => whnf); first | refine vcall_o (l := [0, 5, 8, 8, 8, 6, 9, 8]) (c7) ?_ | refine vcallD_o (l := [0, 5, 8, 8, 8, 6, 9, 8]) (c7) ?_ | refine vcall_o (l := [0, 5, 8, 8, 8, 6, 9, 8]) (c8) ?_ | refine vcallD_o (l := [0, 5, 8, 8, 8, 6, 9, 8]) (c8) ?_ | refine vcall_o (l := [0, 10, 7]) (c9) ?_ | refine vcallD_o (l := [0, 10, 7]) (c9) ?_ | (refine vcall_glob (cA) rfl rfl rfl rfl ?_) | (refine vcallD_glob (cA) rfl rfl rfl rfl ?_) | ((first | apply br_dec | apply br_ndec) <;> intro h <;> try (exfalso; (try dsimp only at h); omega)) | ((first | apply br_seq | apply br_nseq | apply br_not | apply br_intro) <;> intro h) | refine cond_a ?_)
            all_goals (conv => whnf)
            all_goals first
              | (exfalso; omega)
              | exact ret_out (l := [0, 1, 2]) rfl rfl trivial allRw_nil
end Go.Proofs.YtdlpmmdbdjlojaaDoor

