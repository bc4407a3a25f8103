/- Several texts in one: XJrX. -/
import Derived.Test.YtdlpmmdbdjlojaaDoorJo2
import Derived.Test.YtdlpmmdbdjlojaaDoorYPlain
/- The law JournalOpens. -/
namespace Go.Proofs.YtdlpmmdbdjlojaaDoor
open Go.RowKit Go.Sy
attribute [local irreducible] vcall vloop vcallD retP
set_option maxRecDepth 100000
set_option linter.unusedVariables false
set_option linter.unusedSimpArgs false
attribute [local irreducible] seq ByteArray.extract

abbrev dkX (d : Dk) (p : Nat) : Heap := [(4, cellB false [.sl 5 0 0 d.nn, .sl 6 0 0 d.nn, .sl p 0 0 d.np, .bool d.down, .int .i64 d.steps, .int .u64 d.mask]), (5, grW d.nn d.kept), (6, grW d.nn d.now), (p, some (.one false (.cols d.np [.sc (.ints .i64 d.pn), .sc (.strs d.ps)])))]
abbrev jrX (r g : Nat) (j : Jr) : List SV := [.ptr 4 0 0 0, .sl r 0 0 j.nr, .int .i64 j.groups, .int .i64 j.used, .int .u64 j.head, .sl g 0 0 j.ng, .bool j.stopped]
def opX (l0 l1 : Nat) (ns : List Nat) (z : Nat → List ByteArray) (q : List ByteArray) (x : Nat × Jr × Dk) : VS :=
  ⟨[(0, .sl 1 0 0 l0), (1, .sl 3 0 0 l1), (5, .ptr 4 0 0 0), (8, .ptr 8 0 0 0), (10, .sl 11 0 0 x.2.1.nr), (11, .int .i64 x.2.1.groups), (12, .int .i64 x.1)],
    (0, some (GB glT)) :: (1, some (.one true (.cols l0 [.own 2 ns]))) :: (2, famG l0 ns z) :: (3, grB l1 q) :: (8, cellB false (jrX 9 10 x.2.1)) :: (9, grW x.2.1.nr x.2.1.recs) :: (10, grW x.2.1.ng x.2.1.grp) :: (11, grW x.2.1.nr x.2.1.recs) :: dkX x.2.2 7, 12⟩
set_option maxHeartbeats 2000000 in
theorem jo_round (l0 i l1 : Nat) (ns : List Nat) (z : Nat → List ByteArray) (q : List ByteArray) (j : Jr) (d : Dk) (hi : i < l0) (h300 : l1 ≤ 300) (hn300 : ns.getD i 0 ≤ 300) (jw : Jw d j) (hnn : d.nn = 2000) (hgr : j.groups ≤ i) (hl : l0 ≤ 20) (K : Exit → VS → Prop)
    (hK : ∀ v, (∃ (y : Nat × Jr × Dk) (l : List Nat) (u : List Up), (y.1 ≤ l0 ∧ Jw y.2.2 y.2.1 ∧ y.2.2.nn = 2000 ∧ y.2.1.groups ≤ y.1) ∧ l0 - y.1 < l0 - i ∧ upK u v (fun v => Weak 4 l v (opX l0 l1 ns z q y))) → K .normal v) :
    vcode Tryd.prog T 4 (lpc Tryd.f4 1) (opX l0 l1 ns z q (i, j, d)) K := by
  have jo := jw.jo
  have gs := jo.gs
  have rm := jo.rm
  have hjz := jw.z
  have c1 := law_fill j d q l1 jo (by omega) h300
  rw [fi_with hjz] at c1
  generalize fiO j d q l1 = o1 at c1
  have c2 := jr_DropW hjz o1
  have gf := fi_gf hjz d (z i) (ns.getD i 0)
  have c3 := law_fillF j d l0 i ns z hi jo (by omega) hn300
  rw [fi_with hjz] at c3
  generalize fiO j d (z i) (ns.getD i 0) = o at c3 gf
  have gok := gf_ok jo gf
  have c4 := jr_Pending (j.with o)
  have c5 := jr_Commit (j.with o) d gok jw.ok
  have F := cm_all jw gf
  generalize cmR (j.with o) d = R at c5 F
  obtain ⟨⟨rc, nr, gr, us, hd, grp, ng, st⟩, D, E⟩ := R
  have jw' := F.jw
  have f1 := F.nn
  have f2 := F.recs
  have f3 := F.nr
  have f4 := F.gr
  have f5 := F.ec
  dsimp only at jw' f1 f2 f3 f4 f5
  clear F
  subst f2 f3 f4
  have so : seg 0 o.length o = o := seg_all rfl
  have ole := gf.le
  have hl' := jo.rl
  have rl : (j.recs ++ o).length = j.nr + o.length := by rw [List.length_append]; omega
  have c6 := jr_Open D jw'.fr.dn (by omega) jw'.sz
  rw [jw'.op] at c6
  have c7 := jr_Records _ jw'.jo.rl (show j.nr + o.length ≤ 1000000 by omega)
  have c8 := law_same (j.recs ++ o) (j.nr + o.length) rl (by unfold maxLen; omega)
  have c8' : FC Tryd.prog 3 10 [.sl 1 0 0 (j.nr + o.length), .sl 2 0 0 (j.nr + o.length)] [(1, grB (j.nr + o.length) (j.recs ++ o)), (2, grB (j.nr + o.length) (j.recs ++ seg 0 o.length o))] (isOut (.bool true) [] 3) := by rw [so]; exact c8
  have c9 := jr_Groups ⟨j.recs ++ o, j.nr + o.length, if 0 < o.length then j.groups + 1 else j.groups, us, hd, grp, ng, st⟩
  have c10 := jr_Room ⟨j.recs ++ o, j.nr + o.length, if 0 < o.length then j.groups + 1 else j.groups, us, hd, grp, ng, st⟩ D (by omega) jw'.jo.us
  have c11 := jr_Head ⟨j.recs ++ o, j.nr + o.length, if 0 < o.length then j.groups + 1 else j.groups, us, hd, grp, ng, st⟩
  have e1 : IntKind.i64.wrap ((j.groups : Int) + 1) = ((j.groups + 1 : Nat) : Int) := i64_succ (by omega)
  by_cases ho : 0 < o.length
  · have hE := f5.2 ho
    subst hE
    rw [if_pos ho] at *
    have hb : decide ((0 : Int) < (o.length : Int)) = true := decide_eq_true (by omega)
    repeat' ((conv => whnf); first | refine vcall_o (l := [0, 8, 4, 5, 6, 9, 10, 7, 3]) (c1) ?_ | refine vcall_o (l := [0, 8, 4, 5, 6, 9, 12, 7]) (c2) ?_ | refine vcall_o (l := [0, 8, 4, 5, 6, 9, 14, 7, 2]) (c3) ?_ | refine vcall_o (l := [0, 8, 4, 5, 6, 9, 15, 7]) (c4) ?_ | refine vcallD_o (l := [0, 8, 4, 5, 6, 9, 15, 7]) (c4) ?_ | refine vcall_o (l := [0, 8, 4, 5, 6, 9, 15, 7]) (c5) ?_ | refine vcallD_o (l := [0, 8, 4, 5, 6, 9, 15, 7]) (c5) ?_ | refine vcall_o (l := [0, 4, 5, 6, 19]) (c6) ?_ | refine vcall_o (l := [0, 21, 4, 5, 6, 22, 23, 19]) (c7) ?_ | refine vcallD_o (l := [0, 21, 4, 5, 6, 22, 23, 19]) (c7) ?_ | refine vcall_o (l := [0, 8, 4, 5, 6, 17, 18, 19]) (c7) ?_ | refine vcallD_o (l := [0, 8, 4, 5, 6, 17, 18, 19]) (c7) ?_ | refine vcall_o (l := [0, 24, 20]) (c8') ?_ | refine vcallD_o (l := [0, 24, 20]) (c8') ?_ | refine vcall_o (l := [0, 25, 20]) (c8') ?_ | refine vcallD_o (l := [0, 25, 20]) (c8') ?_ | refine vcall_o (l := [0, 21, 4, 5, 6, 22, 23, 19]) (c9) ?_ | refine vcallD_o (l := [0, 21, 4, 5, 6, 22, 23, 19]) (c9) ?_ | refine vcall_o (l := [0, 8, 4, 5, 6, 17, 18, 19]) (c9) ?_ | refine vcallD_o (l := [0, 8, 4, 5, 6, 17, 18, 19]) (c9) ?_ | refine vcall_o (l := [0, 21, 4, 5, 6, 22, 23, 19]) (c10) ?_ | refine vcallD_o (l := [0, 21, 4, 5, 6, 22, 23, 19]) (c10) ?_ | refine vcall_o (l := [0, 8, 4, 5, 6, 17, 18, 19]) (c10) ?_ | refine vcallD_o (l := [0, 8, 4, 5, 6, 17, 18, 19]) (c10) ?_ | refine vcall_o (l := [0, 21, 4, 5, 6, 22, 23, 19]) (c11) ?_ | refine vcallD_o (l := [0, 21, 4, 5, 6, 22, 23, 19]) (c11) ?_ | refine vcall_o (l := [0, 8, 4, 5, 6, 17, 18, 19]) (c11) ?_ | refine vcallD_o (l := [0, 8, 4, 5, 6, 17, 18, 19]) (c11) ?_ | ((first | apply br_dec | apply br_ndec) <;> intro h <;> try (exfalso; (try dsimp only at h); omega)) | ((first | apply br_seq | apply br_nseq | apply br_not | apply br_intro) <;> intro h) | refine cond_a ?_)
    all_goals (conv => whnf)
    all_goals first
      | (exfalso; exact h rfl)
      | (exfalso; exact h e1.symm)
      | (exfalso; exact h (show decide ((0 : Int) = 0) = _ by rw [hb]; rfl))
      | (exfalso; have h' : ¬ ((0 : Int) < (o.length : Int)) := h; omega)
      | (refine hK _ ⟨(i + 1, ⟨j.recs ++ o, j.nr + o.length, j.groups + 1, us, hd, grp, ng, st⟩, D), [0, 1, 2, 3, 4, 5, 6, 19, 8, 17, 18, 20], [], ⟨by dsimp only; omega, jw', by dsimp only; omega, by dsimp only; omega⟩, by dsimp only; omega, ⟨rfl, ⟨rfl, rfl, rfl, rfl, rfl, congrArg (fun z => some (SV.int .i64 z)) e1, congrArg (fun z => some (SV.int .i64 z)) (i64_succ (by omega)), trivial⟩, ⟨gwk rfl, rfl, rfl, rfl, rfl, rfl, rfl, ?_, rfl, rfl, rfl, rfl, trivial⟩⟩⟩
         exact congrArg (fun z => some (HB.one false (.cols (j.nr + o.length) [.sc (.strs (j.recs ++ z))]))) so)
      | (refine hK _ ⟨(i + 1, ⟨j.recs ++ o, j.nr + o.length, j.groups + 1, us, hd, grp, ng, st⟩, D), [0, 1, 2, 3, 4, 5, 6, 19, 21, 22, 23, 20], [], ⟨by dsimp only; omega, jw', by dsimp only; omega, by dsimp only; omega⟩, by dsimp only; omega, ⟨rfl, ⟨rfl, rfl, rfl, rfl, rfl, congrArg (fun z => some (SV.int .i64 z)) e1, congrArg (fun z => some (SV.int .i64 z)) (i64_succ (by omega)), trivial⟩, ⟨gwk rfl, rfl, rfl, rfl, rfl, rfl, rfl, ?_, rfl, rfl, rfl, rfl, trivial⟩⟩⟩
         exact congrArg (fun z => some (HB.one false (.cols (j.nr + o.length) [.sc (.strs (j.recs ++ z))]))) so)
  · have hE : E ≠ 0 := fun e => ho (f5.1 e)
    rw [if_neg ho] at *
    have hb : decide ((0 : Int) < (o.length : Int)) = false := decide_eq_false (by omega)
    have hb2 : decide (E = 0) = false := decide_eq_false hE
    repeat' ((conv => whnf); first | refine vcall_o (l := [0, 8, 4, 5, 6, 9, 10, 7, 3]) (c1) ?_ | refine vcall_o (l := [0, 8, 4, 5, 6, 9, 12, 7]) (c2) ?_ | refine vcall_o (l := [0, 8, 4, 5, 6, 9, 14, 7, 2]) (c3) ?_ | refine vcall_o (l := [0, 8, 4, 5, 6, 9, 15, 7]) (c4) ?_ | refine vcallD_o (l := [0, 8, 4, 5, 6, 9, 15, 7]) (c4) ?_ | refine vcall_o (l := [0, 8, 4, 5, 6, 9, 15, 7]) (c5) ?_ | refine vcallD_o (l := [0, 8, 4, 5, 6, 9, 15, 7]) (c5) ?_ | refine vcall_o (l := [0, 4, 5, 6, 19]) (c6) ?_ | refine vcall_o (l := [0, 21, 4, 5, 6, 22, 23, 19]) (c7) ?_ | refine vcallD_o (l := [0, 21, 4, 5, 6, 22, 23, 19]) (c7) ?_ | refine vcall_o (l := [0, 8, 4, 5, 6, 17, 18, 19]) (c7) ?_ | refine vcallD_o (l := [0, 8, 4, 5, 6, 17, 18, 19]) (c7) ?_ | refine vcall_o (l := [0, 24, 20]) (c8') ?_ | refine vcallD_o (l := [0, 24, 20]) (c8') ?_ | refine vcall_o (l := [0, 25, 20]) (c8') ?_ | refine vcallD_o (l := [0, 25, 20]) (c8') ?_ | refine vcall_o (l := [0, 21, 4, 5, 6, 22, 23, 19]) (c9) ?_ | refine vcallD_o (l := [0, 21, 4, 5, 6, 22, 23, 19]) (c9) ?_ | refine vcall_o (l := [0, 8, 4, 5, 6, 17, 18, 19]) (c9) ?_ | refine vcallD_o (l := [0, 8, 4, 5, 6, 17, 18, 19]) (c9) ?_ | refine vcall_o (l := [0, 21, 4, 5, 6, 22, 23, 19]) (c10) ?_ | refine vcallD_o (l := [0, 21, 4, 5, 6, 22, 23, 19]) (c10) ?_ | refine vcall_o (l := [0, 8, 4, 5, 6, 17, 18, 19]) (c10) ?_ | refine vcallD_o (l := [0, 8, 4, 5, 6, 17, 18, 19]) (c10) ?_ | refine vcall_o (l := [0, 21, 4, 5, 6, 22, 23, 19]) (c11) ?_ | refine vcallD_o (l := [0, 21, 4, 5, 6, 22, 23, 19]) (c11) ?_ | refine vcall_o (l := [0, 8, 4, 5, 6, 17, 18, 19]) (c11) ?_ | refine vcallD_o (l := [0, 8, 4, 5, 6, 17, 18, 19]) (c11) ?_ | ((first | apply br_dec | apply br_ndec) <;> intro h <;> try (exfalso; (try dsimp only at h); omega)) | ((first | apply br_seq | apply br_nseq | apply br_not | apply br_intro) <;> intro h) | refine cond_a ?_)
    all_goals (conv => whnf)
    all_goals first
      | (exfalso; exact h rfl)
      | (exfalso; have h' : (0 : Int) < (o.length : Int) := h; omega)
      | (exfalso; exact h (show decide (E = 0) = _ by rw [hb, hb2]))
      | (refine hK _ ⟨(i + 1, ⟨j.recs ++ o, j.nr + o.length, j.groups, us, hd, grp, ng, st⟩, D), [0, 1, 2, 3, 4, 5, 6, 19, 8, 17, 18, 20], [], ⟨by dsimp only; omega, jw', by dsimp only; omega, by dsimp only; omega⟩, by dsimp only; omega, ⟨rfl, ⟨rfl, rfl, rfl, rfl, rfl, rfl, congrArg (fun z => some (SV.int .i64 z)) (i64_succ (by omega)), trivial⟩, ⟨gwk rfl, rfl, rfl, rfl, rfl, rfl, rfl, ?_, rfl, rfl, rfl, rfl, trivial⟩⟩⟩
         exact congrArg (fun z => some (HB.one false (.cols (j.nr + o.length) [.sc (.strs (j.recs ++ z))]))) so)
      | (refine hK _ ⟨(i + 1, ⟨j.recs ++ o, j.nr + o.length, j.groups, us, hd, grp, ng, st⟩, D), [0, 1, 2, 3, 4, 5, 6, 19, 21, 22, 23, 20], [], ⟨by dsimp only; omega, jw', by dsimp only; omega, by dsimp only; omega⟩, by dsimp only; omega, ⟨rfl, ⟨rfl, rfl, rfl, rfl, rfl, rfl, congrArg (fun z => some (SV.int .i64 z)) (i64_succ (by omega)), trivial⟩, ⟨gwk rfl, rfl, rfl, rfl, rfl, rfl, rfl, ?_, rfl, rfl, rfl, rfl, trivial⟩⟩⟩
         exact congrArg (fun z => some (HB.one false (.cols (j.nr + o.length) [.sc (.strs (j.recs ++ z))]))) so)
theorem journalOpens_fc (l0 : Nat) (hl0 : l0 ≤ maxLen) (ns0 : List Nat) (ens0 : ns0.length = l0) (hns0 : ∀ i, i < l0 → ns0.getD i 0 ≤ maxLen) (z0_0 : Nat → List ByteArray) (ez0_0 : ∀ i, i < l0 → (z0_0 i).length = ns0.getD i 0) (wz0_0 : ∀ i, i < l0 → ∀ x ∈ z0_0 i, x.size ≤ maxLen) (l1 : Nat) (hl1 : l1 ≤ maxLen) (q1_0 : List ByteArray) (eq1_0 : q1_0.length = l1) (wq1_0 : ∀ x ∈ q1_0, x.size ≤ maxLen) :
    FC Tryd.prog 4 4 [.sl 1 0 0 l0, .sl 3 0 0 l1] [(0, some (GB glT)), (1, some (.one true (.cols l0 [.own 2 ns0]))), (2, some (.fam true (fun x => x < l0) (fun x => .cols (ns0.getD x 0) [.sc (.strs (z0_0 x))]))), (3, some (.one true (.cols l1 [.sc (.strs q1_0)])))] (isOut (.bool true) [] 4) := by
  have cA := law_awake
  have cN := disk_New 2000 (by omega)
  have c0 := law_long q1_0 l1 3000 hl1
  unfold maxLen at hl0
  by_cases h20 : 20 < l0
  · refine fc_of mixed T_ok Tryd.func4 rfl (by kernel_rfl) (by kernel_rfl) (by kernel_rfl) ?_
    repeat' ((conv => whnf); first | refine vcall_o (l := [0]) (cN) ?_ | refine vcallD_o (l := [0]) (cN) ?_ | (refine vcall_glob (cA) rfl rfl rfl rfl ?_) | (refine vcallD_glob (cA) rfl rfl rfl rfl ?_) | ((first | apply br_dec | apply br_ndec) <;> intro h <;> try (exfalso; (try dsimp only at h); omega)) | ((first | apply br_seq | apply br_nseq | apply br_not | apply br_intro) <;> intro h) | refine cond_a ?_)
    all_goals (conv => whnf)
    all_goals first
      | (exfalso; exact h rfl)
      | exact ret_out (l := [0, 1, 2, 3]) rfl rfl trivial allRw_nil
  · cases hlg : longB q1_0 l1 3000 with
    | true =>
      rw [hlg] at c0
      refine fc_of mixed T_ok Tryd.func4 rfl (by kernel_rfl) (by kernel_rfl) (by kernel_rfl) ?_
      repeat' ((conv => whnf); first | refine vcall_o (l := [0]) (cN) ?_ | refine vcallD_o (l := [0]) (cN) ?_ | refine vcall_o (l := [0, 3]) (c0) ?_ | refine vcallD_o (l := [0, 3]) (c0) ?_ | (refine vcall_glob (cA) rfl rfl rfl rfl ?_) | (refine vcallD_glob (cA) rfl rfl rfl rfl ?_) | ((first | apply br_dec | apply br_ndec) <;> intro h <;> try (exfalso; (try dsimp only at h); omega)) | ((first | apply br_seq | apply br_nseq | apply br_not | apply br_intro) <;> intro h) | refine cond_a ?_)
      all_goals (conv => whnf)
      all_goals first
        | (exfalso; exact h rfl)
        | exact ret_out (l := [0, 1, 2, 3]) rfl rfl trivial allRw_nil
    | false =>
      rw [hlg] at c0
      have h300 := long_no hlg
      refine fc_of mixed T_ok Tryd.func4 rfl (by kernel_rfl) (by kernel_rfl) (by kernel_rfl) ?_
      repeat' ((conv => whnf); first | refine vcall_o (l := [0]) (cN) ?_ | refine vcallD_o (l := [0]) (cN) ?_ | refine vcall_o (l := [0, 3]) (c0) ?_ | refine vcallD_o (l := [0, 3]) (c0) ?_ | ((first | apply br_dec | apply br_ndec) <;> intro h <;> try (exfalso; (try dsimp only at h); omega)) | ((first | apply br_seq | apply br_nseq | apply br_not | apply br_intro) <;> intro h) | refine cond_a ?_)
      all_goals (conv => whnf)
      all_goals first
        | (exfalso; exact h rfl)
        | skip
      refine vloop_of (fun k : Nat => ⟨[(0, .sl 1 0 0 l0), (1, .sl 3 0 0 l1), (5, .ptr 4 0 0 0), (7, .int .i64 k)], (0, some (GB glT)) :: (1, some (.one true (.cols l0 [.own 2 ns0]))) :: (2, famG l0 ns0 z0_0) :: (3, grB l1 q1_0) :: dkX (newD 2000) 7, 8⟩) (fun k => k ≤ l0 ∧ ∀ i, i < k → ns0.getD i 0 ≤ 300) (fun k => l0 - k) 0 [0, 1, 2, 3, 4, 5, 6, 7] [] ⟨rfl, ⟨rfl, rfl, rfl, rfl, trivial⟩, ⟨gwk rfl, rfl, rfl, rfl, rfl, rfl, rfl, rfl, trivial⟩⟩ ⟨Nat.zero_le _, fun i hi => by omega⟩ ?_
      rintro k ⟨hk, hall⟩
      by_cases hlt : k < l0
      · have c1 := law_longF l0 k ns0 z0_0 hlt 3000 (hns0 k hlt)
        cases hlk : longB (z0_0 k) (ns0.getD k 0) 3000 with
        | true =>
          rw [hlk] at c1
          repeat' ((conv => whnf); first | refine vcall_o (l := [0, 2]) (c1) ?_ | refine vcallD_o (l := [0, 2]) (c1) ?_ | (refine vcall_glob (cA) rfl rfl rfl rfl ?_) | (refine vcallD_glob (cA) rfl rfl rfl rfl ?_) | ((first | apply br_dec | apply br_ndec) <;> intro h <;> try (exfalso; (try dsimp only at h); omega)) | ((first | apply br_seq | apply br_nseq | apply br_not | apply br_intro) <;> intro h) | refine cond_a ?_)
          all_goals (conv => whnf)
          all_goals first
            | (exfalso; omega)
            | exact ret_out (l := [0, 1, 2, 3]) rfl rfl trivial allRw_nil
        | false =>
          rw [hlk] at c1
          have hk300 := long_no hlk
          repeat' ((conv => whnf); first | refine vcall_o (l := [0, 2]) (c1) ?_ | refine vcallD_o (l := [0, 2]) (c1) ?_ | (refine vcall_glob (cA) rfl rfl rfl rfl ?_) | (refine vcallD_glob (cA) rfl rfl rfl rfl ?_) | ((first | apply br_dec | apply br_ndec) <;> intro h <;> try (exfalso; (try dsimp only at h); omega)) | ((first | apply br_seq | apply br_nseq | apply br_not | apply br_intro) <;> intro h) | refine cond_a ?_)
          all_goals (conv => whnf)
          all_goals first
            | (exfalso; omega)
            | (refine ⟨k + 1, [0, 1, 2, 3, 4, 5, 6, 7], [], ⟨by omega, fun i hi => ?_⟩, by omega, ⟨rfl, ⟨rfl, rfl, rfl, congrArg (fun z => some (SV.int .i64 z)) (i64_succ2 (by omega)), trivial⟩, ⟨gwk rfl, rfl, rfl, rfl, rfl, rfl, rfl, rfl, trivial⟩⟩⟩
               by_cases e : i = k
               · subst e; exact hk300
               · exact hall i (by omega))
      · obtain rfl : k = l0 := by omega
        have J0 := jw_new 2000 (by omega)
        have cO := jr_Open (newD 2000) rfl (by decide) J0.sz
        rw [J0.op] at cO
        repeat' ((conv => whnf); first | refine vcall_o (l := [0, 4, 5, 6, 7]) (cO) ?_ | refine vcallD_o (l := [0, 4, 5, 6, 7]) (cO) ?_ | ((first | apply br_dec | apply br_ndec) <;> intro h <;> try (exfalso; (try dsimp only at h); omega)) | ((first | apply br_seq | apply br_nseq | apply br_not | apply br_intro) <;> intro h) | refine cond_a ?_)
        all_goals (conv => whnf)
        all_goals first
          | (exfalso; omega)
          | (exfalso; exact h rfl)
          | skip
        refine vloop_of (opX k l1 ns0 z0_0 q1_0) (fun x => x.1 ≤ k ∧ Jw x.2.2 x.2.1 ∧ x.2.2.nn = 2000 ∧ x.2.1.groups ≤ x.1) (fun x => k - x.1) (0, jr0, newD 2000) [0, 1, 2, 3, 4, 5, 6, 7, 8, 9, 10, 11] [.slot 10 [.sc (.strs [])]] ⟨rfl, ⟨rfl, rfl, rfl, rfl, rfl, rfl, rfl, trivial⟩, ⟨gwk rfl, rfl, rfl, rfl, rfl, rfl, rfl, rfl, rfl, rfl, rfl, rfl, trivial⟩⟩ ⟨Nat.zero_le _, J0, rfl, Nat.zero_le _⟩ ?_
        rintro ⟨i, j, d⟩ ⟨hi, jw, hnn, hgr⟩
        dsimp only at hi jw hnn hgr
        by_cases hlt : i < k
        · exact jo_round k i l1 ns0 z0_0 q1_0 j d hlt h300 (hall i hlt) jw hnn hgr (by omega) _ (fun v h => h)
        · obtain rfl : i = k := by omega
          repeat' ((conv => whnf); first | (refine vcall_glob (cA) rfl rfl rfl rfl ?_) | (refine vcallD_glob (cA) rfl rfl rfl rfl ?_) | ((first | apply br_dec | apply br_ndec) <;> intro h <;> try (exfalso; (try dsimp only at h); omega)) | ((first | apply br_seq | apply br_nseq | apply br_not | apply br_intro) <;> intro h) | refine cond_a ?_)
          all_goals (conv => whnf)
          all_goals first
            | (exfalso; omega)
            | exact ret_out (l := [0, 1, 2, 3]) rfl rfl trivial allRw_nil
end Go.Proofs.YtdlpmmdbdjlojaaDoor

