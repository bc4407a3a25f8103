/- Several texts in one: XJrG, XJrH, XJrI, XDiskL, XJrJ, XJrK, XJrL, XJrM, XWireC8, XJsA, XJsB, XDiskM, XDiskLaws, XDiskCr, XDiskR, XDiskR2, XJsC, XJrQ, XJrR, XJrS, XJrT, XJrU, XJsD, XJsE, XJsF. -/
import Derived.Test.YtdlpmmdbdjlojaaGreatDoorJc1
import Derived.Test.YtdlpmmdbdjlojaaGreatDoorYDfr
import Derived.Test.YtdlpmmdbdjlojaaGreatDoorYOwn
import Derived.Test.YtdlpmmdbdjlojaaGreatDoorYNil
/- Contracts of package journal: the journal on its disk; a group is taken up. -/
namespace Go.Proofs.YtdlpmmdbdjlojaaGreatDoor
open Go.RowKit Go.Sy
attribute [local irreducible] vcall vloop vcallD retP
set_option maxRecDepth 100000
set_option linter.unusedVariables false
set_option linter.unusedSimpArgs false
attribute [local irreducible] seq ByteArray.extract
/-- A journal: its records, the complete groups, their blocks, the hash, the present group. -/
structure Jr where
  recs : List ByteArray
  nr : Nat
  groups : Nat
  used : Nat
  head : Int
  grp : List ByteArray
  ng : Nat
  stopped : Bool
structure Jr.ok (j : Jr) (d : Dk) : Prop where
  rl : j.recs.length = j.nr
  gl : j.grp.length = j.ng
  us : j.used ≤ d.nn
  gs : j.groups ≤ j.used
  rm : j.nr ≤ 256 * j.groups
  gm : j.ng ≤ 256
  go : okR j.grp
  hb : 0 ≤ j.head ∧ j.head < 18446744073709551616
def dkJ (p : Nat) (d : Dk) : List SV := [.sl 3 0 0 d.nn, .sl 4 0 0 d.nn, .sl p 0 0 d.np, .bool d.down, .int .i64 d.steps, .int .u64 d.mask]
def jrC (r g : Nat) (j : Jr) : List SV := [.ptr 2 0 0 0, .sl r 0 0 j.nr, .int .i64 j.groups, .int .i64 j.used, .int .u64 j.head, .sl g 0 0 j.ng, .bool j.stopped]
def cellB (ro : Bool) (l : List SV) : Option HB := some (.one ro (.cells l))
def dkRest (p : Nat) (d : Dk) : Heap := [(2, cellB false (dkJ p d)), (3, grW d.nn d.kept), (4, grW d.nn d.now), (p, some (.one false (.cols d.np [.sc (.ints .i64 d.pn), .sc (.strs d.ps)])))]
def jrH (r g p : Nat) (j : Jr) (d : Dk) : Heap := (1, cellB false (jrC r g j)) :: (r, grW j.nr j.recs) :: (g, grW j.ng j.grp) :: dkRest p d
theorem jrH_rw (r g p : Nat) (j : Jr) (d : Dk) : allRw (jrH r g p j d) := allRw_cons (allRw_cons (allRw_cons (allRw_cons (allRw_cons (allRw_cons (allRw_cons allRw_nil))))))

def addJ (j : Jr) (m : Nat) (g : List ByteArray) (u : Nat) (h : Int) : Jr := { j with recs := j.recs ++ g, nr := j.nr + m, groups := j.groups + 1, used := u, head := h }
theorem jr_add (j : Jr) (m : Nat) (g : List ByteArray) (u : Nat) (h : Int) (hg : g.length = m) (h1 : j.groups ≤ 1000000) (h2 : j.nr ≤ 1000000000) (h3 : m ≤ 1000000) :
    FC Tryz.prog 9 40 [.ptr 1 0 0 0, .sl 8 0 0 m, .int .i64 u, .int .u64 h] [(1, cellB false (jrC 5 6 j)), (5, grW j.nr j.recs), (8, grB m g)]
      (isOut (.tup []) [(1, cellB false (jrC 9 6 (addJ j m g u h))), (9, grW (j.nr + m) (j.recs ++ g))] 10) := by
  have e : IntKind.i64.wrap ((j.groups : Int) + 1) = ((j.groups + 1 : Nat) : Int) := i64_succ (by omega)
  have es : seg 0 m g = g := by unfold seg; rw [List.drop_zero, List.take_of_length_le (by omega)]
  refine fc_of mixed T_ok Tryz.func40 rfl (by kernel_rfl) (by kernel_rfl) (by kernel_rfl) ?_
  repeat' ((conv => whnf); first | ((first | apply br_dec | apply br_ndec) <;> intro h <;> try (exfalso; (try dsimp only at h); omega)) | ((first | apply br_seq | apply br_nseq | apply br_not | apply br_intro) <;> intro h) | refine cond_a ?_)
  all_goals (conv => whnf)
  rw [e, es]
  exact ret_out (l := [0, 1, 2, 3, 4, 5, 6, 7, 8, 9]) rfl rfl ⟨rfl, rfl, trivial⟩ (allRw_cons (allRw_cons allRw_nil))
/-- The complete group behind a block. -/
def rdK (now : List ByteArray) : Nat → Nat → Int → ByteArray → Option (List ByteArray × Nat × Int)
  | 0, _, _, _ => none
  | f + 1, n, h, t => if unOk h (now.getD n ⟨#[]⟩) then (if lastB (now.getD n ⟨#[]⟩) = true then (match ucG (t ++ unP (now.getD n ⟨#[]⟩)) with | some g => some (g, n + 1, chI h (unR (now.getD n ⟨#[]⟩))) | none => none) else rdK now f (n + 1) (chI h (unR (now.getD n ⟨#[]⟩))) (t ++ unP (now.getD n ⟨#[]⟩))) else none
section
variable {now : List ByteArray} {f n : Nat} {h : Int} {t : ByteArray}
theorem rd_no (ho : ¬ unOk h (now.getD n ⟨#[]⟩)) : rdK now (f + 1) n h t = none := by simp only [rdK]; rw [if_neg ho]
theorem rd_more (ho : unOk h (now.getD n ⟨#[]⟩)) (hl : lastB (now.getD n ⟨#[]⟩) = false) : rdK now (f + 1) n h t = rdK now f (n + 1) (chI h (unR (now.getD n ⟨#[]⟩))) (t ++ unP (now.getD n ⟨#[]⟩)) := by
  simp only [rdK]; rw [if_pos ho, hl, if_neg (by decide)]
theorem rd_last (ho : unOk h (now.getD n ⟨#[]⟩)) (hl : lastB (now.getD n ⟨#[]⟩) = true) : rdK now (f + 1) n h t = (match ucG (t ++ unP (now.getD n ⟨#[]⟩)) with | some g => some (g, n + 1, chI h (unR (now.getD n ⟨#[]⟩))) | none => none) := by
  simp only [rdK]; rw [if_pos ho, if_pos hl]
end
theorem uc_len : ∀ {s : ByteArray} {g : List ByteArray}, ucG s = some g → g.length ≤ 256 := by
  have key : ∀ (f : Nat) (s : ByteArray) (acc g : List ByteArray), acc.length ≤ 256 → ucR f s acc = some g → g.length ≤ 256 := by
    intro f
    induction f with
    | zero => intro s acc g _ h; cases h
    | succ f ih =>
      intro s acc g hl h
      by_cases h0 : s.size = 0
      · by_cases h1 : acc.length = 0
        · simp only [ucR] at h; rw [if_pos h0, if_pos h1] at h; cases h
        · rw [uc_end h0 (by omega)] at h; cases h; exact hl
      · by_cases ha : ucA s
        · by_cases hb : ucB s acc.length
          · rw [uc_step h0 ha hb] at h
            exact ih _ _ _ (by rw [List.length_append]; have := hb.2; show acc.length + 1 ≤ 256; omega) h
          · rw [uc_noB h0 hb] at h; cases h
        · rw [uc_noA h0 ha] at h; cases h
  intro s g h
  exact key _ s [] g (Nat.zero_le _) h
def nxJ (j : Jr) : Option (List ByteArray × Nat × Int) → Jr
  | none => j
  | some (g, n, h) => addJ j g.length g n h
def nxR (j : Jr) (d : Dk) : Option (List ByteArray × Nat × Int) := rdK d.now (d.nn - j.used) j.used j.head ⟨#[]⟩
def nxB : Option (List ByteArray × Nat × Int) → Bool
  | none => false
  | some _ => true
/-- The blocks of a disk are short. -/
structure Dk.sz (d : Dk) : Prop where
  now : ∀ b ∈ d.now, b.size ≤ 64
  kept : ∀ b ∈ d.kept, b.size ≤ 64
  ps : ∀ b ∈ d.ps, b.size ≤ 64
theorem sz_at {l : List ByteArray} (h : ∀ b ∈ l, b.size ≤ 64) (i : Nat) : (l.getD i ⟨#[]⟩).size ≤ 64 := by
  rcases Nat.lt_or_ge i l.length with hi | hi
  · rw [List.getD, List.getElem?_eq_getElem hi]; exact h _ (List.getElem_mem hi)
  · rw [List.getD, List.getElem?_eq_none hi]; decide
def nxS (j : Jr) (d : Dk) (x : Nat × Nat × Int × ByteArray × Bool) : VS := match x with
  | (_, n, h, _, false) => ⟨[(0, .ptr 1 0 0 0), (3, .ptr 8 0 0 0), (4, .int .u64 h), (5, .int .i64 n)], [(1, cellB false (jrC 5 6 j)), (2, cellB true (dkJ 7 d)), (4, grB d.nn d.now), (5, grW j.nr j.recs), (8, bld0B)], 9⟩
  | (_, n, h, t, true) => ⟨[(0, .ptr 1 0 0 0), (3, .ptr 8 0 0 0), (4, .int .u64 h), (5, .int .i64 n)], [(1, cellB false (jrC 5 6 j)), (2, cellB true (dkJ 7 d)), (4, grB d.nn d.now), (5, grW j.nr j.recs), (8, bldB 9 t.size), (9, browB t)], 10⟩
theorem jr_next (j : Jr) (d : Dk) (hd : d.down = false) (hnn : d.nn ≤ 4096) (hsz : ∀ b ∈ d.now, b.size ≤ 64) (hu : j.used ≤ d.nn) (hgs : j.groups ≤ j.used) (hrm : j.nr ≤ 256 * j.groups) :
    FC Tryz.prog 8 33 [.ptr 1 0 0 0] [(1, cellB false (jrC 5 6 j)), (2, cellB true (dkJ 7 d)), (4, grB d.nn d.now), (5, grW j.nr j.recs)]
      (isOut (.bool (nxB (nxR j d))) [(1, cellB false (jrC 8 6 (nxJ j (nxR j d)))), (8, grW (nxJ j (nxR j d)).nr (nxJ j (nxR j d)).recs)] 9) := by
  have c1 := disk_Blocks d
  obtain ⟨R, hR⟩ : ∃ R, nxR j d = R := ⟨_, rfl⟩
  rw [hR]
  refine fc_of mixed T_ok Tryz.func33 rfl (by kernel_rfl) (by kernel_rfl) (by kernel_rfl) ?_
  repeat' ((conv => whnf); first | ((first | apply br_dec | apply br_ndec) <;> intro h <;> try (exfalso; (try dsimp only at h); omega)) | ((first | apply br_seq | apply br_nseq | apply br_not | apply br_intro) <;> intro h) | refine cond_a ?_)
  all_goals (conv => whnf)
  refine vloop_of (nxS j d) (fun x => x.2.1 + x.1 = d.nn ∧ j.used ≤ x.2.1 ∧ rdK d.now x.1 x.2.1 x.2.2.1 x.2.2.2.1 = R ∧ (x.2.2.2.2 = false → x.2.2.2.1 = ⟨#[]⟩) ∧ (x.2.2.2.2 = true → 0 < x.2.2.2.1.size ∧ x.2.2.2.1.size ≤ 64 * x.2.1)) (fun x => x.1) (d.nn - j.used, j.used, j.head, ⟨#[]⟩, false) [0, 1, 2, 3, 4, 5, 6, 7, 8] [] ⟨rfl, ⟨rfl, rfl, rfl, rfl, trivial⟩, ⟨rfl, rfl, rfl, rfl, rfl, trivial⟩⟩ ⟨by dsimp only; omega, Nat.le_refl _, hR, fun _ => rfl, fun e => by cases e⟩ ?_
  rintro ⟨f, n, hh, t, st⟩ ⟨hf, hun, hr, hs0, hs1⟩
  dsimp only at hf hun hr hs0 hs1 ⊢
  have c2 := disk_Read d (n : Int)
  cases f with
  | zero =>
    have hn : n = d.nn := by omega
    have hr : R = none := hr.symm
    subst hr
    cases st with
    | false =>
      repeat' ((conv => whnf); first | refine vcall_o (l := [0, 2, 3, 4, 7]) (c1) ?_ | refine vcallD_o (l := [0, 2, 3, 4, 7]) (c1) ?_ | ((first | apply br_dec | apply br_ndec) <;> intro h <;> try (exfalso; (try dsimp only at h); omega)) | ((first | apply br_seq | apply br_nseq | apply br_not | apply br_intro) <;> intro h) | refine cond_a ?_)
      all_goals (conv => whnf)
      all_goals first
        | (exfalso; omega)
        | exact ret_out (l := [0, 1, 2, 3, 4, 5, 6, 7, 5]) rfl rfl ⟨rfl, rfl, trivial⟩ (allRw_cons (allRw_cons allRw_nil))
    | true =>
      repeat' ((conv => whnf); first | refine vcall_o (l := [0, 2, 3, 4, 7]) (c1) ?_ | refine vcallD_o (l := [0, 2, 3, 4, 7]) (c1) ?_ | ((first | apply br_dec | apply br_ndec) <;> intro h <;> try (exfalso; (try dsimp only at h); omega)) | ((first | apply br_seq | apply br_nseq | apply br_not | apply br_intro) <;> intro h) | refine cond_a ?_)
      all_goals (conv => whnf)
      all_goals first
        | (exfalso; omega)
        | exact ret_out (l := [0, 1, 2, 3, 4, 5, 6, 7, 5]) rfl rfl ⟨rfl, rfl, trivial⟩ (allRw_cons (allRw_cons allRw_nil))
  | succ f =>
    have hn : n < d.nn := by omega
    obtain ⟨B, hB⟩ : ∃ B, d.now.getD n ⟨#[]⟩ = B := ⟨_, rfl⟩
    have zB : B.size ≤ 64 := by rw [← hB]; exact sz_at hsz n
    have er : readD d (n : Int) = (d.now.getD n ⟨#[]⟩, 0) := by unfold readD; rw [if_neg (by rw [hd]; decide), if_neg (by omega), Int.toNat_natCast]
    rw [er, hB] at c2
    dsimp only at c2
    by_cases ho : unOk hh B
    · have c3 := jr_unblock hh B (by omega) ho
      have z1 := ho.1
      have zp := unP_size ho.1
      have ho' : unOk hh (d.now.getD n ⟨#[]⟩) := by rw [hB]; exact ho
      cases st with
      | false =>
        have ht := hs0 rfl
        subst ht
        have c4 := bld_WS0 (unP B) (by omega) (by omega)
        cases hl : lastB B with
        | false =>
          unfold unV at c3
          rw [hl] at c3
          rw [rd_more ho' (by rw [hB]; exact hl), hB, ba_nil] at hr
          repeat' ((conv => whnf); first | refine vcall_o (l := [0, 2, 3, 4, 7]) (c1) ?_ | refine vcallD_o (l := [0, 2, 3, 4, 7]) (c1) ?_ | refine vcall_o (l := [0, 2, 3, 4, 7]) (c2) ?_ | refine vcallD_o (l := [0, 2, 3, 4, 7]) (c2) ?_ | (refine vcall_pure (c3) rfl rfl rfl ?_) | (refine vcallD_pure (c3) rfl rfl rfl ?_) | refine vcall_o (l := [0, 8]) (c4) ?_ | ((first | apply br_dec | apply br_ndec) <;> intro h <;> try (exfalso; (try dsimp only at h); omega)) | ((first | apply br_seq | apply br_nseq | apply br_not | apply br_intro) <;> intro h) | refine cond_a ?_)
          all_goals (conv => whnf)
          all_goals first
            | (exfalso; omega)
            | (exfalso; exact h rfl)
            | skip
          refine ⟨(f, n + 1, chI hh (unR B), unP B, true), [0, 1, 2, 3, 4, 5, 6, 7, 8, 9], [], ⟨by dsimp only; omega, by dsimp only; omega, hr, (fun e => by cases e), fun _ => ⟨by dsimp only; omega, by dsimp only; omega⟩⟩, by dsimp only; omega, ⟨rfl, ⟨rfl, rfl, rfl, congrArg (fun z => some (SV.int .i64 z)) (i64_succ (by omega)), trivial⟩, ⟨rfl, rfl, rfl, rfl, rfl, rfl, trivial⟩⟩⟩
        | true =>
          unfold unV at c3
          rw [hl] at c3
          have c5 := bld_String (unP B) (by omega)
          have c6 := jr_uncut (unP B) (by omega) (by omega)
          rw [rd_last ho' (by rw [hB]; exact hl), hB, ba_nil] at hr
          cases hu : ucG (unP B) with
          | none =>
            rw [hu] at c6 hr
            subst hr
            simp only [ucOut] at c6
            repeat' ((conv => whnf); first | refine vcall_o (l := [0, 2, 3, 4, 7]) (c1) ?_ | refine vcallD_o (l := [0, 2, 3, 4, 7]) (c1) ?_ | refine vcall_o (l := [0, 2, 3, 4, 7]) (c2) ?_ | refine vcallD_o (l := [0, 2, 3, 4, 7]) (c2) ?_ | (refine vcall_pure (c3) rfl rfl rfl ?_) | (refine vcallD_pure (c3) rfl rfl rfl ?_) | refine vcall_o (l := [0, 8]) (c4) ?_ | refine vcall_o (l := [0, 8, 9]) (c5) ?_ | refine vcall_o (l := [0]) (c6) ?_ | ((first | apply br_dec | apply br_ndec) <;> intro h <;> try (exfalso; (try dsimp only at h); omega)) | ((first | apply br_seq | apply br_nseq | apply br_not | apply br_intro) <;> intro h) | refine cond_a ?_)
            all_goals (conv => whnf)
            all_goals first
              | (exfalso; omega)
              | exact ret_out (l := [0, 1, 2, 3, 4, 5, 6, 7, 5]) rfl rfl ⟨rfl, rfl, trivial⟩ (allRw_cons (allRw_cons allRw_nil))
          | some g =>
            rw [hu] at c6 hr
            subst hr
            simp only [ucOut] at c6
            have c7 := jr_add j g.length g (n + 1) (chI hh (unR B)) rfl (by omega) (by omega) (Nat.le_trans (uc_len hu) (by omega))
            have e1 : IntKind.i64.wrap ((n : Int) + 1) = ((n + 1 : Nat) : Int) := i64_succ (by omega)
            rw [← e1] at c7
            repeat' ((conv => whnf); first | refine vcall_o (l := [0, 2, 3, 4, 7]) (c1) ?_ | refine vcallD_o (l := [0, 2, 3, 4, 7]) (c1) ?_ | refine vcall_o (l := [0, 2, 3, 4, 7]) (c2) ?_ | refine vcallD_o (l := [0, 2, 3, 4, 7]) (c2) ?_ | (refine vcall_pure (c3) rfl rfl rfl ?_) | (refine vcallD_pure (c3) rfl rfl rfl ?_) | refine vcall_o (l := [0, 8]) (c4) ?_ | refine vcall_o (l := [0, 8, 9]) (c5) ?_ | refine vcall_o (l := [0]) (c6) ?_ | refine vcall_o (l := [0, 1, 2, 3, 4, 5, 6, 7, 10]) (c7) ?_ | ((first | apply br_dec | apply br_ndec) <;> intro h <;> try (exfalso; (try dsimp only at h); omega)) | ((first | apply br_seq | apply br_nseq | apply br_not | apply br_intro) <;> intro h) | refine cond_a ?_)
            all_goals (conv => whnf)
            all_goals first
              | (exfalso; omega)
              | exact ret_out (l := [0, 1, 2, 3, 4, 5, 6, 7, 11]) rfl rfl ⟨rfl, rfl, trivial⟩ (allRw_cons (allRw_cons allRw_nil))
      | true =>
        obtain ⟨ht0, ht1⟩ := hs1 rfl
        have c4 := bld_WS t (unP B) (by omega) (by omega)
        cases hl : lastB B with
        | false =>
          unfold unV at c3
          rw [hl] at c3
          rw [rd_more ho' (by rw [hB]; exact hl), hB] at hr
          repeat' ((conv => whnf); first | refine vcall_o (l := [0, 2, 3, 4, 7]) (c1) ?_ | refine vcallD_o (l := [0, 2, 3, 4, 7]) (c1) ?_ | refine vcall_o (l := [0, 2, 3, 4, 7]) (c2) ?_ | refine vcallD_o (l := [0, 2, 3, 4, 7]) (c2) ?_ | (refine vcall_pure (c3) rfl rfl rfl ?_) | (refine vcallD_pure (c3) rfl rfl rfl ?_) | refine vcall_o (l := [0, 8, 9]) (c4) ?_ | ((first | apply br_dec | apply br_ndec) <;> intro h <;> try (exfalso; (try dsimp only at h); omega)) | ((first | apply br_seq | apply br_nseq | apply br_not | apply br_intro) <;> intro h) | refine cond_a ?_)
          all_goals (conv => whnf)
          all_goals first
            | (exfalso; omega)
            | (exfalso; exact h rfl)
            | skip
          refine ⟨(f, n + 1, chI hh (unR B), t ++ unP B, true), [0, 1, 2, 3, 4, 5, 6, 7, 8, 10], [], ⟨by dsimp only; omega, by dsimp only; omega, hr, (fun e => by cases e), fun _ => ⟨by dsimp only; rw [ba_size]; omega, by dsimp only; rw [ba_size]; omega⟩⟩, by dsimp only; omega, ⟨rfl, ⟨rfl, rfl, rfl, congrArg (fun z => some (SV.int .i64 z)) (i64_succ (by omega)), trivial⟩, ⟨rfl, rfl, rfl, rfl, rfl, rfl, trivial⟩⟩⟩
        | true =>
          unfold unV at c3
          rw [hl] at c3
          have c5 := bld_String (t ++ unP B) (by rw [ba_size]; omega)
          have c6 := jr_uncut (t ++ unP B) (by rw [ba_size]; omega) (by rw [ba_size]; omega)
          rw [rd_last ho' (by rw [hB]; exact hl), hB] at hr
          cases hu : ucG (t ++ unP B) with
          | none =>
            rw [hu] at c6 hr
            subst hr
            simp only [ucOut] at c6
            repeat' ((conv => whnf); first | refine vcall_o (l := [0, 2, 3, 4, 7]) (c1) ?_ | refine vcallD_o (l := [0, 2, 3, 4, 7]) (c1) ?_ | refine vcall_o (l := [0, 2, 3, 4, 7]) (c2) ?_ | refine vcallD_o (l := [0, 2, 3, 4, 7]) (c2) ?_ | (refine vcall_pure (c3) rfl rfl rfl ?_) | (refine vcallD_pure (c3) rfl rfl rfl ?_) | refine vcall_o (l := [0, 8, 9]) (c4) ?_ | refine vcall_o (l := [0, 8, 10]) (c5) ?_ | refine vcall_o (l := [0]) (c6) ?_ | ((first | apply br_dec | apply br_ndec) <;> intro h <;> try (exfalso; (try dsimp only at h); omega)) | ((first | apply br_seq | apply br_nseq | apply br_not | apply br_intro) <;> intro h) | refine cond_a ?_)
            all_goals (conv => whnf)
            all_goals first
              | (exfalso; omega)
              | exact ret_out (l := [0, 1, 2, 3, 4, 5, 6, 7, 5]) rfl rfl ⟨rfl, rfl, trivial⟩ (allRw_cons (allRw_cons allRw_nil))
          | some g =>
            rw [hu] at c6 hr
            subst hr
            simp only [ucOut] at c6
            have c7 := jr_add j g.length g (n + 1) (chI hh (unR B)) rfl (by omega) (by omega) (Nat.le_trans (uc_len hu) (by omega))
            have e1 : IntKind.i64.wrap ((n : Int) + 1) = ((n + 1 : Nat) : Int) := i64_succ (by omega)
            rw [← e1] at c7
            repeat' ((conv => whnf); first | refine vcall_o (l := [0, 2, 3, 4, 7]) (c1) ?_ | refine vcallD_o (l := [0, 2, 3, 4, 7]) (c1) ?_ | refine vcall_o (l := [0, 2, 3, 4, 7]) (c2) ?_ | refine vcallD_o (l := [0, 2, 3, 4, 7]) (c2) ?_ | (refine vcall_pure (c3) rfl rfl rfl ?_) | (refine vcallD_pure (c3) rfl rfl rfl ?_) | refine vcall_o (l := [0, 8, 9]) (c4) ?_ | refine vcall_o (l := [0, 8, 10]) (c5) ?_ | refine vcall_o (l := [0]) (c6) ?_ | refine vcall_o (l := [0, 1, 2, 3, 4, 5, 6, 7, 11]) (c7) ?_ | ((first | apply br_dec | apply br_ndec) <;> intro h <;> try (exfalso; (try dsimp only at h); omega)) | ((first | apply br_seq | apply br_nseq | apply br_not | apply br_intro) <;> intro h) | refine cond_a ?_)
            all_goals (conv => whnf)
            all_goals first
              | (exfalso; omega)
              | exact ret_out (l := [0, 1, 2, 3, 4, 5, 6, 7, 12]) rfl rfl ⟨rfl, rfl, trivial⟩ (allRw_cons (allRw_cons allRw_nil))
    · have c3 := jr_unblock_no hh B (by omega) ho
      unfold unN at c3
      rw [← hB] at ho
      rw [rd_no ho] at hr
      subst hr
      cases st with
      | false =>
        repeat' ((conv => whnf); first | refine vcall_o (l := [0, 2, 3, 4, 7]) (c1) ?_ | refine vcallD_o (l := [0, 2, 3, 4, 7]) (c1) ?_ | refine vcall_o (l := [0, 2, 3, 4, 7]) (c2) ?_ | refine vcallD_o (l := [0, 2, 3, 4, 7]) (c2) ?_ | (refine vcall_pure (c3) rfl rfl rfl ?_) | (refine vcallD_pure (c3) rfl rfl rfl ?_) | ((first | apply br_dec | apply br_ndec) <;> intro h <;> try (exfalso; (try dsimp only at h); omega)) | ((first | apply br_seq | apply br_nseq | apply br_not | apply br_intro) <;> intro h) | refine cond_a ?_)
        all_goals (conv => whnf)
        all_goals first
          | (exfalso; omega)
          | exact ret_out (l := [0, 1, 2, 3, 4, 5, 6, 7, 5]) rfl rfl ⟨rfl, rfl, trivial⟩ (allRw_cons (allRw_cons allRw_nil))
      | true =>
        repeat' ((conv => whnf); first | refine vcall_o (l := [0, 2, 3, 4, 7]) (c1) ?_ | refine vcallD_o (l := [0, 2, 3, 4, 7]) (c1) ?_ | refine vcall_o (l := [0, 2, 3, 4, 7]) (c2) ?_ | refine vcallD_o (l := [0, 2, 3, 4, 7]) (c2) ?_ | (refine vcall_pure (c3) rfl rfl rfl ?_) | (refine vcallD_pure (c3) rfl rfl rfl ?_) | ((first | apply br_dec | apply br_ndec) <;> intro h <;> try (exfalso; (try dsimp only at h); omega)) | ((first | apply br_seq | apply br_nseq | apply br_not | apply br_intro) <;> intro h) | refine cond_a ?_)
        all_goals (conv => whnf)
        all_goals first
          | (exfalso; omega)
          | exact ret_out (l := [0, 1, 2, 3, 4, 5, 6, 7, 5]) rfl rfl ⟨rfl, rfl, trivial⟩ (allRw_cons (allRw_cons allRw_nil))
end Go.Proofs.YtdlpmmdbdjlojaaGreatDoor

/- Contracts of package journal: Open, and what a journal tells. -/
namespace Go.Proofs.YtdlpmmdbdjlojaaGreatDoor
open Go.RowKit Go.Sy
attribute [local irreducible] vcall vloop vcallD retP
set_option maxRecDepth 100000
set_option linter.unusedVariables false
set_option linter.unusedSimpArgs false
attribute [local irreducible] seq ByteArray.extract
theorem rd_bd {now : List ByteArray} : ∀ {f n : Nat} {h : Int} {t : ByteArray} {g : List ByteArray} {n' : Nat} {h' : Int}, rdK now f n h t = some (g, n', h') → n < n' ∧ n' ≤ n + f ∧ g.length ≤ 256 ∧ 0 ≤ h' ∧ h' < 18446744073709551616 := by
  intro f
  induction f with
  | zero => intro n h t g n' h' e; cases e
  | succ f ih =>
    intro n h t g n' h' e
    by_cases ho : unOk h (now.getD n ⟨#[]⟩)
    · cases hl : lastB (now.getD n ⟨#[]⟩) with
      | true =>
        rw [rd_last ho hl] at e
        cases hu : ucG (t ++ unP (now.getD n ⟨#[]⟩)) with
        | none => rw [hu] at e; cases e
        | some g0 =>
          rw [hu] at e
          cases e
          exact ⟨by omega, by omega, uc_len hu, (chI_bd _ _).1, (chI_bd _ _).2⟩
      | false =>
        rw [rd_more ho hl] at e
        obtain ⟨a, b, c⟩ := ih e
        exact ⟨by omega, by omega, c⟩
    · rw [rd_no ho] at e; cases e
/-- All groups on a disk are taken up. -/
def opK (d : Dk) : Nat → Jr → Jr
  | 0, j => j
  | f + 1, j => match nxR j d with
    | none => j
    | some r => opK d f (nxJ j (some r))
def jr0 : Jr := ⟨[], 0, 0, 0, 0, [], 0, false⟩
def opJ (d : Dk) : Jr := opK d (d.nn + 1) jr0
/-- What a journal is like that was opened. -/
structure JO (d : Dk) (j : Jr) : Prop where
  us : j.used ≤ d.nn
  gs : j.groups ≤ j.used
  rl : j.recs.length = j.nr
  rm : j.nr ≤ 256 * j.groups
  ge : j.grp = []
  gz : j.ng = 0
  st : j.stopped = false
  hb : 0 ≤ j.head ∧ j.head < 18446744073709551616
theorem jo_zero (d : Dk) : JO d jr0 := ⟨Nat.zero_le _, Nat.zero_le _, rfl, Nat.zero_le _, rfl, rfl, rfl, by decide⟩
theorem jo_next {d : Dk} {j : Jr} (h : JO d j) {r : List ByteArray × Nat × Int} (hr : nxR j d = some r) : JO d (nxJ j (some r)) ∧ j.used < (nxJ j (some r)).used := by
  obtain ⟨g, n, k⟩ := r
  have us := h.us
  have gs := h.gs
  have rl := h.rl
  have rm := h.rm
  obtain ⟨a, b, c, e⟩ := rd_bd hr
  refine ⟨⟨by show n ≤ d.nn; omega, by show j.groups + 1 ≤ n; omega, by show (j.recs ++ g).length = j.nr + g.length; rw [List.length_append]; omega, by show j.nr + g.length ≤ 256 * (j.groups + 1); omega, h.ge, h.gz, h.st, e⟩, a⟩
theorem opK_jo {d : Dk} : ∀ (f : Nat) {j : Jr}, JO d j → JO d (opK d f j)
  | 0, j, h => h
  | f + 1, j, h => by
    simp only [opK]
    cases hr : nxR j d with
    | none => exact h
    | some r => exact opK_jo f (jo_next h hr).1
theorem opJ_jo (d : Dk) : JO d (opJ d) := opK_jo _ (jo_zero d)

/-- A journal behind its disk: the disk is 1, 2, 3, 4; the journal 5, its records r, its group g. -/
def jrO (r g : Nat) (j : Jr) : List SV := [.ptr 1 0 0 0, .sl r 0 0 j.nr, .int .i64 j.groups, .int .i64 j.used, .int .u64 j.head, .sl g 0 0 j.ng, .bool j.stopped]
def opS (d : Dk) (x : Nat × Jr) : VS := ⟨[(4, .ptr 5 0 0 0)], [(1, cellB true (dkC 4 d)), (3, grB d.nn d.now), (5, cellB false (jrO 6 7 x.2)), (6, grW x.2.nr x.2.recs), (7, grW x.2.ng x.2.grp)], 8⟩
theorem jr_Open (d : Dk) (hd : d.down = false) (hnn : d.nn ≤ 4096) (hsz : ∀ b ∈ d.now, b.size ≤ 64) :
    FC Tryz.prog 5 7 [.ptr 1 0 0 0] [(1, cellB true (dkC 4 d)), (3, grB d.nn d.now)]
      (isOut (.tup [.ptr 5 0 0 0, .int .i64 0]) [(5, cellB false (jrO 6 7 (opJ d))), (6, grW (opJ d).nr (opJ d).recs), (7, grW (opJ d).ng (opJ d).grp)] 8) := by
  have c1 := disk_Down d
  rw [hd] at c1
  obtain ⟨J, hJ⟩ : ∃ J, opJ d = J := ⟨_, rfl⟩
  rw [hJ]
  refine fc_of mixed T_ok Tryz.func7 rfl (by kernel_rfl) (by kernel_rfl) (by kernel_rfl) ?_
  repeat' ((conv => whnf); first | refine vcall_o (l := [0, 1, 2, 3, 4]) (c1) ?_ | refine vcallD_o (l := [0, 1, 2, 3, 4]) (c1) ?_ | ((first | apply br_dec | apply br_ndec) <;> intro h <;> try (exfalso; (try dsimp only at h); omega)) | ((first | apply br_seq | apply br_nseq | apply br_not | apply br_intro) <;> intro h) | refine cond_a ?_)
  all_goals (conv => whnf)
  refine vloop_of (opS d) (fun x => opK d x.1 x.2 = J ∧ JO d x.2 ∧ d.nn < x.2.used + x.1) (fun x => x.1) (d.nn + 1, jr0) [0, 1, 2, 3, 4, 5, 6, 7] [.cell 5 1 [.sc (.strs [])], .cell 5 5 [.sc (.strs [])]] ⟨rfl, ⟨rfl, trivial⟩, ⟨rfl, rfl, rfl, rfl, rfl, trivial⟩⟩ ⟨hJ, jo_zero d, by show d.nn < 0 + (d.nn + 1); omega⟩ ?_
  rintro ⟨f, j⟩ ⟨hf, ho, hu⟩
  dsimp only at hf ho hu ⊢
  have us := ho.us
  obtain ⟨f, rfl⟩ : ∃ k, f = k + 1 := ⟨f - 1, by omega⟩
  have c2 := jr_next j d hd hnn hsz ho.us ho.gs ho.rm
  cases hr : nxR j d with
  | none =>
    rw [hr] at c2
    simp only [nxB, nxJ] at c2
    simp only [opK, hr] at hf
    subst hf
    repeat' ((conv => whnf); first | refine vcall_o (l := [0, 5, 1, 2, 3, 6, 7, 4]) (c2) ?_ | ((first | apply br_dec | apply br_ndec) <;> intro h <;> try (exfalso; (try dsimp only at h); omega)) | ((first | apply br_seq | apply br_nseq | apply br_not | apply br_intro) <;> intro h) | refine cond_a ?_)
    all_goals (conv => whnf)
    all_goals exact ret_out (l := [0, 1, 2, 3, 4, 5, 8, 7]) rfl rfl ⟨rfl, rfl, rfl, trivial⟩ (allRw_cons (allRw_cons (allRw_cons allRw_nil)))
  | some r =>
    obtain ⟨h1, h2⟩ := jo_next ho hr
    obtain ⟨g, n, k⟩ := r
    rw [hr] at c2
    simp only [nxB] at c2
    simp only [opK, hr] at hf
    repeat' ((conv => whnf); first | refine vcall_o (l := [0, 5, 1, 2, 3, 6, 7, 4]) (c2) ?_ | ((first | apply br_dec | apply br_ndec) <;> intro h <;> try (exfalso; (try dsimp only at h); omega)) | ((first | apply br_seq | apply br_nseq | apply br_not | apply br_intro) <;> intro h) | refine cond_a ?_)
    all_goals (conv => whnf)
    exact ⟨(f, nxJ j (some (g, n, k))), [0, 1, 2, 3, 4, 5, 8, 7], [], ⟨hf, h1, by dsimp only; omega⟩, Nat.lt_succ_self _, ⟨rfl, ⟨rfl, trivial⟩, ⟨rfl, rfl, rfl, rfl, rfl, trivial⟩⟩⟩
theorem jr_Groups (j : Jr) : FC Tryz.prog 8 27 [.ptr 1 0 0 0] [(1, cellB true (jrC 5 6 j))] (isOut (.int .i64 j.groups) [] 8) := by
  refine fc_of mixed T_ok Tryz.func27 rfl (by kernel_rfl) (by kernel_rfl) (by kernel_rfl) ?_
  repeat' ((conv => whnf); first | ((first | apply br_dec | apply br_ndec) <;> intro h <;> try (exfalso; (try dsimp only at h); omega)) | ((first | apply br_seq | apply br_nseq | apply br_not | apply br_intro) <;> intro h) | refine cond_a ?_)
  all_goals (conv => whnf)
  all_goals exact ret_out (l := [0, 1, 2, 3, 4, 5, 6, 7]) rfl rfl trivial allRw_nil
theorem jr_Pending (j : Jr) : FC Tryz.prog 8 28 [.ptr 1 0 0 0] [(1, cellB true (jrC 5 6 j))] (isOut (.int .i64 j.ng) [] 8) := by
  refine fc_of mixed T_ok Tryz.func28 rfl (by kernel_rfl) (by kernel_rfl) (by kernel_rfl) ?_
  repeat' ((conv => whnf); first | ((first | apply br_dec | apply br_ndec) <;> intro h <;> try (exfalso; (try dsimp only at h); omega)) | ((first | apply br_seq | apply br_nseq | apply br_not | apply br_intro) <;> intro h) | refine cond_a ?_)
  all_goals (conv => whnf)
  all_goals exact ret_out (l := [0, 1, 2, 3, 4, 5, 6, 7]) rfl rfl trivial allRw_nil
theorem jr_Head (j : Jr) : FC Tryz.prog 8 30 [.ptr 1 0 0 0] [(1, cellB true (jrC 5 6 j))] (isOut (.int .u64 j.head) [] 8) := by
  refine fc_of mixed T_ok Tryz.func30 rfl (by kernel_rfl) (by kernel_rfl) (by kernel_rfl) ?_
  repeat' ((conv => whnf); first | ((first | apply br_dec | apply br_ndec) <;> intro h <;> try (exfalso; (try dsimp only at h); omega)) | ((first | apply br_seq | apply br_nseq | apply br_not | apply br_intro) <;> intro h) | refine cond_a ?_)
  all_goals (conv => whnf)
  all_goals exact ret_out (l := [0, 1, 2, 3, 4, 5, 6, 7]) rfl rfl trivial allRw_nil
theorem jr_Room (j : Jr) (d : Dk) (hnn : d.nn ≤ 4096) (hu : j.used ≤ d.nn) : FC Tryz.prog 8 29 [.ptr 1 0 0 0] [(1, cellB true (jrC 5 6 j)), (2, cellB true (dkJ 7 d))] (isOut (.int .i64 ((d.nn : Int) - (j.used : Int))) [] 8) := by
  have c1 := disk_Blocks d
  refine fc_of mixed T_ok Tryz.func29 rfl (by kernel_rfl) (by kernel_rfl) (by kernel_rfl) ?_
  repeat' ((conv => whnf); first | refine vcall_o (l := [0, 2, 3, 4, 7]) (c1) ?_ | refine vcallD_o (l := [0, 2, 3, 4, 7]) (c1) ?_ | ((first | apply br_dec | apply br_ndec) <;> intro h <;> try (exfalso; (try dsimp only at h); omega)) | ((first | apply br_seq | apply br_nseq | apply br_not | apply br_intro) <;> intro h) | refine cond_a ?_)
  all_goals (conv => whnf)
  rw [w64_in (by omega) (by omega)]
  exact ret_out (l := [0, 1, 2, 3, 4, 5, 6, 7]) rfl rfl trivial allRw_nil
theorem jr_Drop (j : Jr) : FC Tryz.prog 8 13 [.ptr 1 0 0 0] [(1, cellB false (jrC 5 6 j)), (6, grW j.ng j.grp)] (isOut (.tup []) [(1, cellB false (jrC 5 8 (if j.stopped = true then j else { j with grp := [], ng := 0 }))), (8, grW (if j.stopped = true then j else { j with grp := [], ng := 0 }).ng (if j.stopped = true then j else { j with grp := [], ng := 0 }).grp)] 9) := by
  by_cases hs : j.stopped = true
  · rw [if_pos hs]
    refine fc_of mixed T_ok Tryz.func13 rfl (by kernel_rfl) (by kernel_rfl) (by kernel_rfl) ?_
    repeat' ((conv => whnf); first | ((first | apply br_dec | apply br_ndec) <;> intro h <;> try (exfalso; (try dsimp only at h); omega)) | ((first | apply br_seq | apply br_nseq | apply br_not | apply br_intro) <;> intro h) | refine cond_a ?_)
    all_goals (conv => whnf)
    all_goals first
      | exact ret_out (l := [0, 1, 2, 3, 4, 5, 6, 7, 6]) rfl rfl ⟨rfl, rfl, trivial⟩ (allRw_cons (allRw_cons allRw_nil))
      | (exfalso; simp_all; done)
  · rw [if_neg hs]
    refine fc_of mixed T_ok Tryz.func13 rfl (by kernel_rfl) (by kernel_rfl) (by kernel_rfl) ?_
    repeat' ((conv => whnf); first | ((first | apply br_dec | apply br_ndec) <;> intro h <;> try (exfalso; (try dsimp only at h); omega)) | ((first | apply br_seq | apply br_nseq | apply br_not | apply br_intro) <;> intro h) | refine cond_a ?_)
    all_goals (conv => whnf)
    all_goals first
      | exact ret_up (l := [0, 1, 2, 3, 4, 5, 6, 7, 8]) [.cell 1 5 [.sc (.strs [])]] ⟨rfl, rfl, rfl, rfl, trivial⟩ (allRw_cons (allRw_cons allRw_nil))
      | (exfalso; simp_all; done)
end Go.Proofs.YtdlpmmdbdjlojaaGreatDoor

/- Contracts of package journal: Append, Commit. -/
namespace Go.Proofs.YtdlpmmdbdjlojaaGreatDoor
open Go.RowKit Go.Sy
attribute [local irreducible] vcall vloop vcallD retP retD
set_option maxRecDepth 100000
set_option linter.unusedVariables false
set_option linter.unusedSimpArgs false
attribute [local irreducible] seq ByteArray.extract
/-- Append. -/
def jaZ (j : Jr) (r : ByteArray) : Nat := 4 + r.size + szK j.grp j.ng
def jaE (j : Jr) (d : Dk) (r : ByteArray) : Int := if j.stopped = true then 13 else if 4000 < r.size then 3 else if 256 ≤ j.ng then 12 else if d.nn - j.used < (jaZ j r + 44) / 45 then 12 else 0
def jaJ (j : Jr) (d : Dk) (r : ByteArray) : Jr := if jaE j d r = 0 then { j with grp := j.grp ++ [r], ng := j.ng + 1 } else j
theorem jaJ_ok {j : Jr} {d : Dk} {r : ByteArray} (h : jaE j d r = 0) : jaJ j d r = { j with grp := j.grp ++ [r], ng := j.ng + 1 } := by unfold jaJ; rw [if_pos h]
theorem jaJ_no {j : Jr} {d : Dk} {r : ByteArray} (h : jaE j d r ≠ 0) : jaJ j d r = j := by unfold jaJ; rw [if_neg h]
theorem jr_Append (j : Jr) (d : Dk) (r : ByteArray) (hj : j.ok d) (hnn : d.nn ≤ 4096) : FC Tryz.prog 8 9 [.ptr 1 0 0 0, .str r] [(1, cellB false (jrC 5 6 j)), (2, cellB true (dkJ 7 d)), (6, grW j.ng j.grp)]
    (isOut (.int .i64 (jaE j d r)) [(1, cellB false (jrC 5 8 (jaJ j d r))), (8, grW (jaJ j d r).ng (jaJ j d r).grp)] 9) := by
  have gl := hj.gl
  have gm := hj.gm
  have us := hj.us
  have go := hj.go
  by_cases h1 : j.stopped = true
  · have e : jaE j d r = 13 := by unfold jaE; rw [if_pos h1]
    rw [jaJ_no (by omega), e]
    refine fc_of mixed T_ok Tryz.func9 rfl (by kernel_rfl) (by kernel_rfl) (by kernel_rfl) ?_
    repeat' ((conv => whnf); first | ((first | apply br_dec | apply br_ndec) <;> intro h <;> try (exfalso; (try dsimp only at h); omega)) | ((first | apply br_seq | apply br_nseq | apply br_not | apply br_intro) <;> intro h) | refine cond_a ?_)
    all_goals (conv => whnf)
    all_goals first
      | exact ret_out (l := [0, 1, 2, 3, 4, 5, 6, 7, 6]) rfl rfl ⟨rfl, rfl, trivial⟩ (allRw_cons (allRw_cons allRw_nil))
      | (exfalso; simp_all; done)
  · have h1' : j.stopped = false := by cases h : j.stopped with | false => rfl | true => exact absurd h h1
    by_cases h2 : 4000 < r.size
    · have e : jaE j d r = 3 := by unfold jaE; rw [if_neg h1, if_pos h2]
      rw [jaJ_no (by omega), e]
      refine fc_of mixed T_ok Tryz.func9 rfl (by kernel_rfl) (by kernel_rfl) (by kernel_rfl) ?_
      repeat' ((conv => whnf); first | ((first | apply br_dec | apply br_ndec) <;> intro h <;> try (exfalso; (try dsimp only at h); omega)) | ((first | apply br_seq | apply br_nseq | apply br_not | apply br_intro) <;> intro h) | refine cond_a ?_)
      all_goals (conv => whnf)
      all_goals first
        | exact ret_out (l := [0, 1, 2, 3, 4, 5, 6, 7, 6]) rfl rfl ⟨rfl, rfl, trivial⟩ (allRw_cons (allRw_cons allRw_nil))
        | (exfalso; simp_all; done)
    · by_cases h3 : 256 ≤ j.ng
      · have e : jaE j d r = 12 := by unfold jaE; rw [if_neg h1, if_neg h2, if_pos h3]
        rw [jaJ_no (by omega), e]
        refine fc_of mixed T_ok Tryz.func9 rfl (by kernel_rfl) (by kernel_rfl) (by kernel_rfl) ?_
        repeat' ((conv => whnf); first | ((first | apply br_dec | apply br_ndec) <;> intro h <;> try (exfalso; (try dsimp only at h); omega)) | ((first | apply br_seq | apply br_nseq | apply br_not | apply br_intro) <;> intro h) | refine cond_a ?_)
        all_goals (conv => whnf)
        all_goals first
          | exact ret_out (l := [0, 1, 2, 3, 4, 5, 6, 7, 6]) rfl rfl ⟨rfl, rfl, trivial⟩ (allRw_cons (allRw_cons allRw_nil))
          | (exfalso; simp_all; done)
      · have c1 := jr_Room j d hnn us
        have hz := szK_le go j.ng
        have e0 : ∀ h : ¬ d.nn - j.used < (jaZ j r + 44) / 45, jaE j d r = 0 := fun h => by unfold jaE; rw [if_neg h1, if_neg h2, if_neg h3, if_neg h]
        have e12 : ∀ h : d.nn - j.used < (jaZ j r + 44) / 45, jaE j d r = 12 := fun h => by unfold jaE; rw [if_neg h1, if_neg h2, if_neg h3, if_pos h]
        refine fc_of mixed T_ok Tryz.func9 rfl (by kernel_rfl) (by kernel_rfl) (by kernel_rfl) ?_
        repeat' ((conv => whnf); first | ((first | apply br_dec | apply br_ndec) <;> intro h <;> try (exfalso; (try dsimp only at h); omega)) | ((first | apply br_seq | apply br_nseq | apply br_not | apply br_intro) <;> intro h) | refine cond_a ?_)
        all_goals (conv => whnf)
        all_goals first
          | (exfalso; simp_all; done)
          | skip
        refine vloop_of (fun k : Nat => ⟨[(0, .ptr 1 0 0 0), (1, .str r), (5, .int .i64 (4 + r.size + szK j.grp k : Nat)), (29, .sl 6 0 0 j.ng), (30, .int .i64 j.ng), (31, .int .i64 k)], [(1, cellB false (jrC 5 6 j)), (2, cellB true (dkJ 7 d)), (6, grW j.ng j.grp)], 8⟩) (fun k => k ≤ j.ng) (fun k => j.ng - k) 0 [0, 1, 2, 3, 4, 5, 6, 7] [] ⟨rfl, ⟨rfl, rfl, ?_, rfl, rfl, rfl, trivial⟩, ⟨rfl, rfl, rfl, trivial⟩⟩ (Nat.zero_le _) ?_
        · refine congrArg (fun z => some (SV.int .i64 z)) ?_
          rw [w64_in (by omega) (by omega)]
          show (4 : Int) + r.size = ((4 + r.size + 0 : Nat) : Int)
          omega
        intro k hk
        have hzk := szK_le go k
        have hrk := okR_at go k
        by_cases hlt : k < j.ng
        · repeat' ((conv => whnf); first | ((first | apply br_dec | apply br_ndec) <;> intro h <;> try (exfalso; (try dsimp only at h); omega)) | ((first | apply br_seq | apply br_nseq | apply br_not | apply br_intro) <;> intro h) | refine cond_a ?_)
          all_goals (conv => whnf)
          all_goals first
            | (exfalso; omega)
            | skip
          refine ⟨k + 1, [0, 1, 2, 3, 4, 5, 6, 7], [], by omega, by omega, ⟨rfl, ⟨rfl, rfl, ?_, rfl, rfl, congrArg (fun z => some (SV.int .i64 z)) (i64_succ (by omega)), trivial⟩, ⟨rfl, rfl, rfl, trivial⟩⟩⟩
          refine congrArg (fun z => some (SV.int .i64 z)) ?_
          rw [show IntKind.i64.wrap (4 + ((j.grp.getD ((k : Int).toNat + 0) ⟨#[]⟩).size : Int)) = 4 + ((j.grp.getD k ⟨#[]⟩).size : Int) from w64_in (n := 4 + ((j.grp.getD k ⟨#[]⟩).size : Int)) (by omega) (by omega), w64_in (by omega) (by omega)]
          simp only [szK]
          omega
        · have ek : k = j.ng := by omega
          subst ek
          have hzd : jaZ j r = 4 + r.size + szK j.grp j.ng := rfl
          have ez : IntKind.i64.wrap ((IntKind.i64.wrap (IntKind.i64.wrap (((4 + r.size + szK j.grp j.ng : Nat) : Int) + 45) - 1)).tdiv 45) = (((jaZ j r + 44) / 45 : Nat) : Int) := by
            rw [w64_in (n := ((4 + r.size + szK j.grp j.ng : Nat) : Int) + 45) (by omega) (by omega), w64_in (n := ((4 + r.size + szK j.grp j.ng : Nat) : Int) + 45 - 1) (by omega) (by omega), Int.tdiv_eq_ediv_of_nonneg (by omega), w64_in (by omega) (by omega)]
            omega
          repeat' ((conv => whnf); first | refine vcall_o (l := [0, 1, 2, 3, 4, 5, 6, 7]) (c1) ?_ | refine vcallD_o (l := [0, 1, 2, 3, 4, 5, 6, 7]) (c1) ?_ | ((first | apply br_dec | apply br_ndec) <;> intro h <;> try (exfalso; (try dsimp only at h); omega)) | ((first | apply br_seq | apply br_nseq | apply br_not | apply br_intro) <;> intro h) | refine cond_a ?_)
          all_goals (conv => whnf)
          all_goals rw [ez] at h
          all_goals first
            | (have h' : (d.nn : Int) - (j.used : Int) < (((jaZ j r + 44) / 45 : Nat) : Int) := h
               have e := e12 (by omega)
               rw [jaJ_no (by omega), e]
               exact ret_out (l := [0, 1, 2, 3, 4, 5, 6, 7, 6]) rfl rfl ⟨rfl, rfl, trivial⟩ (allRw_cons (allRw_cons allRw_nil)))
            | (have h' : ¬ ((d.nn : Int) - (j.used : Int) < (((jaZ j r + 44) / 45 : Nat) : Int)) := h
               have e := e0 (by omega)
               rw [jaJ_ok e, e]
               exact ret_out (l := [0, 1, 2, 3, 4, 5, 6, 7, 9]) rfl rfl ⟨rfl, rfl, trivial⟩ (allRw_cons (allRw_cons allRw_nil)))
end Go.Proofs.YtdlpmmdbdjlojaaGreatDoor

/- The laws of package disk: their helpers. -/
namespace Go.Proofs.YtdlpmmdbdjlojaaGreatDoor
open Go.RowKit Go.Sy
attribute [local irreducible] vcall vloop vcallD retP
set_option maxRecDepth 100000
set_option linter.unusedVariables false

theorem crashD_ok {d : Dk} (h : d.ok) (m : Int) : (crashD m d).ok :=
  ⟨by simp only [crashD, crashL, crashTo_length]; exact h.kl, by simp only [crashD, crashL, crashTo_length]; exact h.kl, rfl, rfl, by simp [crashD], by simp [crashD], h.nm, by simp [crashD]⟩
theorem countZ_bd {n : Int} (h : 0 ≤ n ∧ n ≤ 1000000) : 0 ≤ countZ n ∧ countZ n ≤ 1000000 := by unfold countZ; split <;> omega
theorem countD_ok {d : Dk} (h : d.ok) : (countD d).ok := ⟨h.kl, h.nl, h.pl, h.sl, h.pb, h.pm, h.nm, countZ_bd h.sb⟩
theorem keepD_ok {d : Dk} (h : d.ok) : (keepD d).ok := ⟨by simp only [keepD, crashTo_length]; exact h.kl, h.nl, rfl, rfl, by simp [keepD], by simp [keepD], h.nm, h.sb⟩
theorem writeD_ok {d : Dk} (h : d.ok) (n : Int) (s : ByteArray) : (writeD d n s).1.ok := by
  unfold writeD
  split
  · exact h
  · split
    · exact h
    · split
      · exact h
      · split
        · exact h
        · have hp := putD_ok (s := s) h (n := n) (by omega) (by omega)
          split
          · exact crashD_ok hp _
          · exact countD_ok hp
theorem armD_ok {d : Dk} (h : d.ok) (n m : Int) : (armD d n m).1.ok := by
  unfold armD
  split
  · exact h
  · split
    · exact h
    · exact ⟨h.kl, h.nl, h.pl, h.sl, h.pb, h.pm, h.nm, by simp only; omega⟩

end Go.Proofs.YtdlpmmdbdjlojaaGreatDoor

/- Contracts of package journal: Commit. -/
namespace Go.Proofs.YtdlpmmdbdjlojaaGreatDoor
open Go.RowKit Go.Sy
attribute [local irreducible] vcall vloop vcallD retP retD
set_option maxRecDepth 100000
set_option linter.unusedVariables false
set_option linter.unusedSimpArgs false
attribute [local irreducible] seq ByteArray.extract
/-- The deferred function: the present group is gone; the journal stands still unless all went well. -/
theorem jr_fin (b : Bool) (j : Jr) : FCD Tryz.prog 7 39 [.ptr 1 0 0 0, .ptr 2 0 0 0] [(1, cellB true [.ptr 3 0 0 0]), (2, cellB true [.bool b]), (3, cellB false [.ptr 4 0 0 0, .sl 5 0 0 j.nr, .int .i64 j.groups, .int .i64 j.used, .int .u64 j.head, .sl 6 0 0 j.ng, .bool j.stopped])]
    (isOut (.tup []) [(3, cellB false [.ptr 4 0 0 0, .sl 5 0 0 j.nr, .int .i64 j.groups, .int .i64 j.used, .int .u64 j.head, .nsl, .bool (!b)])] 7) := by
  refine fd_of mixed T_ok Tryz.func39 rfl (by kernel_rfl) (by kernel_rfl) (by kernel_rfl) ?_
  repeat' ((conv => whnf); first | ((first | apply br_dec | apply br_ndec) <;> intro h <;> try (exfalso; (try dsimp only at h); omega)) | ((first | apply br_seq | apply br_nseq | apply br_not | apply br_intro) <;> intro h) | refine cond_a ?_)
  all_goals (conv => whnf)
  exact ret_out (l := [0, 1, 2, 3, 4, 5, 6]) rfl rfl ⟨rfl, trivial⟩ (allRw_cons allRw_nil)

/-- The blocks of a group are written, one after the other. -/
def wrAll (u : Nat) (bl : List ByteArray) : Nat → Nat → Dk → Dk × Bool
  | 0, _, d => (d, true)
  | r + 1, k, d => if (writeD d ((u + k : Nat) : Int) (bl.getD k ⟨#[]⟩)).2 = 0 then wrAll u bl r (k + 1) (writeD d ((u + k : Nat) : Int) (bl.getD k ⟨#[]⟩)).1 else ((writeD d ((u + k : Nat) : Int) (bl.getD k ⟨#[]⟩)).1, false)
def stopJ (j : Jr) : Jr := { j with grp := [], ng := 0, stopped := true }
def doneJ (j : Jr) : Jr := { addJ j j.ng j.grp (j.used + nblk (strm j.grp)) (hK j.head (strm j.grp) (nblk (strm j.grp))) with grp := [], ng := 0, stopped := false }
def cmW (j : Jr) (d : Dk) : Dk × Bool := wrAll j.used (bkL j.head (strm j.grp) (nblk (strm j.grp))) (nblk (strm j.grp)) 0 d
def cmR (j : Jr) (d : Dk) : Jr × Dk × Int :=
  if j.stopped = true then (j, d, 13) else if cutE j.grp ≠ 0 then (j, d, cutE j.grp)
  else if (cmW j d).2 = false then (stopJ j, (cmW j d).1, 13)
  else if (flushD (cmW j d).1).2 ≠ 0 then (stopJ j, (flushD (cmW j d).1).1, 13)
  else (doneJ j, (flushD (cmW j d).1).1, 0)

theorem writeD_nn (d : Dk) (n : Int) (s : ByteArray) : (writeD d n s).1.nn = d.nn := by unfold writeD; (repeat' split) <;> rfl
theorem flushD_nn (d : Dk) : (flushD d).1.nn = d.nn := by unfold flushD; (repeat' split) <;> rfl
theorem put_ok {d : Dk} (h : d.ok) {n : Int} {s : ByteArray} : (writeD d n s).1.ok ∧ (writeD d n s).1.nn = d.nn := ⟨writeD_ok h n s, writeD_nn d n s⟩

theorem jr_Commit (j : Jr) (d : Dk) (hj : j.ok d) (hd : d.ok) : FC Tryz.prog 8 11 [.ptr 1 0 0 0] ((0, some (GB glT)) :: jrH 5 6 7 j d)
    (isOut (.int .i64 (cmR j d).2.2) (jrH 8 9 10 (cmR j d).1 (cmR j d).2.1) 11) := by
  have gl := hj.gl
  have gm := hj.gm
  have us := hj.us
  have go := hj.go
  have hnn := hd.nm
  by_cases h1 : j.stopped = true
  · rw [show cmR j d = (j, d, 13) by unfold cmR; rw [if_pos h1]]
    refine fc_of_defer mixed T_ok Tryz.func11 rfl (by kernel_rfl) (by kernel_rfl) (by kernel_rfl) ?_
    repeat' ((conv => whnf); first | ((first | apply br_dec | apply br_ndec) <;> intro h <;> try (exfalso; (try dsimp only at h); omega)) | ((first | apply br_seq | apply br_nseq | apply br_not | apply br_intro) <;> intro h) | refine cond_a ?_)
    all_goals (conv => whnf)
    all_goals first
      | exact ret_out (l := [0, 1, 2, 3, 4, 5, 6, 7, 5, 6, 7]) rfl rfl ⟨rfl, rfl, rfl, rfl, rfl, rfl, rfl, trivial⟩ (jrH_rw _ _ _ _ _)
      | (exfalso; simp_all; done)
  · have h1' : j.stopped = false := by cases h : j.stopped with | false => rfl | true => exact absurd h h1
    by_cases h2 : cutE j.grp ≠ 0
    · rw [show cmR j d = (j, d, cutE j.grp) by unfold cmR; rw [if_neg h1, if_pos h2]]
      have c1 := jr_cut_no j.head j.grp j.ng gl h2 (by unfold maxLen; omega)
      refine fc_of_defer mixed T_ok Tryz.func11 rfl (by kernel_rfl) (by kernel_rfl) (by kernel_rfl) ?_
      repeat' ((conv => whnf); first | refine vcall_o (l := [0, 6]) (c1) ?_ | refine vcallD_o (l := [0, 6]) (c1) ?_ | ((first | apply br_dec | apply br_ndec) <;> intro h <;> try (exfalso; (try dsimp only at h); omega)) | ((first | apply br_seq | apply br_nseq | apply br_not | apply br_intro) <;> intro h) | refine cond_a ?_)
      all_goals (conv => whnf)
      all_goals first
        | exact ret_out (l := [0, 1, 2, 3, 4, 5, 6, 7, 5, 6, 7]) rfl rfl ⟨rfl, rfl, rfl, rfl, rfl, rfl, rfl, trivial⟩ (jrH_rw _ _ _ _ _)
        | (exfalso; exact h2 h)
        | (exfalso; simp_all; done)
    · have h2' : cutE j.grp = 0 := by omega
      have c1 := jr_cut j.head j.grp j.ng gl h2'
      obtain ⟨W, hW⟩ : ∃ W, cmW j d = W := ⟨_, rfl⟩
      have er : cmR j d = if W.2 = false then (stopJ j, W.1, 13) else if (flushD W.1).2 ≠ 0 then (stopJ j, (flushD W.1).1, 13) else (doneJ j, (flushD W.1).1, 0) := by
        unfold cmR; rw [if_neg h1, if_neg h2, hW]
      rw [er]
      have hnb : nblk (strm j.grp) ≤ 30000 := by
        have := szK_le go j.grp.length
        rw [← stK_size go, stK_strm] at this
        unfold nblk; omega
      unfold cmW at hW
      unfold doneJ
      obtain ⟨NB, hNB⟩ : ∃ NB, nblk (strm j.grp) = NB := ⟨_, rfl⟩
      obtain ⟨BL, hBL⟩ : ∃ BL, bkL j.head (strm j.grp) NB = BL := ⟨_, rfl⟩
      obtain ⟨HK, hHK⟩ : ∃ HK, hK j.head (strm j.grp) NB = HK := ⟨_, rfl⟩
      rw [hNB] at c1 hW hnb ⊢
      rw [hBL] at c1 hW
      rw [hHK] at c1 ⊢
      refine fc_of_defer mixed T_ok Tryz.func11 rfl (by kernel_rfl) (by kernel_rfl) (by kernel_rfl) ?_
      repeat' ((conv => whnf); first | refine vcall_o (l := [0, 6]) (c1) ?_ | refine vcallD_o (l := [0, 6]) (c1) ?_ | ((first | apply br_dec | apply br_ndec) <;> intro h <;> try (exfalso; (try dsimp only at h); omega)) | ((first | apply br_seq | apply br_nseq | apply br_not | apply br_intro) <;> intro h) | refine cond_a ?_)
      all_goals (conv => whnf)
      all_goals first
        | (exfalso; simp_all; done)
        | skip
      refine vloop_of (fun x : Nat × Dk => ⟨[(1, .ptr 8 0 0 0), (3, .sl 9 0 0 NB), (4, .int .u64 HK), (6, .ptr 10 0 0 0), (32, .sl 9 0 0 NB), (33, .int .i64 NB), (34, .int .i64 x.1)], [(0, some (GB glT)), (1, cellB false (jrC 5 6 j)), (2, cellB false (dkJ 11 x.2)), (3, grW x.2.nn x.2.kept), (4, grW x.2.nn x.2.now), (11, some (.one false (.cols x.2.np [.sc (.ints .i64 x.2.pn), .sc (.strs x.2.ps)]))), (5, grW j.nr j.recs), (6, grW j.ng j.grp), (8, cellB false [.ptr 1 0 0 0]), (9, grW NB BL), (10, cellB false [.bool false])], 12⟩) (fun x => x.1 ≤ NB ∧ wrAll j.used BL (NB - x.1) x.1 x.2 = W ∧ x.2.ok ∧ x.2.nn = d.nn) (fun x => NB - x.1) (0, d) [0, 1, 2, 3, 4, 5, 6, 7, 8, 9, 10, 7] [] ⟨rfl, ⟨rfl, rfl, rfl, rfl, rfl, rfl, rfl, trivial⟩, ⟨gwk rfl, rfl, rfl, rfl, rfl, rfl, rfl, rfl, rfl, rfl, rfl, trivial⟩⟩ ⟨Nat.zero_le _, hW, hd, rfl⟩ ?_
      rintro ⟨k, dk⟩ ⟨hk, hw, hok, hdn⟩
      dsimp only at hk hw hok hdn ⊢
      by_cases hlt : k < NB
      · obtain ⟨m, hm⟩ : ∃ m, NB - k = m + 1 := ⟨NB - k - 1, by omega⟩
        have hm' : NB - (k + 1) = m := by omega
        rw [hm] at hw
        have c2 := disk_Write dk hok ((j.used + k : Nat) : Int) (BL.getD k ⟨#[]⟩)
        have pk := put_ok hok (n := ((j.used + k : Nat) : Int)) (s := BL.getD k ⟨#[]⟩)
        simp only [wrAll] at hw
        obtain ⟨WD, hWD⟩ : ∃ WD, writeD dk ((j.used + k : Nat) : Int) (BL.getD k ⟨#[]⟩) = WD := ⟨_, rfl⟩
        rw [hWD] at c2 hw pk
        have e1 : IntKind.i64.wrap ((j.used : Int) + (k : Int)) = ((j.used + k : Nat) : Int) := by rw [w64_in (by omega) (by omega)]; omega
        rw [← e1] at c2
        by_cases h0 : WD.2 = 0
        · rw [if_pos h0] at hw
          rw [h0] at c2
          repeat' ((conv => whnf); first | refine vcall_o (l := [0, 2, 3, 4, 11]) (c2) ?_ | refine vcallD_o (l := [0, 2, 3, 4, 11]) (c2) ?_ | ((first | apply br_dec | apply br_ndec) <;> intro h <;> try (exfalso; (try dsimp only at h); omega)) | ((first | apply br_seq | apply br_nseq | apply br_not | apply br_intro) <;> intro h) | refine cond_a ?_)
          all_goals (conv => whnf)
          all_goals first
            | (exfalso; omega)
            | (exfalso; exact h rfl)
            | skip
          exact ⟨(k + 1, WD.1), [0, 1, 2, 3, 4, 5, 6, 7, 8, 9, 10, 12], [], ⟨by dsimp only; omega, by dsimp only; rw [hm']; exact hw, pk.1, pk.2.trans hdn⟩, by dsimp only; omega, ⟨rfl, ⟨rfl, rfl, rfl, rfl, rfl, rfl, congrArg (fun z => some (SV.int .i64 z)) (i64_succ (by omega)), trivial⟩, ⟨gwk rfl, rfl, rfl, rfl, rfl, rfl, rfl, rfl, rfl, rfl, rfl, trivial⟩⟩⟩
        · rw [if_neg h0] at hw
          rw [← hw, if_pos rfl]
          have c5 := jr_fin false j
          repeat' ((conv => whnf); first | refine vcall_o (l := [0, 2, 3, 4, 11]) (c2) ?_ | refine vcallD_o (l := [0, 2, 3, 4, 11]) (c2) ?_ | (refine retD_o (l := [0, 8, 10, 1, 2, 5, 6]) c5 ?_) | ((first | apply br_dec | apply br_ndec) <;> intro h <;> try (exfalso; (try dsimp only at h); omega)) | ((first | apply br_seq | apply br_nseq | apply br_not | apply br_intro) <;> intro h) | refine cond_a ?_)
          all_goals (conv => whnf)
          all_goals first
            | (exfalso; omega)
            | (exfalso; exact h0 h)
            | skip
          exact ret_up (l := [0, 1, 2, 3, 4, 5, 6, 7, 5, 13, 12]) [.cell 1 5 [.sc (.strs [])]] ⟨rfl, rfl, rfl, rfl, rfl, rfl, rfl, rfl, rfl, trivial⟩ (jrH_rw _ _ _ _ _)
      · have ek : NB - k = 0 := by omega
        rw [ek] at hw
        have ek2 : k = NB := by omega
        have hw : W = (dk, true) := hw.symm
        rw [hw, if_neg (by simp)]
        have c3 := disk_Flush dk hok
        obtain ⟨FD, hFD⟩ : ∃ FD, flushD dk = FD := ⟨_, rfl⟩
        dsimp only
        rw [hFD] at c3 ⊢
        by_cases h0 : FD.2 = 0
        · rw [if_neg (by simp [h0])]
          rw [h0] at c3
          have c4 := jr_add j j.ng j.grp (j.used + NB) HK gl (by have := hj.gs; omega) (by have := hj.gs; have := hj.rm; omega) (by omega)
          have e1 : IntKind.i64.wrap ((j.used : Int) + (NB : Int)) = ((j.used + NB : Nat) : Int) := by rw [w64_in (by omega) (by omega)]; omega
          rw [← e1] at c4
          have c5 := jr_fin true (addJ j j.ng j.grp (j.used + NB) HK)
          repeat' ((conv => whnf); first | refine vcall_o (l := [0, 2, 3, 4, 11]) (c3) ?_ | refine vcallD_o (l := [0, 2, 3, 4, 11]) (c3) ?_ | refine vcall_o (l := [0, 1, 2, 3, 4, 5, 6, 7, 6]) (c4) ?_ | refine vcallD_o (l := [0, 1, 2, 3, 4, 5, 6, 7, 6]) (c4) ?_ | (refine retD_o (l := [0, 8, 10, 1, 2, 13, 6]) c5 ?_) | ((first | apply br_dec | apply br_ndec) <;> intro h <;> try (exfalso; (try dsimp only at h); omega)) | ((first | apply br_seq | apply br_nseq | apply br_not | apply br_intro) <;> intro h) | refine cond_a ?_)
          all_goals (conv => whnf)
          all_goals first
            | (exfalso; omega)
            | (exfalso; exact h rfl)
            | skip
          exact ret_up (l := [0, 1, 2, 3, 4, 5, 6, 7, 13, 14, 12]) [.cell 1 5 [.sc (.strs [])]] ⟨rfl, rfl, rfl, rfl, rfl, rfl, rfl, rfl, rfl, trivial⟩ (jrH_rw _ _ _ _ _)
        · rw [if_pos h0]
          have c5 := jr_fin false j
          repeat' ((conv => whnf); first | refine vcall_o (l := [0, 2, 3, 4, 11]) (c3) ?_ | refine vcallD_o (l := [0, 2, 3, 4, 11]) (c3) ?_ | (refine retD_o (l := [0, 8, 10, 1, 2, 5, 6]) c5 ?_) | ((first | apply br_dec | apply br_ndec) <;> intro h <;> try (exfalso; (try dsimp only at h); omega)) | ((first | apply br_seq | apply br_nseq | apply br_not | apply br_intro) <;> intro h) | refine cond_a ?_)
          all_goals (conv => whnf)
          all_goals first
            | (exfalso; omega)
            | (exfalso; exact h0 h)
            | skip
          exact ret_up (l := [0, 1, 2, 3, 4, 5, 6, 7, 5, 13, 12]) [.cell 1 5 [.sc (.strs [])]] ⟨rfl, rfl, rfl, rfl, rfl, rfl, rfl, rfl, rfl, trivial⟩ (jrH_rw _ _ _ _ _)
end Go.Proofs.YtdlpmmdbdjlojaaGreatDoor

/- Contracts of package journal: Blocks; disks that are not armed. -/
namespace Go.Proofs.YtdlpmmdbdjlojaaGreatDoor
open Go.RowKit Go.Sy
attribute [local irreducible] vcall vloop vcallD retP retD
set_option maxRecDepth 100000
set_option linter.unusedVariables false
set_option linter.unusedSimpArgs false
attribute [local irreducible] seq ByteArray.extract
theorem jr_Blocks (p : Int) (g : List ByteArray) (n : Nat) (hn : g.length = n) (he : cutE g = 0) : FC Tryz.prog 2 31 [.int .u64 p, .sl 1 0 0 n] [(0, some (GB glT)), (1, grB n g)] (isOut (.tup [.sl 2 0 0 (nblk (strm g)), .int .i64 0]) [(2, grW (nblk (strm g)) (bkL p (strm g) (nblk (strm g))))] 3) := by
  have c := jr_cut p g n hn he
  refine fc_of mixed T_ok Tryz.func31 rfl (by kernel_rfl) (by kernel_rfl) (by kernel_rfl) ?_
  repeat' ((conv => whnf); first | refine vcall_o (l := [0, 1]) (c) ?_ | refine vcallD_o (l := [0, 1]) (c) ?_ | ((first | apply br_dec | apply br_ndec) <;> intro h <;> try (exfalso; (try dsimp only at h); omega)) | ((first | apply br_seq | apply br_nseq | apply br_not | apply br_intro) <;> intro h) | refine cond_a ?_)
  all_goals (conv => whnf)
  all_goals exact ret_out (l := [0, 1, 2]) rfl rfl ⟨rfl, trivial⟩ (allRw_cons allRw_nil)

/-- What is written block by block. -/
def wrN (u : Nat) (bl : List ByteArray) : Nat → Nat → List ByteArray → List ByteArray
  | 0, _, l => l
  | r + 1, k, l => wrN u bl r (k + 1) (l.set (u + k) (bl.getD k ⟨#[]⟩))
structure Dk.free (d : Dk) : Prop where
  dn : d.down = false
  st : d.steps = 0
theorem wr_ok {d : Dk} (h : d.free) {n : Nat} {s : ByteArray} (hn : n < d.nn) (hs : s.size ≤ 64) (hp : d.np < 4096) : writeD d (n : Int) s = (putD d (n : Int) s, 0) := by
  unfold writeD
  rw [if_neg (by rw [h.dn]; decide), if_neg (by omega), if_neg (by omega), if_neg (by omega), if_neg (by rw [h.st]; decide)]
  have : countD (putD d (n : Int) s) = putD d (n : Int) s := by
    unfold countD
    have : countZ (putD d (n : Int) s).steps = d.steps := by show countZ d.steps = d.steps; rw [h.st]; rfl
    rw [this]; rfl
  rw [this]
theorem wr_free {u : Nat} {bl : List ByteArray} (hb : ∀ b ∈ bl, b.size ≤ 64) : ∀ (r k : Nat) (d : Dk), d.free → u + k + r ≤ d.nn → d.np + r ≤ 4096 →
    (wrAll u bl r k d).2 = true ∧ (wrAll u bl r k d).1.free ∧ (wrAll u bl r k d).1.now = wrN u bl r k d.now ∧ (wrAll u bl r k d).1.np = d.np + r := by
  intro r
  induction r with
  | zero => intro k d h _ _; exact ⟨rfl, h, rfl, rfl⟩
  | succ r ih =>
    intro k d h hn hp
    have e := wr_ok h (n := u + k) (s := bl.getD k ⟨#[]⟩) (by omega) (sz_at hb k) (by omega)
    simp only [wrAll]
    rw [e, if_pos rfl]
    obtain ⟨a, b, c, f⟩ := ih (k + 1) (putD d ((u + k : Nat) : Int) (bl.getD k ⟨#[]⟩)) ⟨h.dn, h.st⟩ (by show u + (k + 1) + r ≤ d.nn; omega) (by show d.np + 1 + r ≤ 4096; omega)
    exact ⟨a, b, c, by rw [f]; show d.np + 1 + r = d.np + (r + 1); omega⟩
theorem fl_free {d : Dk} (h : d.free) : flushD d = (keepD d, 0) := by
  unfold flushD
  rw [if_neg (by rw [h.dn]; decide), if_neg (by rw [h.st]; decide)]
  have : countD (keepD d) = keepD d := by
    unfold countD
    have : countZ (keepD d).steps = d.steps := by show countZ d.steps = d.steps; rw [h.st]; rfl
    rw [this]; rfl
  rw [this]
theorem bkL_sz (p : Int) (s : ByteArray) (k : Nat) : ∀ b ∈ bkL p s k, b.size ≤ 64 := by
  intro b hb
  simp only [bkL, List.mem_map] at hb
  obtain ⟨i, _, rfl⟩ := hb
  rw [bK_size]; omega
end Go.Proofs.YtdlpmmdbdjlojaaGreatDoor

/- The reference of the journal: numbers, hashes, streams, blocks. -/
namespace Go.Proofs.YtdlpmmdbdjlojaaGreatDoor
open Go.RowKit Go.Sy
attribute [local irreducible] vcall vloop vcallD retP
set_option maxRecDepth 100000
set_option linter.unusedVariables false
set_option linter.unusedSimpArgs false

theorem digs_cons : ∀ (k u : Nat), digs (k + 1) u = ((48 + u / 10 ^ k % 10 : Nat) : Int) :: digs k u
  | 0, u => by simp [digs]
  | k + 1, u => by
    have ih := digs_cons k (u / 10)
    show digs (k + 1) (u / 10) ++ [((48 + u % 10 : Nat) : Int)] = _ :: (digs k (u / 10) ++ [((48 + u % 10 : Nat) : Int)])
    rw [ih, Nat.div_div_eq_div_mul, show 10 * 10 ^ k = 10 ^ (k + 1) by rw [Nat.pow_succ, Nat.mul_comm]]
    rfl
theorem ref_Num (n w : Int) (hn : -9223372036854775808 ≤ n ∧ n ≤ 9223372036854775807) : Pure Tryz.prog 64 [.int .i64 n, .int .i64 w] (.tup [.str (numS n w), .int .i64 (numE n w)]) := by
  by_cases hb : 1 ≤ w ∧ w ≤ 15 ∧ 0 ≤ n
  case neg =>
    have ho : ¬ numOk n w := fun h => hb ⟨h.1, h.2.1, h.2.2.1⟩
    rw [numS_no ho, numE_no ho]
    refine fc_of mixed T_ok Tryz.func64 rfl (by kernel_rfl) (by kernel_rfl) (by kernel_rfl) ?_
    repeat' ((conv => whnf); first | ((first | apply br_dec | apply br_ndec) <;> intro h <;> try (exfalso; (try dsimp only at h); omega)) | ((first | apply br_seq | apply br_nseq | apply br_not | apply br_intro) <;> intro h) | refine cond_a ?_)
    all_goals (conv => whnf)
    all_goals first
      | exact ret_pure rfl
      | (exfalso; omega)
  obtain ⟨u, rfl⟩ := Int.eq_ofNat_of_zero_le hb.2.2
  obtain ⟨m, rfl⟩ := Int.eq_ofNat_of_zero_le (show 0 ≤ w by omega)
  refine fc_of mixed T_ok Tryz.func64 rfl (by kernel_rfl) (by kernel_rfl) (by kernel_rfl) ?_
  repeat' ((conv => whnf); first | ((first | apply br_dec | apply br_ndec) <;> intro h <;> try (exfalso; (try dsimp only at h); omega)) | ((first | apply br_seq | apply br_nseq | apply br_not | apply br_intro) <;> intro h) | refine cond_a ?_)
  all_goals (conv => whnf)
  refine vloop_of (fun k : Nat => ⟨[(0, .int .i64 ((u / 10 ^ k : Nat) : Int)), (1, .int .i64 m), (6, .str (bytesOf (digs k u))), (7, .int .i64 k)], [], 1⟩) (fun k => k ≤ m) (fun k => m - k) 0 [0] [] ?_ (by omega) ?_
  · exact ⟨rfl, ⟨congrArg (fun z : Nat => some (SV.int .i64 (z : Int))) (show u = u / 10 ^ 0 by simp), rfl, rfl, rfl, trivial⟩, trivial⟩
  intro k hk
  by_cases hkm : k < m
  · have hq : u / 10 ^ k ≤ u := Nat.div_le_self _ _
    have hqs : u / 10 ^ (k + 1) = u / 10 ^ k / 10 := by rw [Nat.pow_succ, ← Nat.div_div_eq_div_mul]
    have hdc := digs_cons k u
    generalize u / 10 ^ k = q at *
    have r1 : Int.tmod (q : Int) 10 = ((q % 10 : Nat) : Int) := by rw [Int.tmod_eq_emod_of_nonneg (by omega)]; omega
    have r2 : IntKind.u8.wrap (IntKind.i64.wrap (48 + Int.tmod (q : Int) 10)) = ((48 + q % 10 : Nat) : Int) := by
      rw [r1, w64_in (by omega) (by omega), u8_in' (by omega) (by omega)]; omega
    have r3 : IntKind.i64.wrap (Int.tdiv (q : Int) 10) = ((u / 10 ^ (k + 1) : Nat) : Int) := by
      rw [Int.tdiv_eq_ediv_of_nonneg (by omega), w64_in (by omega) (by omega), hqs]; omega
    have sz : (bytesOf (digs k u)).size = k := by rw [bytesOf_size, digs_length]
    have es : bytesOf (seg 0 1 [IntKind.u8.wrap (IntKind.i64.wrap (48 + Int.tmod (q : Int) 10))]) ++ bytesOf (digs k u) = bytesOf (digs (k + 1) u) := by
      rw [r2, hdc, append_bytesOf]; rfl
    repeat' ((conv => whnf); first | (refine cond_intro ?_ ?_; (show (bytesOf (seg 0 1 [_])).size + _ ≤ _; rw [sz, bytesOf_size]; show 1 + k ≤ _; omega)) | ((first | apply br_dec | apply br_ndec) <;> intro h <;> try (exfalso; (try dsimp only at h); omega)) | ((first | apply br_seq | apply br_nseq | apply br_not | apply br_intro) <;> intro h) | refine cond_a ?_)
    all_goals (conv => whnf)
    exact ⟨k + 1, [0], [], by omega, by omega, ⟨rfl, ⟨congrArg (fun z => some (SV.int .i64 z)) r3, rfl, congrArg (fun z => some (SV.str z)) es, congrArg (fun z => some (SV.int .i64 z)) (i64_succ (by omega)), trivial⟩, trivial⟩⟩
  · obtain rfl : k = m := by omega
    by_cases hz : u / 10 ^ k = 0
    · have hlt : u < 10 ^ k := by rcases Nat.lt_or_ge u (10 ^ k) with h | h; exact h; exact absurd hz (by have := Nat.div_pos h (Nat.pow_pos (n := k) (by omega : 0 < 10)); omega)
      have ho : numOk (u : Int) (k : Int) := ⟨by omega, by omega, by omega, by simpa using ndig_of_lt hlt (by omega)⟩
      rw [numS_ok ho, numE_ok ho, Int.toNat_natCast, Int.toNat_natCast]
      generalize u / 10 ^ k = q at *
      repeat' ((conv => whnf); first | ((first | apply br_dec | apply br_ndec) <;> intro h <;> try (exfalso; (try dsimp only at h); omega)) | ((first | apply br_seq | apply br_nseq | apply br_not | apply br_intro) <;> intro h) | refine cond_a ?_)
      all_goals (conv => whnf)
      exact ret_pure rfl
    · have ho : ¬ numOk (u : Int) (k : Int) := by
        intro h
        have h1 : ndig u ≤ k := by simpa using h.2.2.2
        have h2 := ndig_lt u
        have h3 : 10 ^ ndig u ≤ 10 ^ k := Nat.pow_le_pow_right (by omega) h1
        exact hz (Nat.div_eq_of_lt (by omega))
      rw [numS_no ho, numE_no ho]
      generalize u / 10 ^ k = q at *
      repeat' ((conv => whnf); first | ((first | apply br_dec | apply br_ndec) <;> intro h <;> try (exfalso; (try dsimp only at h); omega)) | ((first | apply br_seq | apply br_nseq | apply br_not | apply br_intro) <;> intro h) | refine cond_a ?_)
      all_goals (conv => whnf)
      exact ret_pure rfl


theorem ref07_Hash (s : ByteArray) (hs : s.size ≤ 9223372036854775000) : Pure Tryz.prog 78 [.str s] (.int .u64 (fnvK 14695981039346656037 s s.size)) := by
  refine fc_of mixed T_ok Tryz.func78 rfl (by kernel_rfl) (by kernel_rfl) (by kernel_rfl) ?_
  repeat' ((conv => whnf); first | ((first | apply br_dec | apply br_ndec) <;> intro h <;> try (exfalso; (try dsimp only at h); omega)) | ((first | apply br_seq | apply br_nseq | apply br_not | apply br_intro) <;> intro h) | refine cond_a ?_)
  all_goals (conv => whnf)
  refine vloop_of (fun k : Nat => ⟨[(0, .str s), (3, .int .u64 (fnvK 14695981039346656037 s k)), (4, .int .i64 k)], [], 1⟩) (fun k => k ≤ s.size) (fun k => s.size - k) 0 [0] [] ⟨rfl, ⟨rfl, rfl, rfl, trivial⟩, trivial⟩ (by omega) ?_
  intro k hk
  have bb := byte_bd s (k : Int)
  repeat' ((conv => whnf); first | ((first | apply br_dec | apply br_ndec) <;> intro h <;> try (exfalso; (try dsimp only at h); omega)) | ((first | apply br_seq | apply br_nseq | apply br_not | apply br_intro) <;> intro h) | refine cond_a ?_)
  all_goals (conv => whnf)
  · refine ⟨k + 1, [0], [], by omega, by omega, ⟨rfl, ⟨rfl, ?_, congrArg (fun z => some (SV.int .i64 z)) (i64_succ (by omega)), trivial⟩, trivial⟩⟩
    refine congrArg (fun z => some (SV.int .u64 z)) ?_
    show IntKind.u64.wrap (ixor .u64 (fnvK 14695981039346656037 s k) (IntKind.u64.wrap (byteAt s (k : Int))) * 1099511628211) = fnvK 14695981039346656037 s (k + 1)
    have e1 : IntKind.u64.wrap (byteAt s (k : Int)) = byteAt s (k : Int) := u64_in' (by omega) (by omega)
    rw [e1]
    rfl
  · have e : k = s.size := by omega
    subst e
    exact ret_pure rfl
theorem be_sz (p : Int) (k : Nat) : (bytesOf (beL p k)).size = k := by rw [bytesOf_size, beL_length]
theorem ref07_Chain (p : Int) (s : ByteArray) (hs : s.size ≤ 9223372036854700000) : Pure Tryz.prog 65 [.int .u64 p, .str s] (.int .u64 (chI p s)) := by
  have z8 := be8S_size p
  have c1 := ref07_Hash (be8S p ++ s) (by rw [ba_size]; omega)
  rw [ba_size, z8, chI_app] at c1
  refine fc_of mixed T_ok Tryz.func65 rfl (by kernel_rfl) (by kernel_rfl) (by kernel_rfl) ?_
  repeat' ((conv => whnf); first | ((first | apply br_dec | apply br_ndec) <;> intro h <;> try (exfalso; (try dsimp only at h); omega)) | ((first | apply br_seq | apply br_nseq | apply br_not | apply br_intro) <;> intro h) | refine cond_a ?_)
  all_goals (conv => whnf)
  refine vloop_of (fun k : Nat => ⟨[(0, .int .u64 p), (1, .str s), (5, .str (bytesOf (beL p k))), (6, .int .i64 (7 - (k : Int)))], [], 1⟩) (fun k => k ≤ 8) (fun k => 8 - k) 0 [0] [] ⟨rfl, ⟨rfl, rfl, rfl, rfl, trivial⟩, trivial⟩ (by omega) ?_
  intro k hk
  have bz := be_sz p k
  by_cases hlt : k < 8
  · have es : IntKind.u64.wrap (IntKind.i64.wrap (8 * (7 - (k : Int)))) = ((56 - 8 * k : Nat) : Int) := by rw [w64_in (by omega) (by omega), u64_in' (by omega) (by omega)]; omega
    have z1 : ∀ x : Int, (bytesOf (seg 0 1 [x])).size = 1 := fun x => rfl
    repeat' ((conv => whnf); first | (refine cond_intro ?_ ?_; (show (bytesOf (beL p k)).size + (bytesOf (seg 0 1 [_])).size ≤ _; rw [z1]; omega)) | ((first | apply br_dec | apply br_ndec) <;> intro h <;> try (exfalso; (try dsimp only at h); omega)) | ((first | apply br_seq | apply br_nseq | apply br_not | apply br_intro) <;> intro h) | refine cond_a ?_)
    all_goals (conv => whnf)
    all_goals first
      | (exfalso; omega)
      | skip
    refine ⟨k + 1, [0], [], by omega, by omega, ⟨rfl, ⟨rfl, rfl, ?_, ?_, trivial⟩, trivial⟩⟩
    · refine congrArg (fun z => some (SV.str z)) ?_
      show bytesOf (beL p k) ++ bytesOf [IntKind.u8.wrap (ishr .u64 p (IntKind.u64.wrap (IntKind.i64.wrap (8 * (7 - (k : Int))))))] = _
      rw [es, append_bytesOf]; rfl
    · refine congrArg (fun z => some (SV.int .i64 z)) ?_
      rw [w64_in (by omega) (by omega)]; omega
  · have e : k = 8 := by omega
    subst e
    repeat' ((conv => whnf); first | (refine vcall_pure (c1) rfl rfl rfl ?_) | (refine vcallD_pure (c1) rfl rfl rfl ?_) | (refine cond_intro (show (bytesOf (beL p 8)).size + s.size ≤ 9223372036854775807 from by omega) ?_) | ((first | apply br_dec | apply br_ndec) <;> intro h <;> try (exfalso; (try dsimp only at h); omega)) | ((first | apply br_seq | apply br_nseq | apply br_not | apply br_intro) <;> intro h) | refine cond_a ?_)
    all_goals (conv => whnf)
    all_goals first
      | exact ret_pure rfl
      | (exfalso; omega)
/-- The low digits of a number, the highest first. -/
def dgL (n : Nat) : Nat → List Int
  | 0 => []
  | k + 1 => hexd ((n / 16 ^ k % 16 : Nat) : Int) :: dgL n k
theorem dgL_length (n : Nat) : ∀ k, (dgL n k).length = k
  | 0 => rfl
  | k + 1 => by simp [dgL, dgL_length n k]
theorem byteAt_bytesOf' {l : List Int} {i : Nat} (hi : i < l.length) (hb : ∀ x ∈ l, 0 ≤ x ∧ x ≤ 255) : byteAt (bytesOf l) (i : Int) = l[i] := by
  unfold byteAt bytesOf
  rw [Int.toNat_natCast, List.getD]
  simp only [List.getElem?_map, List.getElem?_eq_getElem hi, Option.map_some, Option.getD_some]
  have := hb l[i] (List.getElem_mem hi)
  rw [UInt8.toNat_ofNat']
  omega
theorem be_at (n : Nat) {i : Nat} (h : i < 8) : byteAt (be8S (n : Int)) (i : Int) = ((n / 2 ^ (56 - 8 * i) % 256 : Nat) : Int) := by
  unfold be8S
  rw [byteAt_bytesOf' (by rw [beL_length]; exact h) (beL_bd _ 8)]
  have e := beL_get (n : Int) 8 i h
  rw [List.getElem?_eq_getElem (by rw [beL_length]; exact h)] at e
  rw [Option.some.inj e, ishr_nat (by omega)]
  have : ∀ m : Nat, IntKind.u8.wrap (m : Int) = ((m % 256 : Nat) : Int) := fun m => by simp [IntKind.wrap, IntKind.bits, IntKind.signed]
  exact this _
theorem nibI (n p : Nat) : ((n / (p * 16) % 16 : Nat) : Int) = ((n / p % 256 : Nat) : Int) / 16 ∧ ((n / p % 16 : Nat) : Int) = ((n / p % 256 : Nat) : Int) % 16 := by
  rw [← Nat.div_div_eq_div_mul]
  generalize n / p = q
  omega
theorem dg_hex (n : Nat) : dgL n 16 = hexL (be8S (n : Int)) 8 := by
  have b0 : byteAt (be8S (n : Int)) ((0 : Nat) : Int) = ((n / 2 ^ 56 % 256 : Nat) : Int) := be_at n (i := 0) (by omega)
  have b1 : byteAt (be8S (n : Int)) ((1 : Nat) : Int) = ((n / 2 ^ 48 % 256 : Nat) : Int) := be_at n (i := 1) (by omega)
  have b2 : byteAt (be8S (n : Int)) ((2 : Nat) : Int) = ((n / 2 ^ 40 % 256 : Nat) : Int) := be_at n (i := 2) (by omega)
  have b3 : byteAt (be8S (n : Int)) ((3 : Nat) : Int) = ((n / 2 ^ 32 % 256 : Nat) : Int) := be_at n (i := 3) (by omega)
  have b4 : byteAt (be8S (n : Int)) ((4 : Nat) : Int) = ((n / 2 ^ 24 % 256 : Nat) : Int) := be_at n (i := 4) (by omega)
  have b5 : byteAt (be8S (n : Int)) ((5 : Nat) : Int) = ((n / 2 ^ 16 % 256 : Nat) : Int) := be_at n (i := 5) (by omega)
  have b6 : byteAt (be8S (n : Int)) ((6 : Nat) : Int) = ((n / 2 ^ 8 % 256 : Nat) : Int) := be_at n (i := 6) (by omega)
  have b7 : byteAt (be8S (n : Int)) ((7 : Nat) : Int) = ((n / 2 ^ 0 % 256 : Nat) : Int) := be_at n (i := 7) (by omega)
  have p0 : (16 : Nat) ^ 0 = 2 ^ 0 := by decide
  have p1 : (16 : Nat) ^ 1 = 2 ^ 0 * 16 := by decide
  have p2 : (16 : Nat) ^ 2 = 2 ^ 8 := by decide
  have p3 : (16 : Nat) ^ 3 = 2 ^ 8 * 16 := by decide
  have p4 : (16 : Nat) ^ 4 = 2 ^ 16 := by decide
  have p5 : (16 : Nat) ^ 5 = 2 ^ 16 * 16 := by decide
  have p6 : (16 : Nat) ^ 6 = 2 ^ 24 := by decide
  have p7 : (16 : Nat) ^ 7 = 2 ^ 24 * 16 := by decide
  have p8 : (16 : Nat) ^ 8 = 2 ^ 32 := by decide
  have p9 : (16 : Nat) ^ 9 = 2 ^ 32 * 16 := by decide
  have p10 : (16 : Nat) ^ 10 = 2 ^ 40 := by decide
  have p11 : (16 : Nat) ^ 11 = 2 ^ 40 * 16 := by decide
  have p12 : (16 : Nat) ^ 12 = 2 ^ 48 := by decide
  have p13 : (16 : Nat) ^ 13 = 2 ^ 48 * 16 := by decide
  have p14 : (16 : Nat) ^ 14 = 2 ^ 56 := by decide
  have p15 : (16 : Nat) ^ 15 = 2 ^ 56 * 16 := by decide
  simp only [dgL, hexL, List.nil_append, List.cons_append]
  rw [b0, b1, b2, b3, b4, b5, b6, b7, p15, p14, p13, p12, p11, p10, p9, p8, p7, p6, p5, p4, p3, p2, p1, p0]
  generalize hexd = F
  rw [(nibI n (2 ^ 56)).1, (nibI n (2 ^ 56)).2]
  rw [(nibI n (2 ^ 48)).1, (nibI n (2 ^ 48)).2]
  rw [(nibI n (2 ^ 40)).1, (nibI n (2 ^ 40)).2]
  rw [(nibI n (2 ^ 32)).1, (nibI n (2 ^ 32)).2]
  rw [(nibI n (2 ^ 24)).1, (nibI n (2 ^ 24)).2]
  rw [(nibI n (2 ^ 16)).1, (nibI n (2 ^ 16)).2]
  rw [(nibI n (2 ^ 8)).1, (nibI n (2 ^ 8)).2]
  rw [(nibI n (2 ^ 0)).1, (nibI n (2 ^ 0)).2]
def hexC : ByteArray := ⟨#[48, 49, 50, 51, 52, 53, 54, 55, 56, 57, 97, 98, 99, 100, 101, 102]⟩
theorem hexC_at {d : Nat} (h : d < 16) : hexC.extract d (d + 1) = bytesOf [hexd (d : Int)] := by
  have : ∀ n : Nat, n < 16 → hexC.extract n (n + 1) = bytesOf [hexd (n : Int)] := by decide
  exact this d h
theorem ref09_Text (p : Int) (hp : 0 ≤ p ∧ p < 18446744073709551616) : Pure Tryz.prog 66 [.int .u64 p] (.str (hxS p)) := by
  obtain ⟨n, rfl⟩ := Int.eq_ofNat_of_zero_le hp.1
  have hx : bytesOf (dgL n 16) = hxS (n : Int) := by rw [dg_hex n]; unfold hxS; rfl
  refine fc_of mixed T_ok Tryz.func66 rfl (by kernel_rfl) (by kernel_rfl) (by kernel_rfl) ?_
  repeat' ((conv => whnf); first | ((first | apply br_dec | apply br_ndec) <;> intro h <;> try (exfalso; (try dsimp only at h); omega)) | ((first | apply br_seq | apply br_nseq | apply br_not | apply br_intro) <;> intro h) | refine cond_a ?_)
  all_goals (conv => whnf)
  refine vloop_of (fun k : Nat => ⟨[(0, .int .u64 ((n / 16 ^ k : Nat) : Int)), (3, .str (bytesOf (dgL n k))), (4, .int .i64 k)], [], 1⟩) (fun k => k ≤ 16) (fun k => 16 - k) 0 [0] [] ⟨rfl, ⟨?_, rfl, rfl, trivial⟩, trivial⟩ (by omega) ?_
  · exact congrArg (fun z : Nat => some (SV.int .u64 (z : Int))) (show n = n / 16 ^ 0 by simp)
  intro k hk
  by_cases hlt : k < 16
  · have hq : n / 16 ^ k ≤ n := Nat.div_le_self _ _
    have hqs : n / 16 ^ (k + 1) = n / 16 ^ k / 16 := by rw [Nat.pow_succ, ← Nat.div_div_eq_div_mul]
    have hdc : dgL n (k + 1) = hexd ((n / 16 ^ k % 16 : Nat) : Int) :: dgL n k := rfl
    have bz : (bytesOf (dgL n k)).size = k := by rw [bytesOf_size, dgL_length]
    generalize n / 16 ^ k = q at *
    have r1 : Int.tmod (q : Int) 16 = ((q % 16 : Nat) : Int) := by rw [Int.tmod_eq_emod_of_nonneg (by omega)]; omega
    have r2 : IntKind.u64.wrap (Int.tmod (q : Int) 16 + 1) = ((q % 16 + 1 : Nat) : Int) := by rw [r1, u64_in' (by omega) (by omega)]; omega
    have hl : q % 16 < 16 := Nat.mod_lt _ (by omega)
    have sx : ∀ z : ByteArray, z.size = 1 → z.size + (bytesOf (dgL n k)).size ≤ 9223372036854775807 := fun z hz => by omega
    have f1 : 0 ≤ (q : Int).tmod 16 ∧ (q : Int).tmod 16 ≤ IntKind.u64.wrap ((q : Int).tmod 16 + 1) ∧ IntKind.u64.wrap ((q : Int).tmod 16 + 1) ≤ ((⟨#[48, 49, 50, 51, 52, 53, 54, 55, 56, 57, 97, 98, 99, 100, 101, 102]⟩ : ByteArray).size : Int) := by
      rw [r2, r1]
      show _ ∧ _ ∧ _ ≤ (16 : Int)
      omega
    have f2 : (⟨#[48, 49, 50, 51, 52, 53, 54, 55, 56, 57, 97, 98, 99, 100, 101, 102]⟩ : ByteArray).extract ((q : Int).tmod 16).toNat (IntKind.u64.wrap ((q : Int).tmod 16 + 1)).toNat = bytesOf [hexd ((q % 16 : Nat) : Int)] := by
      rw [r2, r1, Int.toNat_natCast, Int.toNat_natCast]
      exact hexC_at hl
    repeat' ((conv => whnf); first | (refine cond_intro f1 ?_) | (refine cond_intro (by rw [f2]; show 1 + _ ≤ _; omega) ?_) | (refine cond_intro (by decide) ?_) | ((first | apply br_dec | apply br_ndec) <;> intro h <;> try (exfalso; (try dsimp only at h); omega)))
    all_goals (conv => whnf)
    all_goals first
      | (exfalso; omega)
      | skip
    refine ⟨k + 1, [0], [], by omega, by omega, ⟨rfl, ⟨?_, ?_, congrArg (fun z => some (SV.int .i64 z)) (i64_succ (by omega)), trivial⟩, trivial⟩⟩
    · refine congrArg (fun z => some (SV.int .u64 z)) ?_
      rw [Int.tdiv_eq_ediv_of_nonneg (by omega), u64_in' (by omega) (by omega), hqs]
      omega
    · refine congrArg (fun z => some (SV.str z)) ?_
      rw [f2, append_bytesOf, hdc]
      rfl
  · obtain rfl : k = 16 := by omega
    rw [hx]
    generalize n / 16 ^ 16 = q at *
    repeat' ((conv => whnf); first | ((first | apply br_dec | apply br_ndec) <;> intro h <;> try (exfalso; (try dsimp only at h); omega)) | ((first | apply br_seq | apply br_nseq | apply br_not | apply br_intro) <;> intro h) | refine cond_a ?_)
    all_goals (conv => whnf)
    all_goals exact ret_pure rfl
end Go.Proofs.YtdlpmmdbdjlojaaGreatDoor

/- The reference of the journal: stream, Blocks. -/
namespace Go.Proofs.YtdlpmmdbdjlojaaGreatDoor
open Go.RowKit Go.Sy
attribute [local irreducible] vcall vloop vcallD retP
set_option maxRecDepth 100000
set_option linter.unusedVariables false
set_option linter.unusedSimpArgs false
attribute [local irreducible] rsT
theorem rj_stream (g : List ByteArray) (n : Nat) (hn : g.length = n) (hok : okR g) (hm : n ≤ 256) : FC Tryz.prog 2 63 [.sl 1 0 0 n] [(1, grB n g)] (isOut (.str (strm g)) [] 2) := by
  have ok : ∀ i, (g.getD i ⟨#[]⟩).size ≤ 4000 := okR_at hok
  refine fc_of mixed T_ok Tryz.func63 rfl (by kernel_rfl) (by kernel_rfl) (by kernel_rfl) ?_
  repeat' ((conv => whnf); first | ((first | apply br_dec | apply br_ndec) <;> intro h <;> try (exfalso; (try dsimp only at h); omega)) | ((first | apply br_seq | apply br_nseq | apply br_not | apply br_intro) <;> intro h) | refine cond_a ?_)
  all_goals (conv => whnf)
  refine vloop_of (fun k : Nat => ⟨[(0, .sl 1 0 0 n), (3, .str (stK g k)), (4, .int .i64 k)], [(1, grB n g)], 2⟩) (fun k => k ≤ n) (fun k => n - k) 0 [0, 1] [] ⟨rfl, ⟨rfl, rfl, rfl, trivial⟩, ⟨rfl, trivial⟩⟩ (Nat.zero_le _) ?_
  intro k hk
  by_cases hlt : k < n
  · have hbig := ok k
    have rs := rec_size (r := g.getD k ⟨#[]⟩) (by omega)
    have ns := numS4_size (n := (g.getD k ⟨#[]⟩).size) (by omega)
    have sz := stK_le (g := g) (k := k) (fun i _ => ok i)
    have c1 := ref_Num (g.getD k ⟨#[]⟩).size 4 (by omega)
    have k1 : (numS (g.getD k ⟨#[]⟩).size 4).size + (g.getD k ⟨#[]⟩).size ≤ 9223372036854775807 := by omega
    have k2 : (stK g k).size + (numS (g.getD k ⟨#[]⟩).size 4 ++ g.getD k ⟨#[]⟩).size ≤ 9223372036854775807 := by omega
    repeat' ((conv => whnf); first | (refine vcall_pure (c1) rfl rfl rfl ?_) | (refine vcallD_pure (c1) rfl rfl rfl ?_) | refine cond_intro k1 ?_ | refine cond_intro k2 ?_ | ((first | apply br_dec | apply br_ndec) <;> intro h <;> try (exfalso; (try dsimp only at h); omega)) | ((first | apply br_seq | apply br_nseq | apply br_not | apply br_intro) <;> intro h) | refine cond_a ?_)
    all_goals (conv => whnf)
    all_goals first
      | (exfalso; omega)
      | exact ⟨k + 1, [0, 1], [], by omega, by omega, ⟨rfl, ⟨rfl, rfl, congrArg (fun z => some (SV.int .i64 z)) (i64_succ (by omega)), trivial⟩, ⟨rfl, trivial⟩⟩⟩
  · obtain rfl : k = n := by omega
    have es : stK g k = strm g := by rw [← stK_strm g, hn]
    rw [es]
    repeat' ((conv => whnf); first | ((first | apply br_dec | apply br_ndec) <;> intro h <;> try (exfalso; (try dsimp only at h); omega)) | ((first | apply br_seq | apply br_nseq | apply br_not | apply br_intro) <;> intro h) | refine cond_a ?_)
    all_goals (conv => whnf)
    all_goals first
      | (exfalso; omega)
      | exact ret_out (l := [0, 1]) rfl rfl trivial allRw_nil

theorem rj_Blocks_no (p : Int) (g : List ByteArray) (n : Nat) (hn : g.length = n) (he : cutE g ≠ 0) (hm : n ≤ maxLen) : FC Tryz.prog 2 36 [.int .u64 p, .sl 1 0 0 n] [(1, grB n g)] (isOut (.tup [.nsl, .int .i64 (cutE g)]) [] 2) := by
  unfold maxLen at hm
  by_cases h0 : n = 0
  · rw [show cutE g = 8 by unfold cutE; rw [if_pos (by omega)]]
    refine fc_of mixed T_ok Tryz.func36 rfl (by kernel_rfl) (by kernel_rfl) (by kernel_rfl) ?_
    repeat' ((conv => whnf); first | ((first | apply br_dec | apply br_ndec) <;> intro h <;> try (exfalso; (try dsimp only at h); omega)) | ((first | apply br_seq | apply br_nseq | apply br_not | apply br_intro) <;> intro h) | refine cond_a ?_)
    all_goals (conv => whnf)
    all_goals exact ret_out (l := [0, 1]) rfl rfl trivial allRw_nil
  · by_cases h1 : 256 < n
    · rw [show cutE g = 12 by unfold cutE; rw [if_neg (by omega), if_pos (by omega)]]
      refine fc_of mixed T_ok Tryz.func36 rfl (by kernel_rfl) (by kernel_rfl) (by kernel_rfl) ?_
      repeat' ((conv => whnf); first | ((first | apply br_dec | apply br_ndec) <;> intro h <;> try (exfalso; (try dsimp only at h); omega)) | ((first | apply br_seq | apply br_nseq | apply br_not | apply br_intro) <;> intro h) | refine cond_a ?_)
      all_goals (conv => whnf)
      all_goals exact ret_out (l := [0, 1]) rfl rfl trivial allRw_nil
    · have hl : longK g g.length = true := by
        cases h : longK g g.length with
        | true => rfl
        | false => exact absurd (show cutE g = 0 by unfold cutE; rw [if_neg (by omega), if_neg (by omega), h]; rfl) he
      rw [show cutE g = 3 by unfold cutE; rw [if_neg (by omega), if_neg (by omega), if_pos hl]]
      refine fc_of mixed T_ok Tryz.func36 rfl (by kernel_rfl) (by kernel_rfl) (by kernel_rfl) ?_
      repeat' ((conv => whnf); first | ((first | apply br_dec | apply br_ndec) <;> intro h <;> try (exfalso; (try dsimp only at h); omega)) | ((first | apply br_seq | apply br_nseq | apply br_not | apply br_intro) <;> intro h) | refine cond_a ?_)
      all_goals (conv => whnf)
      refine vloop_of (fun k : Nat => ⟨[(0, .int .u64 p), (1, .sl 1 0 0 n), (6, .int .i64 k)], [(1, grB n g)], 2⟩) (fun k => k ≤ n ∧ longK g k = false) (fun k => n - k) 0 [0, 1] [] ⟨rfl, ⟨rfl, rfl, rfl, trivial⟩, ⟨rfl, trivial⟩⟩ ⟨by omega, rfl⟩ ?_
      rintro k ⟨hk, hf⟩
      have hlk : k = n → False := fun e => by rw [e, ← hn, hl] at hf; cases hf
      have hlt : k < n := by
        rcases Nat.lt_or_ge k n with h | h
        · exact h
        · exact (hlk (by omega)).elim
      by_cases hbig : 4000 < (g.getD k ⟨#[]⟩).size
      · repeat' ((conv => whnf); first | ((first | apply br_dec | apply br_ndec) <;> intro h <;> try (exfalso; (try dsimp only at h); omega)) | ((first | apply br_seq | apply br_nseq | apply br_not | apply br_intro) <;> intro h) | refine cond_a ?_)
        all_goals (conv => whnf)
        all_goals first
          | exact ret_out (l := [0, 1]) rfl rfl trivial allRw_nil
          | (exfalso; rename_i h; have h' : ¬ ((4000 : Int) < ((g.getD k ⟨#[]⟩).size : Int)) := h; omega)
          | (exfalso; omega)
      · have fs : longK g (k + 1) = false := by simp only [longK]; rw [hf, Bool.false_or, decide_eq_false_iff_not]; exact hbig
        repeat' ((conv => whnf); first | ((first | apply br_dec | apply br_ndec) <;> intro h <;> try (exfalso; (try dsimp only at h); omega)) | ((first | apply br_seq | apply br_nseq | apply br_not | apply br_intro) <;> intro h) | refine cond_a ?_)
        all_goals (conv => whnf)
        all_goals first
          | (exfalso; rename_i h; have h' : (4000 : Int) < ((g.getD k ⟨#[]⟩).size : Int) := h; omega)
          | exact ⟨k + 1, [0, 1], [], ⟨by omega, fs⟩, by omega, ⟨rfl, ⟨rfl, rfl, congrArg (fun z => some (SV.int .i64 z)) (i64_succ (by omega)), trivial⟩, ⟨rfl, trivial⟩⟩⟩
          | (exfalso; omega)

theorem rj_Blocks (p : Int) (g : List ByteArray) (n : Nat) (hn : g.length = n) (he : cutE g = 0) : FC Tryz.prog 2 36 [.int .u64 p, .sl 1 0 0 n] [(1, grB n g)] (isOut (.tup [.sl 2 0 0 (nblk (strm g)), .int .i64 0]) [(2, grW (nblk (strm g)) (bkL p (strm g) (nblk (strm g))))] 3) := by
  have hc : n ≠ 0 ∧ ¬ 256 < n ∧ longK g g.length = false := by
    unfold cutE at he
    by_cases h0 : g.length = 0
    · rw [if_pos h0] at he; omega
    · rw [if_neg h0] at he
      by_cases h1 : 256 < g.length
      · rw [if_pos h1] at he; omega
      · rw [if_neg h1] at he
        refine ⟨by omega, by omega, ?_⟩
        cases h : longK g g.length with
        | false => rfl
        | true => rw [if_pos h] at he; omega
  obtain ⟨h0, h1, hlf⟩ := hc
  have hok := longK_ok hlf
  have ok : ∀ i, (g.getD i ⟨#[]⟩).size ≤ 4000 := okR_at hok
  have sz := stK_le (g := g) (k := n) (fun i _ => ok i)
  have c3 := rj_stream g n hn hok (by omega)
  have es : stK g n = strm g := by rw [← stK_strm g, hn]
  rw [es] at sz
  have hsz : (strm g).size ≤ 1100000 := by omega
  refine fc_of mixed T_ok Tryz.func36 rfl (by kernel_rfl) (by kernel_rfl) (by kernel_rfl) ?_
  repeat' ((conv => whnf); first | ((first | apply br_dec | apply br_ndec) <;> intro h <;> try (exfalso; (try dsimp only at h); omega)) | ((first | apply br_seq | apply br_nseq | apply br_not | apply br_intro) <;> intro h) | refine cond_a ?_)
  all_goals (conv => whnf)
  refine vloop_of (fun k : Nat => ⟨[(0, .int .u64 p), (1, .sl 1 0 0 n), (6, .int .i64 k)], [(1, grB n g)], 2⟩) (fun k => k ≤ n) (fun k => n - k) 0 [0, 1] [] ⟨rfl, ⟨rfl, rfl, rfl, trivial⟩, ⟨rfl, trivial⟩⟩ (by omega) ?_
  intro k hk
  by_cases hlt : k < n
  · have hbig := ok k
    repeat' ((conv => whnf); first | ((first | apply br_dec | apply br_ndec) <;> intro h <;> try (exfalso; (try dsimp only at h); omega)) | ((first | apply br_seq | apply br_nseq | apply br_not | apply br_intro) <;> intro h) | refine cond_a ?_)
    all_goals (conv => whnf)
    all_goals first
      | (exfalso; rename_i h; have h' : (4000 : Int) < ((g.getD k ⟨#[]⟩).size : Int) := h; omega)
      | exact ⟨k + 1, [0, 1], [], by omega, by omega, ⟨rfl, ⟨rfl, rfl, congrArg (fun z => some (SV.int .i64 z)) (i64_succ (by omega)), trivial⟩, ⟨rfl, trivial⟩⟩⟩
      | (exfalso; omega)
  · repeat' ((conv => whnf); first | refine vcall_o (l := [0, 1]) (c3) ?_ | refine vcallD_o (l := [0, 1]) (c3) ?_ | ((first | apply br_dec | apply br_ndec) <;> intro h <;> try (exfalso; (try dsimp only at h); omega)) | ((first | apply br_seq | apply br_nseq | apply br_not | apply br_intro) <;> intro h) | refine cond_a ?_)
    all_goals (conv => whnf)
    all_goals first
      | (exfalso; omega)
      | skip
    refine vloop_of (fun k : Nat => ⟨[(0, .int .u64 (hK p (strm g) k)), (7, .sl 2 0 0 k), (8, .str (rsT (strm g) k))], [(1, grB n g), (2, grW k (bkL p (strm g) k))], 3⟩) (fun k => k ≤ nblk (strm g)) (fun k => nblk (strm g) - k) 0 [0, 1, 2] [.slot 7 [.sc (.strs [])]] ⟨rfl, ⟨rfl, rfl, ?_, trivial⟩, ⟨rfl, rfl, trivial⟩⟩ (Nat.zero_le _) ?_
    · rw [rsT_zero]; rfl
    intro k hk
    have hrz := rsT_size (strm g) k
    by_cases hlt : k < nblk (strm g)
    · have hpos : 0 < (rsT (strm g) k).size := by unfold nblk at hlt; omega
      have hne : rsT (strm g) k ≠ ⟨#[]⟩ := by intro e; rw [e] at hpos; exact absurd hpos (by decide)
      by_cases h45 : (rsT (strm g) k).size ≤ 45
      · have emn : min (rsT (strm g) k).size 45 = (rsT (strm g) k).size := by omega
        have eb : ((⟨#[46]⟩ : ByteArray) ++ numS (((rsT (strm g) k).size : Nat)) 2) ++ (rsT (strm g) k).extract 0 ((rsT (strm g) k).size) = bodyN (rsT (strm g) k) := by
          unfold bodyN; rw [emn, if_pos h45]; rfl
        have n2 : (numS (((rsT (strm g) k).size : Nat)) 2).size = 2 := numS2_size (n := (rsT (strm g) k).size) (by omega)
        have bz := bodyN_size (r := rsT (strm g) k)
        have xz : ((rsT (strm g) k).extract 0 ((rsT (strm g) k).size)).size = (rsT (strm g) k).size := ext_size (by omega)
        have e2 : chI (hK p (strm g) k) (((⟨#[46]⟩ : ByteArray) ++ numS (((rsT (strm g) k).size : Nat)) 2) ++ (rsT (strm g) k).extract 0 ((rsT (strm g) k).size)) = hK p (strm g) (k + 1) := by rw [eb]; rfl
        have c1 := ref_Num (((rsT (strm g) k).size : Nat)) 2 (by omega)
        have c2 := ref07_Chain (hK p (strm g) k) (((⟨#[46]⟩ : ByteArray) ++ numS (((rsT (strm g) k).size : Nat)) 2) ++ (rsT (strm g) k).extract 0 ((rsT (strm g) k).size)) (by rw [eb]; omega)
        rw [e2] at c2
        have c4 := ref09_Text (hK p (strm g) (k + 1)) (chI_bd _ _)
        have m1 : (⟨#[46]⟩ : ByteArray).size = 1 := rfl
        have k1 : (⟨#[46]⟩ : ByteArray).size + (numS (((rsT (strm g) k).size : Nat)) 2).size ≤ 9223372036854775807 := by omega
        have k2 : ((⟨#[46]⟩ : ByteArray) ++ numS (((rsT (strm g) k).size : Nat)) 2).size + ((rsT (strm g) k).extract 0 ((rsT (strm g) k).size)).size ≤ 9223372036854775807 := by rw [ba_size]; omega
        have k3 : (hxS (hK p (strm g) (k + 1))).size + (((⟨#[46]⟩ : ByteArray) ++ numS (((rsT (strm g) k).size : Nat)) 2) ++ (rsT (strm g) k).extract 0 ((rsT (strm g) k).size)).size ≤ 9223372036854775807 := by rw [eb, hxS_size]; omega
        repeat' ((conv => whnf); first | (refine vcall_pure (c1) rfl rfl rfl ?_) | (refine vcallD_pure (c1) rfl rfl rfl ?_) | (refine vcall_pure (c2) rfl rfl rfl ?_) | (refine vcallD_pure (c2) rfl rfl rfl ?_) | (refine vcall_pure (c4) rfl rfl rfl ?_) | (refine vcallD_pure (c4) rfl rfl rfl ?_) | refine cond_intro k1 ?_ | refine cond_intro k2 ?_ | refine cond_intro k3 ?_ | ((first | apply br_dec | apply br_ndec) <;> intro h <;> try (exfalso; (try dsimp only at h); omega)) | ((first | apply br_seq | apply br_nseq | apply br_not | apply br_intro) <;> intro h) | refine cond_a ?_)
        all_goals (conv => whnf)
        all_goals first
          | (exfalso; exact hne h)
          | (exfalso; rename_i h; exact hne h)
          | (exfalso; omega)
          | skip
        have er : some (SV.str ((rsT (strm g) k).extract (rsT (strm g) k).size (rsT (strm g) k).size)) = some (SV.str (rsT (strm g) (k + 1))) := by
          have := rsT_succ (strm g) k; rw [emn] at this; rw [this]
        refine ⟨k + 1, [0, 1, 4], [], by omega, by omega, ⟨rfl, ⟨rfl, rfl, er, trivial⟩, ⟨rfl, ?_, trivial⟩⟩⟩
        rw [bkL_succ]
        unfold bK
        rw [← eb]
        rfl
      · have emn : min (rsT (strm g) k).size 45 = 45 := by omega
        have eb : ((⟨#[43]⟩ : ByteArray) ++ numS (45) 2) ++ (rsT (strm g) k).extract 0 (45) = bodyN (rsT (strm g) k) := by
          unfold bodyN; rw [emn, if_neg h45]; rfl
        have n2 : (numS (45) 2).size = 2 := numS2_size (n := 45) (by omega)
        have bz := bodyN_size (r := rsT (strm g) k)
        have xz : ((rsT (strm g) k).extract 0 (45)).size = 45 := ext_size (by omega)
        have e2 : chI (hK p (strm g) k) (((⟨#[43]⟩ : ByteArray) ++ numS (45) 2) ++ (rsT (strm g) k).extract 0 (45)) = hK p (strm g) (k + 1) := by rw [eb]; rfl
        have c1 := ref_Num (45) 2 (by omega)
        have c2 := ref07_Chain (hK p (strm g) k) (((⟨#[43]⟩ : ByteArray) ++ numS (45) 2) ++ (rsT (strm g) k).extract 0 (45)) (by rw [eb]; omega)
        rw [e2] at c2
        have c4 := ref09_Text (hK p (strm g) (k + 1)) (chI_bd _ _)
        have m1 : (⟨#[43]⟩ : ByteArray).size = 1 := rfl
        have k1 : (⟨#[43]⟩ : ByteArray).size + (numS (45) 2).size ≤ 9223372036854775807 := by omega
        have k2 : ((⟨#[43]⟩ : ByteArray) ++ numS (45) 2).size + ((rsT (strm g) k).extract 0 (45)).size ≤ 9223372036854775807 := by rw [ba_size]; omega
        have k3 : (hxS (hK p (strm g) (k + 1))).size + (((⟨#[43]⟩ : ByteArray) ++ numS (45) 2) ++ (rsT (strm g) k).extract 0 (45)).size ≤ 9223372036854775807 := by rw [eb, hxS_size]; omega
        repeat' ((conv => whnf); first | (refine vcall_pure (c1) rfl rfl rfl ?_) | (refine vcallD_pure (c1) rfl rfl rfl ?_) | (refine vcall_pure (c2) rfl rfl rfl ?_) | (refine vcallD_pure (c2) rfl rfl rfl ?_) | (refine vcall_pure (c4) rfl rfl rfl ?_) | (refine vcallD_pure (c4) rfl rfl rfl ?_) | refine cond_intro k1 ?_ | refine cond_intro k2 ?_ | refine cond_intro k3 ?_ | ((first | apply br_dec | apply br_ndec) <;> intro h <;> try (exfalso; (try dsimp only at h); omega)) | ((first | apply br_seq | apply br_nseq | apply br_not | apply br_intro) <;> intro h) | refine cond_a ?_)
        all_goals (conv => whnf)
        all_goals first
          | (exfalso; exact hne h)
          | (exfalso; rename_i h; exact hne h)
          | (exfalso; omega)
          | skip
        have er : some (SV.str ((rsT (strm g) k).extract 45 (rsT (strm g) k).size)) = some (SV.str (rsT (strm g) (k + 1))) := by
          have := rsT_succ (strm g) k; rw [emn] at this; rw [this]
        refine ⟨k + 1, [0, 1, 4], [], by omega, by omega, ⟨rfl, ⟨rfl, rfl, er, trivial⟩, ⟨rfl, ?_, trivial⟩⟩⟩
        rw [bkL_succ]
        unfold bK
        rw [← eb]
        rfl
    · have ek : k = nblk (strm g) := by omega
      have hz : (rsT (strm g) k).size = 0 := by rw [hrz]; unfold nblk at ek; omega
      have he0 : rsT (strm g) k = ⟨#[]⟩ := by
        apply ext_ba
        have : (rsT (strm g) k).data.toList.length = 0 := by simpa using hz
        rw [List.eq_nil_of_length_eq_zero this]
      rw [he0]
      subst ek
      repeat' ((conv => whnf); first | ((first | apply br_dec | apply br_ndec) <;> intro h <;> try (exfalso; (try dsimp only at h); omega)) | ((first | apply br_seq | apply br_nseq | apply br_not | apply br_intro) <;> intro h) | refine cond_a ?_)
      all_goals (conv => whnf)
      all_goals exact ret_out (l := [0, 1, 2]) rfl rfl ⟨rfl, trivial⟩ (allRw_cons allRw_nil)
end Go.Proofs.YtdlpmmdbdjlojaaGreatDoor

/- Contracts of the reference of package wire: readers. -/
namespace Go.Proofs.YtdlpmmdbdjlojaaGreatDoor
open Go.RowKit Go.Sy
attribute [local irreducible] vcall vloop vcallD retP
set_option maxRecDepth 100000
set_option linter.unusedVariables false
set_option linter.unusedSimpArgs false

theorem ref06_digit (c : Int) : Pure Tryz.prog 89 [.int .u8 c] (.bool (decide (48 ≤ c ∧ c ≤ 57))) := by
  refine fc_of mixed T_ok Tryz.func89 rfl (by kernel_rfl) (by kernel_rfl) (by kernel_rfl) ?_
  repeat' ((conv => whnf); first | ((first | apply br_dec | apply br_ndec) <;> intro h <;> try (exfalso; (try dsimp only at h); omega)) | ((first | apply br_seq | apply br_nseq | apply br_not | apply br_intro) <;> intro h) | refine cond_a ?_)
  all_goals (conv => whnf)
  all_goals refine ret_pure (congrArg SV.bool ?_)
  · rw [decide_eq_decide]; omega
  · rw [eq_comm, decide_eq_false_iff_not]; omega
theorem ref06_Digits (s : ByteArray) (hs : s.size ≤ 9223372036854775000) : Pure Tryz.prog 77 [.str s] (.bool (dgTo s s.size)) := by
  refine fc_of mixed T_ok Tryz.func77 rfl (by kernel_rfl) (by kernel_rfl) (by kernel_rfl) ?_
  (conv => whnf)
  refine vloop_of (fun k : Nat => ⟨[(0, .str s), (3, .int .i64 k)], [], 1⟩) (fun k => k ≤ s.size ∧ dgTo s k = true) (fun k => s.size - k) 0 [0] [] ⟨rfl, ⟨rfl, rfl, trivial⟩, trivial⟩ ⟨by omega, rfl⟩ ?_
  rintro k ⟨hk, hc⟩
  have c := ref06_digit (byteAt s (k : Int))
  repeat' ((conv => whnf); first | (refine vcall_pure (c) rfl rfl rfl ?_) | (refine vcallD_pure (c) rfl rfl rfl ?_) | ((first | apply br_dec | apply br_ndec) <;> intro h <;> try (exfalso; (try dsimp only at h); omega)) | ((first | apply br_seq | apply br_nseq | apply br_not | apply br_intro) <;> intro h) | refine cond_a ?_)
  all_goals (conv => whnf)
  · have hf : dgTo s s.size = false := dgTo_false (k := k) (by omega) (fun h => by unfold dgAt at h; omega)
    refine ret_pure ?_
    rw [hf]; rfl
  · exact ⟨k + 1, [0], [], ⟨by omega, dgTo_step hc (by omega) (by omega)⟩, by omega, ⟨rfl, ⟨rfl, congrArg (fun z => some (SV.int .i64 z)) (i64_succ (by omega)), trivial⟩, trivial⟩⟩
  · have e : k = s.size := by omega
    subst e
    refine ret_pure ?_
    rw [hc]; rfl
end Go.Proofs.YtdlpmmdbdjlojaaGreatDoor

/- The reference of the journal: payload, cut. -/
namespace Go.Proofs.YtdlpmmdbdjlojaaGreatDoor
open Go.RowKit Go.Sy
attribute [local irreducible] vcall vloop vcallD retP
set_option maxRecDepth 100000
set_option linter.unusedVariables false
set_option linter.unusedSimpArgs false
attribute [local irreducible] seq ByteArray.extract
theorem byteAt_cut {b : ByteArray} {i j k : Nat} (h : i + k < j) (hj : j ≤ b.size) : byteAt (b.extract i j) (k : Int) = byteAt b ((i + k : Nat) : Int) := by
  unfold byteAt
  rw [Int.toNat_natCast, Int.toNat_natCast]
  congr 2
  have hl : b.data.toList.length = b.size := by simp
  simp only [ByteArray.data_extract, Array.toList_extract, List.extract_eq_take_drop, List.getD]
  rw [List.getElem?_take, if_pos (by omega), List.getElem?_drop]
theorem cut_size {b : ByteArray} {i j : Nat} (hi : i ≤ j) (hj : j ≤ b.size) : (b.extract i j).size = j - i := by rw [ByteArray.size_extract]; omega
/-- One byte. -/
theorem one_eq {x : ByteArray} (h : x.size = 1) (c : UInt8) : x = ⟨#[c]⟩ ↔ byteAt x 0 = (c.toNat : Int) := by
  constructor
  · intro e; rw [e]; rfl
  · intro e
    apply ext_ba
    have hl : x.data.toList.length = 1 := by simpa using h
    match hx : x.data.toList, hl with
    | [y], _ =>
      unfold byteAt at e
      rw [hx] at e
      have e2 : (y.toNat : Int) = (c.toNat : Int) := e
      have : y.toNat = c.toNat := by omega
      rw [UInt8.toNat_inj.1 this]
/-- A block's mark, its digits, its numbers. -/
theorem un_mark {b : ByteArray} (h : 19 < b.size) : (unM b = dotS ↔ byteAt b 16 = 46) ∧ (unM b = plusS ↔ byteAt b 16 = 43) := by
  have hz : (unM b).size = 1 := by unfold unM; rw [cut_size (by omega) (by rw [unR_size h]; omega)]
  have hb : byteAt (unM b) 0 = byteAt b 16 := by
    unfold unM
    have := byteAt_cut (b := unR b) (i := 0) (j := 1) (k := 0) (by omega) (by rw [unR_size h]; omega)
    refine Eq.trans this ?_
    unfold unR
    exact byteAt_cut (b := b) (i := 16) (j := b.size) (k := 0) (by omega) (Nat.le_refl _)
  exact ⟨by rw [dotS, one_eq hz, hb]; rfl, by rw [plusS, one_eq hz, hb]; rfl⟩
theorem un_dig {b : ByteArray} (h : 19 < b.size) {k : Nat} (hk : k < 2) : byteAt (unD b) (k : Int) = byteAt b ((17 + k : Nat) : Int) := by
  unfold unD
  have z := unR_size h
  refine Eq.trans (byteAt_cut (b := unR b) (i := 1) (j := (unR b).size) (k := k) (by omega) (Nat.le_refl _)) ?_
  unfold unR
  refine Eq.trans (byteAt_cut (b := b) (i := 16) (j := b.size) (k := 1 + k) (by omega) (Nat.le_refl _)) ?_
  rw [show 16 + (1 + k) = 17 + k from by omega]
theorem dg_two {D : ByteArray} {c0 c1 : Int} (d0 : byteAt D ((0 : Nat) : Int) = c0) (d1 : byteAt D ((1 : Nat) : Int) = c1) : dgTo D 2 = (decide (48 ≤ c0 ∧ c0 ≤ 57) && decide (48 ≤ c1 ∧ c1 ≤ 57)) ∧ numTo D 2 = (c0 - 48) * 10 + (c1 - 48) := by
  subst d0 d1
  refine ⟨by simp only [dgTo, dgAt, Bool.true_and], ?_⟩
  simp only [numTo]
  omega
theorem nu_two {D : ByteArray} (hz : 2 ≤ D.size) : (nuE D 2 = 0 ↔ dgTo D 2 = true) ∧ (nuE D 2 = 0 → nuV D 2 = numTo D 2) := by
  rcases nu_cases D 2 with ⟨a1, a2, a3, a4, a5, a6, a7⟩ | ⟨a1, a2, a3, a4⟩
  · exact ⟨⟨fun _ => a7, fun _ => a1⟩, fun _ => a2⟩
  · refine ⟨⟨fun e => absurd e a1, fun e => ?_⟩, fun e => absurd e a1⟩
    rcases a4 with ⟨_, a⟩ | ⟨_, _, _, a⟩ | ⟨_, _, _, _, a⟩
    · omega
    · omega
    · have a : dgTo D 2 = false := a
      rw [a] at e; cases e
theorem un_num {b : ByteArray} (h : 19 < b.size) : (nuE (unD b) 2 = 0 ↔ dgTo (b.extract 17 19) 2 = true) ∧ (nuE (unD b) 2 = 0 → nuV (unD b) 2 = (byteAt b 17 - 48) * 10 + (byteAt b 18 - 48) ∧ 48 ≤ byteAt b 17 ∧ byteAt b 17 ≤ 57 ∧ 48 ≤ byteAt b 18 ∧ byteAt b 18 ≤ 57) := by
  have d0 : byteAt (unD b) ((0 : Nat) : Int) = byteAt b 17 := un_dig h (k := 0) (by omega)
  have d1 : byteAt (unD b) ((1 : Nat) : Int) = byteAt b 18 := un_dig h (k := 1) (by omega)
  have x0 : byteAt (b.extract 17 19) ((0 : Nat) : Int) = byteAt b 17 := byteAt_cut (b := b) (i := 17) (j := 19) (k := 0) (by omega) (by omega)
  have x1 : byteAt (b.extract 17 19) ((1 : Nat) : Int) = byteAt b 18 := byteAt_cut (b := b) (i := 17) (j := 19) (k := 1) (by omega) (by omega)
  obtain ⟨g1, g2⟩ := dg_two d0 d1
  obtain ⟨f1, _⟩ := dg_two x0 x1
  have zd : (unD b).size = b.size - 17 := by unfold unD; rw [cut_size (by rw [unR_size h]; omega) (Nat.le_refl _), unR_size h]; omega
  obtain ⟨n1, n2⟩ := nu_two (D := unD b) (by omega)
  generalize unD b = D at *
  generalize b.extract 17 19 = X at *
  refine ⟨by rw [n1, g1, f1], fun e => ?_⟩
  have e1 := n1.1 e
  rw [g1] at e1
  simp only [Bool.and_eq_true, decide_eq_true_eq] at e1
  exact ⟨by rw [n2 e, g2], by omega⟩
theorem dg_sz {b : ByteArray} (h : 19 < b.size) : (b.extract 17 19).size = 2 := by rw [cut_size (by omega) (by omega)]
theorem i64_of {x : Int} (h : 0 ≤ x ∧ x ≤ 100000) : IntKind.i64.wrap x = x := w64_in (by omega) (by omega)
theorem dig_wr {c : Int} (h : 48 ≤ c ∧ c ≤ 57) : IntKind.i64.wrap (IntKind.u8.wrap (c - 48)) = c - 48 := by rw [u8_in' (by omega) (by omega), w64_in (by omega) (by omega)]
theorem rj_payload (p : Int) (b : ByteArray) (hs : b.size ≤ 1000000) : Pure Tryz.prog 61 [.int .u64 p, .str b] (if unOk p b then unV p b else unN) := by
  by_cases h20 : b.size ≤ 19
  · rw [if_neg (fun h => by have := h.1; omega)]
    refine fc_of mixed T_ok Tryz.func61 rfl (by kernel_rfl) (by kernel_rfl) (by kernel_rfl) ?_
    repeat' ((conv => whnf); first | ((first | apply br_dec | apply br_ndec) <;> intro h <;> try (exfalso; (try dsimp only at h); omega)) | ((first | apply br_seq | apply br_nseq | apply br_not | apply br_intro) <;> intro h) | refine cond_a ?_)
    all_goals (conv => whnf)
    all_goals first
      | exact ret_pure rfl
      | (exfalso; omega)
  · have h19 : 19 < b.size := by omega
    obtain ⟨m1, m2⟩ := un_mark h19
    obtain ⟨n1, n2⟩ := un_num h19
    have zP := unP_size h19
    have zR := unR_size h19
    have z2 := dg_sz h19
    have c1 := ref06_Digits (b.extract 17 19) (by rw [z2]; decide)
    rw [z2] at c1
    have c2 := ref07_Chain p (b.extract 16 b.size) (by rw [cut_size (by omega) (Nat.le_refl _)]; omega)
    have c3 := ref09_Text (chI p (b.extract 16 b.size)) (chI_bd _ _)
    have k1 : (0 : Int) ≤ 16 ∧ (16 : Int) < (b.size : Int) := by omega
    have k2 : (0 : Int) ≤ 17 ∧ (17 : Int) ≤ 19 ∧ (19 : Int) ≤ (b.size : Int) := by omega
    have hl : lastB b = decide (byteAt b 16 = 46) := by
      unfold lastB
      by_cases e : byteAt b 16 = 46
      · rw [m1.2 e, seq_self]; simp [e]
      · rw [seq_no (fun k => e (m1.1 k))]; simp [e]
    cases hd : dgTo (b.extract 17 19) 2 with
    | false =>
      have hno : ¬ unOk p b := fun ho => by
        have := n1.1 ho.2.2.1
        rw [hd] at this; cases this
      rw [hd] at c1
      rw [if_neg hno]
      refine fc_of mixed T_ok Tryz.func61 rfl (by kernel_rfl) (by kernel_rfl) (by kernel_rfl) ?_
      repeat' ((conv => whnf); first | (refine vcall_pure (c1) rfl rfl rfl ?_) | (refine vcallD_pure (c1) rfl rfl rfl ?_) | (refine vcall_pure (c2) rfl rfl rfl ?_) | (refine vcallD_pure (c2) rfl rfl rfl ?_) | (refine vcall_pure (c3) rfl rfl rfl ?_) | (refine vcallD_pure (c3) rfl rfl rfl ?_) | ((first | apply br_dec | apply br_ndec) <;> intro h <;> try (exfalso; (try dsimp only at h); omega)) | ((first | apply br_seq | apply br_nseq | apply br_not | apply br_intro) <;> intro h) | refine cond_a ?_)
      all_goals (conv => whnf)
      all_goals first
        | exact ret_pure rfl
        | (exfalso; omega)
    | true =>
      have hE := n1.2 hd
      obtain ⟨hv, v1, v2, v3, v4⟩ := n2 hE
      rw [hd] at c1
      obtain ⟨X, hX⟩ : ∃ X, (byteAt b 17 - 48) * 10 + (byteAt b 18 - 48) = X := ⟨_, rfl⟩
      have hX2 : 0 ≤ X ∧ X ≤ 99 := by omega
      have en : IntKind.i64.wrap (IntKind.i64.wrap (IntKind.i64.wrap (IntKind.u8.wrap (byteAt b 17 - 48)) * 10) + IntKind.i64.wrap (IntKind.u8.wrap (byteAt b 18 - 48))) = X := by
        rw [dig_wr ⟨v1, v2⟩, dig_wr ⟨v3, v4⟩, i64_of (x := (byteAt b 17 - 48) * 10) (by omega), i64_of (by omega), hX]
      have e19 : IntKind.i64.wrap (19 + IntKind.i64.wrap (IntKind.i64.wrap (IntKind.i64.wrap (IntKind.u8.wrap (byteAt b 17 - 48)) * 10) + IntKind.i64.wrap (IntKind.u8.wrap (byteAt b 18 - 48)))) = 19 + X := by rw [en, i64_of (by omega)]
      have hu : unOk p b ↔ (hxS (chI p (b.extract 16 b.size)) = b.extract 0 16 ∧ (b.size : Int) = 19 + X ∧ X ≤ 45 ∧ (byteAt b 16 = 46 ∨ (byteAt b 16 = 43 ∧ X = 45))) := by
        unfold unOk
        rw [m1, m2, hv, hX, zP]
        constructor
        · rintro ⟨o1, o2, o3, o4, o5, o6⟩
          exact ⟨o2.symm, by omega, by omega, by omega⟩
        · rintro ⟨o1, o2, o3, o4⟩
          exact ⟨h19, o1.symm, hE, by omega, by omega, by omega⟩
      by_cases hm6 : byteAt b 16 = 46
      · skip
        refine fc_of mixed T_ok Tryz.func61 rfl (by kernel_rfl) (by kernel_rfl) (by kernel_rfl) ?_
        repeat' ((conv => whnf); first | (refine vcall_pure (c1) rfl rfl rfl ?_) | (refine vcallD_pure (c1) rfl rfl rfl ?_) | (refine vcall_pure (c2) rfl rfl rfl ?_) | (refine vcallD_pure (c2) rfl rfl rfl ?_) | (refine vcall_pure (c3) rfl rfl rfl ?_) | (refine vcallD_pure (c3) rfl rfl rfl ?_) | ((first | apply br_dec | apply br_ndec) <;> intro h <;> try (exfalso; (try dsimp only at h); omega)) | ((first | apply br_seq | apply br_nseq | apply br_not | apply br_intro) <;> intro h) | refine cond_a ?_)
        all_goals (conv => whnf)
        all_goals first
          | (exfalso; omega)
          | (exfalso; exact h hm6)
          | (have h' : ¬ (b.size : Int) = IntKind.i64.wrap (19 + IntKind.i64.wrap (IntKind.i64.wrap (IntKind.i64.wrap (IntKind.u8.wrap (byteAt b 17 - 48)) * 10) + IntKind.i64.wrap (IntKind.u8.wrap (byteAt b 18 - 48)))) := h
             rw [e19] at h'
             rw [if_neg (fun ho => h' (hu.1 ho).2.1)]; exact ret_pure rfl)
          | (have h' : (45 : Int) < IntKind.i64.wrap (IntKind.i64.wrap (IntKind.i64.wrap (IntKind.u8.wrap (byteAt b 17 - 48)) * 10) + IntKind.i64.wrap (IntKind.u8.wrap (byteAt b 18 - 48))) := h
             rw [en] at h'
             rw [if_neg (fun ho => by have := (hu.1 ho).2.2.1; omega)]; exact ret_pure rfl)
          | (have h' : hxS (chI p (b.extract 16 b.size)) ≠ b.extract 0 16 := h
             rw [if_neg (fun ho => h' (hu.1 ho).1)]; exact ret_pure rfl)
          | (rename_i k2 k1 _
             have k2' : (b.size : Int) = IntKind.i64.wrap (19 + IntKind.i64.wrap (IntKind.i64.wrap (IntKind.i64.wrap (IntKind.u8.wrap (byteAt b 17 - 48)) * 10) + IntKind.i64.wrap (IntKind.u8.wrap (byteAt b 18 - 48)))) := k2
             have k1' : ¬ (45 : Int) < IntKind.i64.wrap (IntKind.i64.wrap (IntKind.i64.wrap (IntKind.u8.wrap (byteAt b 17 - 48)) * 10) + IntKind.i64.wrap (IntKind.u8.wrap (byteAt b 18 - 48))) := k1
             rw [e19] at k2'
             rw [en] at k1'
             have h' : hxS (chI p (b.extract 16 b.size)) = b.extract 0 16 := h
             rw [if_pos (hu.2 ⟨h', k2', by omega, .inl hm6⟩)]
             unfold unV
             rw [hl]
             exact ret_pure rfl)
      · by_cases hm3 : byteAt b 16 = 43
        · rw [decide_eq_false hm6] at hl
          have hd6 : decide (byteAt b 16 = 46) = false := decide_eq_false hm6
          refine fc_of mixed T_ok Tryz.func61 rfl (by kernel_rfl) (by kernel_rfl) (by kernel_rfl) ?_
          repeat' ((conv => whnf); first | (refine vcall_pure (c1) rfl rfl rfl ?_) | (refine vcallD_pure (c1) rfl rfl rfl ?_) | (refine vcall_pure (c2) rfl rfl rfl ?_) | (refine vcallD_pure (c2) rfl rfl rfl ?_) | (refine vcall_pure (c3) rfl rfl rfl ?_) | (refine vcallD_pure (c3) rfl rfl rfl ?_) | ((first | apply br_dec | apply br_ndec) <;> intro h <;> try (exfalso; (try dsimp only at h); omega)) | ((first | apply br_seq | apply br_nseq | apply br_not | apply br_intro) <;> intro h) | refine cond_a ?_)
          all_goals (conv => whnf)
          all_goals first
            | (exfalso; omega)
            | (exfalso; exact h hm3)
            | (have h' : ¬ (b.size : Int) = IntKind.i64.wrap (19 + IntKind.i64.wrap (IntKind.i64.wrap (IntKind.i64.wrap (IntKind.u8.wrap (byteAt b 17 - 48)) * 10) + IntKind.i64.wrap (IntKind.u8.wrap (byteAt b 18 - 48)))) := h
               rw [e19] at h'
               rw [if_neg (fun ho => h' (hu.1 ho).2.1)]; exact ret_pure rfl)
            | (have h' : (45 : Int) < IntKind.i64.wrap (IntKind.i64.wrap (IntKind.i64.wrap (IntKind.u8.wrap (byteAt b 17 - 48)) * 10) + IntKind.i64.wrap (IntKind.u8.wrap (byteAt b 18 - 48))) := h
               rw [en] at h'
               rw [if_neg (fun ho => by have := (hu.1 ho).2.2.1; omega)]; exact ret_pure rfl)
            | (have h' : ¬ IntKind.i64.wrap (IntKind.i64.wrap (IntKind.i64.wrap (IntKind.u8.wrap (byteAt b 17 - 48)) * 10) + IntKind.i64.wrap (IntKind.u8.wrap (byteAt b 18 - 48))) = 45 := h
               rw [en] at h'
               rw [if_neg (fun ho => by have := (hu.1 ho).2.2.2; omega)]; exact ret_pure rfl)
            | (have h' : hxS (chI p (b.extract 16 b.size)) ≠ b.extract 0 16 := h
               rw [if_neg (fun ho => h' (hu.1 ho).1)]; exact ret_pure rfl)
            | (rename_i k2 k1 _ k3
               have k2' : (b.size : Int) = IntKind.i64.wrap (19 + IntKind.i64.wrap (IntKind.i64.wrap (IntKind.i64.wrap (IntKind.u8.wrap (byteAt b 17 - 48)) * 10) + IntKind.i64.wrap (IntKind.u8.wrap (byteAt b 18 - 48)))) := k2
               have k1' : ¬ (45 : Int) < IntKind.i64.wrap (IntKind.i64.wrap (IntKind.i64.wrap (IntKind.u8.wrap (byteAt b 17 - 48)) * 10) + IntKind.i64.wrap (IntKind.u8.wrap (byteAt b 18 - 48))) := k1
               have k3' : IntKind.i64.wrap (IntKind.i64.wrap (IntKind.i64.wrap (IntKind.u8.wrap (byteAt b 17 - 48)) * 10) + IntKind.i64.wrap (IntKind.u8.wrap (byteAt b 18 - 48))) = 45 := k3
               rw [e19] at k2'
               rw [en] at k1' k3'
               have h' : hxS (chI p (b.extract 16 b.size)) = b.extract 0 16 := h
               rw [if_pos (hu.2 ⟨h', k2', by omega, .inr ⟨hm3, k3'⟩⟩)]
               unfold unV
               rw [hl]
               exact ret_pure (by rw [hd6]; rfl))
        · have hno : ¬ unOk p b := fun ho => by have := (hu.1 ho).2.2.2; omega
          rw [if_neg hno]
          refine fc_of mixed T_ok Tryz.func61 rfl (by kernel_rfl) (by kernel_rfl) (by kernel_rfl) ?_
          repeat' ((conv => whnf); first | (refine vcall_pure (c1) rfl rfl rfl ?_) | (refine vcallD_pure (c1) rfl rfl rfl ?_) | (refine vcall_pure (c2) rfl rfl rfl ?_) | (refine vcallD_pure (c2) rfl rfl rfl ?_) | (refine vcall_pure (c3) rfl rfl rfl ?_) | (refine vcallD_pure (c3) rfl rfl rfl ?_) | ((first | apply br_dec | apply br_ndec) <;> intro h <;> try (exfalso; (try dsimp only at h); omega)) | ((first | apply br_seq | apply br_nseq | apply br_not | apply br_intro) <;> intro h) | refine cond_a ?_)
          all_goals (conv => whnf)
          all_goals first
            | exact ret_pure rfl
            | (exfalso; omega)
end Go.Proofs.YtdlpmmdbdjlojaaGreatDoor

/- The reference of the journal: cut. -/
namespace Go.Proofs.YtdlpmmdbdjlojaaGreatDoor
open Go.RowKit Go.Sy
attribute [local irreducible] vcall vloop vcallD retP
set_option maxRecDepth 100000
set_option linter.unusedVariables false
set_option linter.unusedSimpArgs false
attribute [local irreducible] seq ByteArray.extract
theorem dg_four {D : ByteArray} {c0 c1 c2 c3 : Int} (d0 : byteAt D ((0 : Nat) : Int) = c0) (d1 : byteAt D ((1 : Nat) : Int) = c1) (d2 : byteAt D ((2 : Nat) : Int) = c2) (d3 : byteAt D ((3 : Nat) : Int) = c3) :
    dgTo D 4 = (((decide (48 ≤ c0 ∧ c0 ≤ 57) && decide (48 ≤ c1 ∧ c1 ≤ 57)) && decide (48 ≤ c2 ∧ c2 ≤ 57)) && decide (48 ≤ c3 ∧ c3 ≤ 57)) ∧ numTo D 4 = (c0 - 48) * 1000 + (c1 - 48) * 100 + (c2 - 48) * 10 + (c3 - 48) := by
  subst d0 d1 d2 d3
  refine ⟨by simp only [dgTo, dgAt, Bool.true_and], ?_⟩
  simp only [numTo]
  omega
/-- The number ahead of a record. -/
theorem uc_head {s : ByteArray} (h : 4 ≤ s.size) : (nuE s 4 = 0 ↔ dgTo (s.extract 0 4) 4 = true) ∧ (nuE s 4 = 0 → nuV s 4 = (byteAt s 0 - 48) * 1000 + (byteAt s 1 - 48) * 100 + (byteAt s 2 - 48) * 10 + (byteAt s 3 - 48) ∧ (48 ≤ byteAt s 0 ∧ byteAt s 0 ≤ 57) ∧ (48 ≤ byteAt s 1 ∧ byteAt s 1 ≤ 57) ∧ (48 ≤ byteAt s 2 ∧ byteAt s 2 ≤ 57) ∧ 48 ≤ byteAt s 3 ∧ byteAt s 3 ≤ 57) := by
  have hd : dgTo (s.extract 0 4) 4 = dgTo s 4 := (dgTo_ext (s := s) (w := 4) h 4 (Nat.le_refl _)).1
  obtain ⟨g1, g2⟩ := dg_four (D := s) (c0 := byteAt s 0) (c1 := byteAt s 1) (c2 := byteAt s 2) (c3 := byteAt s 3) rfl rfl rfl rfl
  have key : (nuE s 4 = 0 ↔ dgTo s 4 = true) ∧ (nuE s 4 = 0 → nuV s 4 = numTo s 4) := by
    rcases nu_cases s 4 with ⟨a1, a2, a3, a4, a5, a6, a7⟩ | ⟨a1, a2, a3, a4⟩
    · exact ⟨⟨fun _ => a7, fun _ => a1⟩, fun _ => a2⟩
    · refine ⟨⟨fun e => absurd e a1, fun e => ?_⟩, fun e => absurd e a1⟩
      rcases a4 with ⟨_, a⟩ | ⟨_, _, _, a⟩ | ⟨_, _, _, _, a⟩
      · omega
      · omega
      · have a : dgTo s 4 = false := a
        rw [a] at e; cases e
  refine ⟨by rw [hd]; exact key.1, fun e => ?_⟩
  have e1 := key.1.1 e
  rw [g1] at e1
  simp only [Bool.and_eq_true, decide_eq_true_eq] at e1
  exact ⟨by rw [key.2 e, g2], by omega, by omega, by omega, by omega⟩
theorem cut_cut {s : ByteArray} {i j k : Nat} (h : i + k ≤ s.size) (hj : j ≤ k) : (s.extract i s.size).extract j k = s.extract (i + j) (i + k) := by
  apply ext_ba
  have hl : s.data.toList.length = s.size := by simp
  simp only [ByteArray.data_extract, Array.toList_extract, List.extract_eq_take_drop]
  apply List.ext_getElem?
  intro x
  simp only [List.getElem?_take, List.getElem?_drop]
  by_cases hx : x < k - j
  · rw [if_pos hx, if_pos (by omega), if_pos (by omega)]
    congr 1; omega
  · rw [if_neg hx, if_neg (by omega)]
theorem uc_rec {s : ByteArray} {n : Nat} (h4 : 4 + n ≤ s.size) (hn : nuV s 4 = (n : Int)) : ucRec s = s.extract 4 (4 + n) ∧ ucT s = s.extract (4 + n) s.size := by
  unfold ucRec ucT ucN
  rw [hn, Int.toNat_natCast]
  refine ⟨by rw [cut_cut h4 (Nat.zero_le _)], ?_⟩
  rw [cut_size (by omega) (Nat.le_refl _), cut_cut (by omega) (by omega), show 4 + (s.size - 4) = s.size from by omega]
def rcS (s : ByteArray) (acc : List ByteArray) : VS := ⟨[(0, .str s), (4, .sl 1 0 0 acc.length)], [(1, grW acc.length acc)], 2⟩
theorem rj_cut (s : ByteArray) (h0 : 0 < s.size) (hs : s.size ≤ 1000000000) : FC Tryz.prog 1 62 [.str s] [] (ucOut (ucG s)) := by
  obtain ⟨R, hR⟩ : ∃ R, ucG s = R := ⟨_, rfl⟩
  rw [hR]
  refine fc_of mixed T_ok Tryz.func62 rfl (by kernel_rfl) (by kernel_rfl) (by kernel_rfl) ?_
  repeat' ((conv => whnf); first | ((first | apply br_dec | apply br_ndec) <;> intro h <;> try (exfalso; (try dsimp only at h); omega)) | ((first | apply br_seq | apply br_nseq | apply br_not | apply br_intro) <;> intro h) | refine cond_a ?_)
  all_goals (conv => whnf)
  refine vloop_of (fun x : Nat × ByteArray × List ByteArray => rcS x.2.1 x.2.2) (ucI R) (fun x => x.2.1.size) (s.size + 1, s, []) [0, 1] [.slot 4 [.sc (.strs [])]] ⟨rfl, ⟨rfl, rfl, trivial⟩, ⟨rfl, trivial⟩⟩ ⟨Nat.lt_succ_self _, hR, Nat.zero_le _, hs, .inl h0⟩ ?_
  rintro ⟨f, t, acc⟩ ⟨hf, hr, hl, hz, hp⟩
  dsimp only at hf hr hl hz hp ⊢
  obtain ⟨f, rfl⟩ : ∃ f', f = f' + 1 := ⟨f - 1, by omega⟩
  by_cases hz0 : t.size = 0
  · rw [uc_end hz0 (by omega)] at hr
    subst hr
    have et : t = ⟨#[]⟩ := by
      apply ext_ba
      have : t.data.toList.length = 0 := by simpa using hz0
      rw [List.eq_nil_of_length_eq_zero this]
    subst et
    repeat' ((conv => whnf); first | ((first | apply br_dec | apply br_ndec) <;> intro h <;> try (exfalso; (try dsimp only at h); omega)) | ((first | apply br_seq | apply br_nseq | apply br_not | apply br_intro) <;> intro h) | refine cond_a ?_)
    all_goals (conv => whnf)
    all_goals first
      | exact ret_out (l := [0, 1]) rfl (congrArg (fun b => SV.tup [.sl 1 0 0 acc.length, .bool b]) (decide_eq_true (by omega))) ⟨rfl, trivial⟩ (allRw_cons allRw_nil)
      | (exfalso; omega)
      | (exfalso; exact h rfl)
  · have hne : t ≠ ⟨#[]⟩ := by intro e; rw [e] at hz0; exact hz0 rfl
    by_cases h4 : t.size < 4
    · have ha : ¬ ucA t := fun ha => by have := (uc_num ha.1).2.1; omega
      rw [uc_noA hz0 ha] at hr
      subst hr
      repeat' ((conv => whnf); first | ((first | apply br_dec | apply br_ndec) <;> intro h <;> try (exfalso; (try dsimp only at h); omega)) | ((first | apply br_seq | apply br_nseq | apply br_not | apply br_intro) <;> intro h) | refine cond_a ?_)
      all_goals (conv => whnf)
      all_goals first
        | exact ret_out (l := [0]) rfl rfl trivial allRw_nil
        | (exfalso; omega)
        | (exfalso; exact hne h)
    · obtain ⟨u1, u2⟩ := uc_head (s := t) (by omega)
      have c1 := ref06_Digits (t.extract 0 4) (by rw [cut_size (by omega) (by omega)]; omega)
      rw [cut_size (by omega) (by omega)] at c1
      by_cases hd : nuE t 4 = 0
      · obtain ⟨uv, b0, b1, b2, b3⟩ := u2 hd
        rw [show dgTo (t.extract 0 4) (4 - 0) = true from u1.1 hd] at c1
        have d0 := dig_wr b0
        have d1 := dig_wr b1
        have d2 := dig_wr b2
        have d3 := dig_wr b3
        obtain ⟨n, hn⟩ := Int.eq_ofNat_of_zero_le (show 0 ≤ nuV t 4 by omega)
        have hn1 : n ≤ 9999 := by omega
        have en : IntKind.i64.wrap (IntKind.i64.wrap (IntKind.i64.wrap (IntKind.i64.wrap (IntKind.i64.wrap (IntKind.u8.wrap (byteAt t 0 - 48)) * 1000) + IntKind.i64.wrap (IntKind.i64.wrap (IntKind.u8.wrap (byteAt t 1 - 48)) * 100)) + IntKind.i64.wrap (IntKind.i64.wrap (IntKind.u8.wrap (byteAt t 2 - 48)) * 10)) + IntKind.i64.wrap (IntKind.u8.wrap (byteAt t 3 - 48))) = (n : Int) := by
          rw [d0, d1, d2, d3, i64_of (x := (byteAt t 0 - 48) * 1000) (by omega), i64_of (x := (byteAt t 1 - 48) * 100) (by omega), i64_of (x := (byteAt t 2 - 48) * 10) (by omega), i64_of (x := (byteAt t 0 - 48) * 1000 + (byteAt t 1 - 48) * 100) (by omega), i64_of (x := (byteAt t 0 - 48) * 1000 + (byteAt t 1 - 48) * 100 + (byteAt t 2 - 48) * 10) (by omega), i64_of (by omega)]
          omega
        have e4 : IntKind.i64.wrap (4 + (n : Int)) = ((4 + n : Nat) : Int) := by rw [i64_of (by omega)]; omega
        have zN := ucN_size t
        have en4 : IntKind.i64.wrap (4 + IntKind.i64.wrap (IntKind.i64.wrap (IntKind.i64.wrap (IntKind.i64.wrap (IntKind.i64.wrap (IntKind.u8.wrap (byteAt t 0 - 48)) * 1000) + IntKind.i64.wrap (IntKind.i64.wrap (IntKind.u8.wrap (byteAt t 1 - 48)) * 100)) + IntKind.i64.wrap (IntKind.i64.wrap (IntKind.u8.wrap (byteAt t 2 - 48)) * 10)) + IntKind.i64.wrap (IntKind.u8.wrap (byteAt t 3 - 48)))) = ((4 + n : Nat) : Int) := by rw [en, e4]
        have zN := ucN_size t
        have kz : (0 : Int) ≤ 0 ∧ (0 : Int) ≤ 4 ∧ (4 : Int) ≤ (t.size : Int) := by omega
        by_cases hok : n ≤ 4000 ∧ 4 + n ≤ t.size ∧ acc.length < 256
        · obtain ⟨x1, x2, x3⟩ := hok
          obtain ⟨r1, r2⟩ := uc_rec x2 hn
          have zt := ucT_size (s := t)
          rw [hn, Int.toNat_natCast] at zt
          have ha : ucA t := ⟨hd, by rw [hn]; omega⟩
          have hb : ucB t acc.length := ⟨by rw [hn]; omega, x3⟩
          rw [uc_step hz0 ha hb] at hr
          have k1 : (0 : Int) ≤ 4 ∧ (4 : Int) ≤ IntKind.i64.wrap (4 + IntKind.i64.wrap (IntKind.i64.wrap (IntKind.i64.wrap (IntKind.i64.wrap (IntKind.i64.wrap (IntKind.u8.wrap (byteAt t 0 - 48)) * 1000) + IntKind.i64.wrap (IntKind.i64.wrap (IntKind.u8.wrap (byteAt t 1 - 48)) * 100)) + IntKind.i64.wrap (IntKind.i64.wrap (IntKind.u8.wrap (byteAt t 2 - 48)) * 10)) + IntKind.i64.wrap (IntKind.u8.wrap (byteAt t 3 - 48)))) ∧ IntKind.i64.wrap (4 + IntKind.i64.wrap (IntKind.i64.wrap (IntKind.i64.wrap (IntKind.i64.wrap (IntKind.i64.wrap (IntKind.u8.wrap (byteAt t 0 - 48)) * 1000) + IntKind.i64.wrap (IntKind.i64.wrap (IntKind.u8.wrap (byteAt t 1 - 48)) * 100)) + IntKind.i64.wrap (IntKind.i64.wrap (IntKind.u8.wrap (byteAt t 2 - 48)) * 10)) + IntKind.i64.wrap (IntKind.u8.wrap (byteAt t 3 - 48)))) ≤ (t.size : Int) := by rw [en4]; omega
          have k2 : (0 : Int) ≤ IntKind.i64.wrap (4 + IntKind.i64.wrap (IntKind.i64.wrap (IntKind.i64.wrap (IntKind.i64.wrap (IntKind.i64.wrap (IntKind.u8.wrap (byteAt t 0 - 48)) * 1000) + IntKind.i64.wrap (IntKind.i64.wrap (IntKind.u8.wrap (byteAt t 1 - 48)) * 100)) + IntKind.i64.wrap (IntKind.i64.wrap (IntKind.u8.wrap (byteAt t 2 - 48)) * 10)) + IntKind.i64.wrap (IntKind.u8.wrap (byteAt t 3 - 48)))) ∧ IntKind.i64.wrap (4 + IntKind.i64.wrap (IntKind.i64.wrap (IntKind.i64.wrap (IntKind.i64.wrap (IntKind.i64.wrap (IntKind.u8.wrap (byteAt t 0 - 48)) * 1000) + IntKind.i64.wrap (IntKind.i64.wrap (IntKind.u8.wrap (byteAt t 1 - 48)) * 100)) + IntKind.i64.wrap (IntKind.i64.wrap (IntKind.u8.wrap (byteAt t 2 - 48)) * 10)) + IntKind.i64.wrap (IntKind.u8.wrap (byteAt t 3 - 48)))) ≤ (t.size : Int) ∧ (t.size : Int) ≤ (t.size : Int) := by rw [en4]; omega
          repeat' ((conv => whnf); first | (refine vcall_pure (c1) rfl rfl rfl ?_) | (refine vcallD_pure (c1) rfl rfl rfl ?_) | (refine cond_intro kz ?_) | (refine cond_intro k1 ?_) | (refine cond_intro k2 ?_) | ((first | apply br_dec | apply br_ndec) <;> intro h <;> try (exfalso; (try dsimp only at h); omega)) | ((first | apply br_seq | apply br_nseq | apply br_not | apply br_intro) <;> intro h) | refine cond_a ?_)
          all_goals (conv => whnf)
          all_goals first
            | (exfalso; omega)
            | (exfalso; exact hne h)
            | (exfalso; have h' : (4000 : Int) < IntKind.i64.wrap (IntKind.i64.wrap (IntKind.i64.wrap (IntKind.i64.wrap (IntKind.i64.wrap (IntKind.u8.wrap (byteAt t 0 - 48)) * 1000) + IntKind.i64.wrap (IntKind.i64.wrap (IntKind.u8.wrap (byteAt t 1 - 48)) * 100)) + IntKind.i64.wrap (IntKind.i64.wrap (IntKind.u8.wrap (byteAt t 2 - 48)) * 10)) + IntKind.i64.wrap (IntKind.u8.wrap (byteAt t 3 - 48))) := h; rw [en] at h'; omega)
            | (exfalso; have h' : (t.size : Int) < IntKind.i64.wrap (4 + IntKind.i64.wrap (IntKind.i64.wrap (IntKind.i64.wrap (IntKind.i64.wrap (IntKind.i64.wrap (IntKind.u8.wrap (byteAt t 0 - 48)) * 1000) + IntKind.i64.wrap (IntKind.i64.wrap (IntKind.u8.wrap (byteAt t 1 - 48)) * 100)) + IntKind.i64.wrap (IntKind.i64.wrap (IntKind.u8.wrap (byteAt t 2 - 48)) * 10)) + IntKind.i64.wrap (IntKind.u8.wrap (byteAt t 3 - 48)))) := h; rw [en4] at h'; omega)
            | (exfalso; have h' : (256 : Int) ≤ (acc.length : Int) := h; omega)
            | skip
          refine ⟨(f, ucT t, acc ++ [ucRec t]), [0, 3], [], ⟨by dsimp only; omega, hr, by rw [List.length_append]; show acc.length + 1 ≤ 256; omega, by dsimp only; omega, .inr (by rw [List.length_append]; show 0 < acc.length + 1; omega)⟩, by dsimp only; omega, ⟨rfl, ⟨?_, ?_, trivial⟩, ⟨?_, trivial⟩⟩⟩
          · exact congrArg (fun z => some (SV.str z)) (show t.extract (IntKind.i64.wrap (4 + IntKind.i64.wrap (IntKind.i64.wrap (IntKind.i64.wrap (IntKind.i64.wrap (IntKind.i64.wrap (IntKind.u8.wrap (byteAt t 0 - 48)) * 1000) + IntKind.i64.wrap (IntKind.i64.wrap (IntKind.u8.wrap (byteAt t 1 - 48)) * 100)) + IntKind.i64.wrap (IntKind.i64.wrap (IntKind.u8.wrap (byteAt t 2 - 48)) * 10)) + IntKind.i64.wrap (IntKind.u8.wrap (byteAt t 3 - 48))))).toNat t.size = ucT t by rw [en4, Int.toNat_natCast, r2])
          · dsimp only; rw [List.length_append]; rfl
          · dsimp only
            rw [List.length_append]
            exact congrArg (fun z => some (HB.one false (.cols (acc.length + 1) [.sc (.strs (acc ++ [z]))]))) (show t.extract 4 (IntKind.i64.wrap (4 + IntKind.i64.wrap (IntKind.i64.wrap (IntKind.i64.wrap (IntKind.i64.wrap (IntKind.i64.wrap (IntKind.u8.wrap (byteAt t 0 - 48)) * 1000) + IntKind.i64.wrap (IntKind.i64.wrap (IntKind.u8.wrap (byteAt t 1 - 48)) * 100)) + IntKind.i64.wrap (IntKind.i64.wrap (IntKind.u8.wrap (byteAt t 2 - 48)) * 10)) + IntKind.i64.wrap (IntKind.u8.wrap (byteAt t 3 - 48))))).toNat = ucRec t by rw [en4, Int.toNat_natCast, r1])
        · by_cases x1 : n ≤ 4000
          · have hrn : R = none := by
              rw [uc_noB hz0 (fun hb => by
                have b1 := hb.1
                have b2 := hb.2
                rw [hn] at b1
                omega)] at hr
              exact hr.symm
            subst hrn
            by_cases x2 : 4 + n ≤ t.size
            · have x3 : 256 ≤ acc.length := by omega
              repeat' ((conv => whnf); first | (refine vcall_pure (c1) rfl rfl rfl ?_) | (refine vcallD_pure (c1) rfl rfl rfl ?_) | (refine cond_intro kz ?_) | ((first | apply br_dec | apply br_ndec) <;> intro h <;> try (exfalso; (first | omega | (have h' : (4000 : Int) < IntKind.i64.wrap (IntKind.i64.wrap (IntKind.i64.wrap (IntKind.i64.wrap (IntKind.i64.wrap (IntKind.u8.wrap (byteAt t 0 - 48)) * 1000) + IntKind.i64.wrap (IntKind.i64.wrap (IntKind.u8.wrap (byteAt t 1 - 48)) * 100)) + IntKind.i64.wrap (IntKind.i64.wrap (IntKind.u8.wrap (byteAt t 2 - 48)) * 10)) + IntKind.i64.wrap (IntKind.u8.wrap (byteAt t 3 - 48))) := h; rw [en] at h'; omega) | (have h' : ¬ (4000 : Int) < IntKind.i64.wrap (IntKind.i64.wrap (IntKind.i64.wrap (IntKind.i64.wrap (IntKind.i64.wrap (IntKind.u8.wrap (byteAt t 0 - 48)) * 1000) + IntKind.i64.wrap (IntKind.i64.wrap (IntKind.u8.wrap (byteAt t 1 - 48)) * 100)) + IntKind.i64.wrap (IntKind.i64.wrap (IntKind.u8.wrap (byteAt t 2 - 48)) * 10)) + IntKind.i64.wrap (IntKind.u8.wrap (byteAt t 3 - 48))) := h; rw [en] at h'; omega) | (have h' : (t.size : Int) < IntKind.i64.wrap (4 + IntKind.i64.wrap (IntKind.i64.wrap (IntKind.i64.wrap (IntKind.i64.wrap (IntKind.i64.wrap (IntKind.u8.wrap (byteAt t 0 - 48)) * 1000) + IntKind.i64.wrap (IntKind.i64.wrap (IntKind.u8.wrap (byteAt t 1 - 48)) * 100)) + IntKind.i64.wrap (IntKind.i64.wrap (IntKind.u8.wrap (byteAt t 2 - 48)) * 10)) + IntKind.i64.wrap (IntKind.u8.wrap (byteAt t 3 - 48)))) := h; rw [en4] at h'; omega) | (have h' : ¬ (t.size : Int) < IntKind.i64.wrap (4 + IntKind.i64.wrap (IntKind.i64.wrap (IntKind.i64.wrap (IntKind.i64.wrap (IntKind.i64.wrap (IntKind.u8.wrap (byteAt t 0 - 48)) * 1000) + IntKind.i64.wrap (IntKind.i64.wrap (IntKind.u8.wrap (byteAt t 1 - 48)) * 100)) + IntKind.i64.wrap (IntKind.i64.wrap (IntKind.u8.wrap (byteAt t 2 - 48)) * 10)) + IntKind.i64.wrap (IntKind.u8.wrap (byteAt t 3 - 48)))) := h; rw [en4] at h'; omega) | (have h' : (256 : Int) ≤ (acc.length : Int) := h; omega) | (have h' : ¬ (256 : Int) ≤ (acc.length : Int) := h; omega)))) | ((first | apply br_dec | apply br_ndec) <;> intro h <;> try (exfalso; (try dsimp only at h); omega)) | ((first | apply br_seq | apply br_nseq | apply br_not | apply br_intro) <;> intro h) | refine cond_a ?_)
              all_goals (conv => whnf)
              all_goals first
                | exact ret_out (l := [0]) rfl rfl trivial allRw_nil
                | (exfalso; omega)
                | (exfalso; exact hne h)
            · skip
              repeat' ((conv => whnf); first | (refine vcall_pure (c1) rfl rfl rfl ?_) | (refine vcallD_pure (c1) rfl rfl rfl ?_) | (refine cond_intro kz ?_) | ((first | apply br_dec | apply br_ndec) <;> intro h <;> try (exfalso; (first | omega | (have h' : (4000 : Int) < IntKind.i64.wrap (IntKind.i64.wrap (IntKind.i64.wrap (IntKind.i64.wrap (IntKind.i64.wrap (IntKind.u8.wrap (byteAt t 0 - 48)) * 1000) + IntKind.i64.wrap (IntKind.i64.wrap (IntKind.u8.wrap (byteAt t 1 - 48)) * 100)) + IntKind.i64.wrap (IntKind.i64.wrap (IntKind.u8.wrap (byteAt t 2 - 48)) * 10)) + IntKind.i64.wrap (IntKind.u8.wrap (byteAt t 3 - 48))) := h; rw [en] at h'; omega) | (have h' : ¬ (4000 : Int) < IntKind.i64.wrap (IntKind.i64.wrap (IntKind.i64.wrap (IntKind.i64.wrap (IntKind.i64.wrap (IntKind.u8.wrap (byteAt t 0 - 48)) * 1000) + IntKind.i64.wrap (IntKind.i64.wrap (IntKind.u8.wrap (byteAt t 1 - 48)) * 100)) + IntKind.i64.wrap (IntKind.i64.wrap (IntKind.u8.wrap (byteAt t 2 - 48)) * 10)) + IntKind.i64.wrap (IntKind.u8.wrap (byteAt t 3 - 48))) := h; rw [en] at h'; omega) | (have h' : (t.size : Int) < IntKind.i64.wrap (4 + IntKind.i64.wrap (IntKind.i64.wrap (IntKind.i64.wrap (IntKind.i64.wrap (IntKind.i64.wrap (IntKind.u8.wrap (byteAt t 0 - 48)) * 1000) + IntKind.i64.wrap (IntKind.i64.wrap (IntKind.u8.wrap (byteAt t 1 - 48)) * 100)) + IntKind.i64.wrap (IntKind.i64.wrap (IntKind.u8.wrap (byteAt t 2 - 48)) * 10)) + IntKind.i64.wrap (IntKind.u8.wrap (byteAt t 3 - 48)))) := h; rw [en4] at h'; omega) | (have h' : ¬ (t.size : Int) < IntKind.i64.wrap (4 + IntKind.i64.wrap (IntKind.i64.wrap (IntKind.i64.wrap (IntKind.i64.wrap (IntKind.i64.wrap (IntKind.u8.wrap (byteAt t 0 - 48)) * 1000) + IntKind.i64.wrap (IntKind.i64.wrap (IntKind.u8.wrap (byteAt t 1 - 48)) * 100)) + IntKind.i64.wrap (IntKind.i64.wrap (IntKind.u8.wrap (byteAt t 2 - 48)) * 10)) + IntKind.i64.wrap (IntKind.u8.wrap (byteAt t 3 - 48)))) := h; rw [en4] at h'; omega) | (have h' : (256 : Int) ≤ (acc.length : Int) := h; omega) | (have h' : ¬ (256 : Int) ≤ (acc.length : Int) := h; omega)))) | ((first | apply br_dec | apply br_ndec) <;> intro h <;> try (exfalso; (try dsimp only at h); omega)) | ((first | apply br_seq | apply br_nseq | apply br_not | apply br_intro) <;> intro h) | refine cond_a ?_)
              all_goals (conv => whnf)
              all_goals first
                | exact ret_out (l := [0]) rfl rfl trivial allRw_nil
                | (exfalso; omega)
                | (exfalso; exact hne h)
          · have hrn : R = none := by
              rw [uc_noA hz0 (fun ha => by
                have b2 := ha.2
                rw [hn] at b2
                omega)] at hr
              exact hr.symm
            subst hrn
            repeat' ((conv => whnf); first | (refine vcall_pure (c1) rfl rfl rfl ?_) | (refine vcallD_pure (c1) rfl rfl rfl ?_) | (refine cond_intro kz ?_) | ((first | apply br_dec | apply br_ndec) <;> intro h <;> try (exfalso; (first | omega | (have h' : (4000 : Int) < IntKind.i64.wrap (IntKind.i64.wrap (IntKind.i64.wrap (IntKind.i64.wrap (IntKind.i64.wrap (IntKind.u8.wrap (byteAt t 0 - 48)) * 1000) + IntKind.i64.wrap (IntKind.i64.wrap (IntKind.u8.wrap (byteAt t 1 - 48)) * 100)) + IntKind.i64.wrap (IntKind.i64.wrap (IntKind.u8.wrap (byteAt t 2 - 48)) * 10)) + IntKind.i64.wrap (IntKind.u8.wrap (byteAt t 3 - 48))) := h; rw [en] at h'; omega) | (have h' : ¬ (4000 : Int) < IntKind.i64.wrap (IntKind.i64.wrap (IntKind.i64.wrap (IntKind.i64.wrap (IntKind.i64.wrap (IntKind.u8.wrap (byteAt t 0 - 48)) * 1000) + IntKind.i64.wrap (IntKind.i64.wrap (IntKind.u8.wrap (byteAt t 1 - 48)) * 100)) + IntKind.i64.wrap (IntKind.i64.wrap (IntKind.u8.wrap (byteAt t 2 - 48)) * 10)) + IntKind.i64.wrap (IntKind.u8.wrap (byteAt t 3 - 48))) := h; rw [en] at h'; omega) | (have h' : (t.size : Int) < IntKind.i64.wrap (4 + IntKind.i64.wrap (IntKind.i64.wrap (IntKind.i64.wrap (IntKind.i64.wrap (IntKind.i64.wrap (IntKind.u8.wrap (byteAt t 0 - 48)) * 1000) + IntKind.i64.wrap (IntKind.i64.wrap (IntKind.u8.wrap (byteAt t 1 - 48)) * 100)) + IntKind.i64.wrap (IntKind.i64.wrap (IntKind.u8.wrap (byteAt t 2 - 48)) * 10)) + IntKind.i64.wrap (IntKind.u8.wrap (byteAt t 3 - 48)))) := h; rw [en4] at h'; omega) | (have h' : ¬ (t.size : Int) < IntKind.i64.wrap (4 + IntKind.i64.wrap (IntKind.i64.wrap (IntKind.i64.wrap (IntKind.i64.wrap (IntKind.i64.wrap (IntKind.u8.wrap (byteAt t 0 - 48)) * 1000) + IntKind.i64.wrap (IntKind.i64.wrap (IntKind.u8.wrap (byteAt t 1 - 48)) * 100)) + IntKind.i64.wrap (IntKind.i64.wrap (IntKind.u8.wrap (byteAt t 2 - 48)) * 10)) + IntKind.i64.wrap (IntKind.u8.wrap (byteAt t 3 - 48)))) := h; rw [en4] at h'; omega) | (have h' : (256 : Int) ≤ (acc.length : Int) := h; omega) | (have h' : ¬ (256 : Int) ≤ (acc.length : Int) := h; omega)))) | ((first | apply br_dec | apply br_ndec) <;> intro h <;> try (exfalso; (try dsimp only at h); omega)) | ((first | apply br_seq | apply br_nseq | apply br_not | apply br_intro) <;> intro h) | refine cond_a ?_)
            all_goals (conv => whnf)
            all_goals first
              | exact ret_out (l := [0]) rfl rfl trivial allRw_nil
              | (exfalso; omega)
              | (exfalso; exact hne h)
      · have ha : ¬ ucA t := fun ha => hd ha.1
        rw [uc_noA hz0 ha] at hr
        subst hr
        have hf2 : dgTo (t.extract 0 4) (4 - 0) = false := by
          cases h : dgTo (t.extract 0 4) (4 - 0) with
          | false => rfl
          | true => exact absurd (u1.2 h) hd
        rw [hf2] at c1
        repeat' ((conv => whnf); first | (refine vcall_pure (c1) rfl rfl rfl ?_) | (refine vcallD_pure (c1) rfl rfl rfl ?_) | (refine cond_intro (show (0 : Int) ≤ 0 ∧ (0 : Int) ≤ 4 ∧ (4 : Int) ≤ (t.size : Int) from by omega) ?_) | ((first | apply br_dec | apply br_ndec) <;> intro h <;> try (exfalso; (try dsimp only at h); omega)) | ((first | apply br_seq | apply br_nseq | apply br_not | apply br_intro) <;> intro h) | refine cond_a ?_)
        all_goals (conv => whnf)
        all_goals first
          | exact ret_out (l := [0]) rfl rfl trivial allRw_nil
          | (exfalso; omega)
          | (exfalso; exact hne h)
end Go.Proofs.YtdlpmmdbdjlojaaGreatDoor

/- The laws of package disk: short, is, write. -/
namespace Go.Proofs.YtdlpmmdbdjlojaaGreatDoor
open Go.RowKit Go.Sy
attribute [local irreducible] vcall vloop vcallD retP
set_option maxRecDepth 100000
set_option linter.unusedVariables false

end Go.Proofs.YtdlpmmdbdjlojaaGreatDoor

/- The law DiskWhole. -/
namespace Go.Proofs.YtdlpmmdbdjlojaaGreatDoor
open Go.RowKit Go.Sy
attribute [local irreducible] vcall vloop vcallD retP
set_option maxRecDepth 100000
set_option linter.unusedVariables false

theorem getD_app_lt {α : Type} (l m : List α) (i : Nat) (d : α) (h : i < l.length) : (l ++ m).getD i d = l.getD i d := by
  rw [List.getD, List.getD, List.getElem?_append_left h]
theorem getD_app_eq {α : Type} (l : List α) (x : α) (i : Nat) (d : α) (h : i = l.length) : (l ++ [x]).getD i d = x := by
  subst h; simp [List.getD]

theorem crashTo_ext (b : Nat → Bool) (pn pn' : List Int) (ps ps' l : List ByteArray) : ∀ k, (∀ i, i < k → pn.getD i 0 = pn'.getD i 0) → (∀ i, i < k → ps.getD i ⟨#[]⟩ = ps'.getD i ⟨#[]⟩) →
    crashTo b pn ps k l = crashTo b pn' ps' k l
  | 0, _, _ => rfl
  | k + 1, h1, h2 => by
    simp only [crashTo]
    rw [crashTo_ext b pn pn' ps ps' l k (fun i hi => h1 i (by omega)) (fun i hi => h2 i (by omega)), h1 k (by omega), h2 k (by omega)]
/-- All the pending writes on the flushed blocks make the blocks. -/
def Whole (d : Dk) : Prop := crashTo allB d.pn d.ps d.np d.kept = d.now
theorem putD_whole {d : Dk} (h : d.ok) (w : Whole d) (n : Int) (s : ByteArray) : Whole (putD d n s) := by
  unfold Whole at *
  show crashTo allB (d.pn ++ [n]) (d.ps ++ [s]) (d.np + 1) d.kept = d.now.set n.toNat s
  simp only [crashTo, allB, cond_true]
  rw [getD_app_eq _ _ _ _ h.pl.symm, getD_app_eq _ _ _ _ h.sl.symm,
    crashTo_ext _ (d.pn ++ [n]) d.pn (d.ps ++ [s]) d.ps d.kept d.np (fun i hi => getD_app_lt _ _ _ _ (by rw [h.pl]; exact hi)) (fun i hi => getD_app_lt _ _ _ _ (by rw [h.sl]; exact hi))]
  exact congrArg (fun z => z.set n.toNat s) w
end Go.Proofs.YtdlpmmdbdjlojaaGreatDoor

/- The law DiskCrashes. -/
namespace Go.Proofs.YtdlpmmdbdjlojaaGreatDoor
open Go.RowKit Go.Sy
attribute [local irreducible] vcall vloop vcallD retP
set_option maxRecDepth 100000
set_option linter.unusedVariables false

theorem w64u_nat (x : Nat) (h : x < 2 ^ 64) : IntKind.u64.wrap (x : Int) = (x : Int) := by
  have e : IntKind.u64.wrap (x : Int) = (x : Int) % 18446744073709551616 := rfl
  rw [e]; omega
theorem w8_nat (x : Nat) : IntKind.u8.wrap (x : Int) = ((x % 256 : Nat) : Int) := by
  have e : IntKind.u8.wrap (x : Int) = (x : Int) % 256 := rfl
  rw [e]; omega
theorem iand_one64 (x : Nat) (h : x < 2 ^ 64) : iand .u64 (x : Int) 1 = ((x % 2 : Nat) : Int) := by
  unfold iand
  have e : (BitVec.ofInt IntKind.u64.bits (x : Int) &&& BitVec.ofInt IntKind.u64.bits 1).toNat = x % 2 := by
    rw [show (1 : Int) = ((1 : Nat) : Int) from rfl, BitVec.ofInt_natCast, BitVec.ofInt_natCast, BitVec.toNat_and, BitVec.toNat_ofNat, BitVec.toNat_ofNat]
    rw [show IntKind.u64.bits = 64 from rfl, Nat.mod_eq_of_lt h, show 1 % 2 ^ 64 = 1 from rfl, Nat.and_one_is_mod]
  rw [e]
  have : x % 2 < 2 := Nat.mod_lt _ (by omega)
  exact w64u_nat _ (by omega)
theorem iand_one8 (x : Nat) (h : x < 2 ^ 8) : iand .u8 (x : Int) 1 = ((x % 2 : Nat) : Int) := by
  unfold iand
  have e : (BitVec.ofInt IntKind.u8.bits (x : Int) &&& BitVec.ofInt IntKind.u8.bits 1).toNat = x % 2 := by
    rw [show (1 : Int) = ((1 : Nat) : Int) from rfl, BitVec.ofInt_natCast, BitVec.ofInt_natCast, BitVec.toNat_and, BitVec.toNat_ofNat, BitVec.toNat_ofNat]
    rw [show IntKind.u8.bits = 8 from rfl, Nat.mod_eq_of_lt h, show 1 % 2 ^ 8 = 1 from rfl, Nat.and_one_is_mod]
  rw [e, w8_nat]
  have : x % 2 < 2 := Nat.mod_lt _ (by omega)
  rw [Nat.mod_eq_of_lt (a := x % 2) (by omega)]
theorem ishr_natk (k : IntKind) (x n : Nat) (h : n ≤ k.bits) : ishr k (x : Int) (n : Int) = ((x / 2 ^ n : Nat) : Int) := by
  unfold ishr
  rw [Int.toNat_natCast, Nat.min_eq_left h, Int.fdiv_eq_ediv_of_nonneg _ (by exact_mod_cast Nat.zero_le _)]
  push_cast
  rfl
theorem dec_nat (a b : Nat) : decide ((a : Int) = (b : Int)) = decide (a = b) := by simp [Int.ofNat_inj]

theorem bit_eq (m k : Nat) (hm : m < 2 ^ 64) (hk : k < 64) : crashB (m : Int) k = decide (iand .u64 (ishr .u64 (m : Int) (k : Int)) 1 = 1) := by
  have lt1 : m / 2 ^ k < 2 ^ 64 := Nat.lt_of_le_of_lt (Nat.div_le_self _ _) hm
  have e1 : crashB (m : Int) k = bitM m k := by
    unfold crashB
    rw [Nat.mod_eq_of_lt hk, List.getD, bpre_get _ _ _ _ hk]
    simp [hk]
  have lt2 : m / 2 ^ (8 * (k / 8)) % 256 / 2 ^ (k % 8) < 2 ^ 8 := Nat.lt_of_le_of_lt (Nat.div_le_self _ _) (Nat.mod_lt _ (by omega))
  rw [e1]
  unfold bitM
  rw [bitB_eq, ishr_natk _ _ _ (by show 8 * (k / 8) ≤ 64; omega), w8_nat, ishr_natk _ _ _ (by show k % 8 ≤ 8; omega), iand_one8 _ lt2, ishr_natk _ _ _ (by show k ≤ 64; omega), iand_one64 _ lt1]
  rw [show (1 : Int) = ((1 : Nat) : Int) from rfl, dec_nat, dec_nat, ← Nat.testBit_eq_decide_div_mod_eq, ← Nat.testBit_eq_decide_div_mod_eq, show 256 = 2 ^ 8 from rfl, Nat.testBit_mod_two_pow, Nat.testBit_div_two_pow]
  rw [show k % 8 + 8 * (k / 8) = k from Nat.mod_add_div k 8]
  simp [Nat.mod_lt]

end Go.Proofs.YtdlpmmdbdjlojaaGreatDoor

/- Contracts of package cardnetref48: its disk is a function of the program's disk. -/
namespace Go.Proofs.YtdlpmmdbdjlojaaGreatDoor
open Go.RowKit Go.Sy
attribute [local irreducible] vcall vloop vcallD retP
set_option maxRecDepth 100000
set_option linter.unusedVariables false

def rkC (p : Nat) (d : Dk) : List SV := [.sl 2 0 0 d.nn, .sl p 0 0 d.np, .bool d.down, .int .i64 d.steps, .int .u64 d.mask]
/-- The reference's disk in memory: handles 1, 2, and p for the pending writes. -/
def rkH (p : Nat) (d : Dk) : Heap :=
  [(1, some (.one false (.cells (rkC p d)))), (2, some (.one false (.cols d.nn [.sc (.strs d.kept)]))),
   (p, some (.one false (.cols d.np [.sc (.ints .i64 d.pn), .sc (.strs d.ps)])))]
theorem rkH_rw (p : Nat) (d : Dk) : allRw (rkH p d) := allRw_cons (allRw_cons (allRw_cons allRw_nil))

theorem ref_Blocks (d : Dk) : FC Tryz.prog 4 59 [.ptr 1 0 0 0] [(1, some (.one true (.cells (rkC 3 d))))] (isOut (.int .i64 d.nn) [] 4) := by
  refine fc_of mixed T_ok Tryz.func59 rfl (by kernel_rfl) (by kernel_rfl) (by kernel_rfl) ?_
  repeat' ((conv => whnf); first | ((first | apply br_dec | apply br_ndec) <;> intro h <;> try (exfalso; (try dsimp only at h); omega)) | ((first | apply br_seq | apply br_nseq | apply br_not | apply br_intro) <;> intro h) | refine cond_a ?_)
  all_goals (conv => whnf)
  exact ret_out (l := [0, 1, 2, 3]) rfl rfl trivial allRw_nil
theorem ref_Down (d : Dk) : FC Tryz.prog 4 34 [.ptr 1 0 0 0] [(1, some (.one true (.cells (rkC 3 d))))] (isOut (.bool d.down) [] 4) := by
  refine fc_of mixed T_ok Tryz.func34 rfl (by kernel_rfl) (by kernel_rfl) (by kernel_rfl) ?_
  repeat' ((conv => whnf); first | ((first | apply br_dec | apply br_ndec) <;> intro h <;> try (exfalso; (try dsimp only at h); omega)) | ((first | apply br_seq | apply br_nseq | apply br_not | apply br_intro) <;> intro h) | refine cond_a ?_)
  all_goals (conv => whnf)
  exact ret_out (l := [0, 1, 2, 3]) rfl rfl trivial allRw_nil

theorem ref_fails (d : Dk) (hs : 0 ≤ d.steps ∧ d.steps ≤ 1000000) : FC Tryz.prog 4 46 [.ptr 1 0 0 0] [(1, some (.one false (.cells (rkC 3 d))))]
    (isOut (.bool (decide (d.steps = 1))) [(1, some (.one false (.cells (rkC 3 (countD d)))))] 4) := by
  have hz : IntKind.i64.wrap (d.steps - 1) = d.steps - 1 := w64_in (by omega) (by omega)
  refine fc_of mixed T_ok Tryz.func46 rfl (by kernel_rfl) (by kernel_rfl) (by kernel_rfl) ?_
  repeat' ((conv => whnf); first | ((first | apply br_dec | apply br_ndec) <;> intro h <;> try (exfalso; (try dsimp only at h); omega)) | ((first | apply br_seq | apply br_nseq | apply br_not | apply br_intro) <;> intro h) | refine cond_a ?_)
  all_goals (conv => whnf)
  · refine ret_out (l := [0, 1, 2, 3]) rfl ?_ ⟨?_, trivial⟩ (allRw_cons allRw_nil)
    · rw [show decide (d.steps = 1) = false from decide_eq_false (by omega)]; rfl
    · have e : countZ d.steps = d.steps := by unfold countZ; rw [if_neg (by omega)]
      unfold countD; rw [e]; rfl
  · refine ret_out (l := [0, 1, 2, 3]) rfl ?_ ⟨?_, trivial⟩ (allRw_cons allRw_nil)
    · show SV.bool (decide (IntKind.i64.wrap (d.steps - 1) = 0)) = SV.bool (decide (d.steps = 1))
      rw [hz]
      exact congrArg SV.bool (decide_eq_decide.mpr (by omega))
    · have e : countZ d.steps = IntKind.i64.wrap (d.steps - 1) := by rw [hz]; unfold countZ; rw [if_pos (by omega)]
      unfold countD; rw [e]; rfl

theorem ref_crash (d : Dk) (h0 : d.ok) (m : Nat) (hm : m < 2 ^ 64) : FC Tryz.prog 4 44 [.ptr 1 0 0 0, .int .u64 m] (rkH 3 d) (isOut (.tup []) (rkH 4 (crashD m d)) 5) := by
  have hpm := h0.pm
  have hpl := h0.pl
  refine fc_of mixed T_ok Tryz.func44 rfl (by kernel_rfl) (by kernel_rfl) (by kernel_rfl) ?_
  repeat' ((conv => whnf); first | ((first | apply br_dec | apply br_ndec) <;> intro h <;> try (exfalso; (try dsimp only at h); omega)) | ((first | apply br_seq | apply br_nseq | apply br_not | apply br_intro) <;> intro h) | refine cond_a ?_)
  (conv => whnf)
  refine vloop_of (fun k : Nat => ⟨[(0, .ptr 1 0 0 0), (1, .int .u64 m), (4, .int .i64 k)],
    [(1, some (.one false (.cells (rkC 3 d)))), (2, some (.one false (.cols d.nn [.sc (.strs (crashTo (crashB m) d.pn d.ps k d.kept))]))),
     (3, some (.one false (.cols d.np [.sc (.ints .i64 d.pn), .sc (.strs d.ps)])))], 4⟩) (fun k => k ≤ d.np) (fun k => d.np - k) 0 [0, 1, 2, 3] [] ⟨rfl, ⟨rfl, rfl, rfl, trivial⟩, ⟨rfl, rfl, rfl, trivial⟩⟩ (by omega) ?_
  intro k hk
  by_cases hlt : k < d.np
  · have hk64 : (k : Int).tmod 64 = ((k % 64 : Nat) : Int) := by rw [Int.tmod_eq_emod_of_nonneg (by omega)]; omega
    have hku : IntKind.u64.wrap ((k : Int).tmod 64) = ((k % 64 : Nat) : Int) := by rw [hk64]; exact w64u_nat _ (by omega)
    have hb := h0.pb _ (getD_mem d.pn k 0 (by omega))
    have hc : crashB m k = decide (iand .u64 (ishr .u64 (m : Int) (IntKind.u64.wrap ((k : Int).tmod 64))) 1 = 1) := by
      rw [hku, ← bit_eq m (k % 64) hm (Nat.mod_lt _ (by omega))]
      unfold crashB; rw [Nat.mod_mod]
    repeat' ((conv => whnf); first | (refine cond_intro hb ?_) | (refine cond_intro (by rw [hku]; omega) ?_) | ((first | apply br_dec | apply br_ndec) <;> intro h <;> try (exfalso; (try dsimp only at h); omega)) | ((first | apply br_seq | apply br_nseq | apply br_not | apply br_intro) <;> intro h) | refine cond_a ?_)
    all_goals (conv => whnf)
    all_goals first | rw [decide_eq_true (by assumption)] at hc | rw [decide_eq_false (by assumption)] at hc
    all_goals refine ⟨k + 1, [0, 1, 2, 3], [], by omega, by omega, ⟨rfl, ⟨rfl, rfl, congrArg (fun z => some (SV.int .i64 z)) (i64_succ (by omega)), trivial⟩, ⟨rfl, ?_, rfl, trivial⟩⟩⟩
    all_goals refine congrArg (fun z => some (HB.one false (.cols d.nn [.sc (.strs z)]))) ?_
    all_goals (simp only [crashTo, hc]; rfl)
  · have e : k = d.np := by omega
    subst e
    repeat' ((conv => whnf); first | ((first | apply br_dec | apply br_ndec) <;> intro h <;> try (exfalso; (try dsimp only at h); omega)) | ((first | apply br_seq | apply br_nseq | apply br_not | apply br_intro) <;> intro h) | refine cond_a ?_)
    all_goals (conv => whnf)
    exact ret_up (l := [0, 1, 2, 3, 4]) [.cell 1 1 [.sc (.ints .i64 []), .sc (.strs [])]] ⟨rfl, rfl, rfl, rfl, rfl, trivial⟩ (rkH_rw _ _)

theorem ref_Crash (d : Dk) (h0 : d.ok) (m : Nat) (hm : m < 2 ^ 64) : FC Tryz.prog 4 18 [.ptr 1 0 0 0, .int .u64 m] (rkH 3 d) (isOut (.int .i64 (runE d)) (rkH 4 (crashed m d)) 5) := by
  rcases run_cases d with ⟨hr, hd⟩ | ⟨hr, hd⟩
  · rw [show crashed m d = d from by simp [crashed, hd], hr]
    refine fc_of mixed T_ok Tryz.func18 rfl (by kernel_rfl) (by kernel_rfl) (by kernel_rfl) ?_
    repeat' ((conv => whnf); first | ((first | apply br_dec | apply br_ndec) <;> intro h <;> try (exfalso; (try dsimp only at h); omega)) | ((first | apply br_seq | apply br_nseq | apply br_not | apply br_intro) <;> intro h) | refine cond_a ?_)
    all_goals first | (exfalso; simp_all; done) | ((conv => whnf); exact ret_out (l := [0, 1, 2, 3, 3]) rfl rfl ⟨rfl, rfl, rfl, trivial⟩ (rkH_rw _ _))
  · rw [show crashed m d = crashD m d from by simp [crashed, hd], hr]
    refine fc_of mixed T_ok Tryz.func18 rfl (by kernel_rfl) (by kernel_rfl) (by kernel_rfl) ?_
    repeat' ((conv => whnf); first | refine vcall_o (l := [0, 1, 2, 3]) (ref_crash d h0 m hm) ?_ | ((first | apply br_dec | apply br_ndec) <;> intro h <;> try (exfalso; (try dsimp only at h); omega)) | ((first | apply br_seq | apply br_nseq | apply br_not | apply br_intro) <;> intro h) | refine cond_a ?_)
    all_goals first | (exfalso; simp_all; done) | ((conv => whnf); exact ret_out (l := [0, 1, 2, 3, 4]) rfl rfl ⟨rfl, rfl, rfl, trivial⟩ (rkH_rw _ _))

theorem ref_Arm (d : Dk) (n m : Int) : FC Tryz.prog 4 16 [.ptr 1 0 0 0, .int .i64 n, .int .u64 m] [(1, some (.one false (.cells (rkC 3 d))))] (isOut (.int .i64 (armD d n m).2) [(1, some (.one false (.cells (rkC 3 (armD d n m).1))))] 4) := by
  rcases run_cases d with ⟨_, hd⟩ | ⟨_, hd⟩
  · rw [show armD d n m = (d, 13) from by simp [armD, hd]]
    refine fc_of mixed T_ok Tryz.func16 rfl (by kernel_rfl) (by kernel_rfl) (by kernel_rfl) ?_
    repeat' ((conv => whnf); first | ((first | apply br_dec | apply br_ndec) <;> intro h <;> try (exfalso; (try dsimp only at h); omega)) | ((first | apply br_seq | apply br_nseq | apply br_not | apply br_intro) <;> intro h) | refine cond_a ?_)
    all_goals first | (exfalso; simp_all; done) | ((conv => whnf); exact ret_out (l := [0, 1, 2, 3]) rfl rfl ⟨rfl, trivial⟩ (allRw_cons allRw_nil))
  · by_cases hn : n < 0 ∨ 1000000 < n
    · rw [show armD d n m = (d, 4) from by simp [armD, hd, hn]]
      refine fc_of mixed T_ok Tryz.func16 rfl (by kernel_rfl) (by kernel_rfl) (by kernel_rfl) ?_
      repeat' ((conv => whnf); first | ((first | apply br_dec | apply br_ndec) <;> intro h <;> try (exfalso; (try dsimp only at h); omega)) | ((first | apply br_seq | apply br_nseq | apply br_not | apply br_intro) <;> intro h) | refine cond_a ?_)
      all_goals first | (exfalso; simp_all; done) | ((conv => whnf); exact ret_out (l := [0, 1, 2, 3]) rfl rfl ⟨rfl, trivial⟩ (allRw_cons allRw_nil))
    · rw [show armD d n m = ({ d with steps := n, mask := m }, 0) from by simp [armD, hd, hn]]
      refine fc_of mixed T_ok Tryz.func16 rfl (by kernel_rfl) (by kernel_rfl) (by kernel_rfl) ?_
      repeat' ((conv => whnf); first | ((first | apply br_dec | apply br_ndec) <;> intro h <;> try (exfalso; (try dsimp only at h); omega)) | ((first | apply br_seq | apply br_nseq | apply br_not | apply br_intro) <;> intro h) | refine cond_a ?_)
      all_goals first | (exfalso; simp_all; done) | ((conv => whnf); exact ret_out (l := [0, 1, 2, 3]) rfl rfl ⟨rfl, trivial⟩ (allRw_cons allRw_nil))

theorem ref_Recover (d : Dk) : FC Tryz.prog 4 24 [.ptr 1 0 0 0] [(1, some (.one false (.cells (rkC 3 d))))] (isOut (.int .i64 (recoverD d).2) [(1, some (.one false (.cells (rkC 3 (recoverD d).1))))] 4) := by
  rcases run_cases d with ⟨_, hd⟩ | ⟨_, hd⟩
  · rw [show recoverD d = ({ d with down := false }, 0) from by simp [recoverD, hd]]
    refine fc_of mixed T_ok Tryz.func24 rfl (by kernel_rfl) (by kernel_rfl) (by kernel_rfl) ?_
    repeat' ((conv => whnf); first | ((first | apply br_dec | apply br_ndec) <;> intro h <;> try (exfalso; (try dsimp only at h); omega)) | ((first | apply br_seq | apply br_nseq | apply br_not | apply br_intro) <;> intro h) | refine cond_a ?_)
    all_goals first | (exfalso; simp_all; done) | ((conv => whnf); exact ret_out (l := [0, 1, 2, 3]) rfl rfl ⟨rfl, trivial⟩ (allRw_cons allRw_nil))
  · rw [show recoverD d = (d, 8) from by simp [recoverD, hd]]
    refine fc_of mixed T_ok Tryz.func24 rfl (by kernel_rfl) (by kernel_rfl) (by kernel_rfl) ?_
    repeat' ((conv => whnf); first | ((first | apply br_dec | apply br_ndec) <;> intro h <;> try (exfalso; (try dsimp only at h); omega)) | ((first | apply br_seq | apply br_nseq | apply br_not | apply br_intro) <;> intro h) | refine cond_a ?_)
    all_goals first | (exfalso; simp_all; done) | ((conv => whnf); exact ret_out (l := [0, 1, 2, 3]) rfl rfl ⟨rfl, trivial⟩ (allRw_cons allRw_nil))
end Go.Proofs.YtdlpmmdbdjlojaaGreatDoor

/- Contracts of package cardnetref48: Write, Flush, Read, New. -/
namespace Go.Proofs.YtdlpmmdbdjlojaaGreatDoor
open Go.RowKit Go.Sy
attribute [local irreducible] vcall vloop vcallD retP
set_option maxRecDepth 100000
set_option linter.unusedVariables false

theorem ref_crashZ (d : Dk) (h0 : d.ok) (m : Int) (hm : 0 ≤ m ∧ m < 2 ^ 64) : FC Tryz.prog 4 44 [.ptr 1 0 0 0, .int .u64 m] (rkH 3 d) (isOut (.tup []) (rkH 4 (crashD m d)) 5) := by
  obtain ⟨k, rfl⟩ := Int.eq_ofNat_of_zero_le hm.1
  exact ref_crash d h0 k (by omega)
theorem ref_CrashZ (d : Dk) (h0 : d.ok) (m : Int) (hm : 0 ≤ m ∧ m < 2 ^ 64) : FC Tryz.prog 4 18 [.ptr 1 0 0 0, .int .u64 m] (rkH 3 d) (isOut (.int .i64 (runE d)) (rkH 4 (crashed m d)) 5) := by
  obtain ⟨k, rfl⟩ := Int.eq_ofNat_of_zero_le hm.1
  exact ref_Crash d h0 k (by omega)

theorem ref_Write (d : Dk) (h0 : d.ok) (hm : 0 ≤ d.mask ∧ d.mask < 2 ^ 64) (n : Int) (s : ByteArray) : FC Tryz.prog 4 20 [.ptr 1 0 0 0, .int .i64 n, .str s] (rkH 3 d) (isOut (.int .i64 (writeD d n s).2) (rkH 4 (writeD d n s).1) 5) := by
  have hpm := h0.pm
  rcases run_cases d with ⟨hr, hd⟩ | ⟨hr, hd⟩
  · rw [show writeD d n s = (d, 13) from by simp [writeD, hd]]
    refine fc_of mixed T_ok Tryz.func20 rfl (by kernel_rfl) (by kernel_rfl) (by kernel_rfl) ?_
    repeat' ((conv => whnf); first | ((first | apply br_dec | apply br_ndec) <;> intro h <;> try (exfalso; (try dsimp only at h); omega)) | ((first | apply br_seq | apply br_nseq | apply br_not | apply br_intro) <;> intro h) | refine cond_a ?_)
    all_goals first | (exfalso; simp_all; done) | ((conv => whnf); exact ret_out (l := [0, 1, 2, 3, 3]) rfl rfl ⟨rfl, rfl, rfl, trivial⟩ (rkH_rw _ _))
  · by_cases hn : n < 0 ∨ d.nn ≤ n
    · rw [show writeD d n s = (d, 4) from by simp [writeD, hd, hn]]
      refine fc_of mixed T_ok Tryz.func20 rfl (by kernel_rfl) (by kernel_rfl) (by kernel_rfl) ?_
      repeat' ((conv => whnf); first | ((first | apply br_dec | apply br_ndec) <;> intro h <;> try (exfalso; (try dsimp only at h); omega)) | ((first | apply br_seq | apply br_nseq | apply br_not | apply br_intro) <;> intro h) | refine cond_a ?_)
      all_goals first | (exfalso; simp_all; done) | ((conv => whnf); exact ret_out (l := [0, 1, 2, 3, 3]) rfl rfl ⟨rfl, rfl, rfl, trivial⟩ (rkH_rw _ _))
    by_cases hs : 64 < s.size
    · rw [show writeD d n s = (d, 3) from by simp [writeD, hd, hn, hs]]
      refine fc_of mixed T_ok Tryz.func20 rfl (by kernel_rfl) (by kernel_rfl) (by kernel_rfl) ?_
      repeat' ((conv => whnf); first | ((first | apply br_dec | apply br_ndec) <;> intro h <;> try (exfalso; (try dsimp only at h); omega)) | ((first | apply br_seq | apply br_nseq | apply br_not | apply br_intro) <;> intro h) | refine cond_a ?_)
      all_goals first | (exfalso; simp_all; done) | ((conv => whnf); exact ret_out (l := [0, 1, 2, 3, 3]) rfl rfl ⟨rfl, rfl, rfl, trivial⟩ (rkH_rw _ _))
    by_cases hp : 4096 ≤ d.np
    · rw [show writeD d n s = (d, 12) from by simp [writeD, hd, hn, hs, hp]]
      refine fc_of mixed T_ok Tryz.func20 rfl (by kernel_rfl) (by kernel_rfl) (by kernel_rfl) ?_
      repeat' ((conv => whnf); first | ((first | apply br_dec | apply br_ndec) <;> intro h <;> try (exfalso; (try dsimp only at h); omega)) | ((first | apply br_seq | apply br_nseq | apply br_not | apply br_intro) <;> intro h) | refine cond_a ?_)
      all_goals first | (exfalso; simp_all; done) | ((conv => whnf); exact ret_out (l := [0, 1, 2, 3, 3]) rfl rfl ⟨rfl, rfl, rfl, trivial⟩ (rkH_rw _ _))
    have hok := putD_ok (s := s) h0 (n := n) (by omega) (by omega)
    have hfa := ref_fails (putD d n s) h0.sb
    by_cases ht : d.steps = 1
    · rw [show writeD d n s = (crashD d.mask (putD d n s), 13) from by simp [writeD, hd, hn, hs, hp, ht]]
      have hcr := ref_crashZ (countD (putD d n s)) (countD_ok hok) d.mask hm
      rw [show decide ((putD d n s).steps = 1) = true from decide_eq_true ht] at hfa
      refine fc_of mixed T_ok Tryz.func20 rfl (by kernel_rfl) (by kernel_rfl) (by kernel_rfl) ?_
      repeat' ((conv => whnf); first | refine vcall_o (l := [0, 1, 2, 5]) (hfa) ?_ | refine vcall_o (l := [0, 1, 2, 5]) (hcr) ?_ | ((first | apply br_dec | apply br_ndec) <;> intro h <;> try (exfalso; (try dsimp only at h); omega)) | ((first | apply br_seq | apply br_nseq | apply br_not | apply br_intro) <;> intro h) | refine cond_a ?_)
      all_goals first | (exfalso; simp_all; done) | ((conv => whnf); exact ret_out (l := [0, 1, 2, 3, 6]) rfl rfl ⟨rfl, rfl, rfl, trivial⟩ (rkH_rw _ _))
    · rw [show writeD d n s = (countD (putD d n s), 0) from by simp [writeD, hd, hn, hs, hp, ht]]
      rw [show decide ((putD d n s).steps = 1) = false from decide_eq_false ht] at hfa
      refine fc_of mixed T_ok Tryz.func20 rfl (by kernel_rfl) (by kernel_rfl) (by kernel_rfl) ?_
      repeat' ((conv => whnf); first | refine vcall_o (l := [0, 1, 2, 5]) (hfa) ?_ | ((first | apply br_dec | apply br_ndec) <;> intro h <;> try (exfalso; (try dsimp only at h); omega)) | ((first | apply br_seq | apply br_nseq | apply br_not | apply br_intro) <;> intro h) | refine cond_a ?_)
      all_goals first | (exfalso; simp_all; done) | ((conv => whnf); exact ret_out (l := [0, 1, 2, 3, 5]) rfl rfl ⟨rfl, rfl, rfl, trivial⟩ (rkH_rw _ _))

theorem ref_Flush (d : Dk) (h0 : d.ok) (hm : 0 ≤ d.mask ∧ d.mask < 2 ^ 64) : FC Tryz.prog 4 22 [.ptr 1 0 0 0] (rkH 3 d) (isOut (.int .i64 (flushD d).2) (rkH 4 (flushD d).1) 5) := by
  have hpm := h0.pm
  have hpl := h0.pl
  rcases run_cases d with ⟨hr, hd⟩ | ⟨hr, hd⟩
  · rw [show flushD d = (d, 13) from by simp [flushD, hd]]
    refine fc_of mixed T_ok Tryz.func22 rfl (by kernel_rfl) (by kernel_rfl) (by kernel_rfl) ?_
    repeat' ((conv => whnf); first | ((first | apply br_dec | apply br_ndec) <;> intro h <;> try (exfalso; (try dsimp only at h); omega)) | ((first | apply br_seq | apply br_nseq | apply br_not | apply br_intro) <;> intro h) | refine cond_a ?_)
    all_goals first | (exfalso; simp_all; done) | ((conv => whnf); exact ret_out (l := [0, 1, 2, 3, 3]) rfl rfl ⟨rfl, rfl, rfl, trivial⟩ (rkH_rw _ _))
  · have hfa := ref_fails d h0.sb
    by_cases ht : d.steps = 1
    · rw [show flushD d = (crashD d.mask d, 13) from by simp [flushD, hd, ht]]
      have hcr := ref_crashZ (countD d) (countD_ok h0) d.mask hm
      rw [show decide (d.steps = 1) = true from decide_eq_true ht] at hfa
      refine fc_of mixed T_ok Tryz.func22 rfl (by kernel_rfl) (by kernel_rfl) (by kernel_rfl) ?_
      repeat' ((conv => whnf); first | refine vcall_o (l := [0, 1, 2, 3]) (hfa) ?_ | refine vcall_o (l := [0, 1, 2, 3]) (hcr) ?_ | ((first | apply br_dec | apply br_ndec) <;> intro h <;> try (exfalso; (try dsimp only at h); omega)) | ((first | apply br_seq | apply br_nseq | apply br_not | apply br_intro) <;> intro h) | refine cond_a ?_)
      all_goals first | (exfalso; simp_all; done) | ((conv => whnf); exact ret_out (l := [0, 1, 2, 3, 4]) rfl rfl ⟨rfl, rfl, rfl, trivial⟩ (rkH_rw _ _))
    · rw [show flushD d = (countD (keepD d), 0) from by simp [flushD, hd, ht]]
      rw [show decide (d.steps = 1) = false from decide_eq_false ht] at hfa
      refine fc_of mixed T_ok Tryz.func22 rfl (by kernel_rfl) (by kernel_rfl) (by kernel_rfl) ?_
      repeat' ((conv => whnf); first | refine vcall_o (l := [0, 1, 2, 3]) (hfa) ?_ | ((first | apply br_dec | apply br_ndec) <;> intro h <;> try (exfalso; (try dsimp only at h); omega)) | ((first | apply br_seq | apply br_nseq | apply br_not | apply br_intro) <;> intro h) | refine cond_a ?_)
      all_goals try (exfalso; simp_all; done)
      (conv => whnf)
      refine vloop_of (fun k : Nat => ⟨[(0, .ptr 1 0 0 0), (3, .int .i64 k)],
        [(1, some (.one false (.cells (rkC 3 (countD d))))), (2, some (.one false (.cols d.nn [.sc (.strs (crashTo allB d.pn d.ps k d.kept))]))),
         (3, some (.one false (.cols d.np [.sc (.ints .i64 d.pn), .sc (.strs d.ps)])))], 4⟩) (fun k => k ≤ d.np) (fun k => d.np - k) 0 [0, 1, 2, 3] [] ⟨rfl, ⟨rfl, rfl, trivial⟩, ⟨rfl, rfl, rfl, trivial⟩⟩ (by omega) ?_
      intro k hk
      have hcn : (countD d).np = d.np := rfl
      by_cases hlt : k < d.np
      · have hb := h0.pb _ (getD_mem d.pn k 0 (by omega))
        repeat' ((conv => whnf); first | (refine cond_intro hb ?_) | ((first | apply br_dec | apply br_ndec) <;> intro h <;> try (exfalso; (try dsimp only at h); omega)) | ((first | apply br_seq | apply br_nseq | apply br_not | apply br_intro) <;> intro h) | refine cond_a ?_)
        all_goals (conv => whnf)
        all_goals refine ⟨k + 1, [0, 1, 2, 3], [], by omega, by omega, ⟨rfl, ⟨rfl, congrArg (fun z => some (SV.int .i64 z)) (i64_succ (by omega)), trivial⟩, ⟨rfl, rfl, rfl, trivial⟩⟩⟩
      · have e : k = d.np := by omega
        subst e
        repeat' ((conv => whnf); first | ((first | apply br_dec | apply br_ndec) <;> intro h <;> try (exfalso; (try dsimp only at h); omega)) | ((first | apply br_seq | apply br_nseq | apply br_not | apply br_intro) <;> intro h) | refine cond_a ?_)
        all_goals (conv => whnf)
        exact ret_up (l := [0, 1, 2, 3, 4]) [.cell 1 1 [.sc (.ints .i64 []), .sc (.strs [])]] ⟨rfl, rfl, rfl, rfl, rfl, trivial⟩ (rkH_rw _ _)

theorem getD_set {α : Type} (l : List α) (i j : Nat) (x z : α) (h : j < l.length) : (l.set i x).getD j z = if i = j then x else l.getD j z := by
  rw [List.getD, List.getD, List.getElem?_set]
  by_cases e : i = j
  · subst e; simp [h]
  · rw [if_neg e, if_neg e]

theorem ref_Read (d : Dk) (h0 : d.ok) (w : Whole d) (n : Int) : FC Tryz.prog 4 60 [.ptr 1 0 0 0, .int .i64 n] [(1, some (.one true (.cells (rkC 3 d)))), (2, some (.one true (.cols d.nn [.sc (.strs d.kept)]))), (3, some (.one true (.cols d.np [.sc (.ints .i64 d.pn), .sc (.strs d.ps)])))] (isOut (.tup [.str (readD d n).1, .int .i64 (readD d n).2]) [] 4) := by
  have hpm := h0.pm
  have hpl := h0.pl
  rcases run_cases d with ⟨hr, hd⟩ | ⟨hr, hd⟩
  · rw [show readD d n = (⟨#[]⟩, 13) from by simp [readD, hd]]
    refine fc_of mixed T_ok Tryz.func60 rfl (by kernel_rfl) (by kernel_rfl) (by kernel_rfl) ?_
    repeat' ((conv => whnf); first | ((first | apply br_dec | apply br_ndec) <;> intro h <;> try (exfalso; (try dsimp only at h); omega)) | ((first | apply br_seq | apply br_nseq | apply br_not | apply br_intro) <;> intro h) | refine cond_a ?_)
    all_goals first | (exfalso; simp_all; done) | ((conv => whnf); exact ret_out (l := [0, 1, 2, 3]) rfl rfl trivial allRw_nil)
  · by_cases hn : n < 0 ∨ d.nn ≤ n
    · rw [show readD d n = (⟨#[]⟩, 4) from by simp [readD, hd, hn]]
      refine fc_of mixed T_ok Tryz.func60 rfl (by kernel_rfl) (by kernel_rfl) (by kernel_rfl) ?_
      repeat' ((conv => whnf); first | ((first | apply br_dec | apply br_ndec) <;> intro h <;> try (exfalso; (try dsimp only at h); omega)) | ((first | apply br_seq | apply br_nseq | apply br_not | apply br_intro) <;> intro h) | refine cond_a ?_)
      all_goals first | (exfalso; simp_all; done) | ((conv => whnf); exact ret_out (l := [0, 1, 2, 3]) rfl rfl trivial allRw_nil)
    · rw [show readD d n = ((crashTo allB d.pn d.ps d.np d.kept).getD n.toNat ⟨#[]⟩, 0) from by rw [show crashTo allB d.pn d.ps d.np d.kept = d.now from w]; simp [readD, hd, hn]]
      refine fc_of mixed T_ok Tryz.func60 rfl (by kernel_rfl) (by kernel_rfl) (by kernel_rfl) ?_
      repeat' ((conv => whnf); first | ((first | apply br_dec | apply br_ndec) <;> intro h <;> try (exfalso; (try dsimp only at h); omega)) | ((first | apply br_seq | apply br_nseq | apply br_not | apply br_intro) <;> intro h) | refine cond_a ?_)
      all_goals try (exfalso; simp_all; done)
      (conv => whnf)
      refine vloop_of (fun k : Nat => ⟨[(0, .ptr 1 0 0 0), (1, .int .i64 n), (6, .str ((crashTo allB d.pn d.ps k d.kept).getD n.toNat ⟨#[]⟩)), (7, .int .i64 k)],
        [(1, some (.one true (.cells (rkC 3 d)))), (2, some (.one true (.cols d.nn [.sc (.strs d.kept)]))), (3, some (.one true (.cols d.np [.sc (.ints .i64 d.pn), .sc (.strs d.ps)])))], 4⟩) (fun k => k ≤ d.np) (fun k => d.np - k) 0 [0, 1, 2, 3] [] ⟨rfl, ⟨rfl, rfl, rfl, rfl, trivial⟩, ⟨rfl, rfl, rfl, trivial⟩⟩ (by omega) ?_
      intro k hk
      by_cases hlt : k < d.np
      · have hb := h0.pb _ (getD_mem d.pn k 0 (by omega))
        have hst : (crashTo allB d.pn d.ps (k + 1) d.kept).getD n.toNat ⟨#[]⟩ = if (d.pn.getD k 0).toNat = n.toNat then d.ps.getD k ⟨#[]⟩ else (crashTo allB d.pn d.ps k d.kept).getD n.toNat ⟨#[]⟩ := by
          simp only [crashTo, allB, cond_true]
          exact getD_set _ _ _ _ _ (by rw [crashTo_length, h0.kl]; omega)
        repeat' ((conv => whnf); first | ((first | apply br_dec | apply br_ndec) <;> intro h <;> try (exfalso; (try dsimp only at h); omega)) | ((first | apply br_seq | apply br_nseq | apply br_not | apply br_intro) <;> intro h) | refine cond_a ?_)
        all_goals (conv => whnf)
        all_goals refine ⟨k + 1, [0, 1, 2, 3], [], by omega, by omega, ⟨rfl, ⟨rfl, rfl, ?_, congrArg (fun z => some (SV.int .i64 z)) (i64_succ (by omega)), trivial⟩, ⟨rfl, rfl, rfl, trivial⟩⟩⟩
        · refine congrArg (fun z => some (SV.str z)) ?_
          have h' : d.pn.getD k 0 = n := h
          rw [hst, if_pos (by rw [h'])]; rfl
        · refine congrArg (fun z => some (SV.str z)) ?_
          have h' : ¬ d.pn.getD k 0 = n := h
          rw [hst, if_neg (by omega)]
      · have e : k = d.np := by omega
        subst e
        repeat' ((conv => whnf); first | ((first | apply br_dec | apply br_ndec) <;> intro h <;> try (exfalso; (try dsimp only at h); omega)) | ((first | apply br_seq | apply br_nseq | apply br_not | apply br_intro) <;> intro h) | refine cond_a ?_)
        all_goals (conv => whnf)
        exact ret_out (l := [0, 1, 2, 3]) rfl rfl trivial allRw_nil

theorem ref_New_no (n : Int) (h : n < 1 ∨ 4096 < n) : Pure Tryz.prog 5 [.int .i64 n] (.tup [.nptr, .int .i64 4]) := by
  refine fc_of mixed T_ok Tryz.func5 rfl (by kernel_rfl) (by kernel_rfl) (by kernel_rfl) ?_
  repeat' ((conv => whnf); first | ((first | apply br_dec | apply br_ndec) <;> intro h <;> try (exfalso; (try dsimp only at h); omega)) | ((first | apply br_seq | apply br_nseq | apply br_not | apply br_intro) <;> intro h) | refine cond_a ?_)
  all_goals (conv => whnf)
  all_goals exact ret_pure rfl

theorem ref_New (n : Nat) (h : 1 ≤ n ∧ n ≤ 4096) : FC Tryz.prog 1 5 [.int .i64 n] [] (isOut (.tup [.ptr 1 0 0 0, .int .i64 0]) (rkH 3 (newD n)) 4) := by
  refine fc_of mixed T_ok Tryz.func5 rfl (by kernel_rfl) (by kernel_rfl) (by kernel_rfl) ?_
  repeat' ((conv => whnf); first | ((first | apply br_dec | apply br_ndec) <;> intro h <;> try (exfalso; (try dsimp only at h); omega)) | ((first | apply br_seq | apply br_nseq | apply br_not | apply br_intro) <;> intro h) | refine cond_a ?_)
  all_goals (conv => whnf)
  exact ret_up (l := [0, 2, 1, 3]) [.cell 2 1 [.sc (.ints .i64 []), .sc (.strs [])]] ⟨rfl, rfl, rfl, rfl, rfl, trivial⟩ (rkH_rw _ _)
end Go.Proofs.YtdlpmmdbdjlojaaGreatDoor

/- The reference of the journal: group, Open. -/
namespace Go.Proofs.YtdlpmmdbdjlojaaGreatDoor
open Go.RowKit Go.Sy
attribute [local irreducible] vcall vloop vcallD retP
set_option maxRecDepth 100000
set_option linter.unusedVariables false
set_option linter.unusedSimpArgs false
attribute [local irreducible] seq ByteArray.extract
/-- What group tells besides, where there is none. -/
def rgE (now : List ByteArray) : Nat → Nat → Int → ByteArray → Int × Int
  | 0, _, _, _ => (0, 0)
  | f + 1, n, h, t => if unOk h (now.getD n ⟨#[]⟩) then (if lastB (now.getD n ⟨#[]⟩) = true then (match ucG (t ++ unP (now.getD n ⟨#[]⟩)) with | some _ => (0, 0) | none => (((n + 1 : Nat) : Int), chI h (unR (now.getD n ⟨#[]⟩)))) else rgE now f (n + 1) (chI h (unR (now.getD n ⟨#[]⟩))) (t ++ unP (now.getD n ⟨#[]⟩))) else (0, 0)
def gpOut (R : Option (List ByteArray × Nat × Int)) (E : Int × Int) : SV → Heap → Nat → Prop := match R with
  | none => isOut (.tup [.nsl, .int .i64 E.1, .int .u64 E.2, .bool false]) [] 4
  | some (g, n, h) => isOut (.tup [.sl 4 0 0 g.length, .int .i64 n, .int .u64 h, .bool true]) [(4, grW g.length g)] 5
abbrev rdkC (p : Nat) (d : Dk) : Option HB := some (.one true (.cells (rkC p d)))
abbrev rdkP (d : Dk) : Option HB := some (.one true (.cols d.np [.sc (.ints .i64 d.pn), .sc (.strs d.ps)]))
theorem rj_group (d : Dk) (hd : d.down = false) (h0 : d.ok) (w : Whole d) (hsz : ∀ b ∈ d.now, b.size ≤ 64) (u : Nat) (hu : u ≤ d.nn) (p : Int) :
    FC Tryz.prog 4 35 [.ptr 1 0 0 0, .int .i64 u, .int .u64 p] [(1, rdkC 3 d), (2, grB d.nn d.kept), (3, rdkP d)] (gpOut (rdK d.now (d.nn - u) u p ⟨#[]⟩) (rgE d.now (d.nn - u) u p ⟨#[]⟩)) := by
  have hnn := h0.nm
  have c1 := ref_Blocks d
  obtain ⟨R, hR⟩ : ∃ R, rdK d.now (d.nn - u) u p ⟨#[]⟩ = R := ⟨_, rfl⟩
  obtain ⟨E, hE⟩ : ∃ E, rgE d.now (d.nn - u) u p ⟨#[]⟩ = E := ⟨_, rfl⟩
  rw [hR, hE]
  refine fc_of mixed T_ok Tryz.func35 rfl (by kernel_rfl) (by kernel_rfl) (by kernel_rfl) ?_
  repeat' ((conv => whnf); first | ((first | apply br_dec | apply br_ndec) <;> intro h <;> try (exfalso; (try dsimp only at h); omega)) | ((first | apply br_seq | apply br_nseq | apply br_not | apply br_intro) <;> intro h) | refine cond_a ?_)
  all_goals (conv => whnf)
  refine vloop_of (fun x : Nat × Nat × Int × ByteArray => ⟨[(0, .ptr 1 0 0 0), (2, .int .u64 x.2.2.1), (10, .str x.2.2.2), (11, .int .i64 x.2.1)], [(1, rdkC 3 d), (2, grB d.nn d.kept), (3, rdkP d)], 4⟩) (fun x => x.2.1 + x.1 = d.nn ∧ rdK d.now x.1 x.2.1 x.2.2.1 x.2.2.2 = R ∧ rgE d.now x.1 x.2.1 x.2.2.1 x.2.2.2 = E ∧ x.2.2.2.size ≤ 64 * x.2.1) (fun x => x.1) (d.nn - u, u, p, ⟨#[]⟩) [0, 1, 2, 3] [] ⟨rfl, ⟨rfl, rfl, rfl, rfl, trivial⟩, ⟨rfl, rfl, rfl, trivial⟩⟩ ⟨by dsimp only; omega, hR, hE, Nat.zero_le _⟩ ?_
  rintro ⟨f, n, hh, t⟩ ⟨hf, hr, he, hs⟩
  dsimp only at hf hr he hs ⊢
  cases f with
  | zero =>
    have hr : R = none := hr.symm
    have he : E = (0, 0) := he.symm
    subst hr he
    repeat' ((conv => whnf); first | refine vcall_o (l := [0, 1, 2, 3]) (c1) ?_ | refine vcallD_o (l := [0, 1, 2, 3]) (c1) ?_ | ((first | apply br_dec | apply br_ndec) <;> intro h <;> try (exfalso; (try dsimp only at h); omega)) | ((first | apply br_seq | apply br_nseq | apply br_not | apply br_intro) <;> intro h) | refine cond_a ?_)
    all_goals (conv => whnf)
    all_goals first
      | (exfalso; omega)
      | exact ret_out (l := [0, 1, 2, 3]) rfl rfl trivial allRw_nil
  | succ f =>
    have hn : n < d.nn := by omega
    have c2 := ref_Read d h0 w (n : Int)
    have er : readD d (n : Int) = (d.now.getD n ⟨#[]⟩, 0) := by unfold readD; rw [if_neg (by rw [hd]; decide), if_neg (by omega), Int.toNat_natCast]
    rw [er] at c2
    have zB := sz_at hsz n
    have c3 := rj_payload hh (d.now.getD n ⟨#[]⟩) (by omega)
    generalize hB : d.now.getD n ⟨#[]⟩ = B at c2 c3 zB
    by_cases ho : unOk hh B
    · rw [if_pos ho] at c3
      have z1 := ho.1
      have zp := unP_size ho.1
      have ho' : unOk hh (d.now.getD n ⟨#[]⟩) := by rw [hB]; exact ho
      have k1 : t.size + (unP B).size ≤ 9223372036854775807 := by omega
      cases hl : lastB B with
      | false =>
        unfold unV at c3
        rw [hl] at c3
        rw [rd_more ho' (by rw [hB]; exact hl), hB] at hr
        have he' : rgE d.now f (n + 1) (chI hh (unR B)) (t ++ unP B) = E := by
          rw [← he]; simp only [rgE]; rw [if_pos ho', hB, hl, if_neg (by decide)]
        repeat' ((conv => whnf); first | refine vcall_o (l := [0, 1, 2, 3]) (c1) ?_ | refine vcallD_o (l := [0, 1, 2, 3]) (c1) ?_ | refine vcall_o (l := [0, 1, 2, 3]) (c2) ?_ | refine vcallD_o (l := [0, 1, 2, 3]) (c2) ?_ | (refine vcall_pure (c3) rfl rfl rfl ?_) | (refine vcallD_pure (c3) rfl rfl rfl ?_) | (refine cond_intro k1 ?_) | ((first | apply br_dec | apply br_ndec) <;> intro h <;> try (exfalso; (try dsimp only at h); omega)) | ((first | apply br_seq | apply br_nseq | apply br_not | apply br_intro) <;> intro h) | refine cond_a ?_)
        all_goals (conv => whnf)
        all_goals first
          | (exfalso; omega)
          | (exfalso; exact h rfl)
          | exact ⟨(f, n + 1, chI hh (unR B), t ++ unP B), [0, 1, 2, 3], [], ⟨by dsimp only; omega, hr, he', by dsimp only; rw [ba_size]; omega⟩, by dsimp only; omega, ⟨rfl, ⟨rfl, rfl, rfl, congrArg (fun z => some (SV.int .i64 z)) (i64_succ (by omega)), trivial⟩, ⟨rfl, rfl, rfl, trivial⟩⟩⟩
      | true =>
        unfold unV at c3
        rw [hl] at c3
        have c5 := rj_cut (t ++ unP B) (by rw [ba_size]; omega) (by rw [ba_size]; omega)
        rw [rd_last ho' (by rw [hB]; exact hl), hB] at hr
        have he' : (match ucG (t ++ unP B) with | some _ => ((0 : Int), (0 : Int)) | none => (((n + 1 : Nat) : Int), chI hh (unR B))) = E := by
          rw [← he]; simp only [rgE]; rw [if_pos ho', hB, hl, if_pos rfl]
        have e1 : IntKind.i64.wrap ((n : Int) + 1) = ((n + 1 : Nat) : Int) := i64_succ (by omega)
        cases hu : ucG (t ++ unP B) with
        | none =>
          rw [hu] at c5 hr he'
          subst hr he'
          simp only [ucOut] at c5
          repeat' ((conv => whnf); first | refine vcall_o (l := [0, 1, 2, 3]) (c1) ?_ | refine vcallD_o (l := [0, 1, 2, 3]) (c1) ?_ | refine vcall_o (l := [0, 1, 2, 3]) (c2) ?_ | refine vcallD_o (l := [0, 1, 2, 3]) (c2) ?_ | (refine vcall_pure (c3) rfl rfl rfl ?_) | (refine vcallD_pure (c3) rfl rfl rfl ?_) | (refine cond_intro k1 ?_) | refine vcall_o (l := [0]) (c5) ?_ | ((first | apply br_dec | apply br_ndec) <;> intro h <;> try (exfalso; (try dsimp only at h); omega)) | ((first | apply br_seq | apply br_nseq | apply br_not | apply br_intro) <;> intro h) | refine cond_a ?_)
          all_goals (conv => whnf)
          all_goals first
            | (exfalso; omega)
            | (exfalso; exact h rfl)
            | (rw [e1]; exact ret_out (l := [0, 1, 2, 3]) rfl rfl trivial allRw_nil)
        | some g =>
          rw [hu] at c5 hr he'
          subst hr he'
          simp only [ucOut] at c5
          repeat' ((conv => whnf); first | refine vcall_o (l := [0, 1, 2, 3]) (c1) ?_ | refine vcallD_o (l := [0, 1, 2, 3]) (c1) ?_ | refine vcall_o (l := [0, 1, 2, 3]) (c2) ?_ | refine vcallD_o (l := [0, 1, 2, 3]) (c2) ?_ | (refine vcall_pure (c3) rfl rfl rfl ?_) | (refine vcallD_pure (c3) rfl rfl rfl ?_) | (refine cond_intro k1 ?_) | refine vcall_o (l := [0]) (c5) ?_ | ((first | apply br_dec | apply br_ndec) <;> intro h <;> try (exfalso; (try dsimp only at h); omega)) | ((first | apply br_seq | apply br_nseq | apply br_not | apply br_intro) <;> intro h) | refine cond_a ?_)
          all_goals (conv => whnf)
          all_goals first
            | (exfalso; omega)
            | (exfalso; exact h rfl)
            | (rw [e1]; exact ret_out (l := [0, 1, 2, 3, 4]) rfl rfl ⟨rfl, trivial⟩ (allRw_cons allRw_nil))
    · rw [if_neg ho] at c3
      unfold unN at c3
      have ho' : ¬ unOk hh (d.now.getD n ⟨#[]⟩) := by rw [hB]; exact ho
      rw [rd_no ho'] at hr
      have he' : (0, 0) = E := by rw [← he]; simp only [rgE]; rw [if_neg ho']
      subst hr he'
      repeat' ((conv => whnf); first | refine vcall_o (l := [0, 1, 2, 3]) (c1) ?_ | refine vcallD_o (l := [0, 1, 2, 3]) (c1) ?_ | refine vcall_o (l := [0, 1, 2, 3]) (c2) ?_ | refine vcallD_o (l := [0, 1, 2, 3]) (c2) ?_ | (refine vcall_pure (c3) rfl rfl rfl ?_) | (refine vcallD_pure (c3) rfl rfl rfl ?_) | ((first | apply br_dec | apply br_ndec) <;> intro h <;> try (exfalso; (try dsimp only at h); omega)) | ((first | apply br_seq | apply br_nseq | apply br_not | apply br_intro) <;> intro h) | refine cond_a ?_)
      all_goals (conv => whnf)
      all_goals first
        | (exfalso; omega)
        | exact ret_out (l := [0, 1, 2, 3]) rfl rfl trivial allRw_nil
end Go.Proofs.YtdlpmmdbdjlojaaGreatDoor

/- Plain: what Commit wrote is read back; groups stay; nothing behind them. No program in sight. -/
namespace Go.Proofs.YtdlpmmdbdjlojaaGreatDoor
open Go.RowKit Go.Sy
set_option maxRecDepth 100000
set_option linter.unusedVariables false
set_option linter.unusedSimpArgs false
attribute [local irreducible] seq ByteArray.extract
theorem gd_app1 {α : Type} {l m : List α} {i : Nat} {d : α} (h : i < l.length) : (l ++ m).getD i d = l.getD i d := by rw [List.getD, List.getD, List.getElem?_append_left h]
theorem gd_app2 {α : Type} {l m : List α} {i : Nat} {d : α} (h : l.length ≤ i) : (l ++ m).getD i d = m.getD (i - l.length) d := by rw [List.getD, List.getD, List.getElem?_append_right h]
theorem nu_dig {A B : ByteArray} {w N : Nat} (h1 : 1 ≤ w) (h15 : w ≤ 15) (hN : N < 10 ^ w) (hA : A = bytesOf (digs w N)) : nuE (A ++ B) w = 0 ∧ nuV (A ++ B) w = (N : Int) := by
  have hz : A.size = w := by rw [hA, bytesOf_size, digs_length]
  have hs : (A ++ B).size = w + B.size := by rw [ByteArray.size_append, hz]
  have hx : (A ++ B).extract 0 w = A := extract_left hz
  obtain ⟨d1, d2⟩ := dg_digs hA w (Nat.le_refl _)
  have e1 := dgTo_ext (s := A ++ B) (w := w) (by omega) w (Nat.le_refl _)
  rw [hx] at e1
  have hd : dgTo (A ++ B) w = true := by rw [← e1.1]; exact d1
  have hn : numTo (A ++ B) w = (N : Int) := by
    rw [← e1.2, d2, Nat.sub_self, Nat.pow_zero, Nat.div_one, Nat.mod_eq_of_lt hN]
  rcases nu_cases (A ++ B) w with ⟨a1, a2, a3, _⟩ | ⟨_, _, _, h⟩
  · rw [Int.toNat_natCast] at a2
    exact ⟨a1, a2.trans hn⟩
  · rw [Int.toNat_natCast, hd] at h
    rcases h with ⟨_, h⟩ | ⟨_, _, _, h⟩ | ⟨_, _, _, _, h⟩
    · omega
    · omega
    · cases h
theorem nu_num {n w : Nat} (h : numOk n w) (R : ByteArray) : nuE (numS n w ++ R) w = 0 ∧ nuV (numS n w ++ R) w = (n : Int) := by
  have h1 := h.1
  have h2 := h.2.1
  have h4 := h.2.2.2
  rw [Int.toNat_natCast, Int.toNat_natCast] at h4
  refine nu_dig (by omega) (by omega) (Nat.lt_of_lt_of_le (ndig_lt n) (Nat.pow_le_pow_right (by omega) h4)) ?_
  rw [numS_ok h, Int.toNat_natCast, Int.toNat_natCast]
def markB (r : ByteArray) : ByteArray := if r.size ≤ 45 then dotS else plusS
theorem markB_size (r : ByteArray) : (markB r).size = 1 := by unfold markB; split <;> rfl
theorem bodyN_eq (r : ByteArray) : bodyN r = markB r ++ (numS (min r.size 45 : Nat) 2 ++ r.extract 0 (min r.size 45)) := by
  unfold bodyN markB
  rw [ByteArray.append_assoc]
theorem plus_ne_dot : plusS ≠ dotS := by decide
/-- A block is read. -/
theorem blk_ok {p : Int} {r : ByteArray} (h : 0 < r.size) :
    unOk p (hxS (chI p (bodyN r)) ++ bodyN r) ∧ unR (hxS (chI p (bodyN r)) ++ bodyN r) = bodyN r ∧ unP (hxS (chI p (bodyN r)) ++ bodyN r) = r.extract 0 (min r.size 45) ∧ lastB (hxS (chI p (bodyN r)) ++ bodyN r) = decide (r.size ≤ 45) := by
  have hz := hxS_size (chI p (bodyN r))
  generalize hB : hxS (chI p (bodyN r)) ++ bodyN r = B
  have bz := bodyN_size (r := r)
  have Bz : B.size = 16 + (3 + min r.size 45) := by rw [← hB, ba_size, hz, bz]
  have mz := markB_size r
  have n2 : (numS (min r.size 45 : Nat) 2).size = 2 := numS2_size (by omega)
  have xz : (r.extract 0 (min r.size 45)).size = min r.size 45 := ext_size (by omega)
  have eR : unR B = bodyN r := by
    unfold unR
    rw [← hB]
    exact extract_right hz (by rw [ba_size, hz])
  have e0 : B.extract 0 16 = hxS (chI p (bodyN r)) := by rw [← hB]; exact extract_left hz
  have eM : unM B = markB r := by
    unfold unM
    rw [eR, bodyN_eq]
    exact extract_left mz
  have eD : unD B = numS (min r.size 45 : Nat) 2 ++ r.extract 0 (min r.size 45) := by
    unfold unD
    rw [eR, bodyN_eq]
    exact extract_right mz (by rw [ba_size, mz])
  have eP : unP B = r.extract 0 (min r.size 45) := by
    unfold unP
    have : B = (hxS (chI p (bodyN r)) ++ (markB r ++ numS (min r.size 45 : Nat) 2)) ++ r.extract 0 (min r.size 45) := by
      rw [← hB, bodyN_eq, ByteArray.append_assoc, ByteArray.append_assoc]
    have hz2 : (hxS (chI p (bodyN r)) ++ (markB r ++ numS (min r.size 45 : Nat) 2)).size = 19 := by rw [ba_size, ba_size, hz, mz, n2]
    rw [this]
    exact extract_right hz2 (by rw [ba_size, hz2])
  have nn := nu_num (n := min r.size 45) (w := 2) (numOk2 (by omega)) (r.extract 0 (min r.size 45))
  refine ⟨⟨by omega, by rw [e0, eR], by rw [eD]; exact nn.1, by rw [eD, eP, xz]; exact nn.2, by rw [eP, xz]; omega, ?_⟩, eR, eP, ?_⟩
  · rw [eM, eP, xz]
    unfold markB
    by_cases h45 : r.size ≤ 45
    · rw [if_pos h45]; exact .inl rfl
    · rw [if_neg h45]; exact .inr ⟨rfl, by omega⟩
  · unfold lastB
    rw [eM]
    unfold markB
    by_cases h45 : r.size ≤ 45
    · rw [if_pos h45, seq_self]; simp [h45]
    · rw [if_neg h45, seq_no plus_ne_dot]; simp [h45]
theorem no_blk {p : Int} {b : ByteArray} (h : b = ⟨#[]⟩) : ¬ unOk p b := by
  intro ho
  have := ho.1
  rw [h] at this
  exact absurd this (by decide)

/-- A stream is cut into its records again. -/
theorem uc_strm : ∀ (g acc : List ByteArray) (f : Nat), okR g → acc.length + g.length ≤ 256 → (strm g).size < f → 0 < acc.length + g.length → ucR f (strm g) acc = some (acc ++ g) := by
  intro g
  induction g with
  | nil =>
    intro acc f _ _ hf h0
    obtain ⟨f, rfl⟩ : ∃ k, f = k + 1 := ⟨f - 1, by omega⟩
    rw [uc_end rfl (by simpa using h0), List.append_nil]
  | cons r g ih =>
    intro acc f hg hl hf h0
    have hr := hg r (by simp)
    have n4 := numS4_size (n := r.size) (by omega)
    have es : strm (r :: g) = numS r.size 4 ++ (r ++ strm g) := by simp only [strm]; rw [ByteArray.append_assoc]
    have sz : (strm (r :: g)).size = 4 + (r.size + (strm g).size) := by rw [es, ba_size, ba_size, n4]
    obtain ⟨f, rfl⟩ : ∃ k, f = k + 1 := ⟨f - 1, by omega⟩
    have nn : nuE (numS r.size 4 ++ (r ++ strm g)) 4 = 0 ∧ nuV (numS r.size 4 ++ (r ++ strm g)) 4 = (r.size : Int) := nu_num (n := r.size) (w := 4) (numOk4 (by omega)) (r ++ strm g)
    rw [← es] at nn
    have eN : ucN (strm (r :: g)) = r ++ strm g := by
      unfold ucN; rw [es]; exact extract_right n4 (by rw [ba_size, n4])
    have nv : nuV (strm (r :: g)) 4 = (r.size : Int) := nn.2
    have ha : ucA (strm (r :: g)) := ⟨nn.1, by rw [nv]; omega⟩
    have hb : ucB (strm (r :: g)) acc.length := ⟨by rw [nv, eN, ba_size]; omega, by simp only [List.length_cons] at hl; omega⟩
    have eR : ucRec (strm (r :: g)) = r := by unfold ucRec; rw [eN, nv, Int.toNat_natCast]; exact extract_left rfl
    have eT : ucT (strm (r :: g)) = strm g := by unfold ucT; rw [eN, nv, Int.toNat_natCast]; exact extract_right rfl (by rw [ba_size])
    rw [uc_step (by omega) ha hb, eR, eT, ih (acc ++ [r]) f (fun x hx => hg x (by simp [hx])) (by simp only [List.length_append, List.length_cons, List.length_nil] at hl ⊢; omega) (by omega) (by rw [List.length_append, List.length_singleton]; omega)]
    rw [List.append_assoc]; rfl
theorem uc_back {g : List ByteArray} (hg : okR g) (h1 : 0 < g.length) (h2 : g.length ≤ 256) : ucG (strm g) = some g := by
  unfold ucG
  rw [uc_strm g [] _ hg (by simpa using h2) (Nat.lt_succ_self _) (by simpa using h1)]; rfl
theorem ext_cat {r : ByteArray} {n : Nat} (h : n ≤ r.size) : r.extract 0 n ++ r.extract n r.size = r := by
  apply ext_ba
  simp only [ByteArray.data_append, Array.toList_append, ByteArray.data_extract, Array.toList_extract, List.extract_eq_take_drop, List.drop_zero, Nat.sub_zero]
  have hl : r.data.toList.length = r.size := by simp
  rw [List.take_of_length_le (l := List.drop n r.data.toList) (by rw [List.length_drop]; omega), List.take_append_drop]

section
variable {now : List ByteArray} {p : Int} {s : ByteArray} {u : Nat}
theorem bK_eq (p : Int) (s : ByteArray) (k : Nat) : bK p s k = hxS (chI (hK p s k) (bodyN (rsT s k))) ++ bodyN (rsT s k) := rfl
/-- A group that was written is read. -/
theorem rd_written : ∀ (m k f : Nat) (t : ByteArray), k + m + 1 = nblk s → (∀ i, k ≤ i → i < nblk s → now.getD (u + i) ⟨#[]⟩ = bK p s i) →
    rdK now (m + 1 + f) (u + k) (hK p s k) t = (match ucG (t ++ rsT s k) with | some g => some (g, u + nblk s, hK p s (nblk s)) | none => none) := by
  intro m
  induction m with
  | zero =>
    intro k f t hk hb
    have hz := rsT_size s k
    have hpos : 0 < (rsT s k).size := by unfold nblk at hk; omega
    have h45 : (rsT s k).size ≤ 45 := by unfold nblk at hk; omega
    obtain ⟨o1, o2, o3, o4⟩ := blk_ok (p := hK p s k) hpos
    have eb := hb k (Nat.le_refl _) (by omega)
    rw [bK_eq] at eb
    rw [show 0 + 1 + f = f + 1 from by omega, rd_last (by rw [eb]; exact o1) (by rw [eb, o4]; simp [h45]), eb, o2, o3, show min (rsT s k).size 45 = (rsT s k).size from by omega, ext_all]
    rw [show nblk s = k + 1 from by omega]
    rfl
  | succ m ih =>
    intro k f t hk hb
    have hz := rsT_size s k
    have h45 : 45 < (rsT s k).size := by unfold nblk at hk; omega
    obtain ⟨o1, o2, o3, o4⟩ := blk_ok (p := hK p s k) (r := rsT s k) (by omega)
    have eb := hb k (Nat.le_refl _) (by omega)
    rw [bK_eq] at eb
    rw [show m + 1 + 1 + f = (m + 1 + f) + 1 from by omega, rd_more (by rw [eb]; exact o1) (by rw [eb, o4]; simp only [decide_eq_false_iff_not]; omega), eb, o2, o3]
    have := ih (k + 1) f (t ++ (rsT s k).extract 0 (min (rsT s k).size 45)) (by omega) (fun i h1 h2 => hb i (by omega) h2)
    rw [show u + k + 1 = u + (k + 1) from by omega]
    refine this.trans ?_
    have ec : t ++ (rsT s k).extract 0 (min (rsT s k).size 45) ++ rsT s (k + 1) = t ++ rsT s k := by
      rw [ByteArray.append_assoc, ← rsT_succ, ext_cat (by omega)]
    rw [ec]
end
theorem rd_cong {now now' : List ByteArray} : ∀ {f n : Nat} {h : Int} {t : ByteArray} {g : List ByteArray} {n' : Nat} {h' : Int}, rdK now f n h t = some (g, n', h') → (∀ i, n ≤ i → i < n' → now'.getD i ⟨#[]⟩ = now.getD i ⟨#[]⟩) → rdK now' f n h t = some (g, n', h') := by
  intro f
  induction f with
  | zero => intro n h t g n' h' e; cases e
  | succ f ih =>
    intro n h t g n' h' e hc
    have hb := rd_bd e
    have e0 := hc n (Nat.le_refl _) hb.1
    by_cases ho : unOk h (now.getD n ⟨#[]⟩)
    · cases hl : lastB (now.getD n ⟨#[]⟩) with
      | true =>
        rw [rd_last ho hl] at e
        rw [rd_last (by rw [e0]; exact ho) (by rw [e0]; exact hl), e0]
        exact e
      | false =>
        rw [rd_more ho hl] at e
        rw [rd_more (by rw [e0]; exact ho) (by rw [e0]; exact hl), e0]
        exact ih e (fun i h1 h2 => hc i (by omega) h2)
    · rw [rd_no ho] at e; cases e

/-- The journals that stand on a disk's blocks. -/
inductive Ch (now : List ByteArray) (nn : Nat) : Nat → Jr → Prop where
  | zero : Ch now nn 0 jr0
  | step {k : Nat} {j : Jr} {r : List ByteArray × Nat × Int} : Ch now nn k j → rdK now (nn - j.used) j.used j.head ⟨#[]⟩ = some r → Ch now nn (k + 1) (nxJ j (some r))
theorem ch_jo {d : Dk} {k : Nat} {j : Jr} (h : Ch d.now d.nn k j) : JO d j ∧ k ≤ j.used := by
  induction h with
  | zero => exact ⟨jo_zero d, Nat.le_refl _⟩
  | @step k j r h hr ih =>
    obtain ⟨a, b⟩ := jo_next ih.1 (r := r) hr
    exact ⟨a, by omega⟩
theorem ch_op {d : Dk} {k : Nat} {j : Jr} (h : Ch d.now d.nn k j) : ∀ f, opK d (f + k) jr0 = opK d f j := by
  induction h with
  | zero => intro f; rfl
  | @step k j r h hr ih =>
    intro f
    rw [show f + (k + 1) = (f + 1) + k from by omega, ih]
    simp only [opK, nxR, hr]
theorem ch_open {d : Dk} {k : Nat} {j : Jr} (h : Ch d.now d.nn k j) (hn : nxR j d = none) : opJ d = j := by
  obtain ⟨a, b⟩ := ch_jo h
  have := a.us
  unfold opJ
  rw [show d.nn + 1 = ((d.nn - k) + 1) + k from by omega, ch_op h]
  simp only [opK, hn]
theorem ch_keep {now now' : List ByteArray} {nn k : Nat} {j : Jr} (h : Ch now nn k j) : (∀ i, i < j.used → now'.getD i ⟨#[]⟩ = now.getD i ⟨#[]⟩) → Ch now' nn k j := by
  induction h with
  | zero => intro _; exact .zero
  | @step k j r h hr ih =>
    intro hc
    obtain ⟨g, n, hh⟩ := r
    have hb := rd_bd hr
    refine .step (ih (fun i hi => hc i (by show i < n; omega))) (rd_cong hr (fun i h1 h2 => hc i h2))
/-- A disk and the journal that stands on it, with nothing behind. -/
structure Js (now : List ByteArray) (nn : Nat) (j : Jr) : Prop where
  ch : ∃ k, Ch now nn k j
  emp : ∀ i, j.used ≤ i → now.getD i ⟨#[]⟩ = ⟨#[]⟩
theorem js_none {d : Dk} {j : Jr} (h : Js d.now d.nn j) : nxR j d = none := by
  unfold nxR
  cases hf : d.nn - j.used with
  | zero => rfl
  | succ f => exact rd_no (no_blk (h.emp _ (Nat.le_refl _)))
theorem js_open {d : Dk} {j : Jr} (h : Js d.now d.nn j) : opJ d = j := by
  obtain ⟨k, hk⟩ := h.ch
  exact ch_open hk (js_none h)
theorem rep_at' (n i : Nat) : (List.replicate n (⟨#[]⟩ : ByteArray)).getD i ⟨#[]⟩ = ⟨#[]⟩ := by
  rw [List.getD, List.getElem?_replicate]; split <;> rfl
theorem js_new (n : Nat) : Js (List.replicate n ⟨#[]⟩) n jr0 := ⟨⟨0, .zero⟩, fun i _ => rep_at' n i⟩
/-- A group is there, as a whole. -/
theorem js_more {now now' : List ByteArray} {nn : Nat} {j : Jr} (h : Js now nn j) {g : List ByteArray} (hg : okR g) (h1 : 0 < g.length) (h2 : g.length ≤ 256) (hr : j.used + nblk (strm g) ≤ nn)
    (hb : ∀ i, i < nblk (strm g) → now'.getD (j.used + i) ⟨#[]⟩ = bK j.head (strm g) i) (hk : ∀ i, i < j.used ∨ j.used + nblk (strm g) ≤ i → now'.getD i ⟨#[]⟩ = now.getD i ⟨#[]⟩) :
    Js now' nn (addJ j g.length g (j.used + nblk (strm g)) (hK j.head (strm g) (nblk (strm g)))) := by
  obtain ⟨k, hc⟩ := h.ch
  have hs : 0 < (strm g).size := by rw [← stK_strm, stK_size hg]; have := szK_lt (g := g) g.length; omega
  obtain ⟨m, hm⟩ : ∃ m, nblk (strm g) = m + 1 := ⟨nblk (strm g) - 1, by unfold nblk; omega⟩
  have hrd := rd_written (now := now') (p := j.head) (s := strm g) (u := j.used) m 0 (nn - j.used - nblk (strm g)) ⟨#[]⟩ (by omega) (fun i _ hi => hb i hi)
  rw [rsT_zero, ba_nil, uc_back hg h1 h2, show m + 1 + (nn - j.used - nblk (strm g)) = nn - j.used from by omega] at hrd
  refine ⟨⟨k + 1, .step (ch_keep hc (fun i hi => hk i (.inl hi))) hrd⟩, fun i hi => ?_⟩
  have hi : j.used + nblk (strm g) ≤ i := hi
  rw [hk i (.inr hi)]
  exact h.emp i (by omega)
theorem wrN_at (u : Nat) (bl : List ByteArray) : ∀ (r k : Nat) (l : List ByteArray) (i : Nat), u + k + r ≤ l.length → (wrN u bl r k l).getD i ⟨#[]⟩ = if u + k ≤ i ∧ i < u + k + r then bl.getD (i - u) ⟨#[]⟩ else l.getD i ⟨#[]⟩ := by
  intro r
  induction r with
  | zero => intro k l i _; rw [if_neg (by omega)]; rfl
  | succ r ih =>
    intro k l i hl
    simp only [wrN]
    rw [ih (k + 1) _ i (by rw [List.length_set]; omega)]
    by_cases h1 : u + (k + 1) ≤ i ∧ i < u + (k + 1) + r
    · rw [if_pos h1, if_pos (by omega)]
    · rw [if_neg h1]
      by_cases h2 : i = u + k
      · subst h2
        rw [if_pos (by omega), List.getD, List.getElem?_set_self (by omega), Option.getD_some, show u + k - u = k from by omega]
      · rw [if_neg (by omega), List.getD, List.getElem?_set_ne (by omega)]; rfl
end Go.Proofs.YtdlpmmdbdjlojaaGreatDoor

/- Plain: filling a group, and committing it on a disk that does not crash. No program in sight. -/
namespace Go.Proofs.YtdlpmmdbdjlojaaGreatDoor
open Go.RowKit Go.Sy
set_option maxRecDepth 100000
set_option linter.unusedVariables false
set_option linter.unusedSimpArgs false
attribute [local irreducible] seq ByteArray.extract
def Jr.with (j : Jr) (g : List ByteArray) : Jr := { j with grp := g, ng := g.length }
/-- What is there of a journal between two groups. -/
structure Jz (j : Jr) : Prop where
  ge : j.grp = []
  gz : j.ng = 0
  st : j.stopped = false
theorem jz_with {j : Jr} (h : Jz j) : j.with [] = j := by
  obtain ⟨a, b, c, e, f, g, n, s⟩ := j
  have h1 := h.ge
  have h2 := h.gz
  simp only at h1 h2
  subst h1 h2
  rfl
/-- The group fits. -/
structure Gf (j : Jr) (d : Dk) (g : List ByteArray) : Prop where
  ok : okR g
  le : g.length ≤ 256
  rm : nblk (strm g) ≤ d.nn - j.used
theorem szK_app1 {g : List ByteArray} {r : ByteArray} : ∀ k, k ≤ g.length → szK (g ++ [r]) k = szK g k
  | 0, _ => rfl
  | k + 1, h => by
    simp only [szK]
    rw [szK_app1 k (by omega), gd_app1 (by omega)]
theorem szK_app {g : List ByteArray} {r : ByteArray} : szK (g ++ [r]) (g.length + 1) = szK g g.length + (4 + r.size) := by
  simp only [szK]
  rw [szK_app1 _ (Nat.le_refl _), gd_app2 (Nat.le_refl _), Nat.sub_self]
  rfl
theorem gf_nil (j : Jr) (d : Dk) : Gf j d [] := by
  refine ⟨?_, ?_, ?_⟩
  · intro r hr; cases hr
  · exact Nat.zero_le _
  · show nblk ⟨#[]⟩ ≤ _; exact Nat.zero_le _
theorem nblk_sz {g : List ByteArray} (h : okR g) : nblk (strm g) = (szK g g.length + 44) / 45 := by
  unfold nblk
  rw [← stK_strm, stK_size h]
theorem gf_cut {j : Jr} {d : Dk} {g : List ByteArray} (h : Gf j d g) (h0 : g ≠ []) : cutE g = 0 := by
  unfold cutE
  have : g.length ≠ 0 := fun e => h0 (List.eq_nil_of_length_eq_zero e)
  have := h.le
  rw [if_neg (by omega), if_neg (by omega), longK_of h.ok, if_neg (by decide)]
theorem gf_ok {j : Jr} {d : Dk} {g : List ByteArray} (hj : JO d j) (h : Gf j d g) : (j.with g).ok d := ⟨hj.rl, rfl, hj.us, hj.gs, hj.rm, h.le, h.ok, hj.hb⟩
theorem wrN_sz {u : Nat} {bl : List ByteArray} (hb : ∀ b ∈ bl, b.size ≤ 64) : ∀ (r k : Nat) (l : List ByteArray), (∀ b ∈ l, b.size ≤ 64) → ∀ b ∈ wrN u bl r k l, b.size ≤ 64
  | 0, _, l, h => h
  | r + 1, k, l, h => by
    simp only [wrN]
    refine wrN_sz hb r (k + 1) _ (fun b hx => ?_)
    rcases List.mem_or_eq_of_mem_set hx with hx | rfl
    · exact h b hx
    · exact sz_at hb k
theorem wrAll_ok {u : Nat} {bl : List ByteArray} : ∀ (r k : Nat) {d : Dk}, d.ok → (wrAll u bl r k d).1.ok
  | 0, _, d, h => h
  | r + 1, k, d, h => by
    simp only [wrAll]
    split
    · exact wrAll_ok r (k + 1) (writeD_ok h _ _)
    · exact writeD_ok h _ _
/-- A disk in peace with a journal on it. -/
structure Jw (d : Dk) (j : Jr) : Prop where
  ok : d.ok
  fr : d.free
  np : d.np = 0
  nn : d.nn ≤ 2000
  sz : ∀ b ∈ d.now, b.size ≤ 64
  jo : JO d j
  js : Js d.now d.nn j
theorem Jw.z {d : Dk} {j : Jr} (h : Jw d j) : Jz j := ⟨h.jo.ge, h.jo.gz, h.jo.st⟩
theorem Jw.op {d : Dk} {j : Jr} (h : Jw d j) : opJ d = j := js_open h.js
def nextJ (j : Jr) (g : List ByteArray) : Jr := addJ j g.length g (j.used + nblk (strm g)) (hK j.head (strm g) (nblk (strm g)))
theorem cm_nil {j : Jr} {d : Dk} (h : Jz j) : cmR (j.with []) d = (j, d, 8) := by
  rw [jz_with h]
  unfold cmR
  rw [if_neg (by rw [h.st]; decide), if_pos (by rw [h.ge]; decide), h.ge]
  rfl
theorem cm_full {j : Jr} {d : Dk} {g : List ByteArray} (h : Jw d j) (hg : Gf j d g) (h0 : g ≠ []) :
    (cmR (j.with g) d).2.2 = 0 ∧ (cmR (j.with g) d).1 = nextJ j g ∧ Jw (cmR (j.with g) d).2.1 (nextJ j g) ∧ (cmR (j.with g) d).2.1.nn = d.nn := by
  have hz := h.z
  have hrm := hg.rm
  have hnn := h.nn
  have hus := h.jo.us
  have hl : 0 < g.length := by cases g with | nil => exact absurd rfl h0 | cons a b => simp
  have hbs := bkL_sz j.head (strm g) (nblk (strm g))
  obtain ⟨w1, w2, w3, w4⟩ := wr_free (u := j.used) hbs (nblk (strm g)) 0 d h.fr (by omega) (by rw [h.np]; omega)
  have wok := wrAll_ok (u := j.used) (bl := bkL j.head (strm g) (nblk (strm g))) (nblk (strm g)) 0 h.ok
  have eW : cmW (j.with g) d = wrAll j.used (bkL j.head (strm g) (nblk (strm g))) (nblk (strm g)) 0 d := rfl
  have hfl := fl_free w2
  have er : cmR (j.with g) d = (nextJ j g, keepD (wrAll j.used (bkL j.head (strm g) (nblk (strm g))) (nblk (strm g)) 0 d).1, 0) := by
    unfold cmR
    rw [if_neg (show ¬ (j.with g).stopped = true by show ¬ j.stopped = true; rw [hz.st]; decide), if_neg (show ¬ cutE (j.with g).grp ≠ 0 from fun e => e (gf_cut hg h0)), eW, if_neg (by rw [w1]; decide), hfl, if_neg (by simp)]
    refine Prod.ext ?_ rfl
    obtain ⟨a, b, c, e, f, gg, n, s⟩ := j
    have h1 := hz.ge
    have h2 := hz.gz
    have h3 := hz.st
    simp only at h1 h2 h3
    subst h1 h2 h3
    rfl
  have enn : (wrAll j.used (bkL j.head (strm g) (nblk (strm g))) (nblk (strm g)) 0 d).1.nn = d.nn := by
    have : ∀ (r k : Nat) (d : Dk), (wrAll j.used (bkL j.head (strm g) (nblk (strm g))) r k d).1.nn = d.nn := by
      intro r
      induction r with
      | zero => intro k d; rfl
      | succ r ih =>
        intro k d
        simp only [wrAll]
        split
        · rw [ih, writeD_nn]
        · rw [writeD_nn]
    exact this _ _ _
  rw [er]
  refine ⟨rfl, rfl, ?_, enn⟩
  have enow : (keepD (wrAll j.used (bkL j.head (strm g) (nblk (strm g))) (nblk (strm g)) 0 d).1).now = wrN j.used (bkL j.head (strm g) (nblk (strm g))) (nblk (strm g)) 0 d.now := w3
  have hlen : d.now.length = d.nn := h.ok.nl
  have hat := wrN_at j.used (bkL j.head (strm g) (nblk (strm g))) (nblk (strm g)) 0 d.now
  refine ⟨keepD_ok wok, ⟨w2.dn, w2.st⟩, rfl, ?_, ?_, ?_, ?_⟩
  · show (wrAll _ _ _ _ _).1.nn ≤ 2000; rw [enn]; exact hnn
  · rw [enow]; exact wrN_sz hbs _ _ _ h.sz
  · have jo := h.jo
    have gs := jo.gs
    have rl := jo.rl
    have rm := jo.rm
    have hnb : 0 < nblk (strm g) := by
      have : 0 < (strm g).size := by rw [← stK_strm, stK_size hg.ok]; have := szK_lt (g := g) g.length; omega
      unfold nblk; omega
    have hle := hg.le
    have enn' : (keepD (wrAll j.used (bkL j.head (strm g) (nblk (strm g))) (nblk (strm g)) 0 d).1).nn = d.nn := enn
    refine ⟨by rw [enn']; show j.used + nblk (strm g) ≤ d.nn; omega, by show j.groups + 1 ≤ j.used + nblk (strm g); omega, by show (j.recs ++ g).length = j.nr + g.length; rw [List.length_append]; omega, by show j.nr + g.length ≤ 256 * (j.groups + 1); omega, jo.ge, jo.gz, jo.st, ?_⟩
    exact hK_bd jo.hb _ _
  · rw [enow, show (keepD (wrAll j.used (bkL j.head (strm g) (nblk (strm g))) (nblk (strm g)) 0 d).1).nn = d.nn from enn]
    refine js_more h.js hg.ok hl hg.le (by omega) (fun i hi => ?_) (fun i hi => ?_)
    · rw [hat _ (by omega), if_pos (by omega), show j.used + i - j.used = i from by omega, bkL_get _ _ hi]
    · rw [hat _ (by omega), if_neg (by omega)]
theorem jw_new (n : Nat) (h : 1 ≤ n ∧ n ≤ 2000) : Jw (newD n) jr0 :=
  ⟨newD_ok n (by omega), ⟨rfl, rfl⟩, rfl, h.2, (fun b hb => by simp only [newD, List.mem_replicate] at hb; rw [hb.2]; decide), jo_zero _, js_new n⟩
end Go.Proofs.YtdlpmmdbdjlojaaGreatDoor

/- Plain: committing a group on a disk that may crash. No program in sight. -/
namespace Go.Proofs.YtdlpmmdbdjlojaaGreatDoor
open Go.RowKit Go.Sy
set_option maxRecDepth 100000
set_option linter.unusedVariables false
set_option linter.unusedSimpArgs false
attribute [local irreducible] seq ByteArray.extract
/-- A disk that is up, with a journal on it. -/
structure Aw (d : Dk) (j : Jr) : Prop where
  ok : d.ok
  dn : d.down = false
  np : d.np = 0
  kp : d.kept = d.now
  nn : d.nn ≤ 2000
  sz : ∀ b ∈ d.now, b.size ≤ 64
  jo : JO d j
  js : Js d.now d.nn j
theorem Aw.z {d : Dk} {j : Jr} (h : Aw d j) : Jz j := ⟨h.jo.ge, h.jo.gz, h.jo.st⟩
theorem Aw.op {d : Dk} {j : Jr} (h : Aw d j) : opJ d = j := js_open h.js
end Go.Proofs.YtdlpmmdbdjlojaaGreatDoor

/- Contracts of the law's own functions: long, same, fill. -/
namespace Go.Proofs.YtdlpmmdbdjlojaaGreatDoor
open Go.RowKit Go.Sy
attribute [local irreducible] vcall vloop vcallD retP
set_option maxRecDepth 100000
set_option linter.unusedVariables false
set_option linter.unusedSimpArgs false
attribute [local irreducible] seq ByteArray.extract
theorem i64_succ2 {k : Nat} (h : k < 9223372036854775807) : IntKind.i64.wrap ((k : Int) + 1) = ((k + 1 : Nat) : Int) := by rw [w64_in (by omega) (by omega)]; rfl
theorem law_same (a : List ByteArray) (n : Nat) (hl : a.length = n) (hn : n ≤ maxLen) : FC Tryz.prog 3 47 [.sl 1 0 0 n, .sl 2 0 0 n] [(1, grB n a), (2, grB n a)] (isOut (.bool true) [] 3) := by
  unfold maxLen at hn
  refine fc_of mixed T_ok Tryz.func47 rfl (by kernel_rfl) (by kernel_rfl) (by kernel_rfl) ?_
  repeat' ((conv => whnf); first | ((first | apply br_dec | apply br_ndec) <;> intro h <;> try (exfalso; (try dsimp only at h); omega)) | ((first | apply br_seq | apply br_nseq | apply br_not | apply br_intro) <;> intro h) | refine cond_a ?_)
  all_goals (conv => whnf)
  all_goals first
    | (exfalso; omega)
    | skip
  refine vloop_of (fun k : Nat => ⟨[(0, .sl 1 0 0 n), (1, .sl 2 0 0 n), (5, .int .i64 k)], [(1, grB n a), (2, grB n a)], 3⟩) (fun k => k ≤ n) (fun k => n - k) 0 [0, 1, 2] [] ⟨rfl, ⟨rfl, rfl, rfl, trivial⟩, ⟨rfl, rfl, trivial⟩⟩ (Nat.zero_le _) ?_
  intro k hk
  by_cases hlt : k < n
  · repeat' ((conv => whnf); first | ((first | apply br_dec | apply br_ndec) <;> intro h <;> try (exfalso; (try dsimp only at h); omega)) | ((first | apply br_seq | apply br_nseq | apply br_not | apply br_intro) <;> intro h) | refine cond_a ?_)
    all_goals (conv => whnf)
    all_goals first
      | (exfalso; omega)
      | (exfalso; exact h rfl)
      | exact ⟨k + 1, [0, 1, 2], [], by omega, by omega, ⟨rfl, ⟨rfl, rfl, congrArg (fun z => some (SV.int .i64 z)) (i64_succ2 (by omega)), trivial⟩, ⟨rfl, rfl, trivial⟩⟩⟩
  · obtain rfl : k = n := by omega
    repeat' ((conv => whnf); first | ((first | apply br_dec | apply br_ndec) <;> intro h <;> try (exfalso; (try dsimp only at h); omega)) | ((first | apply br_seq | apply br_nseq | apply br_not | apply br_intro) <;> intro h) | refine cond_a ?_)
    all_goals (conv => whnf)
    all_goals first
      | (exfalso; omega)
      | exact ret_out (l := [0, 1, 2]) rfl rfl trivial allRw_nil
end Go.Proofs.YtdlpmmdbdjlojaaGreatDoor

/- Contracts of the law's own functions: fill; of the journal's Records. -/
namespace Go.Proofs.YtdlpmmdbdjlojaaGreatDoor
open Go.RowKit Go.Sy
attribute [local irreducible] vcall vloop vcallD retP
set_option maxRecDepth 100000
set_option linter.unusedVariables false
set_option linter.unusedSimpArgs false
attribute [local irreducible] seq ByteArray.extract
theorem seg_all {α : Type} {l : List α} {n : Nat} (h : l.length = n) : seg 0 n l = l := by
  unfold seg; rw [List.drop_zero, List.take_of_length_le (by omega)]
theorem str_Clone (n : Nat) (l : List ByteArray) (hl : l.length = n) (hn : n ≤ 1000000) : FC Tryz.prog 2 52 [.sl 1 0 0 n] [(1, some (.one true (.cols n [.sc (.strs l)])))] (isOut (.sl 2 0 0 n) [(2, some (.one false (.cols n [.sc (.strs l)])))] 3) := by
  cases n with
  | zero =>
    obtain rfl := List.eq_nil_of_length_eq_zero hl
    refine fc_nil rfl ?_
    refine fc_of mixed T_ok Tryz.func52 rfl (by kernel_rfl) (by kernel_rfl) (by kernel_rfl) ?_
    repeat' ((conv => whnf); first | ((first | apply br_dec | apply br_ndec) <;> intro h <;> try (exfalso; (try dsimp only at h); omega)) | ((first | apply br_seq | apply br_nseq | apply br_not | apply br_intro) <;> intro h) | refine cond_a ?_ | (refine And.intro ?_ ?_))
    all_goals (conv => whnf)
    all_goals first
      | exact retP_mono (fun _ _ _ h => .inl h) (ret_out (l := [0, 1]) rfl rfl trivial allRw_nil)
      | exact retP_mono (fun _ _ _ h => .inr h) (ret_out (l := [0, 1, 3]) rfl rfl ⟨rfl, trivial⟩ (allRw_cons allRw_nil))
      | decide
  | succ n =>
    refine fc_of mixed T_ok Tryz.func52 rfl (by kernel_rfl) (by kernel_rfl) (by kernel_rfl) ?_
    repeat' ((conv => whnf); first | ((first | apply br_dec | apply br_ndec) <;> intro h <;> try (exfalso; (try dsimp only at h); omega)) | ((first | apply br_seq | apply br_nseq | apply br_not | apply br_intro) <;> intro h) | refine cond_a ?_)
    all_goals (conv => whnf)
    all_goals (rw [Nat.zero_add (n + 1), seg_all hl]; exact ret_out (l := [0, 1, 3]) rfl rfl ⟨rfl, trivial⟩ (allRw_cons allRw_nil))
theorem jr_Records (j : Jr) (hl : j.recs.length = j.nr) (hn : j.nr ≤ 1000000) : FC Tryz.prog 8 26 [.ptr 1 0 0 0] [(1, cellB true (jrC 5 6 j)), (5, grB j.nr j.recs)] (isOut (.sl 8 0 0 j.nr) [(8, grW j.nr j.recs)] 9) := by
  have c := str_Clone j.nr j.recs hl hn
  refine fc_of mixed T_ok Tryz.func26 rfl (by kernel_rfl) (by kernel_rfl) (by kernel_rfl) ?_
  repeat' ((conv => whnf); first | refine vcall_o (l := [0, 5]) (c) ?_ | refine vcallD_o (l := [0, 5]) (c) ?_ | ((first | apply br_dec | apply br_ndec) <;> intro h <;> try (exfalso; (try dsimp only at h); omega)) | ((first | apply br_seq | apply br_nseq | apply br_not | apply br_intro) <;> intro h) | refine cond_a ?_)
  all_goals (conv => whnf)
  all_goals exact ret_out (l := [0, 1, 2, 3, 4, 5, 6, 7, 8]) rfl rfl ⟨rfl, trivial⟩ (allRw_cons allRw_nil)

def a1 : ByteArray := ⟨#[97]⟩
theorem aw_okR : okR [a1] := by intro r hr; simp only [List.mem_singleton] at hr; rw [hr]; decide
theorem aw_nblk : nblk (strm [a1]) = 1 := by rw [nblk_sz aw_okR]; decide
theorem aw_strm : strm [a1] = ⟨#[48, 48, 48, 49, 97]⟩ := by
  have : numS (a1.size : Nat) 4 = bytesOf (digs 4 1) := numS_ok (numOk4 (n := 1) (by omega))
  simp only [strm]
  rw [this]
  decide
theorem aw_body : bodyN (rsT (strm [a1]) 0) = ⟨#[46, 48, 53, 48, 48, 48, 49, 97]⟩ := by
  have : numS (5 : Nat) 2 = bytesOf (digs 2 5) := numS_ok (numOk2 (n := 5) (by omega))
  rw [rsT_zero, aw_strm]
  unfold bodyN
  rw [show (min (⟨#[48, 48, 48, 49, 97]⟩ : ByteArray).size 45) = 5 from rfl, this, show (⟨#[48, 48, 48, 49, 97]⟩ : ByteArray).extract 0 5 = ⟨#[48, 48, 48, 49, 97]⟩ from ext_all]
  decide
theorem aw_cut : cutE [a1] = 0 := by decide
theorem zer_size (n : Nat) : (bytesOf (seg 0 n (List.replicate n 0))).size = n := by rw [bytesOf_size]; simp [seg]
def z87 : ByteArray := bytesOf (seg 0 87 (List.replicate 87 0))
def z86 : ByteArray := bytesOf (seg 0 86 (List.replicate 86 0))
theorem z86_size : z86.size = 86 := zer_size 86
theorem z87_size : z87.size = 87 := zer_size 87
theorem aw_ja : jaE jr0 (newD 2) z87 = 12 := by
  unfold jaE jaZ
  rw [z87_size]
  decide
theorem aw_jb : jaE jr0 (newD 2) z86 = 0 := by
  unfold jaE jaZ
  rw [z86_size]
  decide
theorem gf_ok' {j : Jr} {d : Dk} (hj : JO d j) : j.ok d := ⟨hj.rl, by rw [hj.ge, hj.gz]; rfl, hj.us, hj.gs, hj.rm, by rw [hj.gz]; exact Nat.zero_le _, (by rw [hj.ge]; intro r hr; cases hr), hj.hb⟩
theorem law_awake : Glob Tryz.prog glT 6 [] (.bool true) := by
  show FC Tryz.prog 1 6 [] [(0, some (GB glT))] (isOut (.bool true) [] 1)
  have J2 := jw_new 2 (by omega)
  have c1 := jr_Blocks 0 [a1] 1 rfl aw_cut
  rw [aw_nblk] at c1
  have e1 : bkL 0 (strm [a1]) 1 = [bK 0 (strm [a1]) 0] := rfl
  have z1 : (bK 0 (strm [a1]) 0).size = 24 := by rw [bK_size, aw_strm]; rfl
  have x1 : (bK 0 (strm [a1]) 0).extract 16 24 = ⟨#[46, 48, 53, 48, 48, 48, 49, 97]⟩ := by
    rw [bK_eq, aw_body]
    exact extract_right (hxS_size _) rfl
  have c2 := disk_New 2 (by omega)
  have c3 := jr_Open (newD 2) rfl (by decide) J2.sz
  rw [J2.op] at c3
  have c4 := jr_Room jr0 (newD 2) (by decide) (Nat.zero_le _)
  have c5 := jr_Append jr0 (newD 2) z87 (gf_ok J2.jo (gf_nil _ _)) (by decide)
  rw [jaJ_no (by rw [aw_ja]; decide), aw_ja] at c5
  have c6 := jr_Append jr0 (newD 2) z86 (gf_ok J2.jo (gf_nil _ _)) (by decide)
  rw [jaJ_ok aw_jb, aw_jb] at c6
  have zR := z86_size
  have gf : Gf jr0 (newD 2) [z86] := by
    have ok : okR [z86] := by intro r hr; simp only [List.mem_singleton] at hr; rw [hr, zR]; decide
    refine ⟨ok, by decide, ?_⟩
    rw [nblk_sz ok]
    show (0 + (4 + z86.size) + 44) / 45 ≤ 2
    omega
  obtain ⟨m1, m2, m3, m4⟩ := cm_full J2 gf (by simp)
  have ej : ({ jr0 with grp := jr0.grp ++ [z86], ng := jr0.ng + 1 } : Jr) = jr0.with [z86] := rfl
  rw [ej] at c6
  have c7 := jr_Pending (jr0.with [z86])
  have c8 := jr_Commit (jr0.with [z86]) (newD 2) (gf_ok J2.jo gf) (newD_ok 2 (by omega))
  rw [m1, m2] at c8
  obtain ⟨D, hD⟩ : ∃ D, (cmR (jr0.with [z86]) (newD 2)).2.1 = D := ⟨_, rfl⟩
  rw [hD] at c8 m3 m4
  have c9 := jr_Groups (nextJ jr0 [z86])
  have c10 := jr_Room (nextJ jr0 [z86]) D (by rw [m4]; exact (by decide : (2 : Nat) ≤ 4096)) m3.jo.us
  have nb2 : nblk (strm [z86]) = 2 := by
    rw [nblk_sz gf.ok]
    show (0 + (4 + z86.size) + 44) / 45 = 2
    omega
  have eu : (nextJ jr0 [z86]).used = 2 := by show 0 + nblk (strm [z86]) = 2; omega
  rw [m4, eu] at c10
  have c11 := jr_Commit (nextJ jr0 [z86]) D (gf_ok' m3.jo) m3.ok
  rw [← jz_with m3.z, cm_nil m3.z] at c11
  refine fc_of mixed T_ok Tryz.func6 rfl (by kernel_rfl) (by kernel_rfl) (by kernel_rfl) ?_
  repeat' ((conv => whnf); first | refine vcall_o (l := [0, 1]) (c1) ?_ | refine vcallD_o (l := [0, 1]) (c1) ?_ | refine vcall_o (l := [0]) (c2) ?_ | refine vcallD_o (l := [0]) (c2) ?_ | refine vcall_o (l := [0, 3, 4, 5, 6]) (c3) ?_ | refine vcallD_o (l := [0, 3, 4, 5, 6]) (c3) ?_ | refine vcall_o (l := [0, 7, 3, 4, 5, 8, 9, 6]) (c4) ?_ | refine vcallD_o (l := [0, 7, 3, 4, 5, 8, 9, 6]) (c4) ?_ | refine vcall_o (l := [0, 7, 3, 4, 5, 8, 9, 6]) (c5) ?_ | refine vcallD_o (l := [0, 7, 3, 4, 5, 8, 9, 6]) (c5) ?_ | refine vcall_o (l := [0, 7, 3, 4, 5, 8, 11, 6]) (c6) ?_ | refine vcallD_o (l := [0, 7, 3, 4, 5, 8, 11, 6]) (c6) ?_ | refine vcall_o (l := [0, 7, 3, 4, 5, 8, 13, 6]) (c7) ?_ | refine vcallD_o (l := [0, 7, 3, 4, 5, 8, 13, 6]) (c7) ?_ | refine vcall_o (l := [0, 7, 3, 4, 5, 8, 13, 6]) (c8) ?_ | refine vcallD_o (l := [0, 7, 3, 4, 5, 8, 13, 6]) (c8) ?_ | refine vcall_o (l := [0, 7, 3, 4, 5, 14, 15, 16]) (c9) ?_ | refine vcallD_o (l := [0, 7, 3, 4, 5, 14, 15, 16]) (c9) ?_ | refine vcall_o (l := [0, 7, 3, 4, 5, 14, 15, 16]) (c10) ?_ | refine vcallD_o (l := [0, 7, 3, 4, 5, 14, 15, 16]) (c10) ?_ | refine vcall_o (l := [0, 7, 3, 4, 5, 14, 15, 16]) (c11) ?_ | refine vcallD_o (l := [0, 7, 3, 4, 5, 14, 15, 16]) (c11) ?_ | ((first | apply br_dec | apply br_ndec) <;> intro h <;> try (exfalso; (try dsimp only at h); omega)) | ((first | apply br_seq | apply br_nseq | apply br_not | apply br_intro) <;> intro h) | refine cond_a ?_)
  all_goals (conv => whnf)
  all_goals first
    | (exfalso; exact h rfl)
    | (exfalso; exact h (show ((bK 0 (strm [a1]) 0).size : Int) = 24 by rw [z1]; rfl))
    | (exfalso; exact h (show (bK 0 (strm [a1]) 0).extract 16 (bK 0 (strm [a1]) 0).size = _ by rw [z1]; exact x1))
    | exact ret_pure rfl
end Go.Proofs.YtdlpmmdbdjlojaaGreatDoor

/- The reference of the journal: Open; what it tells. -/
namespace Go.Proofs.YtdlpmmdbdjlojaaGreatDoor
open Go.RowKit Go.Sy
attribute [local irreducible] vcall vloop vcallD retP
set_option maxRecDepth 100000
set_option linter.unusedVariables false
set_option linter.unusedSimpArgs false
attribute [local irreducible] seq ByteArray.extract
/-- The groups that are taken up. -/
def opL (d : Dk) : Nat → Jr → List (List ByteArray) → List (List ByteArray)
  | 0, _, L => L
  | f + 1, j, L => match nxR j d with
    | none => L
    | some r => opL d f (nxJ j (some r)) (L ++ [r.1])
def opG (d : Dk) : List (List ByteArray) := opL d (d.nn + 1) jr0 []
/-- A table of groups and a journal. -/
structure LJ (L : List (List ByteArray)) (j : Jr) : Prop where
  gr : L.length = j.groups
  rc : L.flatten = j.recs
  le : ∀ g ∈ L, g.length ≤ 256
theorem lj_next {L : List (List ByteArray)} {j : Jr} (h : LJ L j) {g : List ByteArray} {n : Nat} {k : Int} (hg : g.length ≤ 256) : LJ (L ++ [g]) (nxJ j (some (g, n, k))) := by
  refine ⟨?_, ?_, ?_⟩
  · rw [List.length_append, List.length_singleton, h.gr]; rfl
  · rw [List.flatten_append, h.rc]; show j.recs ++ [g].flatten = j.recs ++ g; simp
  · intro x hx
    rcases List.mem_append.1 hx with hx | hx
    · exact h.le x hx
    · rw [List.mem_singleton.1 hx]; exact hg
theorem opL_lj {d : Dk} : ∀ (f : Nat) {j : Jr} {L : List (List ByteArray)}, LJ L j → LJ (opL d f j L) (opK d f j)
  | 0, j, L, h => h
  | f + 1, j, L, h => by
    simp only [opL, opK]
    cases hr : nxR j d with
    | none => exact h
    | some r =>
      obtain ⟨g, n, k⟩ := r
      exact opL_lj f (lj_next h (rd_bd hr).2.2.1)
theorem lj_zero : LJ [] jr0 := ⟨rfl, rfl, fun g hg => by cases hg⟩
theorem opG_lj (d : Dk) : LJ (opG d) (opJ d) := opL_lj _ lj_zero

abbrev gF (G : List (List ByteArray)) (x : Nat) : Blk := .cols ((G.map List.length).getD x 0) [.sc (.strs (G.getD x []))]
abbrev famO (G : List (List ByteArray)) : Option HB := some (.fam false (fun x => x < G.length) (gF G))
abbrev famR (G : List (List ByteArray)) : Option HB := some (.fam true (fun x => x < G.length) (gF G))
theorem gF_old {G : List (List ByteArray)} {o : List ByteArray} : ∀ q, q < G.length → gF (G ++ [o]) q = gF G q := by
  intro q hq
  unfold gF
  rw [List.map_append, gd_app1 (by rw [List.length_map]; exact hq), gd_app1 hq]
theorem gF_new {G : List (List ByteArray)} {o : List ByteArray} : gF (G ++ [o]) G.length = .cols o.length [.sc (.strs o)] := by
  unfold gF
  rw [List.map_append, gd_app2 (by rw [List.length_map]; exact Nat.le_refl _), gd_app2 (Nat.le_refl _), List.length_map, Nat.sub_self]
  rfl
/-- The reference's journal: the disk lies at dk, the groups at t, the present group at n. -/
def rjC (dk t n m : Nat) (j : Jr) : List SV := [.ptr dk 0 0 0, .sl t 0 0 m, .sl n 0 0 j.ng, .int .i64 j.used, .int .u64 j.head, .bool j.stopped]
def tabB (ro : Bool) (f m : Nat) (ls : List Nat) : Option HB := some (.one ro (.cols m [.own f ls]))
def rgS (d : Dk) (x : Nat × Jr × List (List ByteArray)) : VS :=
  ⟨[(0, .ptr 1 0 0 0), (4, .ptr 4 0 0 0)], [(1, rdkC 3 d), (2, grB d.nn d.kept), (3, rdkP d), (4, cellB false (rjC 1 5 6 x.2.2.length x.2.1)), (5, tabB false 7 x.2.2.length (x.2.2.map List.length)), (6, grW x.2.1.ng x.2.1.grp), (7, famO x.2.2)], 8⟩
theorem rgS_put (d : Dk) (f : Nat) (j : Jr) (L : List (List ByteArray)) (o : List ByteArray) : rgS d (f, j, L ++ [o]) = ⟨[(0, .ptr 1 0 0 0), (4, .ptr 4 0 0 0)], [(1, rdkC 3 d), (2, grB d.nn d.kept), (3, rdkP d), (4, cellB false (rjC 1 5 6 (L.length + 1) j)), (5, tabB false 7 (L.length + 1) (L.map List.length ++ [o.length])), (6, grW j.ng j.grp), (7, some (.fam false (fun x => x < L.length + 1) (gF (L ++ [o]))))], 8⟩ := by
  have hmap : (L ++ [o]).map List.length = L.map List.length ++ [o.length] := by rw [List.map_append]; rfl
  have hlen : (L ++ [o]).length = L.length + 1 := by rw [List.length_append]; rfl
  unfold rgS famO
  simp only [hmap, hlen]
theorem rj_Open (d : Dk) (hd : d.down = false) (h0 : d.ok) (w : Whole d) (hsz : ∀ b ∈ d.now, b.size ≤ 64) :
    FC Tryz.prog 4 8 [.ptr 1 0 0 0] [(1, rdkC 3 d), (2, grB d.nn d.kept), (3, rdkP d)]
      (isOut (.tup [.ptr 4 0 0 0, .int .i64 0]) [(4, cellB false (rjC 1 5 6 (opG d).length (opJ d))), (5, tabB false 7 (opG d).length ((opG d).map List.length)), (6, grW (opJ d).ng (opJ d).grp), (7, famO (opG d))] 8) := by
  have hnn := h0.nm
  have c1 := ref_Down d
  rw [hd] at c1
  obtain ⟨J, hJ⟩ : ∃ J, opJ d = J := ⟨_, rfl⟩
  obtain ⟨G, hG⟩ : ∃ G, opG d = G := ⟨_, rfl⟩
  rw [hJ, hG]
  refine fc_of mixed T_ok Tryz.func8 rfl (by kernel_rfl) (by kernel_rfl) (by kernel_rfl) ?_
  repeat' ((conv => whnf); first | refine vcall_o (l := [0, 1, 2, 3]) (c1) ?_ | refine vcallD_o (l := [0, 1, 2, 3]) (c1) ?_ | ((first | apply br_dec | apply br_ndec) <;> intro h <;> try (exfalso; (try dsimp only at h); omega)) | ((first | apply br_seq | apply br_nseq | apply br_not | apply br_intro) <;> intro h) | refine cond_a ?_)
  all_goals (conv => whnf)
  refine vloop_of (rgS d) (fun x => opK d x.1 x.2.1 = J ∧ opL d x.1 x.2.1 x.2.2 = G ∧ JO d x.2.1 ∧ LJ x.2.2 x.2.1 ∧ d.nn < x.2.1.used + x.1) (fun x => x.1) (d.nn + 1, jr0, []) [0, 1, 2, 3, 4, 5, 6, 7] [.cell 4 1 [.svs []], .cell 4 2 [.sc (.strs [])], .relab (fun _ _ => none) (fun _ => 0) [(5, tabB false 7 0 []), (7 + 0, some (.fam false (fun x => x < 0) (gF [])))] [] 1] ⟨relab_own_start (n := 7) (a := 5) (by decide) rfl, rfl, ⟨rfl, rfl, trivial⟩, ⟨rfl, rfl, rfl, rfl, rfl, rfl, rfl, trivial⟩⟩ ⟨hJ, hG, jo_zero d, lj_zero, by show d.nn < 0 + (d.nn + 1); omega⟩ ?_
  rintro ⟨f, j, L⟩ ⟨hf, hL, ho, hlj, hu⟩
  dsimp only at hf hL ho hlj hu ⊢
  have us := ho.us
  have gs := ho.gs
  have hlg := hlj.gr
  obtain ⟨f, rfl⟩ : ∃ k, f = k + 1 := ⟨f - 1, by omega⟩
  have c2 := rj_group d hd h0 w hsz j.used us j.head
  generalize rgE d.now (d.nn - j.used) j.used j.head ⟨#[]⟩ = E at c2
  cases hr : nxR j d with
  | none =>
    rw [show rdK d.now (d.nn - j.used) j.used j.head ⟨#[]⟩ = none from hr] at c2
    simp only [gpOut] at c2
    simp only [opK, opL, hr] at hf hL
    subst hf hL
    repeat' ((conv => whnf); first | refine vcall_o (l := [0, 1, 2, 3]) (c2) ?_ | refine vcallD_o (l := [0, 1, 2, 3]) (c2) ?_ | ((first | apply br_dec | apply br_ndec) <;> intro h <;> try (exfalso; (try dsimp only at h); omega)) | ((first | apply br_seq | apply br_nseq | apply br_not | apply br_intro) <;> intro h) | refine cond_a ?_)
    all_goals (conv => whnf)
    all_goals exact ret_out (l := [0, 1, 2, 3, 4, 5, 6, 7]) rfl rfl ⟨rfl, rfl, rfl, rfl, trivial⟩ (allRw_cons (allRw_cons (allRw_cons (allRw_fam allRw_nil))))
  | some r =>
    obtain ⟨h1, h2⟩ := jo_next ho hr
    obtain ⟨g, n, k⟩ := r
    have hgl := (rd_bd hr).2.2.1
    rw [show rdK d.now (d.nn - j.used) j.used j.head ⟨#[]⟩ = some (g, n, k) from hr] at c2
    simp only [gpOut] at c2
    simp only [opK, opL, hr] at hf hL
    have hcap : 0 + L.length = L.length ∧ (L.length + 1 + 500) * 25 ≤ 70368744177664 := by omega
    repeat' ((conv => whnf); first | refine vcall_o (l := [0, 1, 2, 3]) (c2) ?_ | refine vcallD_o (l := [0, 1, 2, 3]) (c2) ?_ | ((first | apply br_dec | apply br_ndec) <;> intro h <;> try (exfalso; (try dsimp only at h); omega)) | ((first | apply br_seq | apply br_nseq | apply br_not | apply br_intro) <;> intro h) | refine cond_a ?_)
    all_goals (conv => whnf)
    refine ⟨(f, nxJ j (some (g, n, k)), L ++ [g]), [0, 1, 2, 3, 4, 10, 6, 11], [.relab (gdR 11 L.length [⟨7, 8, gF (L ++ [g])⟩]) (fun _ => 0) [(10, some (.one false (.cols (L.length + 1) [.own 11 (L.map List.length ++ [g.length])]))), (11 + 0, some (.fam false (fun x => x < L.length + 1) (gF (L ++ [g]))))] [7, 8] 1], ⟨hf, hL, h1, lj_next hlj hgl, by dsimp only; omega⟩, Nat.lt_succ_self _, ?_⟩
    rw [rgS_put]
    exact ⟨relab_own_put (by rw [List.length_map]) (by omega) rfl rfl (fun q hq => hq) rfl (by decide) (by decide) (by decide) gF_old gF_new, rfl, ⟨rfl, rfl, trivial⟩, ⟨rfl, rfl, rfl, rfl, rfl, rfl, rfl, trivial⟩⟩
theorem rj_Groups (j : Jr) (m : Nat) (hm : m = j.groups) : FC Tryz.prog 8 49 [.ptr 1 0 0 0] [(1, cellB true (rjC 2 5 6 m j))] (isOut (.int .i64 j.groups) [] 8) := by
  subst hm
  refine fc_of mixed T_ok Tryz.func49 rfl (by kernel_rfl) (by kernel_rfl) (by kernel_rfl) ?_
  repeat' ((conv => whnf); first | ((first | apply br_dec | apply br_ndec) <;> intro h <;> try (exfalso; (try dsimp only at h); omega)) | ((first | apply br_seq | apply br_nseq | apply br_not | apply br_intro) <;> intro h) | refine cond_a ?_)
  all_goals (conv => whnf)
  all_goals exact ret_out (l := [0, 1, 2, 3, 4, 5, 6, 7]) rfl rfl trivial allRw_nil
theorem rj_Pending (j : Jr) (m : Nat) : FC Tryz.prog 8 50 [.ptr 1 0 0 0] [(1, cellB true (rjC 2 5 6 m j))] (isOut (.int .i64 j.ng) [] 8) := by
  refine fc_of mixed T_ok Tryz.func50 rfl (by kernel_rfl) (by kernel_rfl) (by kernel_rfl) ?_
  repeat' ((conv => whnf); first | ((first | apply br_dec | apply br_ndec) <;> intro h <;> try (exfalso; (try dsimp only at h); omega)) | ((first | apply br_seq | apply br_nseq | apply br_not | apply br_intro) <;> intro h) | refine cond_a ?_)
  all_goals (conv => whnf)
  all_goals exact ret_out (l := [0, 1, 2, 3, 4, 5, 6, 7]) rfl rfl trivial allRw_nil
theorem rj_Head (j : Jr) (m : Nat) : FC Tryz.prog 8 51 [.ptr 1 0 0 0] [(1, cellB true (rjC 2 5 6 m j))] (isOut (.int .u64 j.head) [] 8) := by
  refine fc_of mixed T_ok Tryz.func51 rfl (by kernel_rfl) (by kernel_rfl) (by kernel_rfl) ?_
  repeat' ((conv => whnf); first | ((first | apply br_dec | apply br_ndec) <;> intro h <;> try (exfalso; (try dsimp only at h); omega)) | ((first | apply br_seq | apply br_nseq | apply br_not | apply br_intro) <;> intro h) | refine cond_a ?_)
  all_goals (conv => whnf)
  all_goals exact ret_out (l := [0, 1, 2, 3, 4, 5, 6, 7]) rfl rfl trivial allRw_nil
theorem rj_Room (j : Jr) (m : Nat) (d : Dk) (hnn : d.nn ≤ 4096) (hu : j.used ≤ d.nn) : FC Tryz.prog 8 37 [.ptr 1 0 0 0] [(1, cellB true (rjC 2 5 6 m j)), (2, some (.one true (.cells [.sl 3 0 0 d.nn, .sl 4 0 0 d.np, .bool d.down, .int .i64 d.steps, .int .u64 d.mask])))] (isOut (.int .i64 ((d.nn : Int) - (j.used : Int))) [] 8) := by
  have c1 := ref_Blocks d
  refine fc_of mixed T_ok Tryz.func37 rfl (by kernel_rfl) (by kernel_rfl) (by kernel_rfl) ?_
  repeat' ((conv => whnf); first | refine vcall_o (l := [0, 2, 3, 4]) (c1) ?_ | refine vcallD_o (l := [0, 2, 3, 4]) (c1) ?_ | ((first | apply br_dec | apply br_ndec) <;> intro h <;> try (exfalso; (try dsimp only at h); omega)) | ((first | apply br_seq | apply br_nseq | apply br_not | apply br_intro) <;> intro h) | refine cond_a ?_)
  all_goals (conv => whnf)
  rw [w64_in (by omega) (by omega)]
  exact ret_out (l := [0, 1, 2, 3, 4, 5, 6, 7]) rfl rfl trivial allRw_nil
theorem rj_Drop (j : Jr) (m : Nat) : FC Tryz.prog 8 14 [.ptr 1 0 0 0] [(1, cellB false (rjC 2 5 6 m j)), (6, grW j.ng j.grp)] (isOut (.tup []) [(1, cellB false (rjC 2 5 8 m { j with grp := [], ng := 0 })), (8, grW 0 [])] 9) := by
  refine fc_of mixed T_ok Tryz.func14 rfl (by kernel_rfl) (by kernel_rfl) (by kernel_rfl) ?_
  repeat' ((conv => whnf); first | ((first | apply br_dec | apply br_ndec) <;> intro h <;> try (exfalso; (try dsimp only at h); omega)) | ((first | apply br_seq | apply br_nseq | apply br_not | apply br_intro) <;> intro h) | refine cond_a ?_)
  all_goals (conv => whnf)
  all_goals exact ret_up (l := [0, 1, 2, 3, 4, 5, 6, 7, 8]) [.cell 1 2 [.sc (.strs [])]] ⟨rfl, rfl, rfl, rfl, trivial⟩ (allRw_cons (allRw_cons allRw_nil))
end Go.Proofs.YtdlpmmdbdjlojaaGreatDoor

/- The reference of the journal: numbers out of digits, Append, Records. -/
namespace Go.Proofs.YtdlpmmdbdjlojaaGreatDoor
open Go.RowKit Go.Sy
attribute [local irreducible] vcall vloop vcallD retP
set_option maxRecDepth 100000
set_option linter.unusedVariables false
set_option linter.unusedSimpArgs false
attribute [local irreducible] seq ByteArray.extract
theorem dgL_at (n : Nat) : ∀ (k i : Nat), i < k → (dgL n k)[i]? = some (hexd ((n / 16 ^ (k - 1 - i) % 16 : Nat) : Int))
  | 0, i, h => by omega
  | k + 1, 0, h => by simp only [dgL, List.getElem?_cons_zero]; rw [show k + 1 - 1 - 0 = k from by omega]
  | k + 1, i + 1, h => by
    simp only [dgL, List.getElem?_cons_succ]
    rw [dgL_at n k i (by omega), show k + 1 - 1 - (i + 1) = k - 1 - i from by omega]
theorem hexd_bd' {x : Int} (h0 : 0 ≤ x) (h : x < 16) : 0 ≤ hexd x ∧ hexd x ≤ 255 := by unfold hexd; split <;> omega
theorem hexd_inj {x y : Int} (hx : 0 ≤ x ∧ x < 16) (hy : 0 ≤ y ∧ y < 16) (h : hexd x = hexd y) : x = y := by
  unfold hexd at h
  split at h <;> split at h <;> omega
theorem dgL_bd (n : Nat) : ∀ k, ∀ x ∈ dgL n k, 0 ≤ x ∧ x ≤ 255
  | 0, x, h => by simp [dgL] at h
  | k + 1, x, h => by
    simp only [dgL, List.mem_cons] at h
    rcases h with rfl | h
    · exact hexd_bd' (by omega) (by omega)
    · exact dgL_bd n k x h
theorem hx_at (n : Nat) {i : Nat} (h : i < 16) : byteAt (bytesOf (dgL n 16)) (i : Int) = hexd ((n / 16 ^ (15 - i) % 16 : Nat) : Int) := by
  rw [byteAt_bytesOf' (by rw [dgL_length]; exact h) (dgL_bd n 16)]
  have e := dgL_at n 16 i h
  rw [List.getElem?_eq_getElem (by rw [dgL_length]; exact h)] at e
  exact Option.some.inj e
theorem hexC_byte {k : Nat} (h : k < 16) : byteAt hexC (k : Int) = hexd (k : Int) := by
  have : ∀ n : Nat, n < 16 → byteAt hexC (n : Int) = hexd (n : Int) := by decide
  exact this k h
theorem up16 (n i : Nat) (h : i < 16) : n / 16 ^ (16 - i) * 16 + n / 16 ^ (15 - i) % 16 = n / 16 ^ (15 - i) := by
  rw [show 16 - i = (15 - i) + 1 from by omega, Nat.pow_succ, ← Nat.div_div_eq_div_mul]
  generalize n / 16 ^ (15 - i) = q
  omega
theorem rj_Number (n : Nat) (hn : n < 18446744073709551616) : Pure Tryz.prog 41 [.str (hxS (n : Int))] (.tup [.int .u64 (n : Int), .int .i64 0]) := by
  have hx : bytesOf (dgL n 16) = hxS (n : Int) := by rw [dg_hex n]; unfold hxS; rfl
  have zx : (hxS (n : Int)).size = 16 := hxS_size _
  have hat : ∀ i : Nat, i < 16 → byteAt (hxS (n : Int)) (i : Int) = hexd ((n / 16 ^ (15 - i) % 16 : Nat) : Int) := fun i hi => by rw [← hx]; exact hx_at n hi
  have c1 := ref09_Text (n : Int) (by omega)
  clear hx
  generalize hxS (n : Int) = S at c1 zx hat
  refine fc_of mixed T_ok Tryz.func41 rfl (by kernel_rfl) (by kernel_rfl) (by kernel_rfl) ?_
  repeat' ((conv => whnf); first | ((first | apply br_dec | apply br_ndec) <;> intro h <;> try (exfalso; (try dsimp only at h); omega)) | ((first | apply br_seq | apply br_nseq | apply br_not | apply br_intro) <;> intro h) | refine cond_a ?_)
  all_goals (conv => whnf)
  refine vloop_of (fun i : Nat => ⟨[(0, .str S), (4, .int .u64 ((n / 16 ^ (16 - i) : Nat) : Int)), (5, .int .i64 i)], [], 1⟩) (fun i => i ≤ 16) (fun i => 16 - i) 0 [0] [] ⟨rfl, ⟨rfl, congrArg (fun z : Nat => some (SV.int .u64 (z : Int))) (show 0 = n / 16 ^ 16 from (Nat.div_eq_of_lt (by simpa using hn)).symm), rfl, trivial⟩, trivial⟩ (by omega) ?_
  intro i hi
  by_cases hlt : i < 16
  · repeat' ((conv => whnf); first | ((first | apply br_dec | apply br_ndec) <;> intro h <;> try (exfalso; (try dsimp only at h); omega)) | ((first | apply br_seq | apply br_nseq | apply br_not | apply br_intro) <;> intro h) | refine cond_a ?_)
    all_goals (conv => whnf)
    all_goals first
      | (exfalso; omega)
      | skip
    have hv := hat i hlt
    have hup := up16 n i hlt
    have eq1 : n / 16 ^ (16 - (i + 1)) = n / 16 ^ (15 - i) := by rw [show 16 - (i + 1) = 15 - i from by omega]
    have hq : n / 16 ^ (15 - i) ≤ n := Nat.div_le_self _ _
    have hq2 : n / 16 ^ (16 - i) ≤ n := Nat.div_le_self _ _
    generalize n / 16 ^ (15 - i) = q at *
    generalize n / 16 ^ (16 - i) = r at *
    obtain ⟨v, hvd⟩ : ∃ v, q % 16 = v := ⟨_, rfl⟩
    have hv16 : v < 16 := by omega
    rw [hvd] at hv
    refine vloop_of (fun k : Nat => ⟨[(0, .str S), (4, .int .u64 (r : Int)), (5, .int .i64 i), (6, .int .u64 ((if v < k then v else 0 : Nat) : Int)), (7, .int .i64 k)], [], 1⟩) (fun k => k ≤ 16) (fun k => 16 - k) 0 [0] [] ⟨rfl, ⟨rfl, rfl, rfl, congrArg (fun z : Nat => some (SV.int .u64 (z : Int))) (show 0 = if v < 0 then v else 0 from rfl), rfl, trivial⟩, trivial⟩ (by omega) ?_
    intro k hk
    by_cases hkl : k < 16
    · have hc := hexC_byte hkl
      have hci : hexd (k : Int) = hexd (v : Int) ↔ k = v := ⟨fun e => by have := hexd_inj (by omega) (by omega) e; omega, fun e => by rw [e]⟩
      have b1 := byteAt_bd S (i : Int)
      have b2 := byteAt_bd hexC (k : Int)
      have k3 : (0 : Int) ≤ (k : Int) ∧ (k : Int) < ((⟨#[48, 49, 50, 51, 52, 53, 54, 55, 56, 57, 97, 98, 99, 100, 101, 102]⟩ : ByteArray).size : Int) := by
        show _ ∧ _ < (16 : Int)
        omega
      repeat' ((conv => whnf); first | (refine cond_intro k3 ?_) | ((first | apply br_dec | apply br_ndec) <;> intro h <;> try (exfalso; (try dsimp only at h); omega)) | ((first | apply br_seq | apply br_nseq | apply br_not | apply br_intro) <;> intro h) | refine cond_a ?_)
      all_goals (conv => whnf)
      all_goals first
        | (exfalso; omega)
        | skip
      · have ek : k = v := hci.1 (by rw [← hc, ← hv]; exact h)
        refine ⟨k + 1, [0], [], by omega, by omega, ⟨rfl, ⟨rfl, rfl, rfl, ?_, congrArg (fun z => some (SV.int .i64 z)) (i64_succ (by omega)), trivial⟩, trivial⟩⟩
        refine congrArg (fun z => some (SV.int .u64 z)) ?_
        show IntKind.u64.wrap (k : Int) = _
        rw [u64_in' (by omega) (by omega), if_pos (by omega), ek]
      · have ek : k ≠ v := fun e => h (by rw [hv, ← hci.2 e]; exact hc)
        refine ⟨k + 1, [0], [], by omega, by omega, ⟨rfl, ⟨rfl, rfl, rfl, ?_, congrArg (fun z => some (SV.int .i64 z)) (i64_succ (by omega)), trivial⟩, trivial⟩⟩
        refine congrArg (fun z : Nat => some (SV.int .u64 (z : Int))) ?_
        by_cases hvk : v < k
        · rw [if_pos hvk, if_pos (by omega)]
        · rw [if_neg hvk, if_neg (by omega)]
    · obtain rfl : k = 16 := by omega
      rw [if_pos hv16]
      have hq3 : IntKind.u64.wrap (IntKind.u64.wrap ((r : Int) * 16) + (v : Int)) = (q : Int) := by
        rw [u64_in' (n := (r : Int) * 16) (by omega) (by omega), u64_in' (by omega) (by omega)]
        omega
      repeat' ((conv => whnf); first | ((first | apply br_dec | apply br_ndec) <;> intro h <;> try (exfalso; (try dsimp only at h); omega)) | ((first | apply br_seq | apply br_nseq | apply br_not | apply br_intro) <;> intro h) | refine cond_a ?_)
      all_goals (conv => whnf)
      all_goals first
        | (exfalso; omega)
        | skip
      refine ⟨i + 1, [0], [], by omega, by omega, ⟨rfl, ⟨rfl, ?_, congrArg (fun z => some (SV.int .i64 z)) (i64_succ (by omega)), trivial⟩, trivial⟩⟩
      rw [eq1]
      exact congrArg (fun z => some (SV.int .u64 z)) hq3
  · obtain rfl : i = 16 := by omega
    rw [show n / 16 ^ (16 - 16) = n from by simp]
    repeat' ((conv => whnf); first | (refine vcall_pure (c1) rfl rfl rfl ?_) | (refine vcallD_pure (c1) rfl rfl rfl ?_) | ((first | apply br_dec | apply br_ndec) <;> intro h <;> try (exfalso; (try dsimp only at h); omega)) | ((first | apply br_seq | apply br_nseq | apply br_not | apply br_intro) <;> intro h) | refine cond_a ?_)
    all_goals (conv => whnf)
    all_goals first
      | (exfalso; omega)
      | (exfalso; exact h rfl)
      | exact ret_pure rfl
end Go.Proofs.YtdlpmmdbdjlojaaGreatDoor

/- The reference of the journal: Append, Records. -/
namespace Go.Proofs.YtdlpmmdbdjlojaaGreatDoor
open Go.RowKit Go.Sy
attribute [local irreducible] vcall vloop vcallD retP
set_option maxRecDepth 100000
set_option linter.unusedVariables false
set_option linter.unusedSimpArgs false
attribute [local irreducible] seq ByteArray.extract
abbrev dkD (d : Dk) : List SV := [.sl 3 0 0 d.nn, .sl 4 0 0 d.np, .bool d.down, .int .i64 d.steps, .int .u64 d.mask]
theorem app_sz {g : List ByteArray} {r : ByteArray} (hg : okR g) (hr : r.size ≤ 4000) : okR (g ++ [r]) := by
  intro x hx
  rcases List.mem_append.1 hx with hx | hx
  · exact hg x hx
  · rw [List.mem_singleton.1 hx]; exact hr
theorem rj_Append (j : Jr) (m : Nat) (d : Dk) (r : ByteArray) (hj : j.ok d) (hnn : d.nn ≤ 4096) : FC Tryz.prog 8 10 [.ptr 1 0 0 0, .str r] [(1, cellB false (rjC 2 5 6 m j)), (2, some (.one true (.cells (dkD d)))), (6, grW j.ng j.grp)]
    (isOut (.int .i64 (jaE j d r)) [(1, cellB false (rjC 2 5 8 m (jaJ j d r))), (8, grW (jaJ j d r).ng (jaJ j d r).grp)] 9) := by
  have gl := hj.gl
  have gm := hj.gm
  have us := hj.us
  have go := hj.go
  by_cases h1 : j.stopped = true
  · have e : jaE j d r = 13 := by unfold jaE; rw [if_pos h1]
    rw [jaJ_no (by omega), e]
    refine fc_of mixed T_ok Tryz.func10 rfl (by kernel_rfl) (by kernel_rfl) (by kernel_rfl) ?_
    repeat' ((conv => whnf); first | ((first | apply br_dec | apply br_ndec) <;> intro h <;> try (exfalso; (try dsimp only at h); omega)) | ((first | apply br_seq | apply br_nseq | apply br_not | apply br_intro) <;> intro h) | refine cond_a ?_)
    all_goals (conv => whnf)
    all_goals first
      | exact ret_out (l := [0, 1, 2, 3, 4, 5, 6, 7, 6]) rfl rfl ⟨rfl, rfl, trivial⟩ (allRw_cons (allRw_cons allRw_nil))
      | (exfalso; simp_all; done)
  · have h1' : j.stopped = false := by cases h : j.stopped with | false => rfl | true => exact absurd h h1
    by_cases h2 : 4000 < r.size
    · have e : jaE j d r = 3 := by unfold jaE; rw [if_neg h1, if_pos h2]
      rw [jaJ_no (by omega), e]
      refine fc_of mixed T_ok Tryz.func10 rfl (by kernel_rfl) (by kernel_rfl) (by kernel_rfl) ?_
      repeat' ((conv => whnf); first | ((first | apply br_dec | apply br_ndec) <;> intro h <;> try (exfalso; (try dsimp only at h); omega)) | ((first | apply br_seq | apply br_nseq | apply br_not | apply br_intro) <;> intro h) | refine cond_a ?_)
      all_goals (conv => whnf)
      all_goals first
        | exact ret_out (l := [0, 1, 2, 3, 4, 5, 6, 7, 6]) rfl rfl ⟨rfl, rfl, trivial⟩ (allRw_cons (allRw_cons allRw_nil))
        | (exfalso; simp_all; done)
    · have ok : okR (j.grp ++ [r]) := app_sz go (by omega)
      have hlen : (j.grp ++ [r]).length = j.ng + 1 := by rw [List.length_append, gl]; rfl
      have so : seg 0 j.ng j.grp = j.grp := seg_all gl
      by_cases h3 : 256 ≤ j.ng
      · have e : jaE j d r = 12 := by unfold jaE; rw [if_neg h1, if_neg h2, if_pos h3]
        have ce : cutE (j.grp ++ [r]) = 12 := by unfold cutE; rw [if_neg (by omega), if_pos (by omega)]
        have c1 := rj_Blocks_no 0 (j.grp ++ [r]) (j.ng + 1) hlen (by rw [ce]; decide) (by unfold maxLen; omega)
        rw [ce] at c1
        rw [jaJ_no (by omega), e]
        rw [← so] at c1
        refine fc_of mixed T_ok Tryz.func10 rfl (by kernel_rfl) (by kernel_rfl) (by kernel_rfl) ?_
        repeat' ((conv => whnf); first | refine vcall_o (l := [0, 10]) (c1) ?_ | refine vcallD_o (l := [0, 10]) (c1) ?_ | ((first | apply br_dec | apply br_ndec) <;> intro h <;> try (exfalso; (try dsimp only at h); omega)) | ((first | apply br_seq | apply br_nseq | apply br_not | apply br_intro) <;> intro h) | refine cond_a ?_)
        all_goals (conv => whnf)
        all_goals first
          | exact ret_out (l := [0, 1, 2, 3, 4, 5, 6, 7, 6]) rfl rfl ⟨rfl, rfl, trivial⟩ (allRw_cons (allRw_cons allRw_nil))
          | (exfalso; simp_all; done)
      · have ce : cutE (j.grp ++ [r]) = 0 := by unfold cutE; rw [if_neg (by omega), if_neg (by omega), longK_of ok, if_neg (by decide)]
        have c1 := rj_Blocks 0 (j.grp ++ [r]) (j.ng + 1) hlen ce
        have hnb : nblk (strm (j.grp ++ [r])) = (jaZ j r + 44) / 45 := by
          rw [nblk_sz ok, hlen, ← gl, szK_app]
          unfold jaZ
          rw [gl]
          omega
        have c2 := rj_Room j m d hnn us
        have hz := szK_le go j.ng
        rw [hnb] at c1
        obtain ⟨NB, hNB⟩ : ∃ NB, (jaZ j r + 44) / 45 = NB := ⟨_, rfl⟩
        rw [hNB] at c1
        have e0 : ∀ h : ¬ d.nn - j.used < NB, jaE j d r = 0 := fun h => by unfold jaE; rw [if_neg h1, if_neg h2, if_neg h3, hNB, if_neg h]
        have e12 : ∀ h : d.nn - j.used < NB, jaE j d r = 12 := fun h => by unfold jaE; rw [if_neg h1, if_neg h2, if_neg h3, hNB, if_pos h]
        generalize bkL 0 (strm (j.grp ++ [r])) NB = BL at c1
        rw [← so] at c1
        refine fc_of mixed T_ok Tryz.func10 rfl (by kernel_rfl) (by kernel_rfl) (by kernel_rfl) ?_
        repeat' ((conv => whnf); first | refine vcall_o (l := [0, 10]) (c1) ?_ | refine vcallD_o (l := [0, 10]) (c1) ?_ | refine vcall_o (l := [0, 1, 2, 3, 4, 5, 6, 7]) (c2) ?_ | refine vcallD_o (l := [0, 1, 2, 3, 4, 5, 6, 7]) (c2) ?_ | ((first | apply br_dec | apply br_ndec) <;> intro h <;> try (exfalso; (try dsimp only at h); omega)) | ((first | apply br_seq | apply br_nseq | apply br_not | apply br_intro) <;> intro h) | refine cond_a ?_)
        all_goals (conv => whnf)
        all_goals first
          | (exfalso; simp_all; done)
          | (have h' : (d.nn : Int) - (j.used : Int) < (NB : Int) := h
             have e := e12 (by omega)
             rw [jaJ_no (by omega), e]
             exact ret_out (l := [0, 1, 2, 3, 4, 5, 6, 7, 6]) rfl rfl ⟨rfl, rfl, trivial⟩ (allRw_cons (allRw_cons allRw_nil)))
          | (have h' : ¬ ((d.nn : Int) - (j.used : Int) < (NB : Int)) := h
             have e := e0 (by omega)
             rw [jaJ_ok e, e]
             refine ret_out (l := [0, 1, 2, 3, 4, 5, 6, 7, 10]) rfl rfl ⟨rfl, ?_, trivial⟩ (allRw_cons (allRw_cons allRw_nil))
             exact congrArg (fun z => some (HB.one false (.cols (j.ng + 1) [.sc (.strs (z ++ [r]))]))) so)
/-- The records of the first groups, put together. -/
theorem rj_Records (j : Jr) (L : List (List ByteArray)) (h : LJ L j) (hr : j.recs.length = j.nr) (h20 : L.length ≤ 4096) : FC Tryz.prog 8 48 [.ptr 1 0 0 0] [(1, cellB true (rjC 2 5 6 L.length j)), (5, tabB true 7 L.length (L.map List.length)), (7, famR L)] (isOut (.sl 8 0 0 j.nr) [(8, grW j.nr j.recs)] 9) := by
  have hle : ∀ i, (L.getD i []).length ≤ 256 := by
    intro i
    rcases Nat.lt_or_ge i L.length with hi | hi
    · rw [List.getD, List.getElem?_eq_getElem hi]; exact h.le _ (List.getElem_mem hi)
    · rw [List.getD, List.getElem?_eq_none hi]; exact Nat.zero_le _
  refine fc_of mixed T_ok Tryz.func48 rfl (by kernel_rfl) (by kernel_rfl) (by kernel_rfl) ?_
  repeat' ((conv => whnf); first | ((first | apply br_dec | apply br_ndec) <;> intro h <;> try (exfalso; (try dsimp only at h); omega)) | ((first | apply br_seq | apply br_nseq | apply br_not | apply br_intro) <;> intro h) | refine cond_a ?_)
  all_goals (conv => whnf)
  refine vloop_of (fun x : Nat × Nat × List ByteArray => ⟨[(0, .ptr 1 0 0 0), (3, .sl 8 0 0 x.2.1), (4, .int .i64 x.1)], [(1, cellB true (rjC 2 5 6 L.length j)), (5, tabB true 7 L.length (L.map List.length)), (7, famR L), (8, grW x.2.1 x.2.2)], 9⟩) (fun x => x.1 ≤ L.length ∧ x.2.2 = (L.take x.1).flatten ∧ x.2.2.length = x.2.1 ∧ x.2.1 ≤ 256 * x.1) (fun x => L.length - x.1) (0, 0, []) [0, 1, 2, 3, 4, 5, 6, 7, 8] [.slot 3 [.sc (.strs [])]] ⟨rfl, ⟨rfl, rfl, rfl, trivial⟩, ⟨rfl, rfl, rfl, rfl, trivial⟩⟩ ⟨Nat.zero_le _, rfl, rfl, Nat.zero_le _⟩ ?_
  rintro ⟨i, w, W⟩ ⟨i1, i2, i3, i4⟩
  dsimp only at i1 i2 i3 i4 ⊢
  by_cases hlt : i < L.length
  · have em : (L.map List.length).getD i 0 = (L.getD i []).length := by rw [List.getD, List.getD, List.getElem?_map, List.getElem?_eq_getElem hlt]; rfl
    have gl := hle i
    generalize hN : (L.map List.length).getD i 0 = N at em
    have hseg : seg 0 ((L.map List.length).getD i 0) (L.getD i []) = L.getD i [] := seg_all (by rw [hN]; exact em.symm)
    have k1 : i < L.length ∧ 0 + (L.map List.length).getD i 0 ≤ (L.map List.length).getD i 0 ∧ 0 + w = w ∧ (w + (L.map List.length).getD i 0 + 500) * 17 ≤ 70368744177664 := by
      rw [hN]; exact ⟨hlt, by omega, by omega, by omega⟩
    have tk : (L.take (i + 1)).flatten = (L.take i).flatten ++ L.getD i [] := by
      rw [List.take_add_one, List.flatten_append, List.getD, List.getElem?_eq_getElem hlt]
      simp
    repeat' ((conv => whnf); first | (refine cond_intro k1 ?_) | ((first | apply br_dec | apply br_ndec) <;> intro h <;> try (exfalso; (try dsimp only at h); omega)) | ((first | apply br_seq | apply br_nseq | apply br_not | apply br_intro) <;> intro h) | refine cond_a ?_)
    all_goals (conv => whnf)
    all_goals first
      | (exfalso; omega)
      | skip
    refine ⟨(i + 1, w + (L.map List.length).getD i 0, W ++ seg 0 ((L.map List.length).getD i 0) (L.getD i [])), [0, 1, 2, 3, 4, 5, 6, 7, 9], [], ⟨by dsimp only; omega, ?_, ?_, by dsimp only; rw [hN]; omega⟩, by dsimp only; omega, ⟨rfl, ⟨rfl, rfl, congrArg (fun z => some (SV.int .i64 z)) (i64_succ (by omega)), trivial⟩, ⟨rfl, rfl, rfl, rfl, trivial⟩⟩⟩
    · dsimp only
      rw [hseg, i2, tk]
    · dsimp only
      rw [hseg, hN, List.length_append, i3, em]
  · obtain rfl : i = L.length := by omega
    rw [List.take_length, h.rc] at i2
    obtain rfl : W = j.recs := i2
    obtain rfl : w = j.nr := by rw [← i3]; exact hr
    repeat' ((conv => whnf); first | ((first | apply br_dec | apply br_ndec) <;> intro h <;> try (exfalso; (try dsimp only at h); omega)) | ((first | apply br_seq | apply br_nseq | apply br_not | apply br_intro) <;> intro h) | refine cond_a ?_)
    all_goals (conv => whnf)
    all_goals first
      | (exfalso; omega)
      | exact ret_out (l := [0, 1, 2, 3, 4, 5, 6, 7, 8]) rfl rfl ⟨rfl, trivial⟩ (allRw_cons allRw_nil)
end Go.Proofs.YtdlpmmdbdjlojaaGreatDoor

