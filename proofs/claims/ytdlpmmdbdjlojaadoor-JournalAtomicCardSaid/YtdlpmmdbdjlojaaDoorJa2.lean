/- Several texts in one: XJrG, XJrH, XJrI, XDiskL, XJrJ, XJrK, XJrQ, XJrR, XJrS, XJrT, XJrU, XJrV, XJrW. -/
import Derived.Test.YtdlpmmdbdjlojaaDoorJa1
import Derived.Test.YtdlpmmdbdjlojaaDoorYDfr
import Derived.Test.YtdlpmmdbdjlojaaDoorYNil
import Derived.Test.YtdlpmmdbdjlojaaDoorYMem
import Derived.Test.YtdlpmmdbdjlojaaDoorYLaid2
import Derived.Test.YtdlpmmdbdjlojaaDoorYGb
import Derived.Test.YtdlpmmdbdjlojaaDoorYPlain
import Derived.Test.YtdlpmmdbdjlojaaDoorYOwn
/- Contracts of package journal: the journal on its disk; a group is taken up. -/
namespace Go.Proofs.YtdlpmmdbdjlojaaDoor
open Go.RowKit Go.Sy
attribute [local irreducible] vcall vloop vcallD retP
set_option maxRecDepth 100000
set_option linter.unusedVariables false
set_option linter.unusedSimpArgs false
attribute [local irreducible] seq ByteArray.extract
/-- A journal: its records, the complete groups, their blocks, the hash, the present group. -/
structure Jr where
  recs : List ByteArray
  nr : Nat
  groups : Nat
  used : Nat
  head : Int
  grp : List ByteArray
  ng : Nat
  stopped : Bool
structure Jr.ok (j : Jr) (d : Dk) : Prop where
  rl : j.recs.length = j.nr
  gl : j.grp.length = j.ng
  us : j.used ≤ d.nn
  gs : j.groups ≤ j.used
  rm : j.nr ≤ 256 * j.groups
  gm : j.ng ≤ 256
  go : okR j.grp
  hb : 0 ≤ j.head ∧ j.head < 18446744073709551616
def dkJ (p : Nat) (d : Dk) : List SV := [.sl 3 0 0 d.nn, .sl 4 0 0 d.nn, .sl p 0 0 d.np, .bool d.down, .int .i64 d.steps, .int .u64 d.mask]
def jrC (r g : Nat) (j : Jr) : List SV := [.ptr 2 0 0 0, .sl r 0 0 j.nr, .int .i64 j.groups, .int .i64 j.used, .int .u64 j.head, .sl g 0 0 j.ng, .bool j.stopped]
def cellB (ro : Bool) (l : List SV) : Option HB := some (.one ro (.cells l))
def dkRest (p : Nat) (d : Dk) : Heap := [(2, cellB false (dkJ p d)), (3, grW d.nn d.kept), (4, grW d.nn d.now), (p, some (.one false (.cols d.np [.sc (.ints .i64 d.pn), .sc (.strs d.ps)])))]
def jrH (r g p : Nat) (j : Jr) (d : Dk) : Heap := (1, cellB false (jrC r g j)) :: (r, grW j.nr j.recs) :: (g, grW j.ng j.grp) :: dkRest p d
theorem jrH_rw (r g p : Nat) (j : Jr) (d : Dk) : allRw (jrH r g p j d) := allRw_cons (allRw_cons (allRw_cons (allRw_cons (allRw_cons (allRw_cons (allRw_cons allRw_nil))))))

def addJ (j : Jr) (m : Nat) (g : List ByteArray) (u : Nat) (h : Int) : Jr := { j with recs := j.recs ++ g, nr := j.nr + m, groups := j.groups + 1, used := u, head := h }
theorem jr_add (j : Jr) (m : Nat) (g : List ByteArray) (u : Nat) (h : Int) (hg : g.length = m) (h1 : j.groups ≤ 1000000) (h2 : j.nr ≤ 1000000000) (h3 : m ≤ 1000000) :
    FC Tryd.prog 9 34 [.ptr 1 0 0 0, .sl 8 0 0 m, .int .i64 u, .int .u64 h] [(1, cellB false (jrC 5 6 j)), (5, grW j.nr j.recs), (8, grB m g)]
      (isOut (.tup []) [(1, cellB false (jrC 9 6 (addJ j m g u h))), (9, grW (j.nr + m) (j.recs ++ g))] 10) := by
  have e : IntKind.i64.wrap ((j.groups : Int) + 1) = ((j.groups + 1 : Nat) : Int) := i64_succ (by omega)
  have es : seg 0 m g = g := by unfold seg; rw [List.drop_zero, List.take_of_length_le (by omega)]
  refine fc_of mixed T_ok Tryd.func34 rfl (by kernel_rfl) (by kernel_rfl) (by kernel_rfl) ?_
  repeat' ((conv => whnf); first | ((first | apply br_dec | apply br_ndec) <;> intro h <;> try (exfalso; (try dsimp only at h); omega)) | ((first | apply br_seq | apply br_nseq | apply br_not | apply br_intro) <;> intro h) | refine cond_a ?_)
  all_goals (conv => whnf)
  rw [e, es]
  exact ret_out (l := [0, 1, 2, 3, 4, 5, 6, 7, 8, 9]) rfl rfl ⟨rfl, rfl, trivial⟩ (allRw_cons (allRw_cons allRw_nil))
/-- The complete group behind a block. -/
def rdK (now : List ByteArray) : Nat → Nat → Int → ByteArray → Option (List ByteArray × Nat × Int)
  | 0, _, _, _ => none
  | f + 1, n, h, t => if unOk h (now.getD n ⟨#[]⟩) then (if lastB (now.getD n ⟨#[]⟩) = true then (match ucG (t ++ unP (now.getD n ⟨#[]⟩)) with | some g => some (g, n + 1, chI h (unR (now.getD n ⟨#[]⟩))) | none => none) else rdK now f (n + 1) (chI h (unR (now.getD n ⟨#[]⟩))) (t ++ unP (now.getD n ⟨#[]⟩))) else none
section
variable {now : List ByteArray} {f n : Nat} {h : Int} {t : ByteArray}
theorem rd_no (ho : ¬ unOk h (now.getD n ⟨#[]⟩)) : rdK now (f + 1) n h t = none := by simp only [rdK]; rw [if_neg ho]
theorem rd_more (ho : unOk h (now.getD n ⟨#[]⟩)) (hl : lastB (now.getD n ⟨#[]⟩) = false) : rdK now (f + 1) n h t = rdK now f (n + 1) (chI h (unR (now.getD n ⟨#[]⟩))) (t ++ unP (now.getD n ⟨#[]⟩)) := by
  simp only [rdK]; rw [if_pos ho, hl, if_neg (by decide)]
theorem rd_last (ho : unOk h (now.getD n ⟨#[]⟩)) (hl : lastB (now.getD n ⟨#[]⟩) = true) : rdK now (f + 1) n h t = (match ucG (t ++ unP (now.getD n ⟨#[]⟩)) with | some g => some (g, n + 1, chI h (unR (now.getD n ⟨#[]⟩))) | none => none) := by
  simp only [rdK]; rw [if_pos ho, if_pos hl]
end
theorem uc_len : ∀ {s : ByteArray} {g : List ByteArray}, ucG s = some g → g.length ≤ 256 := by
  have key : ∀ (f : Nat) (s : ByteArray) (acc g : List ByteArray), acc.length ≤ 256 → ucR f s acc = some g → g.length ≤ 256 := by
    intro f
    induction f with
    | zero => intro s acc g _ h; cases h
    | succ f ih =>
      intro s acc g hl h
      by_cases h0 : s.size = 0
      · by_cases h1 : acc.length = 0
        · simp only [ucR] at h; rw [if_pos h0, if_pos h1] at h; cases h
        · rw [uc_end h0 (by omega)] at h; cases h; exact hl
      · by_cases ha : ucA s
        · by_cases hb : ucB s acc.length
          · rw [uc_step h0 ha hb] at h
            exact ih _ _ _ (by rw [List.length_append]; have := hb.2; show acc.length + 1 ≤ 256; omega) h
          · rw [uc_noB h0 hb] at h; cases h
        · rw [uc_noA h0 ha] at h; cases h
  intro s g h
  exact key _ s [] g (Nat.zero_le _) h
def nxJ (j : Jr) : Option (List ByteArray × Nat × Int) → Jr
  | none => j
  | some (g, n, h) => addJ j g.length g n h
def nxR (j : Jr) (d : Dk) : Option (List ByteArray × Nat × Int) := rdK d.now (d.nn - j.used) j.used j.head ⟨#[]⟩
def nxB : Option (List ByteArray × Nat × Int) → Bool
  | none => false
  | some _ => true
/-- The blocks of a disk are short. -/
structure Dk.sz (d : Dk) : Prop where
  now : ∀ b ∈ d.now, b.size ≤ 64
  kept : ∀ b ∈ d.kept, b.size ≤ 64
  ps : ∀ b ∈ d.ps, b.size ≤ 64
theorem sz_at {l : List ByteArray} (h : ∀ b ∈ l, b.size ≤ 64) (i : Nat) : (l.getD i ⟨#[]⟩).size ≤ 64 := by
  rcases Nat.lt_or_ge i l.length with hi | hi
  · rw [List.getD, List.getElem?_eq_getElem hi]; exact h _ (List.getElem_mem hi)
  · rw [List.getD, List.getElem?_eq_none hi]; decide
def nxS (j : Jr) (d : Dk) (x : Nat × Nat × Int × ByteArray × Bool) : VS := match x with
  | (_, n, h, _, false) => ⟨[(0, .ptr 1 0 0 0), (3, .ptr 8 0 0 0), (4, .int .u64 h), (5, .int .i64 n)], [(1, cellB false (jrC 5 6 j)), (2, cellB true (dkJ 7 d)), (4, grB d.nn d.now), (5, grW j.nr j.recs), (8, bld0B)], 9⟩
  | (_, n, h, t, true) => ⟨[(0, .ptr 1 0 0 0), (3, .ptr 8 0 0 0), (4, .int .u64 h), (5, .int .i64 n)], [(1, cellB false (jrC 5 6 j)), (2, cellB true (dkJ 7 d)), (4, grB d.nn d.now), (5, grW j.nr j.recs), (8, bldB 9 t.size), (9, browB t)], 10⟩
theorem jr_next (j : Jr) (d : Dk) (hd : d.down = false) (hnn : d.nn ≤ 4096) (hsz : ∀ b ∈ d.now, b.size ≤ 64) (hu : j.used ≤ d.nn) (hgs : j.groups ≤ j.used) (hrm : j.nr ≤ 256 * j.groups) :
    FC Tryd.prog 8 30 [.ptr 1 0 0 0] [(1, cellB false (jrC 5 6 j)), (2, cellB true (dkJ 7 d)), (4, grB d.nn d.now), (5, grW j.nr j.recs)]
      (isOut (.bool (nxB (nxR j d))) [(1, cellB false (jrC 8 6 (nxJ j (nxR j d)))), (8, grW (nxJ j (nxR j d)).nr (nxJ j (nxR j d)).recs)] 9) := by
  have c1 := disk_Blocks d
  obtain ⟨R, hR⟩ : ∃ R, nxR j d = R := ⟨_, rfl⟩
  rw [hR]
  refine fc_of mixed T_ok Tryd.func30 rfl (by kernel_rfl) (by kernel_rfl) (by kernel_rfl) ?_
  repeat' ((conv => whnf); first | ((first | apply br_dec | apply br_ndec) <;> intro h <;> try (exfalso; (try dsimp only at h); omega)) | ((first | apply br_seq | apply br_nseq | apply br_not | apply br_intro) <;> intro h) | refine cond_a ?_)
  all_goals (conv => whnf)
  refine vloop_of (nxS j d) (fun x => x.2.1 + x.1 = d.nn ∧ j.used ≤ x.2.1 ∧ rdK d.now x.1 x.2.1 x.2.2.1 x.2.2.2.1 = R ∧ (x.2.2.2.2 = false → x.2.2.2.1 = ⟨#[]⟩) ∧ (x.2.2.2.2 = true → 0 < x.2.2.2.1.size ∧ x.2.2.2.1.size ≤ 64 * x.2.1)) (fun x => x.1) (d.nn - j.used, j.used, j.head, ⟨#[]⟩, false) [0, 1, 2, 3, 4, 5, 6, 7, 8] [] ⟨rfl, ⟨rfl, rfl, rfl, rfl, trivial⟩, ⟨rfl, rfl, rfl, rfl, rfl, trivial⟩⟩ ⟨by dsimp only; omega, Nat.le_refl _, hR, fun _ => rfl, fun e => by cases e⟩ ?_
  rintro ⟨f, n, hh, t, st⟩ ⟨hf, hun, hr, hs0, hs1⟩
  dsimp only at hf hun hr hs0 hs1 ⊢
  have c2 := disk_Read d (n : Int)
  cases f with
  | zero =>
    have hn : n = d.nn := by omega
    have hr : R = none := hr.symm
    subst hr
    cases st with
    | false =>
      repeat' ((conv => whnf); first | refine vcall_o (l := [0, 2, 3, 4, 7]) (c1) ?_ | refine vcallD_o (l := [0, 2, 3, 4, 7]) (c1) ?_ | ((first | apply br_dec | apply br_ndec) <;> intro h <;> try (exfalso; (try dsimp only at h); omega)) | ((first | apply br_seq | apply br_nseq | apply br_not | apply br_intro) <;> intro h) | refine cond_a ?_)
      all_goals (conv => whnf)
      all_goals first
        | (exfalso; omega)
        | exact ret_out (l := [0, 1, 2, 3, 4, 5, 6, 7, 5]) rfl rfl ⟨rfl, rfl, trivial⟩ (allRw_cons (allRw_cons allRw_nil))
    | true =>
      repeat' ((conv => whnf); first | refine vcall_o (l := [0, 2, 3, 4, 7]) (c1) ?_ | refine vcallD_o (l := [0, 2, 3, 4, 7]) (c1) ?_ | ((first | apply br_dec | apply br_ndec) <;> intro h <;> try (exfalso; (try dsimp only at h); omega)) | ((first | apply br_seq | apply br_nseq | apply br_not | apply br_intro) <;> intro h) | refine cond_a ?_)
      all_goals (conv => whnf)
      all_goals first
        | (exfalso; omega)
        | exact ret_out (l := [0, 1, 2, 3, 4, 5, 6, 7, 5]) rfl rfl ⟨rfl, rfl, trivial⟩ (allRw_cons (allRw_cons allRw_nil))
  | succ f =>
    have hn : n < d.nn := by omega
    obtain ⟨B, hB⟩ : ∃ B, d.now.getD n ⟨#[]⟩ = B := ⟨_, rfl⟩
    have zB : B.size ≤ 64 := by rw [← hB]; exact sz_at hsz n
    have er : readD d (n : Int) = (d.now.getD n ⟨#[]⟩, 0) := by unfold readD; rw [if_neg (by rw [hd]; decide), if_neg (by omega), Int.toNat_natCast]
    rw [er, hB] at c2
    dsimp only at c2
    by_cases ho : unOk hh B
    · have c3 := jr_unblock hh B (by omega) ho
      have z1 := ho.1
      have zp := unP_size ho.1
      have ho' : unOk hh (d.now.getD n ⟨#[]⟩) := by rw [hB]; exact ho
      cases st with
      | false =>
        have ht := hs0 rfl
        subst ht
        have c4 := bld_WS0 (unP B) (by omega) (by omega)
        cases hl : lastB B with
        | false =>
          unfold unV at c3
          rw [hl] at c3
          rw [rd_more ho' (by rw [hB]; exact hl), hB, ba_nil] at hr
          repeat' ((conv => whnf); first | refine vcall_o (l := [0, 2, 3, 4, 7]) (c1) ?_ | refine vcallD_o (l := [0, 2, 3, 4, 7]) (c1) ?_ | refine vcall_o (l := [0, 2, 3, 4, 7]) (c2) ?_ | refine vcallD_o (l := [0, 2, 3, 4, 7]) (c2) ?_ | (refine vcall_pure (c3) rfl rfl rfl ?_) | (refine vcallD_pure (c3) rfl rfl rfl ?_) | refine vcall_o (l := [0, 8]) (c4) ?_ | ((first | apply br_dec | apply br_ndec) <;> intro h <;> try (exfalso; (try dsimp only at h); omega)) | ((first | apply br_seq | apply br_nseq | apply br_not | apply br_intro) <;> intro h) | refine cond_a ?_)
          all_goals (conv => whnf)
          all_goals first
            | (exfalso; omega)
            | (exfalso; exact h rfl)
            | skip
          refine ⟨(f, n + 1, chI hh (unR B), unP B, true), [0, 1, 2, 3, 4, 5, 6, 7, 8, 9], [], ⟨by dsimp only; omega, by dsimp only; omega, hr, (fun e => by cases e), fun _ => ⟨by dsimp only; omega, by dsimp only; omega⟩⟩, by dsimp only; omega, ⟨rfl, ⟨rfl, rfl, rfl, congrArg (fun z => some (SV.int .i64 z)) (i64_succ (by omega)), trivial⟩, ⟨rfl, rfl, rfl, rfl, rfl, rfl, trivial⟩⟩⟩
        | true =>
          unfold unV at c3
          rw [hl] at c3
          have c5 := bld_String (unP B) (by omega)
          have c6 := jr_uncut (unP B) (by omega) (by omega)
          rw [rd_last ho' (by rw [hB]; exact hl), hB, ba_nil] at hr
          cases hu : ucG (unP B) with
          | none =>
            rw [hu] at c6 hr
            subst hr
            simp only [ucOut] at c6
            repeat' ((conv => whnf); first | refine vcall_o (l := [0, 2, 3, 4, 7]) (c1) ?_ | refine vcallD_o (l := [0, 2, 3, 4, 7]) (c1) ?_ | refine vcall_o (l := [0, 2, 3, 4, 7]) (c2) ?_ | refine vcallD_o (l := [0, 2, 3, 4, 7]) (c2) ?_ | (refine vcall_pure (c3) rfl rfl rfl ?_) | (refine vcallD_pure (c3) rfl rfl rfl ?_) | refine vcall_o (l := [0, 8]) (c4) ?_ | refine vcall_o (l := [0, 8, 9]) (c5) ?_ | refine vcall_o (l := [0]) (c6) ?_ | ((first | apply br_dec | apply br_ndec) <;> intro h <;> try (exfalso; (try dsimp only at h); omega)) | ((first | apply br_seq | apply br_nseq | apply br_not | apply br_intro) <;> intro h) | refine cond_a ?_)
            all_goals (conv => whnf)
            all_goals first
              | (exfalso; omega)
              | exact ret_out (l := [0, 1, 2, 3, 4, 5, 6, 7, 5]) rfl rfl ⟨rfl, rfl, trivial⟩ (allRw_cons (allRw_cons allRw_nil))
          | some g =>
            rw [hu] at c6 hr
            subst hr
            simp only [ucOut] at c6
            have c7 := jr_add j g.length g (n + 1) (chI hh (unR B)) rfl (by omega) (by omega) (Nat.le_trans (uc_len hu) (by omega))
            have e1 : IntKind.i64.wrap ((n : Int) + 1) = ((n + 1 : Nat) : Int) := i64_succ (by omega)
            rw [← e1] at c7
            repeat' ((conv => whnf); first | refine vcall_o (l := [0, 2, 3, 4, 7]) (c1) ?_ | refine vcallD_o (l := [0, 2, 3, 4, 7]) (c1) ?_ | refine vcall_o (l := [0, 2, 3, 4, 7]) (c2) ?_ | refine vcallD_o (l := [0, 2, 3, 4, 7]) (c2) ?_ | (refine vcall_pure (c3) rfl rfl rfl ?_) | (refine vcallD_pure (c3) rfl rfl rfl ?_) | refine vcall_o (l := [0, 8]) (c4) ?_ | refine vcall_o (l := [0, 8, 9]) (c5) ?_ | refine vcall_o (l := [0]) (c6) ?_ | refine vcall_o (l := [0, 1, 2, 3, 4, 5, 6, 7, 10]) (c7) ?_ | ((first | apply br_dec | apply br_ndec) <;> intro h <;> try (exfalso; (try dsimp only at h); omega)) | ((first | apply br_seq | apply br_nseq | apply br_not | apply br_intro) <;> intro h) | refine cond_a ?_)
            all_goals (conv => whnf)
            all_goals first
              | (exfalso; omega)
              | exact ret_out (l := [0, 1, 2, 3, 4, 5, 6, 7, 11]) rfl rfl ⟨rfl, rfl, trivial⟩ (allRw_cons (allRw_cons allRw_nil))
      | true =>
        obtain ⟨ht0, ht1⟩ := hs1 rfl
        have c4 := bld_WS t (unP B) (by omega) (by omega)
        cases hl : lastB B with
        | false =>
          unfold unV at c3
          rw [hl] at c3
          rw [rd_more ho' (by rw [hB]; exact hl), hB] at hr
          repeat' ((conv => whnf); first | refine vcall_o (l := [0, 2, 3, 4, 7]) (c1) ?_ | refine vcallD_o (l := [0, 2, 3, 4, 7]) (c1) ?_ | refine vcall_o (l := [0, 2, 3, 4, 7]) (c2) ?_ | refine vcallD_o (l := [0, 2, 3, 4, 7]) (c2) ?_ | (refine vcall_pure (c3) rfl rfl rfl ?_) | (refine vcallD_pure (c3) rfl rfl rfl ?_) | refine vcall_o (l := [0, 8, 9]) (c4) ?_ | ((first | apply br_dec | apply br_ndec) <;> intro h <;> try (exfalso; (try dsimp only at h); omega)) | ((first | apply br_seq | apply br_nseq | apply br_not | apply br_intro) <;> intro h) | refine cond_a ?_)
          all_goals (conv => whnf)
          all_goals first
            | (exfalso; omega)
            | (exfalso; exact h rfl)
            | skip
          refine ⟨(f, n + 1, chI hh (unR B), t ++ unP B, true), [0, 1, 2, 3, 4, 5, 6, 7, 8, 10], [], ⟨by dsimp only; omega, by dsimp only; omega, hr, (fun e => by cases e), fun _ => ⟨by dsimp only; rw [ba_size]; omega, by dsimp only; rw [ba_size]; omega⟩⟩, by dsimp only; omega, ⟨rfl, ⟨rfl, rfl, rfl, congrArg (fun z => some (SV.int .i64 z)) (i64_succ (by omega)), trivial⟩, ⟨rfl, rfl, rfl, rfl, rfl, rfl, trivial⟩⟩⟩
        | true =>
          unfold unV at c3
          rw [hl] at c3
          have c5 := bld_String (t ++ unP B) (by rw [ba_size]; omega)
          have c6 := jr_uncut (t ++ unP B) (by rw [ba_size]; omega) (by rw [ba_size]; omega)
          rw [rd_last ho' (by rw [hB]; exact hl), hB] at hr
          cases hu : ucG (t ++ unP B) with
          | none =>
            rw [hu] at c6 hr
            subst hr
            simp only [ucOut] at c6
            repeat' ((conv => whnf); first | refine vcall_o (l := [0, 2, 3, 4, 7]) (c1) ?_ | refine vcallD_o (l := [0, 2, 3, 4, 7]) (c1) ?_ | refine vcall_o (l := [0, 2, 3, 4, 7]) (c2) ?_ | refine vcallD_o (l := [0, 2, 3, 4, 7]) (c2) ?_ | (refine vcall_pure (c3) rfl rfl rfl ?_) | (refine vcallD_pure (c3) rfl rfl rfl ?_) | refine vcall_o (l := [0, 8, 9]) (c4) ?_ | refine vcall_o (l := [0, 8, 10]) (c5) ?_ | refine vcall_o (l := [0]) (c6) ?_ | ((first | apply br_dec | apply br_ndec) <;> intro h <;> try (exfalso; (try dsimp only at h); omega)) | ((first | apply br_seq | apply br_nseq | apply br_not | apply br_intro) <;> intro h) | refine cond_a ?_)
            all_goals (conv => whnf)
            all_goals first
              | (exfalso; omega)
              | exact ret_out (l := [0, 1, 2, 3, 4, 5, 6, 7, 5]) rfl rfl ⟨rfl, rfl, trivial⟩ (allRw_cons (allRw_cons allRw_nil))
          | some g =>
            rw [hu] at c6 hr
            subst hr
            simp only [ucOut] at c6
            have c7 := jr_add j g.length g (n + 1) (chI hh (unR B)) rfl (by omega) (by omega) (Nat.le_trans (uc_len hu) (by omega))
            have e1 : IntKind.i64.wrap ((n : Int) + 1) = ((n + 1 : Nat) : Int) := i64_succ (by omega)
            rw [← e1] at c7
            repeat' ((conv => whnf); first | refine vcall_o (l := [0, 2, 3, 4, 7]) (c1) ?_ | refine vcallD_o (l := [0, 2, 3, 4, 7]) (c1) ?_ | refine vcall_o (l := [0, 2, 3, 4, 7]) (c2) ?_ | refine vcallD_o (l := [0, 2, 3, 4, 7]) (c2) ?_ | (refine vcall_pure (c3) rfl rfl rfl ?_) | (refine vcallD_pure (c3) rfl rfl rfl ?_) | refine vcall_o (l := [0, 8, 9]) (c4) ?_ | refine vcall_o (l := [0, 8, 10]) (c5) ?_ | refine vcall_o (l := [0]) (c6) ?_ | refine vcall_o (l := [0, 1, 2, 3, 4, 5, 6, 7, 11]) (c7) ?_ | ((first | apply br_dec | apply br_ndec) <;> intro h <;> try (exfalso; (try dsimp only at h); omega)) | ((first | apply br_seq | apply br_nseq | apply br_not | apply br_intro) <;> intro h) | refine cond_a ?_)
            all_goals (conv => whnf)
            all_goals first
              | (exfalso; omega)
              | exact ret_out (l := [0, 1, 2, 3, 4, 5, 6, 7, 12]) rfl rfl ⟨rfl, rfl, trivial⟩ (allRw_cons (allRw_cons allRw_nil))
    · have c3 := jr_unblock_no hh B (by omega) ho
      unfold unN at c3
      rw [← hB] at ho
      rw [rd_no ho] at hr
      subst hr
      cases st with
      | false =>
        repeat' ((conv => whnf); first | refine vcall_o (l := [0, 2, 3, 4, 7]) (c1) ?_ | refine vcallD_o (l := [0, 2, 3, 4, 7]) (c1) ?_ | refine vcall_o (l := [0, 2, 3, 4, 7]) (c2) ?_ | refine vcallD_o (l := [0, 2, 3, 4, 7]) (c2) ?_ | (refine vcall_pure (c3) rfl rfl rfl ?_) | (refine vcallD_pure (c3) rfl rfl rfl ?_) | ((first | apply br_dec | apply br_ndec) <;> intro h <;> try (exfalso; (try dsimp only at h); omega)) | ((first | apply br_seq | apply br_nseq | apply br_not | apply br_intro) <;> intro h) | refine cond_a ?_)
        all_goals (conv => whnf)
        all_goals first
          | (exfalso; omega)
          | exact ret_out (l := [0, 1, 2, 3, 4, 5, 6, 7, 5]) rfl rfl ⟨rfl, rfl, trivial⟩ (allRw_cons (allRw_cons allRw_nil))
      | true =>
        repeat' ((conv => whnf); first | refine vcall_o (l := [0, 2, 3, 4, 7]) (c1) ?_ | refine vcallD_o (l := [0, 2, 3, 4, 7]) (c1) ?_ | refine vcall_o (l := [0, 2, 3, 4, 7]) (c2) ?_ | refine vcallD_o (l := [0, 2, 3, 4, 7]) (c2) ?_ | (refine vcall_pure (c3) rfl rfl rfl ?_) | (refine vcallD_pure (c3) rfl rfl rfl ?_) | ((first | apply br_dec | apply br_ndec) <;> intro h <;> try (exfalso; (try dsimp only at h); omega)) | ((first | apply br_seq | apply br_nseq | apply br_not | apply br_intro) <;> intro h) | refine cond_a ?_)
        all_goals (conv => whnf)
        all_goals first
          | (exfalso; omega)
          | exact ret_out (l := [0, 1, 2, 3, 4, 5, 6, 7, 5]) rfl rfl ⟨rfl, rfl, trivial⟩ (allRw_cons (allRw_cons allRw_nil))
end Go.Proofs.YtdlpmmdbdjlojaaDoor

/- Contracts of package journal: Open, and what a journal tells. -/
namespace Go.Proofs.YtdlpmmdbdjlojaaDoor
open Go.RowKit Go.Sy
attribute [local irreducible] vcall vloop vcallD retP
set_option maxRecDepth 100000
set_option linter.unusedVariables false
set_option linter.unusedSimpArgs false
attribute [local irreducible] seq ByteArray.extract
theorem rd_bd {now : List ByteArray} : ∀ {f n : Nat} {h : Int} {t : ByteArray} {g : List ByteArray} {n' : Nat} {h' : Int}, rdK now f n h t = some (g, n', h') → n < n' ∧ n' ≤ n + f ∧ g.length ≤ 256 ∧ 0 ≤ h' ∧ h' < 18446744073709551616 := by
  intro f
  induction f with
  | zero => intro n h t g n' h' e; cases e
  | succ f ih =>
    intro n h t g n' h' e
    by_cases ho : unOk h (now.getD n ⟨#[]⟩)
    · cases hl : lastB (now.getD n ⟨#[]⟩) with
      | true =>
        rw [rd_last ho hl] at e
        cases hu : ucG (t ++ unP (now.getD n ⟨#[]⟩)) with
        | none => rw [hu] at e; cases e
        | some g0 =>
          rw [hu] at e
          cases e
          exact ⟨by omega, by omega, uc_len hu, (chI_bd _ _).1, (chI_bd _ _).2⟩
      | false =>
        rw [rd_more ho hl] at e
        obtain ⟨a, b, c⟩ := ih e
        exact ⟨by omega, by omega, c⟩
    · rw [rd_no ho] at e; cases e
/-- All groups on a disk are taken up. -/
def opK (d : Dk) : Nat → Jr → Jr
  | 0, j => j
  | f + 1, j => match nxR j d with
    | none => j
    | some r => opK d f (nxJ j (some r))
def jr0 : Jr := ⟨[], 0, 0, 0, 0, [], 0, false⟩
def opJ (d : Dk) : Jr := opK d (d.nn + 1) jr0
/-- What a journal is like that was opened. -/
structure JO (d : Dk) (j : Jr) : Prop where
  us : j.used ≤ d.nn
  gs : j.groups ≤ j.used
  rl : j.recs.length = j.nr
  rm : j.nr ≤ 256 * j.groups
  ge : j.grp = []
  gz : j.ng = 0
  st : j.stopped = false
  hb : 0 ≤ j.head ∧ j.head < 18446744073709551616
theorem jo_zero (d : Dk) : JO d jr0 := ⟨Nat.zero_le _, Nat.zero_le _, rfl, Nat.zero_le _, rfl, rfl, rfl, by decide⟩
theorem jo_next {d : Dk} {j : Jr} (h : JO d j) {r : List ByteArray × Nat × Int} (hr : nxR j d = some r) : JO d (nxJ j (some r)) ∧ j.used < (nxJ j (some r)).used := by
  obtain ⟨g, n, k⟩ := r
  have us := h.us
  have gs := h.gs
  have rl := h.rl
  have rm := h.rm
  obtain ⟨a, b, c, e⟩ := rd_bd hr
  refine ⟨⟨by show n ≤ d.nn; omega, by show j.groups + 1 ≤ n; omega, by show (j.recs ++ g).length = j.nr + g.length; rw [List.length_append]; omega, by show j.nr + g.length ≤ 256 * (j.groups + 1); omega, h.ge, h.gz, h.st, e⟩, a⟩
theorem opK_jo {d : Dk} : ∀ (f : Nat) {j : Jr}, JO d j → JO d (opK d f j)
  | 0, j, h => h
  | f + 1, j, h => by
    simp only [opK]
    cases hr : nxR j d with
    | none => exact h
    | some r => exact opK_jo f (jo_next h hr).1
theorem opJ_jo (d : Dk) : JO d (opJ d) := opK_jo _ (jo_zero d)

/-- A journal behind its disk: the disk is 1, 2, 3, 4; the journal 5, its records r, its group g. -/
def jrO (r g : Nat) (j : Jr) : List SV := [.ptr 1 0 0 0, .sl r 0 0 j.nr, .int .i64 j.groups, .int .i64 j.used, .int .u64 j.head, .sl g 0 0 j.ng, .bool j.stopped]
def opS (d : Dk) (x : Nat × Jr) : VS := ⟨[(4, .ptr 5 0 0 0)], [(1, cellB true (dkC 4 d)), (3, grB d.nn d.now), (5, cellB false (jrO 6 7 x.2)), (6, grW x.2.nr x.2.recs), (7, grW x.2.ng x.2.grp)], 8⟩
theorem jr_Open (d : Dk) (hd : d.down = false) (hnn : d.nn ≤ 4096) (hsz : ∀ b ∈ d.now, b.size ≤ 64) :
    FC Tryd.prog 5 12 [.ptr 1 0 0 0] [(1, cellB true (dkC 4 d)), (3, grB d.nn d.now)]
      (isOut (.tup [.ptr 5 0 0 0, .int .i64 0]) [(5, cellB false (jrO 6 7 (opJ d))), (6, grW (opJ d).nr (opJ d).recs), (7, grW (opJ d).ng (opJ d).grp)] 8) := by
  have c1 := disk_Down d
  rw [hd] at c1
  obtain ⟨J, hJ⟩ : ∃ J, opJ d = J := ⟨_, rfl⟩
  rw [hJ]
  refine fc_of mixed T_ok Tryd.func12 rfl (by kernel_rfl) (by kernel_rfl) (by kernel_rfl) ?_
  repeat' ((conv => whnf); first | refine vcall_o (l := [0, 1, 2, 3, 4]) (c1) ?_ | refine vcallD_o (l := [0, 1, 2, 3, 4]) (c1) ?_ | ((first | apply br_dec | apply br_ndec) <;> intro h <;> try (exfalso; (try dsimp only at h); omega)) | ((first | apply br_seq | apply br_nseq | apply br_not | apply br_intro) <;> intro h) | refine cond_a ?_)
  all_goals (conv => whnf)
  refine vloop_of (opS d) (fun x => opK d x.1 x.2 = J ∧ JO d x.2 ∧ d.nn < x.2.used + x.1) (fun x => x.1) (d.nn + 1, jr0) [0, 1, 2, 3, 4, 5, 6, 7] [.cell 5 1 [.sc (.strs [])], .cell 5 5 [.sc (.strs [])]] ⟨rfl, ⟨rfl, trivial⟩, ⟨rfl, rfl, rfl, rfl, rfl, trivial⟩⟩ ⟨hJ, jo_zero d, by show d.nn < 0 + (d.nn + 1); omega⟩ ?_
  rintro ⟨f, j⟩ ⟨hf, ho, hu⟩
  dsimp only at hf ho hu ⊢
  have us := ho.us
  obtain ⟨f, rfl⟩ : ∃ k, f = k + 1 := ⟨f - 1, by omega⟩
  have c2 := jr_next j d hd hnn hsz ho.us ho.gs ho.rm
  cases hr : nxR j d with
  | none =>
    rw [hr] at c2
    simp only [nxB, nxJ] at c2
    simp only [opK, hr] at hf
    subst hf
    repeat' ((conv => whnf); first | refine vcall_o (l := [0, 5, 1, 2, 3, 6, 7, 4]) (c2) ?_ | ((first | apply br_dec | apply br_ndec) <;> intro h <;> try (exfalso; (try dsimp only at h); omega)) | ((first | apply br_seq | apply br_nseq | apply br_not | apply br_intro) <;> intro h) | refine cond_a ?_)
    all_goals (conv => whnf)
    all_goals exact ret_out (l := [0, 1, 2, 3, 4, 5, 8, 7]) rfl rfl ⟨rfl, rfl, rfl, trivial⟩ (allRw_cons (allRw_cons (allRw_cons allRw_nil)))
  | some r =>
    obtain ⟨h1, h2⟩ := jo_next ho hr
    obtain ⟨g, n, k⟩ := r
    rw [hr] at c2
    simp only [nxB] at c2
    simp only [opK, hr] at hf
    repeat' ((conv => whnf); first | refine vcall_o (l := [0, 5, 1, 2, 3, 6, 7, 4]) (c2) ?_ | ((first | apply br_dec | apply br_ndec) <;> intro h <;> try (exfalso; (try dsimp only at h); omega)) | ((first | apply br_seq | apply br_nseq | apply br_not | apply br_intro) <;> intro h) | refine cond_a ?_)
    all_goals (conv => whnf)
    exact ⟨(f, nxJ j (some (g, n, k))), [0, 1, 2, 3, 4, 5, 8, 7], [], ⟨hf, h1, by dsimp only; omega⟩, Nat.lt_succ_self _, ⟨rfl, ⟨rfl, trivial⟩, ⟨rfl, rfl, rfl, rfl, rfl, trivial⟩⟩⟩
theorem jr_Groups (j : Jr) : FC Tryd.prog 8 18 [.ptr 1 0 0 0] [(1, cellB true (jrC 5 6 j))] (isOut (.int .i64 j.groups) [] 8) := by
  refine fc_of mixed T_ok Tryd.func18 rfl (by kernel_rfl) (by kernel_rfl) (by kernel_rfl) ?_
  repeat' ((conv => whnf); first | ((first | apply br_dec | apply br_ndec) <;> intro h <;> try (exfalso; (try dsimp only at h); omega)) | ((first | apply br_seq | apply br_nseq | apply br_not | apply br_intro) <;> intro h) | refine cond_a ?_)
  all_goals (conv => whnf)
  all_goals exact ret_out (l := [0, 1, 2, 3, 4, 5, 6, 7]) rfl rfl trivial allRw_nil
theorem jr_Pending (j : Jr) : FC Tryd.prog 8 15 [.ptr 1 0 0 0] [(1, cellB true (jrC 5 6 j))] (isOut (.int .i64 j.ng) [] 8) := by
  refine fc_of mixed T_ok Tryd.func15 rfl (by kernel_rfl) (by kernel_rfl) (by kernel_rfl) ?_
  repeat' ((conv => whnf); first | ((first | apply br_dec | apply br_ndec) <;> intro h <;> try (exfalso; (try dsimp only at h); omega)) | ((first | apply br_seq | apply br_nseq | apply br_not | apply br_intro) <;> intro h) | refine cond_a ?_)
  all_goals (conv => whnf)
  all_goals exact ret_out (l := [0, 1, 2, 3, 4, 5, 6, 7]) rfl rfl trivial allRw_nil
theorem jr_Room (j : Jr) (d : Dk) (hnn : d.nn ≤ 4096) (hu : j.used ≤ d.nn) : FC Tryd.prog 8 19 [.ptr 1 0 0 0] [(1, cellB true (jrC 5 6 j)), (2, cellB true (dkJ 7 d))] (isOut (.int .i64 ((d.nn : Int) - (j.used : Int))) [] 8) := by
  have c1 := disk_Blocks d
  refine fc_of mixed T_ok Tryd.func19 rfl (by kernel_rfl) (by kernel_rfl) (by kernel_rfl) ?_
  repeat' ((conv => whnf); first | refine vcall_o (l := [0, 2, 3, 4, 7]) (c1) ?_ | refine vcallD_o (l := [0, 2, 3, 4, 7]) (c1) ?_ | ((first | apply br_dec | apply br_ndec) <;> intro h <;> try (exfalso; (try dsimp only at h); omega)) | ((first | apply br_seq | apply br_nseq | apply br_not | apply br_intro) <;> intro h) | refine cond_a ?_)
  all_goals (conv => whnf)
  rw [w64_in (by omega) (by omega)]
  exact ret_out (l := [0, 1, 2, 3, 4, 5, 6, 7]) rfl rfl trivial allRw_nil
end Go.Proofs.YtdlpmmdbdjlojaaDoor

/- Contracts of package journal: Append, Commit. -/
namespace Go.Proofs.YtdlpmmdbdjlojaaDoor
open Go.RowKit Go.Sy
attribute [local irreducible] vcall vloop vcallD retP retD
set_option maxRecDepth 100000
set_option linter.unusedVariables false
set_option linter.unusedSimpArgs false
attribute [local irreducible] seq ByteArray.extract
/-- Append. -/
def jaZ (j : Jr) (r : ByteArray) : Nat := 4 + r.size + szK j.grp j.ng
def jaE (j : Jr) (d : Dk) (r : ByteArray) : Int := if j.stopped = true then 13 else if 4000 < r.size then 3 else if 256 ≤ j.ng then 12 else if d.nn - j.used < (jaZ j r + 44) / 45 then 12 else 0
def jaJ (j : Jr) (d : Dk) (r : ByteArray) : Jr := if jaE j d r = 0 then { j with grp := j.grp ++ [r], ng := j.ng + 1 } else j
theorem jaJ_ok {j : Jr} {d : Dk} {r : ByteArray} (h : jaE j d r = 0) : jaJ j d r = { j with grp := j.grp ++ [r], ng := j.ng + 1 } := by unfold jaJ; rw [if_pos h]
theorem jaJ_no {j : Jr} {d : Dk} {r : ByteArray} (h : jaE j d r ≠ 0) : jaJ j d r = j := by unfold jaJ; rw [if_neg h]
theorem jr_Append (j : Jr) (d : Dk) (r : ByteArray) (hj : j.ok d) (hnn : d.nn ≤ 4096) : FC Tryd.prog 8 24 [.ptr 1 0 0 0, .str r] [(1, cellB false (jrC 5 6 j)), (2, cellB true (dkJ 7 d)), (6, grW j.ng j.grp)]
    (isOut (.int .i64 (jaE j d r)) [(1, cellB false (jrC 5 8 (jaJ j d r))), (8, grW (jaJ j d r).ng (jaJ j d r).grp)] 9) := by
  have gl := hj.gl
  have gm := hj.gm
  have us := hj.us
  have go := hj.go
  by_cases h1 : j.stopped = true
  · have e : jaE j d r = 13 := by unfold jaE; rw [if_pos h1]
    rw [jaJ_no (by omega), e]
    refine fc_of mixed T_ok Tryd.func24 rfl (by kernel_rfl) (by kernel_rfl) (by kernel_rfl) ?_
    repeat' ((conv => whnf); first | ((first | apply br_dec | apply br_ndec) <;> intro h <;> try (exfalso; (try dsimp only at h); omega)) | ((first | apply br_seq | apply br_nseq | apply br_not | apply br_intro) <;> intro h) | refine cond_a ?_)
    all_goals (conv => whnf)
    all_goals first
      | exact ret_out (l := [0, 1, 2, 3, 4, 5, 6, 7, 6]) rfl rfl ⟨rfl, rfl, trivial⟩ (allRw_cons (allRw_cons allRw_nil))
      | (exfalso; simp_all; done)
  · have h1' : j.stopped = false := by cases h : j.stopped with | false => rfl | true => exact absurd h h1
    by_cases h2 : 4000 < r.size
    · have e : jaE j d r = 3 := by unfold jaE; rw [if_neg h1, if_pos h2]
      rw [jaJ_no (by omega), e]
      refine fc_of mixed T_ok Tryd.func24 rfl (by kernel_rfl) (by kernel_rfl) (by kernel_rfl) ?_
      repeat' ((conv => whnf); first | ((first | apply br_dec | apply br_ndec) <;> intro h <;> try (exfalso; (try dsimp only at h); omega)) | ((first | apply br_seq | apply br_nseq | apply br_not | apply br_intro) <;> intro h) | refine cond_a ?_)
      all_goals (conv => whnf)
      all_goals first
        | exact ret_out (l := [0, 1, 2, 3, 4, 5, 6, 7, 6]) rfl rfl ⟨rfl, rfl, trivial⟩ (allRw_cons (allRw_cons allRw_nil))
        | (exfalso; simp_all; done)
    · by_cases h3 : 256 ≤ j.ng
      · have e : jaE j d r = 12 := by unfold jaE; rw [if_neg h1, if_neg h2, if_pos h3]
        rw [jaJ_no (by omega), e]
        refine fc_of mixed T_ok Tryd.func24 rfl (by kernel_rfl) (by kernel_rfl) (by kernel_rfl) ?_
        repeat' ((conv => whnf); first | ((first | apply br_dec | apply br_ndec) <;> intro h <;> try (exfalso; (try dsimp only at h); omega)) | ((first | apply br_seq | apply br_nseq | apply br_not | apply br_intro) <;> intro h) | refine cond_a ?_)
        all_goals (conv => whnf)
        all_goals first
          | exact ret_out (l := [0, 1, 2, 3, 4, 5, 6, 7, 6]) rfl rfl ⟨rfl, rfl, trivial⟩ (allRw_cons (allRw_cons allRw_nil))
          | (exfalso; simp_all; done)
      · have c1 := jr_Room j d hnn us
        have hz := szK_le go j.ng
        have e0 : ∀ h : ¬ d.nn - j.used < (jaZ j r + 44) / 45, jaE j d r = 0 := fun h => by unfold jaE; rw [if_neg h1, if_neg h2, if_neg h3, if_neg h]
        have e12 : ∀ h : d.nn - j.used < (jaZ j r + 44) / 45, jaE j d r = 12 := fun h => by unfold jaE; rw [if_neg h1, if_neg h2, if_neg h3, if_pos h]
        refine fc_of mixed T_ok Tryd.func24 rfl (by kernel_rfl) (by kernel_rfl) (by kernel_rfl) ?_
        repeat' ((conv => whnf); first | ((first | apply br_dec | apply br_ndec) <;> intro h <;> try (exfalso; (try dsimp only at h); omega)) | ((first | apply br_seq | apply br_nseq | apply br_not | apply br_intro) <;> intro h) | refine cond_a ?_)
        all_goals (conv => whnf)
        all_goals first
          | (exfalso; simp_all; done)
          | skip
        refine vloop_of (fun k : Nat => ⟨[(0, .ptr 1 0 0 0), (1, .str r), (5, .int .i64 (4 + r.size + szK j.grp k : Nat)), (29, .sl 6 0 0 j.ng), (30, .int .i64 j.ng), (31, .int .i64 k)], [(1, cellB false (jrC 5 6 j)), (2, cellB true (dkJ 7 d)), (6, grW j.ng j.grp)], 8⟩) (fun k => k ≤ j.ng) (fun k => j.ng - k) 0 [0, 1, 2, 3, 4, 5, 6, 7] [] ⟨rfl, ⟨rfl, rfl, ?_, rfl, rfl, rfl, trivial⟩, ⟨rfl, rfl, rfl, trivial⟩⟩ (Nat.zero_le _) ?_
        · refine congrArg (fun z => some (SV.int .i64 z)) ?_
          rw [w64_in (by omega) (by omega)]
          show (4 : Int) + r.size = ((4 + r.size + 0 : Nat) : Int)
          omega
        intro k hk
        have hzk := szK_le go k
        have hrk := okR_at go k
        by_cases hlt : k < j.ng
        · repeat' ((conv => whnf); first | ((first | apply br_dec | apply br_ndec) <;> intro h <;> try (exfalso; (try dsimp only at h); omega)) | ((first | apply br_seq | apply br_nseq | apply br_not | apply br_intro) <;> intro h) | refine cond_a ?_)
          all_goals (conv => whnf)
          all_goals first
            | (exfalso; omega)
            | skip
          refine ⟨k + 1, [0, 1, 2, 3, 4, 5, 6, 7], [], by omega, by omega, ⟨rfl, ⟨rfl, rfl, ?_, rfl, rfl, congrArg (fun z => some (SV.int .i64 z)) (i64_succ (by omega)), trivial⟩, ⟨rfl, rfl, rfl, trivial⟩⟩⟩
          refine congrArg (fun z => some (SV.int .i64 z)) ?_
          rw [show IntKind.i64.wrap (4 + ((j.grp.getD ((k : Int).toNat + 0) ⟨#[]⟩).size : Int)) = 4 + ((j.grp.getD k ⟨#[]⟩).size : Int) from w64_in (n := 4 + ((j.grp.getD k ⟨#[]⟩).size : Int)) (by omega) (by omega), w64_in (by omega) (by omega)]
          simp only [szK]
          omega
        · have ek : k = j.ng := by omega
          subst ek
          have hzd : jaZ j r = 4 + r.size + szK j.grp j.ng := rfl
          have ez : IntKind.i64.wrap ((IntKind.i64.wrap (IntKind.i64.wrap (((4 + r.size + szK j.grp j.ng : Nat) : Int) + 45) - 1)).tdiv 45) = (((jaZ j r + 44) / 45 : Nat) : Int) := by
            rw [w64_in (n := ((4 + r.size + szK j.grp j.ng : Nat) : Int) + 45) (by omega) (by omega), w64_in (n := ((4 + r.size + szK j.grp j.ng : Nat) : Int) + 45 - 1) (by omega) (by omega), Int.tdiv_eq_ediv_of_nonneg (by omega), w64_in (by omega) (by omega)]
            omega
          repeat' ((conv => whnf); first | refine vcall_o (l := [0, 1, 2, 3, 4, 5, 6, 7]) (c1) ?_ | refine vcallD_o (l := [0, 1, 2, 3, 4, 5, 6, 7]) (c1) ?_ | ((first | apply br_dec | apply br_ndec) <;> intro h <;> try (exfalso; (try dsimp only at h); omega)) | ((first | apply br_seq | apply br_nseq | apply br_not | apply br_intro) <;> intro h) | refine cond_a ?_)
          all_goals (conv => whnf)
          all_goals rw [ez] at h
          all_goals first
            | (have h' : (d.nn : Int) - (j.used : Int) < (((jaZ j r + 44) / 45 : Nat) : Int) := h
               have e := e12 (by omega)
               rw [jaJ_no (by omega), e]
               exact ret_out (l := [0, 1, 2, 3, 4, 5, 6, 7, 6]) rfl rfl ⟨rfl, rfl, trivial⟩ (allRw_cons (allRw_cons allRw_nil)))
            | (have h' : ¬ ((d.nn : Int) - (j.used : Int) < (((jaZ j r + 44) / 45 : Nat) : Int)) := h
               have e := e0 (by omega)
               rw [jaJ_ok e, e]
               exact ret_out (l := [0, 1, 2, 3, 4, 5, 6, 7, 9]) rfl rfl ⟨rfl, rfl, trivial⟩ (allRw_cons (allRw_cons allRw_nil)))
end Go.Proofs.YtdlpmmdbdjlojaaDoor

/- The laws of package disk: their helpers. -/
namespace Go.Proofs.YtdlpmmdbdjlojaaDoor
open Go.RowKit Go.Sy
attribute [local irreducible] vcall vloop vcallD retP
set_option maxRecDepth 100000
set_option linter.unusedVariables false

theorem crashD_ok {d : Dk} (h : d.ok) (m : Int) : (crashD m d).ok :=
  ⟨by simp only [crashD, crashL, crashTo_length]; exact h.kl, by simp only [crashD, crashL, crashTo_length]; exact h.kl, rfl, rfl, by simp [crashD], by simp [crashD], h.nm, by simp [crashD]⟩
theorem countZ_bd {n : Int} (h : 0 ≤ n ∧ n ≤ 1000000) : 0 ≤ countZ n ∧ countZ n ≤ 1000000 := by unfold countZ; split <;> omega
theorem countD_ok {d : Dk} (h : d.ok) : (countD d).ok := ⟨h.kl, h.nl, h.pl, h.sl, h.pb, h.pm, h.nm, countZ_bd h.sb⟩
theorem keepD_ok {d : Dk} (h : d.ok) : (keepD d).ok := ⟨by simp only [keepD, crashTo_length]; exact h.kl, h.nl, rfl, rfl, by simp [keepD], by simp [keepD], h.nm, h.sb⟩
theorem writeD_ok {d : Dk} (h : d.ok) (n : Int) (s : ByteArray) : (writeD d n s).1.ok := by
  unfold writeD
  split
  · exact h
  · split
    · exact h
    · split
      · exact h
      · split
        · exact h
        · have hp := putD_ok (s := s) h (n := n) (by omega) (by omega)
          split
          · exact crashD_ok hp _
          · exact countD_ok hp
theorem recoverD_ok {d : Dk} (h : d.ok) : (recoverD d).1.ok := by
  unfold recoverD
  split
  · exact ⟨h.kl, h.nl, h.pl, h.sl, h.pb, h.pm, h.nm, h.sb⟩
  · exact h
theorem armD_ok {d : Dk} (h : d.ok) (n m : Int) : (armD d n m).1.ok := by
  unfold armD
  split
  · exact h
  · split
    · exact h
    · exact ⟨h.kl, h.nl, h.pl, h.sl, h.pb, h.pm, h.nm, by simp only; omega⟩

end Go.Proofs.YtdlpmmdbdjlojaaDoor

/- Contracts of package journal: Commit. -/
namespace Go.Proofs.YtdlpmmdbdjlojaaDoor
open Go.RowKit Go.Sy
attribute [local irreducible] vcall vloop vcallD retP retD
set_option maxRecDepth 100000
set_option linter.unusedVariables false
set_option linter.unusedSimpArgs false
attribute [local irreducible] seq ByteArray.extract
/-- The deferred function: the present group is gone; the journal stands still unless all went well. -/
theorem jr_fin (b : Bool) (j : Jr) : FCD Tryd.prog 7 31 [.ptr 1 0 0 0, .ptr 2 0 0 0] [(1, cellB true [.ptr 3 0 0 0]), (2, cellB true [.bool b]), (3, cellB false [.ptr 4 0 0 0, .sl 5 0 0 j.nr, .int .i64 j.groups, .int .i64 j.used, .int .u64 j.head, .sl 6 0 0 j.ng, .bool j.stopped])]
    (isOut (.tup []) [(3, cellB false [.ptr 4 0 0 0, .sl 5 0 0 j.nr, .int .i64 j.groups, .int .i64 j.used, .int .u64 j.head, .nsl, .bool (!b)])] 7) := by
  refine fd_of mixed T_ok Tryd.func31 rfl (by kernel_rfl) (by kernel_rfl) (by kernel_rfl) ?_
  repeat' ((conv => whnf); first | ((first | apply br_dec | apply br_ndec) <;> intro h <;> try (exfalso; (try dsimp only at h); omega)) | ((first | apply br_seq | apply br_nseq | apply br_not | apply br_intro) <;> intro h) | refine cond_a ?_)
  all_goals (conv => whnf)
  exact ret_out (l := [0, 1, 2, 3, 4, 5, 6]) rfl rfl ⟨rfl, trivial⟩ (allRw_cons allRw_nil)

/-- The blocks of a group are written, one after the other. -/
def wrAll (u : Nat) (bl : List ByteArray) : Nat → Nat → Dk → Dk × Bool
  | 0, _, d => (d, true)
  | r + 1, k, d => if (writeD d ((u + k : Nat) : Int) (bl.getD k ⟨#[]⟩)).2 = 0 then wrAll u bl r (k + 1) (writeD d ((u + k : Nat) : Int) (bl.getD k ⟨#[]⟩)).1 else ((writeD d ((u + k : Nat) : Int) (bl.getD k ⟨#[]⟩)).1, false)
def stopJ (j : Jr) : Jr := { j with grp := [], ng := 0, stopped := true }
def doneJ (j : Jr) : Jr := { addJ j j.ng j.grp (j.used + nblk (strm j.grp)) (hK j.head (strm j.grp) (nblk (strm j.grp))) with grp := [], ng := 0, stopped := false }
def cmW (j : Jr) (d : Dk) : Dk × Bool := wrAll j.used (bkL j.head (strm j.grp) (nblk (strm j.grp))) (nblk (strm j.grp)) 0 d
def cmR (j : Jr) (d : Dk) : Jr × Dk × Int :=
  if j.stopped = true then (j, d, 13) else if cutE j.grp ≠ 0 then (j, d, cutE j.grp)
  else if (cmW j d).2 = false then (stopJ j, (cmW j d).1, 13)
  else if (flushD (cmW j d).1).2 ≠ 0 then (stopJ j, (flushD (cmW j d).1).1, 13)
  else (doneJ j, (flushD (cmW j d).1).1, 0)

theorem writeD_nn (d : Dk) (n : Int) (s : ByteArray) : (writeD d n s).1.nn = d.nn := by unfold writeD; (repeat' split) <;> rfl
theorem put_ok {d : Dk} (h : d.ok) {n : Int} {s : ByteArray} : (writeD d n s).1.ok ∧ (writeD d n s).1.nn = d.nn := ⟨writeD_ok h n s, writeD_nn d n s⟩

theorem jr_Commit (j : Jr) (d : Dk) (hj : j.ok d) (hd : d.ok) : FC Tryd.prog 8 16 [.ptr 1 0 0 0] ((0, some (GB glT)) :: jrH 5 6 7 j d)
    (isOut (.int .i64 (cmR j d).2.2) (jrH 8 9 10 (cmR j d).1 (cmR j d).2.1) 11) := by
  have gl := hj.gl
  have gm := hj.gm
  have us := hj.us
  have go := hj.go
  have hnn := hd.nm
  by_cases h1 : j.stopped = true
  · rw [show cmR j d = (j, d, 13) by unfold cmR; rw [if_pos h1]]
    refine fc_of_defer mixed T_ok Tryd.func16 rfl (by kernel_rfl) (by kernel_rfl) (by kernel_rfl) ?_
    repeat' ((conv => whnf); first | ((first | apply br_dec | apply br_ndec) <;> intro h <;> try (exfalso; (try dsimp only at h); omega)) | ((first | apply br_seq | apply br_nseq | apply br_not | apply br_intro) <;> intro h) | refine cond_a ?_)
    all_goals (conv => whnf)
    all_goals first
      | exact ret_out (l := [0, 1, 2, 3, 4, 5, 6, 7, 5, 6, 7]) rfl rfl ⟨rfl, rfl, rfl, rfl, rfl, rfl, rfl, trivial⟩ (jrH_rw _ _ _ _ _)
      | (exfalso; simp_all; done)
  · have h1' : j.stopped = false := by cases h : j.stopped with | false => rfl | true => exact absurd h h1
    by_cases h2 : cutE j.grp ≠ 0
    · rw [show cmR j d = (j, d, cutE j.grp) by unfold cmR; rw [if_neg h1, if_pos h2]]
      have c1 := jr_cut_no j.head j.grp j.ng gl h2 (by unfold maxLen; omega)
      refine fc_of_defer mixed T_ok Tryd.func16 rfl (by kernel_rfl) (by kernel_rfl) (by kernel_rfl) ?_
      repeat' ((conv => whnf); first | refine vcall_o (l := [0, 6]) (c1) ?_ | refine vcallD_o (l := [0, 6]) (c1) ?_ | ((first | apply br_dec | apply br_ndec) <;> intro h <;> try (exfalso; (try dsimp only at h); omega)) | ((first | apply br_seq | apply br_nseq | apply br_not | apply br_intro) <;> intro h) | refine cond_a ?_)
      all_goals (conv => whnf)
      all_goals first
        | exact ret_out (l := [0, 1, 2, 3, 4, 5, 6, 7, 5, 6, 7]) rfl rfl ⟨rfl, rfl, rfl, rfl, rfl, rfl, rfl, trivial⟩ (jrH_rw _ _ _ _ _)
        | (exfalso; exact h2 h)
        | (exfalso; simp_all; done)
    · have h2' : cutE j.grp = 0 := by omega
      have c1 := jr_cut j.head j.grp j.ng gl h2'
      obtain ⟨W, hW⟩ : ∃ W, cmW j d = W := ⟨_, rfl⟩
      have er : cmR j d = if W.2 = false then (stopJ j, W.1, 13) else if (flushD W.1).2 ≠ 0 then (stopJ j, (flushD W.1).1, 13) else (doneJ j, (flushD W.1).1, 0) := by
        unfold cmR; rw [if_neg h1, if_neg h2, hW]
      rw [er]
      have hnb : nblk (strm j.grp) ≤ 30000 := by
        have := szK_le go j.grp.length
        rw [← stK_size go, stK_strm] at this
        unfold nblk; omega
      unfold cmW at hW
      unfold doneJ
      obtain ⟨NB, hNB⟩ : ∃ NB, nblk (strm j.grp) = NB := ⟨_, rfl⟩
      obtain ⟨BL, hBL⟩ : ∃ BL, bkL j.head (strm j.grp) NB = BL := ⟨_, rfl⟩
      obtain ⟨HK, hHK⟩ : ∃ HK, hK j.head (strm j.grp) NB = HK := ⟨_, rfl⟩
      rw [hNB] at c1 hW hnb ⊢
      rw [hBL] at c1 hW
      rw [hHK] at c1 ⊢
      refine fc_of_defer mixed T_ok Tryd.func16 rfl (by kernel_rfl) (by kernel_rfl) (by kernel_rfl) ?_
      repeat' ((conv => whnf); first | refine vcall_o (l := [0, 6]) (c1) ?_ | refine vcallD_o (l := [0, 6]) (c1) ?_ | ((first | apply br_dec | apply br_ndec) <;> intro h <;> try (exfalso; (try dsimp only at h); omega)) | ((first | apply br_seq | apply br_nseq | apply br_not | apply br_intro) <;> intro h) | refine cond_a ?_)
      all_goals (conv => whnf)
      all_goals first
        | (exfalso; simp_all; done)
        | skip
      refine vloop_of (fun x : Nat × Dk => ⟨[(1, .ptr 8 0 0 0), (3, .sl 9 0 0 NB), (4, .int .u64 HK), (6, .ptr 10 0 0 0), (32, .sl 9 0 0 NB), (33, .int .i64 NB), (34, .int .i64 x.1)], [(0, some (GB glT)), (1, cellB false (jrC 5 6 j)), (2, cellB false (dkJ 11 x.2)), (3, grW x.2.nn x.2.kept), (4, grW x.2.nn x.2.now), (11, some (.one false (.cols x.2.np [.sc (.ints .i64 x.2.pn), .sc (.strs x.2.ps)]))), (5, grW j.nr j.recs), (6, grW j.ng j.grp), (8, cellB false [.ptr 1 0 0 0]), (9, grW NB BL), (10, cellB false [.bool false])], 12⟩) (fun x => x.1 ≤ NB ∧ wrAll j.used BL (NB - x.1) x.1 x.2 = W ∧ x.2.ok ∧ x.2.nn = d.nn) (fun x => NB - x.1) (0, d) [0, 1, 2, 3, 4, 5, 6, 7, 8, 9, 10, 7] [] ⟨rfl, ⟨rfl, rfl, rfl, rfl, rfl, rfl, rfl, trivial⟩, ⟨gwk rfl, rfl, rfl, rfl, rfl, rfl, rfl, rfl, rfl, rfl, rfl, trivial⟩⟩ ⟨Nat.zero_le _, hW, hd, rfl⟩ ?_
      rintro ⟨k, dk⟩ ⟨hk, hw, hok, hdn⟩
      dsimp only at hk hw hok hdn ⊢
      by_cases hlt : k < NB
      · obtain ⟨m, hm⟩ : ∃ m, NB - k = m + 1 := ⟨NB - k - 1, by omega⟩
        have hm' : NB - (k + 1) = m := by omega
        rw [hm] at hw
        have c2 := disk_Write dk hok ((j.used + k : Nat) : Int) (BL.getD k ⟨#[]⟩)
        have pk := put_ok hok (n := ((j.used + k : Nat) : Int)) (s := BL.getD k ⟨#[]⟩)
        simp only [wrAll] at hw
        obtain ⟨WD, hWD⟩ : ∃ WD, writeD dk ((j.used + k : Nat) : Int) (BL.getD k ⟨#[]⟩) = WD := ⟨_, rfl⟩
        rw [hWD] at c2 hw pk
        have e1 : IntKind.i64.wrap ((j.used : Int) + (k : Int)) = ((j.used + k : Nat) : Int) := by rw [w64_in (by omega) (by omega)]; omega
        rw [← e1] at c2
        by_cases h0 : WD.2 = 0
        · rw [if_pos h0] at hw
          rw [h0] at c2
          repeat' ((conv => whnf); first | refine vcall_o (l := [0, 2, 3, 4, 11]) (c2) ?_ | refine vcallD_o (l := [0, 2, 3, 4, 11]) (c2) ?_ | ((first | apply br_dec | apply br_ndec) <;> intro h <;> try (exfalso; (try dsimp only at h); omega)) | ((first | apply br_seq | apply br_nseq | apply br_not | apply br_intro) <;> intro h) | refine cond_a ?_)
          all_goals (conv => whnf)
          all_goals first
            | (exfalso; omega)
            | (exfalso; exact h rfl)
            | skip
          exact ⟨(k + 1, WD.1), [0, 1, 2, 3, 4, 5, 6, 7, 8, 9, 10, 12], [], ⟨by dsimp only; omega, by dsimp only; rw [hm']; exact hw, pk.1, pk.2.trans hdn⟩, by dsimp only; omega, ⟨rfl, ⟨rfl, rfl, rfl, rfl, rfl, rfl, congrArg (fun z => some (SV.int .i64 z)) (i64_succ (by omega)), trivial⟩, ⟨gwk rfl, rfl, rfl, rfl, rfl, rfl, rfl, rfl, rfl, rfl, rfl, trivial⟩⟩⟩
        · rw [if_neg h0] at hw
          rw [← hw, if_pos rfl]
          have c5 := jr_fin false j
          repeat' ((conv => whnf); first | refine vcall_o (l := [0, 2, 3, 4, 11]) (c2) ?_ | refine vcallD_o (l := [0, 2, 3, 4, 11]) (c2) ?_ | (refine retD_o (l := [0, 8, 10, 1, 2, 5, 6]) c5 ?_) | ((first | apply br_dec | apply br_ndec) <;> intro h <;> try (exfalso; (try dsimp only at h); omega)) | ((first | apply br_seq | apply br_nseq | apply br_not | apply br_intro) <;> intro h) | refine cond_a ?_)
          all_goals (conv => whnf)
          all_goals first
            | (exfalso; omega)
            | (exfalso; exact h0 h)
            | skip
          exact ret_up (l := [0, 1, 2, 3, 4, 5, 6, 7, 5, 13, 12]) [.cell 1 5 [.sc (.strs [])]] ⟨rfl, rfl, rfl, rfl, rfl, rfl, rfl, rfl, rfl, trivial⟩ (jrH_rw _ _ _ _ _)
      · have ek : NB - k = 0 := by omega
        rw [ek] at hw
        have ek2 : k = NB := by omega
        have hw : W = (dk, true) := hw.symm
        rw [hw, if_neg (by simp)]
        have c3 := disk_Flush dk hok
        obtain ⟨FD, hFD⟩ : ∃ FD, flushD dk = FD := ⟨_, rfl⟩
        dsimp only
        rw [hFD] at c3 ⊢
        by_cases h0 : FD.2 = 0
        · rw [if_neg (by simp [h0])]
          rw [h0] at c3
          have c4 := jr_add j j.ng j.grp (j.used + NB) HK gl (by have := hj.gs; omega) (by have := hj.gs; have := hj.rm; omega) (by omega)
          have e1 : IntKind.i64.wrap ((j.used : Int) + (NB : Int)) = ((j.used + NB : Nat) : Int) := by rw [w64_in (by omega) (by omega)]; omega
          rw [← e1] at c4
          have c5 := jr_fin true (addJ j j.ng j.grp (j.used + NB) HK)
          repeat' ((conv => whnf); first | refine vcall_o (l := [0, 2, 3, 4, 11]) (c3) ?_ | refine vcallD_o (l := [0, 2, 3, 4, 11]) (c3) ?_ | refine vcall_o (l := [0, 1, 2, 3, 4, 5, 6, 7, 6]) (c4) ?_ | refine vcallD_o (l := [0, 1, 2, 3, 4, 5, 6, 7, 6]) (c4) ?_ | (refine retD_o (l := [0, 8, 10, 1, 2, 13, 6]) c5 ?_) | ((first | apply br_dec | apply br_ndec) <;> intro h <;> try (exfalso; (try dsimp only at h); omega)) | ((first | apply br_seq | apply br_nseq | apply br_not | apply br_intro) <;> intro h) | refine cond_a ?_)
          all_goals (conv => whnf)
          all_goals first
            | (exfalso; omega)
            | (exfalso; exact h rfl)
            | skip
          exact ret_up (l := [0, 1, 2, 3, 4, 5, 6, 7, 13, 14, 12]) [.cell 1 5 [.sc (.strs [])]] ⟨rfl, rfl, rfl, rfl, rfl, rfl, rfl, rfl, rfl, trivial⟩ (jrH_rw _ _ _ _ _)
        · rw [if_pos h0]
          have c5 := jr_fin false j
          repeat' ((conv => whnf); first | refine vcall_o (l := [0, 2, 3, 4, 11]) (c3) ?_ | refine vcallD_o (l := [0, 2, 3, 4, 11]) (c3) ?_ | (refine retD_o (l := [0, 8, 10, 1, 2, 5, 6]) c5 ?_) | ((first | apply br_dec | apply br_ndec) <;> intro h <;> try (exfalso; (try dsimp only at h); omega)) | ((first | apply br_seq | apply br_nseq | apply br_not | apply br_intro) <;> intro h) | refine cond_a ?_)
          all_goals (conv => whnf)
          all_goals first
            | (exfalso; omega)
            | (exfalso; exact h0 h)
            | skip
          exact ret_up (l := [0, 1, 2, 3, 4, 5, 6, 7, 5, 13, 12]) [.cell 1 5 [.sc (.strs [])]] ⟨rfl, rfl, rfl, rfl, rfl, rfl, rfl, rfl, rfl, trivial⟩ (jrH_rw _ _ _ _ _)
end Go.Proofs.YtdlpmmdbdjlojaaDoor

/- Contracts of package journal: Blocks; disks that are not armed. -/
namespace Go.Proofs.YtdlpmmdbdjlojaaDoor
open Go.RowKit Go.Sy
attribute [local irreducible] vcall vloop vcallD retP retD
set_option maxRecDepth 100000
set_option linter.unusedVariables false
set_option linter.unusedSimpArgs false
attribute [local irreducible] seq ByteArray.extract
theorem jr_Blocks (p : Int) (g : List ByteArray) (n : Nat) (hn : g.length = n) (he : cutE g = 0) : FC Tryd.prog 2 8 [.int .u64 p, .sl 1 0 0 n] [(0, some (GB glT)), (1, grB n g)] (isOut (.tup [.sl 2 0 0 (nblk (strm g)), .int .i64 0]) [(2, grW (nblk (strm g)) (bkL p (strm g) (nblk (strm g))))] 3) := by
  have c := jr_cut p g n hn he
  refine fc_of mixed T_ok Tryd.func8 rfl (by kernel_rfl) (by kernel_rfl) (by kernel_rfl) ?_
  repeat' ((conv => whnf); first | refine vcall_o (l := [0, 1]) (c) ?_ | refine vcallD_o (l := [0, 1]) (c) ?_ | ((first | apply br_dec | apply br_ndec) <;> intro h <;> try (exfalso; (try dsimp only at h); omega)) | ((first | apply br_seq | apply br_nseq | apply br_not | apply br_intro) <;> intro h) | refine cond_a ?_)
  all_goals (conv => whnf)
  all_goals exact ret_out (l := [0, 1, 2]) rfl rfl ⟨rfl, trivial⟩ (allRw_cons allRw_nil)

/-- What is written block by block. -/
def wrN (u : Nat) (bl : List ByteArray) : Nat → Nat → List ByteArray → List ByteArray
  | 0, _, l => l
  | r + 1, k, l => wrN u bl r (k + 1) (l.set (u + k) (bl.getD k ⟨#[]⟩))
structure Dk.free (d : Dk) : Prop where
  dn : d.down = false
  st : d.steps = 0
theorem wr_ok {d : Dk} (h : d.free) {n : Nat} {s : ByteArray} (hn : n < d.nn) (hs : s.size ≤ 64) (hp : d.np < 4096) : writeD d (n : Int) s = (putD d (n : Int) s, 0) := by
  unfold writeD
  rw [if_neg (by rw [h.dn]; decide), if_neg (by omega), if_neg (by omega), if_neg (by omega), if_neg (by rw [h.st]; decide)]
  have : countD (putD d (n : Int) s) = putD d (n : Int) s := by
    unfold countD
    have : countZ (putD d (n : Int) s).steps = d.steps := by show countZ d.steps = d.steps; rw [h.st]; rfl
    rw [this]; rfl
  rw [this]
theorem wr_free {u : Nat} {bl : List ByteArray} (hb : ∀ b ∈ bl, b.size ≤ 64) : ∀ (r k : Nat) (d : Dk), d.free → u + k + r ≤ d.nn → d.np + r ≤ 4096 →
    (wrAll u bl r k d).2 = true ∧ (wrAll u bl r k d).1.free ∧ (wrAll u bl r k d).1.now = wrN u bl r k d.now ∧ (wrAll u bl r k d).1.np = d.np + r := by
  intro r
  induction r with
  | zero => intro k d h _ _; exact ⟨rfl, h, rfl, rfl⟩
  | succ r ih =>
    intro k d h hn hp
    have e := wr_ok h (n := u + k) (s := bl.getD k ⟨#[]⟩) (by omega) (sz_at hb k) (by omega)
    simp only [wrAll]
    rw [e, if_pos rfl]
    obtain ⟨a, b, c, f⟩ := ih (k + 1) (putD d ((u + k : Nat) : Int) (bl.getD k ⟨#[]⟩)) ⟨h.dn, h.st⟩ (by show u + (k + 1) + r ≤ d.nn; omega) (by show d.np + 1 + r ≤ 4096; omega)
    exact ⟨a, b, c, by rw [f]; show d.np + 1 + r = d.np + (r + 1); omega⟩
theorem fl_free {d : Dk} (h : d.free) : flushD d = (keepD d, 0) := by
  unfold flushD
  rw [if_neg (by rw [h.dn]; decide), if_neg (by rw [h.st]; decide)]
  have : countD (keepD d) = keepD d := by
    unfold countD
    have : countZ (keepD d).steps = d.steps := by show countZ d.steps = d.steps; rw [h.st]; rfl
    rw [this]; rfl
  rw [this]
theorem bkL_sz (p : Int) (s : ByteArray) (k : Nat) : ∀ b ∈ bkL p s k, b.size ≤ 64 := by
  intro b hb
  simp only [bkL, List.mem_map] at hb
  obtain ⟨i, _, rfl⟩ := hb
  rw [bK_size]; omega
end Go.Proofs.YtdlpmmdbdjlojaaDoor

/- Plain: what Commit wrote is read back; groups stay; nothing behind them. No program in sight. -/
namespace Go.Proofs.YtdlpmmdbdjlojaaDoor
open Go.RowKit Go.Sy
set_option maxRecDepth 100000
set_option linter.unusedVariables false
set_option linter.unusedSimpArgs false
attribute [local irreducible] seq ByteArray.extract
theorem gd_app1 {α : Type} {l m : List α} {i : Nat} {d : α} (h : i < l.length) : (l ++ m).getD i d = l.getD i d := by rw [List.getD, List.getD, List.getElem?_append_left h]
theorem gd_app2 {α : Type} {l m : List α} {i : Nat} {d : α} (h : l.length ≤ i) : (l ++ m).getD i d = m.getD (i - l.length) d := by rw [List.getD, List.getD, List.getElem?_append_right h]
theorem nu_dig {A B : ByteArray} {w N : Nat} (h1 : 1 ≤ w) (h15 : w ≤ 15) (hN : N < 10 ^ w) (hA : A = bytesOf (digs w N)) : nuE (A ++ B) w = 0 ∧ nuV (A ++ B) w = (N : Int) := by
  have hz : A.size = w := by rw [hA, bytesOf_size, digs_length]
  have hs : (A ++ B).size = w + B.size := by rw [ByteArray.size_append, hz]
  have hx : (A ++ B).extract 0 w = A := extract_left hz
  obtain ⟨d1, d2⟩ := dg_digs hA w (Nat.le_refl _)
  have e1 := dgTo_ext (s := A ++ B) (w := w) (by omega) w (Nat.le_refl _)
  rw [hx] at e1
  have hd : dgTo (A ++ B) w = true := by rw [← e1.1]; exact d1
  have hn : numTo (A ++ B) w = (N : Int) := by
    rw [← e1.2, d2, Nat.sub_self, Nat.pow_zero, Nat.div_one, Nat.mod_eq_of_lt hN]
  rcases nu_cases (A ++ B) w with ⟨a1, a2, a3, _⟩ | ⟨_, _, _, h⟩
  · rw [Int.toNat_natCast] at a2
    exact ⟨a1, a2.trans hn⟩
  · rw [Int.toNat_natCast, hd] at h
    rcases h with ⟨_, h⟩ | ⟨_, _, _, h⟩ | ⟨_, _, _, _, h⟩
    · omega
    · omega
    · cases h
theorem nu_num {n w : Nat} (h : numOk n w) (R : ByteArray) : nuE (numS n w ++ R) w = 0 ∧ nuV (numS n w ++ R) w = (n : Int) := by
  have h1 := h.1
  have h2 := h.2.1
  have h4 := h.2.2.2
  rw [Int.toNat_natCast, Int.toNat_natCast] at h4
  refine nu_dig (by omega) (by omega) (Nat.lt_of_lt_of_le (ndig_lt n) (Nat.pow_le_pow_right (by omega) h4)) ?_
  rw [numS_ok h, Int.toNat_natCast, Int.toNat_natCast]
def markB (r : ByteArray) : ByteArray := if r.size ≤ 45 then dotS else plusS
theorem markB_size (r : ByteArray) : (markB r).size = 1 := by unfold markB; split <;> rfl
theorem bodyN_eq (r : ByteArray) : bodyN r = markB r ++ (numS (min r.size 45 : Nat) 2 ++ r.extract 0 (min r.size 45)) := by
  unfold bodyN markB
  rw [ByteArray.append_assoc]
theorem plus_ne_dot : plusS ≠ dotS := by decide
/-- A block is read. -/
theorem blk_ok {p : Int} {r : ByteArray} (h : 0 < r.size) :
    unOk p (hxS (chI p (bodyN r)) ++ bodyN r) ∧ unR (hxS (chI p (bodyN r)) ++ bodyN r) = bodyN r ∧ unP (hxS (chI p (bodyN r)) ++ bodyN r) = r.extract 0 (min r.size 45) ∧ lastB (hxS (chI p (bodyN r)) ++ bodyN r) = decide (r.size ≤ 45) := by
  have hz := hxS_size (chI p (bodyN r))
  generalize hB : hxS (chI p (bodyN r)) ++ bodyN r = B
  have bz := bodyN_size (r := r)
  have Bz : B.size = 16 + (3 + min r.size 45) := by rw [← hB, ba_size, hz, bz]
  have mz := markB_size r
  have n2 : (numS (min r.size 45 : Nat) 2).size = 2 := numS2_size (by omega)
  have xz : (r.extract 0 (min r.size 45)).size = min r.size 45 := ext_size (by omega)
  have eR : unR B = bodyN r := by
    unfold unR
    rw [← hB]
    exact extract_right hz (by rw [ba_size, hz])
  have e0 : B.extract 0 16 = hxS (chI p (bodyN r)) := by rw [← hB]; exact extract_left hz
  have eM : unM B = markB r := by
    unfold unM
    rw [eR, bodyN_eq]
    exact extract_left mz
  have eD : unD B = numS (min r.size 45 : Nat) 2 ++ r.extract 0 (min r.size 45) := by
    unfold unD
    rw [eR, bodyN_eq]
    exact extract_right mz (by rw [ba_size, mz])
  have eP : unP B = r.extract 0 (min r.size 45) := by
    unfold unP
    have : B = (hxS (chI p (bodyN r)) ++ (markB r ++ numS (min r.size 45 : Nat) 2)) ++ r.extract 0 (min r.size 45) := by
      rw [← hB, bodyN_eq, ByteArray.append_assoc, ByteArray.append_assoc]
    have hz2 : (hxS (chI p (bodyN r)) ++ (markB r ++ numS (min r.size 45 : Nat) 2)).size = 19 := by rw [ba_size, ba_size, hz, mz, n2]
    rw [this]
    exact extract_right hz2 (by rw [ba_size, hz2])
  have nn := nu_num (n := min r.size 45) (w := 2) (numOk2 (by omega)) (r.extract 0 (min r.size 45))
  refine ⟨⟨by omega, by rw [e0, eR], by rw [eD]; exact nn.1, by rw [eD, eP, xz]; exact nn.2, by rw [eP, xz]; omega, ?_⟩, eR, eP, ?_⟩
  · rw [eM, eP, xz]
    unfold markB
    by_cases h45 : r.size ≤ 45
    · rw [if_pos h45]; exact .inl rfl
    · rw [if_neg h45]; exact .inr ⟨rfl, by omega⟩
  · unfold lastB
    rw [eM]
    unfold markB
    by_cases h45 : r.size ≤ 45
    · rw [if_pos h45, seq_self]; simp [h45]
    · rw [if_neg h45, seq_no plus_ne_dot]; simp [h45]
theorem no_blk {p : Int} {b : ByteArray} (h : b = ⟨#[]⟩) : ¬ unOk p b := by
  intro ho
  have := ho.1
  rw [h] at this
  exact absurd this (by decide)

/-- A stream is cut into its records again. -/
theorem uc_strm : ∀ (g acc : List ByteArray) (f : Nat), okR g → acc.length + g.length ≤ 256 → (strm g).size < f → 0 < acc.length + g.length → ucR f (strm g) acc = some (acc ++ g) := by
  intro g
  induction g with
  | nil =>
    intro acc f _ _ hf h0
    obtain ⟨f, rfl⟩ : ∃ k, f = k + 1 := ⟨f - 1, by omega⟩
    rw [uc_end rfl (by simpa using h0), List.append_nil]
  | cons r g ih =>
    intro acc f hg hl hf h0
    have hr := hg r (by simp)
    have n4 := numS4_size (n := r.size) (by omega)
    have es : strm (r :: g) = numS r.size 4 ++ (r ++ strm g) := by simp only [strm]; rw [ByteArray.append_assoc]
    have sz : (strm (r :: g)).size = 4 + (r.size + (strm g).size) := by rw [es, ba_size, ba_size, n4]
    obtain ⟨f, rfl⟩ : ∃ k, f = k + 1 := ⟨f - 1, by omega⟩
    have nn : nuE (numS r.size 4 ++ (r ++ strm g)) 4 = 0 ∧ nuV (numS r.size 4 ++ (r ++ strm g)) 4 = (r.size : Int) := nu_num (n := r.size) (w := 4) (numOk4 (by omega)) (r ++ strm g)
    rw [← es] at nn
    have eN : ucN (strm (r :: g)) = r ++ strm g := by
      unfold ucN; rw [es]; exact extract_right n4 (by rw [ba_size, n4])
    have nv : nuV (strm (r :: g)) 4 = (r.size : Int) := nn.2
    have ha : ucA (strm (r :: g)) := ⟨nn.1, by rw [nv]; omega⟩
    have hb : ucB (strm (r :: g)) acc.length := ⟨by rw [nv, eN, ba_size]; omega, by simp only [List.length_cons] at hl; omega⟩
    have eR : ucRec (strm (r :: g)) = r := by unfold ucRec; rw [eN, nv, Int.toNat_natCast]; exact extract_left rfl
    have eT : ucT (strm (r :: g)) = strm g := by unfold ucT; rw [eN, nv, Int.toNat_natCast]; exact extract_right rfl (by rw [ba_size])
    rw [uc_step (by omega) ha hb, eR, eT, ih (acc ++ [r]) f (fun x hx => hg x (by simp [hx])) (by simp only [List.length_append, List.length_cons, List.length_nil] at hl ⊢; omega) (by omega) (by rw [List.length_append, List.length_singleton]; omega)]
    rw [List.append_assoc]; rfl
theorem uc_back {g : List ByteArray} (hg : okR g) (h1 : 0 < g.length) (h2 : g.length ≤ 256) : ucG (strm g) = some g := by
  unfold ucG
  rw [uc_strm g [] _ hg (by simpa using h2) (Nat.lt_succ_self _) (by simpa using h1)]; rfl
theorem ext_cat {r : ByteArray} {n : Nat} (h : n ≤ r.size) : r.extract 0 n ++ r.extract n r.size = r := by
  apply ext_ba
  simp only [ByteArray.data_append, Array.toList_append, ByteArray.data_extract, Array.toList_extract, List.extract_eq_take_drop, List.drop_zero, Nat.sub_zero]
  have hl : r.data.toList.length = r.size := by simp
  rw [List.take_of_length_le (l := List.drop n r.data.toList) (by rw [List.length_drop]; omega), List.take_append_drop]

section
variable {now : List ByteArray} {p : Int} {s : ByteArray} {u : Nat}
theorem bK_eq (p : Int) (s : ByteArray) (k : Nat) : bK p s k = hxS (chI (hK p s k) (bodyN (rsT s k))) ++ bodyN (rsT s k) := rfl
/-- A group that was written is read. -/
theorem rd_written : ∀ (m k f : Nat) (t : ByteArray), k + m + 1 = nblk s → (∀ i, k ≤ i → i < nblk s → now.getD (u + i) ⟨#[]⟩ = bK p s i) →
    rdK now (m + 1 + f) (u + k) (hK p s k) t = (match ucG (t ++ rsT s k) with | some g => some (g, u + nblk s, hK p s (nblk s)) | none => none) := by
  intro m
  induction m with
  | zero =>
    intro k f t hk hb
    have hz := rsT_size s k
    have hpos : 0 < (rsT s k).size := by unfold nblk at hk; omega
    have h45 : (rsT s k).size ≤ 45 := by unfold nblk at hk; omega
    obtain ⟨o1, o2, o3, o4⟩ := blk_ok (p := hK p s k) hpos
    have eb := hb k (Nat.le_refl _) (by omega)
    rw [bK_eq] at eb
    rw [show 0 + 1 + f = f + 1 from by omega, rd_last (by rw [eb]; exact o1) (by rw [eb, o4]; simp [h45]), eb, o2, o3, show min (rsT s k).size 45 = (rsT s k).size from by omega, ext_all]
    rw [show nblk s = k + 1 from by omega]
    rfl
  | succ m ih =>
    intro k f t hk hb
    have hz := rsT_size s k
    have h45 : 45 < (rsT s k).size := by unfold nblk at hk; omega
    obtain ⟨o1, o2, o3, o4⟩ := blk_ok (p := hK p s k) (r := rsT s k) (by omega)
    have eb := hb k (Nat.le_refl _) (by omega)
    rw [bK_eq] at eb
    rw [show m + 1 + 1 + f = (m + 1 + f) + 1 from by omega, rd_more (by rw [eb]; exact o1) (by rw [eb, o4]; simp only [decide_eq_false_iff_not]; omega), eb, o2, o3]
    have := ih (k + 1) f (t ++ (rsT s k).extract 0 (min (rsT s k).size 45)) (by omega) (fun i h1 h2 => hb i (by omega) h2)
    rw [show u + k + 1 = u + (k + 1) from by omega]
    refine this.trans ?_
    have ec : t ++ (rsT s k).extract 0 (min (rsT s k).size 45) ++ rsT s (k + 1) = t ++ rsT s k := by
      rw [ByteArray.append_assoc, ← rsT_succ, ext_cat (by omega)]
    rw [ec]
/-- A group of which a block is missing is not read. -/
theorem rd_miss : ∀ (m k f : Nat) (t : ByteArray), k + m + 1 = nblk s → (∀ i, k ≤ i → i < nblk s → now.getD (u + i) ⟨#[]⟩ = bK p s i ∨ now.getD (u + i) ⟨#[]⟩ = ⟨#[]⟩) → (∃ i, k ≤ i ∧ i < nblk s ∧ now.getD (u + i) ⟨#[]⟩ = ⟨#[]⟩) →
    rdK now f (u + k) (hK p s k) t = none := by
  intro m
  induction m with
  | zero =>
    intro k f t hk hb ⟨i, h1, h2, h3⟩
    obtain rfl : i = k := by omega
    cases f with
    | zero => rfl
    | succ f => exact rd_no (no_blk h3)
  | succ m ih =>
    intro k f t hk hb ⟨i, h1, h2, h3⟩
    cases f with
    | zero => rfl
    | succ f =>
      rcases hb k (Nat.le_refl _) (by omega) with eb | eb
      · have hz := rsT_size s k
        have h45 : 45 < (rsT s k).size := by unfold nblk at hk; omega
        obtain ⟨o1, o2, o3, o4⟩ := blk_ok (p := hK p s k) (r := rsT s k) (by omega)
        have hne : i ≠ k := by
          intro e
          subst e
          rw [eb] at h3
          exact no_blk h3 (by rw [bK_eq]; exact o1)
        rw [bK_eq] at eb
        rw [rd_more (by rw [eb]; exact o1) (by rw [eb, o4]; simp only [decide_eq_false_iff_not]; omega), eb, o2]
        rw [show u + k + 1 = u + (k + 1) from by omega]
        exact ih (k + 1) f _ (by omega) (fun i h1 h2 => hb i (by omega) h2) ⟨i, by omega, h2, h3⟩
      · exact rd_no (no_blk eb)
end
theorem rd_cong {now now' : List ByteArray} : ∀ {f n : Nat} {h : Int} {t : ByteArray} {g : List ByteArray} {n' : Nat} {h' : Int}, rdK now f n h t = some (g, n', h') → (∀ i, n ≤ i → i < n' → now'.getD i ⟨#[]⟩ = now.getD i ⟨#[]⟩) → rdK now' f n h t = some (g, n', h') := by
  intro f
  induction f with
  | zero => intro n h t g n' h' e; cases e
  | succ f ih =>
    intro n h t g n' h' e hc
    have hb := rd_bd e
    have e0 := hc n (Nat.le_refl _) hb.1
    by_cases ho : unOk h (now.getD n ⟨#[]⟩)
    · cases hl : lastB (now.getD n ⟨#[]⟩) with
      | true =>
        rw [rd_last ho hl] at e
        rw [rd_last (by rw [e0]; exact ho) (by rw [e0]; exact hl), e0]
        exact e
      | false =>
        rw [rd_more ho hl] at e
        rw [rd_more (by rw [e0]; exact ho) (by rw [e0]; exact hl), e0]
        exact ih e (fun i h1 h2 => hc i (by omega) h2)
    · rw [rd_no ho] at e; cases e

/-- The journals that stand on a disk's blocks. -/
inductive Ch (now : List ByteArray) (nn : Nat) : Nat → Jr → Prop where
  | zero : Ch now nn 0 jr0
  | step {k : Nat} {j : Jr} {r : List ByteArray × Nat × Int} : Ch now nn k j → rdK now (nn - j.used) j.used j.head ⟨#[]⟩ = some r → Ch now nn (k + 1) (nxJ j (some r))
theorem ch_jo {d : Dk} {k : Nat} {j : Jr} (h : Ch d.now d.nn k j) : JO d j ∧ k ≤ j.used := by
  induction h with
  | zero => exact ⟨jo_zero d, Nat.le_refl _⟩
  | @step k j r h hr ih =>
    obtain ⟨a, b⟩ := jo_next ih.1 (r := r) hr
    exact ⟨a, by omega⟩
theorem ch_op {d : Dk} {k : Nat} {j : Jr} (h : Ch d.now d.nn k j) : ∀ f, opK d (f + k) jr0 = opK d f j := by
  induction h with
  | zero => intro f; rfl
  | @step k j r h hr ih =>
    intro f
    rw [show f + (k + 1) = (f + 1) + k from by omega, ih]
    simp only [opK, nxR, hr]
theorem ch_open {d : Dk} {k : Nat} {j : Jr} (h : Ch d.now d.nn k j) (hn : nxR j d = none) : opJ d = j := by
  obtain ⟨a, b⟩ := ch_jo h
  have := a.us
  unfold opJ
  rw [show d.nn + 1 = ((d.nn - k) + 1) + k from by omega, ch_op h]
  simp only [opK, hn]
theorem ch_keep {now now' : List ByteArray} {nn k : Nat} {j : Jr} (h : Ch now nn k j) : (∀ i, i < j.used → now'.getD i ⟨#[]⟩ = now.getD i ⟨#[]⟩) → Ch now' nn k j := by
  induction h with
  | zero => intro _; exact .zero
  | @step k j r h hr ih =>
    intro hc
    obtain ⟨g, n, hh⟩ := r
    have hb := rd_bd hr
    refine .step (ih (fun i hi => hc i (by show i < n; omega))) (rd_cong hr (fun i h1 h2 => hc i h2))
/-- A disk and the journal that stands on it, with nothing behind. -/
structure Js (now : List ByteArray) (nn : Nat) (j : Jr) : Prop where
  ch : ∃ k, Ch now nn k j
  emp : ∀ i, j.used ≤ i → now.getD i ⟨#[]⟩ = ⟨#[]⟩
theorem js_none {d : Dk} {j : Jr} (h : Js d.now d.nn j) : nxR j d = none := by
  unfold nxR
  cases hf : d.nn - j.used with
  | zero => rfl
  | succ f => exact rd_no (no_blk (h.emp _ (Nat.le_refl _)))
theorem js_open {d : Dk} {j : Jr} (h : Js d.now d.nn j) : opJ d = j := by
  obtain ⟨k, hk⟩ := h.ch
  exact ch_open hk (js_none h)
theorem rep_at' (n i : Nat) : (List.replicate n (⟨#[]⟩ : ByteArray)).getD i ⟨#[]⟩ = ⟨#[]⟩ := by
  rw [List.getD, List.getElem?_replicate]; split <;> rfl
theorem js_new (n : Nat) : Js (List.replicate n ⟨#[]⟩) n jr0 := ⟨⟨0, .zero⟩, fun i _ => rep_at' n i⟩
/-- A group is there, as a whole. -/
theorem js_more {now now' : List ByteArray} {nn : Nat} {j : Jr} (h : Js now nn j) {g : List ByteArray} (hg : okR g) (h1 : 0 < g.length) (h2 : g.length ≤ 256) (hr : j.used + nblk (strm g) ≤ nn)
    (hb : ∀ i, i < nblk (strm g) → now'.getD (j.used + i) ⟨#[]⟩ = bK j.head (strm g) i) (hk : ∀ i, i < j.used ∨ j.used + nblk (strm g) ≤ i → now'.getD i ⟨#[]⟩ = now.getD i ⟨#[]⟩) :
    Js now' nn (addJ j g.length g (j.used + nblk (strm g)) (hK j.head (strm g) (nblk (strm g)))) := by
  obtain ⟨k, hc⟩ := h.ch
  have hs : 0 < (strm g).size := by rw [← stK_strm, stK_size hg]; have := szK_lt (g := g) g.length; omega
  obtain ⟨m, hm⟩ : ∃ m, nblk (strm g) = m + 1 := ⟨nblk (strm g) - 1, by unfold nblk; omega⟩
  have hrd := rd_written (now := now') (p := j.head) (s := strm g) (u := j.used) m 0 (nn - j.used - nblk (strm g)) ⟨#[]⟩ (by omega) (fun i _ hi => hb i hi)
  rw [rsT_zero, ba_nil, uc_back hg h1 h2, show m + 1 + (nn - j.used - nblk (strm g)) = nn - j.used from by omega] at hrd
  refine ⟨⟨k + 1, .step (ch_keep hc (fun i hi => hk i (.inl hi))) hrd⟩, fun i hi => ?_⟩
  have hi : j.used + nblk (strm g) ≤ i := hi
  rw [hk i (.inr hi)]
  exact h.emp i (by omega)
/-- A group of which a block is missing is not there. -/
theorem js_miss {now now' : List ByteArray} {nn : Nat} {j : Jr} (h : Js now nn j) {g : List ByteArray} (hg : okR g) (h1 : 0 < g.length)
    (hb : ∀ i, i < nblk (strm g) → now'.getD (j.used + i) ⟨#[]⟩ = bK j.head (strm g) i ∨ now'.getD (j.used + i) ⟨#[]⟩ = ⟨#[]⟩) (hx : ∃ i, i < nblk (strm g) ∧ now'.getD (j.used + i) ⟨#[]⟩ = ⟨#[]⟩) (hk : ∀ i, i < j.used → now'.getD i ⟨#[]⟩ = now.getD i ⟨#[]⟩) :
    ∀ d : Dk, d.now = now' → d.nn = nn → opJ d = j := by
  rintro d rfl rfl
  obtain ⟨k, hc⟩ := h.ch
  have hs : 0 < (strm g).size := by rw [← stK_strm, stK_size hg]; have := szK_lt (g := g) g.length; omega
  obtain ⟨m, hm⟩ : ∃ m, nblk (strm g) = m + 1 := ⟨nblk (strm g) - 1, by unfold nblk; omega⟩
  refine ch_open (ch_keep hc hk) ?_
  obtain ⟨i, h3, h4⟩ := hx
  exact rd_miss (p := j.head) (s := strm g) (u := j.used) m 0 _ ⟨#[]⟩ (by omega) (fun i _ hi => hb i hi) ⟨i, Nat.zero_le _, h3, h4⟩
theorem wrN_at (u : Nat) (bl : List ByteArray) : ∀ (r k : Nat) (l : List ByteArray) (i : Nat), u + k + r ≤ l.length → (wrN u bl r k l).getD i ⟨#[]⟩ = if u + k ≤ i ∧ i < u + k + r then bl.getD (i - u) ⟨#[]⟩ else l.getD i ⟨#[]⟩ := by
  intro r
  induction r with
  | zero => intro k l i _; rw [if_neg (by omega)]; rfl
  | succ r ih =>
    intro k l i hl
    simp only [wrN]
    rw [ih (k + 1) _ i (by rw [List.length_set]; omega)]
    by_cases h1 : u + (k + 1) ≤ i ∧ i < u + (k + 1) + r
    · rw [if_pos h1, if_pos (by omega)]
    · rw [if_neg h1]
      by_cases h2 : i = u + k
      · subst h2
        rw [if_pos (by omega), List.getD, List.getElem?_set_self (by omega), Option.getD_some, show u + k - u = k from by omega]
      · rw [if_neg (by omega), List.getD, List.getElem?_set_ne (by omega)]; rfl
end Go.Proofs.YtdlpmmdbdjlojaaDoor

/- Plain: filling a group, and committing it on a disk that does not crash. No program in sight. -/
namespace Go.Proofs.YtdlpmmdbdjlojaaDoor
open Go.RowKit Go.Sy
set_option maxRecDepth 100000
set_option linter.unusedVariables false
set_option linter.unusedSimpArgs false
attribute [local irreducible] seq ByteArray.extract
/-- The journal, and the records that were accepted, behind the first k of a group. -/
def fiJ (j : Jr) (d : Dk) (g : List ByteArray) : Nat → Jr
  | 0 => j
  | k + 1 => jaJ (fiJ j d g k) d (g.getD k ⟨#[]⟩)
def fiO (j : Jr) (d : Dk) (g : List ByteArray) : Nat → List ByteArray
  | 0 => []
  | k + 1 => if jaE (fiJ j d g k) d (g.getD k ⟨#[]⟩) = 0 then fiO j d g k ++ [g.getD k ⟨#[]⟩] else fiO j d g k
def Jr.with (j : Jr) (g : List ByteArray) : Jr := { j with grp := g, ng := g.length }
theorem fiO_len (j : Jr) (d : Dk) (g : List ByteArray) : ∀ k, (fiO j d g k).length ≤ k
  | 0 => Nat.le_refl _
  | k + 1 => by
    have := fiO_len j d g k
    simp only [fiO]
    split
    · rw [List.length_append, List.length_singleton]; omega
    · omega
/-- What is there of a journal between two groups. -/
structure Jz (j : Jr) : Prop where
  ge : j.grp = []
  gz : j.ng = 0
  st : j.stopped = false
theorem jz_with {j : Jr} (h : Jz j) : j.with [] = j := by
  obtain ⟨a, b, c, e, f, g, n, s⟩ := j
  have h1 := h.ge
  have h2 := h.gz
  simp only at h1 h2
  subst h1 h2
  rfl
theorem fi_with {j : Jr} (h : Jz j) (d : Dk) (g : List ByteArray) : ∀ k, fiJ j d g k = j.with (fiO j d g k)
  | 0 => (jz_with h).symm
  | k + 1 => by
    simp only [fiJ, fiO]
    by_cases h0 : jaE (fiJ j d g k) d (g.getD k ⟨#[]⟩) = 0
    · rw [jaJ_ok h0, if_pos h0, fi_with h d g k]
      simp only [Jr.with, List.length_append, List.length_singleton]
    · rw [jaJ_no h0, if_neg h0, fi_with h d g k]
/-- The group fits. -/
structure Gf (j : Jr) (d : Dk) (g : List ByteArray) : Prop where
  ok : okR g
  le : g.length ≤ 256
  rm : nblk (strm g) ≤ d.nn - j.used
theorem szK_app1 {g : List ByteArray} {r : ByteArray} : ∀ k, k ≤ g.length → szK (g ++ [r]) k = szK g k
  | 0, _ => rfl
  | k + 1, h => by
    simp only [szK]
    rw [szK_app1 k (by omega), gd_app1 (by omega)]
theorem szK_app {g : List ByteArray} {r : ByteArray} : szK (g ++ [r]) (g.length + 1) = szK g g.length + (4 + r.size) := by
  simp only [szK]
  rw [szK_app1 _ (Nat.le_refl _), gd_app2 (Nat.le_refl _), Nat.sub_self]
  rfl
theorem gf_nil (j : Jr) (d : Dk) : Gf j d [] := by
  refine ⟨?_, ?_, ?_⟩
  · intro r hr; cases hr
  · exact Nat.zero_le _
  · show nblk ⟨#[]⟩ ≤ _; exact Nat.zero_le _
theorem nblk_sz {g : List ByteArray} (h : okR g) : nblk (strm g) = (szK g g.length + 44) / 45 := by
  unfold nblk
  rw [← stK_strm, stK_size h]
theorem fi_gf {j : Jr} (h : Jz j) (d : Dk) (g : List ByteArray) : ∀ k, Gf j d (fiO j d g k)
  | 0 => gf_nil j d
  | k + 1 => by
    have ih := fi_gf h d g k
    simp only [fiO]
    by_cases h0 : jaE (fiJ j d g k) d (g.getD k ⟨#[]⟩) = 0
    · rw [if_pos h0]
      rw [fi_with h] at h0
      generalize fiO j d g k = o at h0 ih ⊢
      generalize g.getD k ⟨#[]⟩ = r at h0 ⊢
      unfold jaE at h0
      by_cases h1 : (j.with o).stopped = true
      · rw [if_pos h1] at h0; omega
      · rw [if_neg h1] at h0
        by_cases h2 : 4000 < r.size
        · rw [if_pos h2] at h0; omega
        · rw [if_neg h2] at h0
          by_cases h3 : 256 ≤ (j.with o).ng
          · rw [if_pos h3] at h0; omega
          · rw [if_neg h3] at h0
            by_cases h4 : d.nn - (j.with o).used < (jaZ (j.with o) r + 44) / 45
            · rw [if_pos h4] at h0; omega
            · have ok : okR (o ++ [r]) := by
                intro x hx
                simp only [List.mem_append, List.mem_singleton] at hx
                rcases hx with hx | rfl
                · exact ih.ok x hx
                · omega
              refine ⟨ok, ?_, ?_⟩
              · have : (j.with o).ng = o.length := rfl
                rw [List.length_append, List.length_singleton]; omega
              · rw [nblk_sz ok, List.length_append, List.length_singleton, szK_app]
                have e1 : (j.with o).used = j.used := rfl
                have e2 : jaZ (j.with o) r = 4 + r.size + szK o o.length := rfl
                rw [e1, e2] at h4
                omega
    · rw [if_neg h0]; exact ih
theorem gf_cut {j : Jr} {d : Dk} {g : List ByteArray} (h : Gf j d g) (h0 : g ≠ []) : cutE g = 0 := by
  unfold cutE
  have : g.length ≠ 0 := fun e => h0 (List.eq_nil_of_length_eq_zero e)
  have := h.le
  rw [if_neg (by omega), if_neg (by omega), longK_of h.ok, if_neg (by decide)]
theorem gf_ok {j : Jr} {d : Dk} {g : List ByteArray} (hj : JO d j) (h : Gf j d g) : (j.with g).ok d := ⟨hj.rl, rfl, hj.us, hj.gs, hj.rm, h.le, h.ok, hj.hb⟩
theorem fi_ok {j : Jr} {d : Dk} (hj : JO d j) (g : List ByteArray) (k : Nat) : (fiJ j d g k).ok d := by
  rw [fi_with ⟨hj.ge, hj.gz, hj.st⟩]
  exact gf_ok hj (fi_gf ⟨hj.ge, hj.gz, hj.st⟩ d g k)

theorem wrN_sz {u : Nat} {bl : List ByteArray} (hb : ∀ b ∈ bl, b.size ≤ 64) : ∀ (r k : Nat) (l : List ByteArray), (∀ b ∈ l, b.size ≤ 64) → ∀ b ∈ wrN u bl r k l, b.size ≤ 64
  | 0, _, l, h => h
  | r + 1, k, l, h => by
    simp only [wrN]
    refine wrN_sz hb r (k + 1) _ (fun b hx => ?_)
    rcases List.mem_or_eq_of_mem_set hx with hx | rfl
    · exact h b hx
    · exact sz_at hb k
theorem wrAll_ok {u : Nat} {bl : List ByteArray} : ∀ (r k : Nat) {d : Dk}, d.ok → (wrAll u bl r k d).1.ok
  | 0, _, d, h => h
  | r + 1, k, d, h => by
    simp only [wrAll]
    split
    · exact wrAll_ok r (k + 1) (writeD_ok h _ _)
    · exact writeD_ok h _ _
/-- A disk in peace with a journal on it. -/
structure Jw (d : Dk) (j : Jr) : Prop where
  ok : d.ok
  fr : d.free
  np : d.np = 0
  nn : d.nn ≤ 2000
  sz : ∀ b ∈ d.now, b.size ≤ 64
  jo : JO d j
  js : Js d.now d.nn j
theorem Jw.z {d : Dk} {j : Jr} (h : Jw d j) : Jz j := ⟨h.jo.ge, h.jo.gz, h.jo.st⟩
theorem Jw.op {d : Dk} {j : Jr} (h : Jw d j) : opJ d = j := js_open h.js
def nextJ (j : Jr) (g : List ByteArray) : Jr := addJ j g.length g (j.used + nblk (strm g)) (hK j.head (strm g) (nblk (strm g)))
theorem cm_nil {j : Jr} {d : Dk} (h : Jz j) : cmR (j.with []) d = (j, d, 8) := by
  rw [jz_with h]
  unfold cmR
  rw [if_neg (by rw [h.st]; decide), if_pos (by rw [h.ge]; decide), h.ge]
  rfl
theorem cm_full {j : Jr} {d : Dk} {g : List ByteArray} (h : Jw d j) (hg : Gf j d g) (h0 : g ≠ []) :
    (cmR (j.with g) d).2.2 = 0 ∧ (cmR (j.with g) d).1 = nextJ j g ∧ Jw (cmR (j.with g) d).2.1 (nextJ j g) ∧ (cmR (j.with g) d).2.1.nn = d.nn := by
  have hz := h.z
  have hrm := hg.rm
  have hnn := h.nn
  have hus := h.jo.us
  have hl : 0 < g.length := by cases g with | nil => exact absurd rfl h0 | cons a b => simp
  have hbs := bkL_sz j.head (strm g) (nblk (strm g))
  obtain ⟨w1, w2, w3, w4⟩ := wr_free (u := j.used) hbs (nblk (strm g)) 0 d h.fr (by omega) (by rw [h.np]; omega)
  have wok := wrAll_ok (u := j.used) (bl := bkL j.head (strm g) (nblk (strm g))) (nblk (strm g)) 0 h.ok
  have eW : cmW (j.with g) d = wrAll j.used (bkL j.head (strm g) (nblk (strm g))) (nblk (strm g)) 0 d := rfl
  have hfl := fl_free w2
  have er : cmR (j.with g) d = (nextJ j g, keepD (wrAll j.used (bkL j.head (strm g) (nblk (strm g))) (nblk (strm g)) 0 d).1, 0) := by
    unfold cmR
    rw [if_neg (show ¬ (j.with g).stopped = true by show ¬ j.stopped = true; rw [hz.st]; decide), if_neg (show ¬ cutE (j.with g).grp ≠ 0 from fun e => e (gf_cut hg h0)), eW, if_neg (by rw [w1]; decide), hfl, if_neg (by simp)]
    refine Prod.ext ?_ rfl
    obtain ⟨a, b, c, e, f, gg, n, s⟩ := j
    have h1 := hz.ge
    have h2 := hz.gz
    have h3 := hz.st
    simp only at h1 h2 h3
    subst h1 h2 h3
    rfl
  have enn : (wrAll j.used (bkL j.head (strm g) (nblk (strm g))) (nblk (strm g)) 0 d).1.nn = d.nn := by
    have : ∀ (r k : Nat) (d : Dk), (wrAll j.used (bkL j.head (strm g) (nblk (strm g))) r k d).1.nn = d.nn := by
      intro r
      induction r with
      | zero => intro k d; rfl
      | succ r ih =>
        intro k d
        simp only [wrAll]
        split
        · rw [ih, writeD_nn]
        · rw [writeD_nn]
    exact this _ _ _
  rw [er]
  refine ⟨rfl, rfl, ?_, enn⟩
  have enow : (keepD (wrAll j.used (bkL j.head (strm g) (nblk (strm g))) (nblk (strm g)) 0 d).1).now = wrN j.used (bkL j.head (strm g) (nblk (strm g))) (nblk (strm g)) 0 d.now := w3
  have hlen : d.now.length = d.nn := h.ok.nl
  have hat := wrN_at j.used (bkL j.head (strm g) (nblk (strm g))) (nblk (strm g)) 0 d.now
  refine ⟨keepD_ok wok, ⟨w2.dn, w2.st⟩, rfl, ?_, ?_, ?_, ?_⟩
  · show (wrAll _ _ _ _ _).1.nn ≤ 2000; rw [enn]; exact hnn
  · rw [enow]; exact wrN_sz hbs _ _ _ h.sz
  · have jo := h.jo
    have gs := jo.gs
    have rl := jo.rl
    have rm := jo.rm
    have hnb : 0 < nblk (strm g) := by
      have : 0 < (strm g).size := by rw [← stK_strm, stK_size hg.ok]; have := szK_lt (g := g) g.length; omega
      unfold nblk; omega
    have hle := hg.le
    have enn' : (keepD (wrAll j.used (bkL j.head (strm g) (nblk (strm g))) (nblk (strm g)) 0 d).1).nn = d.nn := enn
    refine ⟨by rw [enn']; show j.used + nblk (strm g) ≤ d.nn; omega, by show j.groups + 1 ≤ j.used + nblk (strm g); omega, by show (j.recs ++ g).length = j.nr + g.length; rw [List.length_append]; omega, by show j.nr + g.length ≤ 256 * (j.groups + 1); omega, jo.ge, jo.gz, jo.st, ?_⟩
    exact hK_bd jo.hb _ _
  · rw [enow, show (keepD (wrAll j.used (bkL j.head (strm g) (nblk (strm g))) (nblk (strm g)) 0 d).1).nn = d.nn from enn]
    refine js_more h.js hg.ok hl hg.le (by omega) (fun i hi => ?_) (fun i hi => ?_)
    · rw [hat _ (by omega), if_pos (by omega), show j.used + i - j.used = i from by omega, bkL_get _ _ hi]
    · rw [hat _ (by omega), if_neg (by omega)]
theorem jw_new (n : Nat) (h : 1 ≤ n ∧ n ≤ 2000) : Jw (newD n) jr0 :=
  ⟨newD_ok n (by omega), ⟨rfl, rfl⟩, rfl, h.2, (fun b hb => by simp only [newD, List.mem_replicate] at hb; rw [hb.2]; decide), jo_zero _, js_new n⟩
end Go.Proofs.YtdlpmmdbdjlojaaDoor

/- Plain: committing a group on a disk that may crash. No program in sight. -/
namespace Go.Proofs.YtdlpmmdbdjlojaaDoor
open Go.RowKit Go.Sy
set_option maxRecDepth 100000
set_option linter.unusedVariables false
set_option linter.unusedSimpArgs false
attribute [local irreducible] seq ByteArray.extract
theorem set_at (l : List ByteArray) (i x : Nat) (b : ByteArray) (h : i < l.length) : (l.set i b).getD x ⟨#[]⟩ = if x = i then b else l.getD x ⟨#[]⟩ := by
  by_cases e : x = i
  · subst e; rw [if_pos rfl, List.getD, List.getElem?_set_self h]; rfl
  · rw [if_neg e, List.getD, List.getElem?_set_ne (fun h => e h.symm)]; rfl
theorem crash_at {bits : Nat → Bool} {pn : List Int} {ps l bl : List ByteArray} {u : Nat} : ∀ n, (∀ i, i < n → pn.getD i 0 = ((u + i : Nat) : Int)) → (∀ i, i < n → ps.getD i ⟨#[]⟩ = bl.getD i ⟨#[]⟩) → u + n ≤ l.length →
    ∀ x, (crashTo bits pn ps n l).getD x ⟨#[]⟩ = if u ≤ x ∧ x < u + n ∧ bits (x - u) = true then bl.getD (x - u) ⟨#[]⟩ else l.getD x ⟨#[]⟩
  | 0, _, _, _, x => by rw [if_neg (by omega)]; rfl
  | n + 1, hp, hs, hl, x => by
    have ih := crash_at (bits := bits) (pn := pn) (ps := ps) (l := l) (bl := bl) n (fun i h => hp i (by omega)) (fun i h => hs i (by omega)) (by omega) x
    simp only [crashTo]
    cases hb : bits n with
    | true =>
      rw [cond_true, hp n (by omega), hs n (by omega), Int.toNat_natCast, set_at _ _ _ _ (by rw [crashTo_length]; omega)]
      by_cases e : x = u + n
      · subst e
        rw [if_pos rfl, if_pos ⟨by omega, by omega, by rw [Nat.add_sub_cancel_left]; exact hb⟩, Nat.add_sub_cancel_left]
      · rw [if_neg e, ih]
        by_cases h : u ≤ x ∧ x < u + n ∧ bits (x - u) = true
        · rw [if_pos h, if_pos ⟨h.1, by omega, h.2.2⟩]
        · rw [if_neg h, if_neg (fun k => h ⟨k.1, by omega, k.2.2⟩)]
    | false =>
      rw [cond_false, ih]
      by_cases h : u ≤ x ∧ x < u + n ∧ bits (x - u) = true
      · rw [if_pos h, if_pos ⟨h.1, by omega, h.2.2⟩]
      · rw [if_neg h, if_neg (fun k => h ⟨k.1, ?_, k.2.2⟩)]
        rcases Nat.lt_or_ge x (u + n) with h1 | h1
        · exact h1
        · obtain rfl : x = u + n := by omega
          rw [Nat.add_sub_cancel_left, hb] at k; exact absurd k.2.2 (by decide)
/-- In the midst of writing a group. -/
structure Mid (d0 : Dk) (u : Nat) (bl : List ByteArray) (k : Nat) (d : Dk) : Prop where
  ok : d.ok
  dn : d.down = false
  np : d.np = k
  pn : ∀ i, i < k → d.pn.getD i 0 = ((u + i : Nat) : Int)
  ps : ∀ i, i < k → d.ps.getD i ⟨#[]⟩ = bl.getD i ⟨#[]⟩
  kp : d.kept = d0.now
  wh : crashTo allB d.pn d.ps d.np d.kept = d.now
  nn : d.nn = d0.nn
/-- A disk that crashed while a group was written. -/
structure Dead (d0 : Dk) (u : Nat) (bl : List ByteArray) (n : Nat) (d : Dk) : Prop where
  ok : d.ok
  dn : d.down = true
  nn : d.nn = d0.nn
  pt : ∀ x, d.now.getD x ⟨#[]⟩ = d0.now.getD x ⟨#[]⟩ ∨ (u ≤ x ∧ x < u + n ∧ d.now.getD x ⟨#[]⟩ = bl.getD (x - u) ⟨#[]⟩)
theorem dead_mono {d0 d : Dk} {u : Nat} {bl : List ByteArray} {n m : Nat} (h : Dead d0 u bl n d) (hm : n ≤ m) : Dead d0 u bl m d :=
  ⟨h.ok, h.dn, h.nn, fun x => (h.pt x).imp id (fun ⟨a, b, c⟩ => ⟨a, by omega, c⟩)⟩
theorem crash_dead {d0 d : Dk} {u : Nat} {bl : List ByteArray} {k : Nat} (h : Mid d0 u bl k d) (hl : u + k ≤ d.nn) (m : Int) : Dead d0 u bl k (crashD m d) := by
  refine ⟨crashD_ok h.ok m, rfl, h.nn, fun x => ?_⟩
  show (crashTo (crashB m) d.pn d.ps d.np d.kept).getD x ⟨#[]⟩ = _ ∨ (_ ∧ _ ∧ (crashTo (crashB m) d.pn d.ps d.np d.kept).getD x ⟨#[]⟩ = _)
  rw [h.np, crash_at k h.pn h.ps (by rw [h.ok.kl]; exact hl), h.kp]
  by_cases c : u ≤ x ∧ x < u + k ∧ crashB m (x - u) = true
  · rw [if_pos c]; exact .inr ⟨c.1, c.2.1, rfl⟩
  · rw [if_neg c]; exact .inl rfl
theorem put_whole {d : Dk} (h : d.ok) (w : crashTo allB d.pn d.ps d.np d.kept = d.now) (n : Int) (s : ByteArray) : crashTo allB (putD d n s).pn (putD d n s).ps (putD d n s).np (putD d n s).kept = (putD d n s).now := by
  have pref : ∀ k, k ≤ d.np → crashTo allB (d.pn ++ [n]) (d.ps ++ [s]) k d.kept = crashTo allB d.pn d.ps k d.kept := by
    intro k
    induction k with
    | zero => intro _; rfl
    | succ k ih =>
      intro hk
      have e1 := h.pl
      have e2 := h.sl
      simp only [crashTo, allB, cond_true]
      rw [ih (by omega), gd_app1 (by omega), gd_app1 (by omega)]
  show crashTo allB (d.pn ++ [n]) (d.ps ++ [s]) (d.np + 1) d.kept = d.now.set n.toNat s
  simp only [crashTo, allB, cond_true]
  rw [pref _ (Nat.le_refl _), w]
  have e1 := h.pl
  have e2 := h.sl
  rw [gd_app2 (by omega), gd_app2 (by omega), show d.np - d.pn.length = 0 from by omega, show d.np - d.ps.length = 0 from by omega]
  rfl
theorem put_mid {d0 d : Dk} {u : Nat} {bl : List ByteArray} {k : Nat} (h : Mid d0 u bl k d) (hl : u + k < d.nn) (hp : k < 4096) : Mid d0 u bl (k + 1) (putD d ((u + k : Nat) : Int) (bl.getD k ⟨#[]⟩)) := by
  have e1 := h.ok.pl
  have e2 := h.ok.sl
  have np := h.np
  refine ⟨putD_ok h.ok (by omega) (by omega), h.dn, by show d.np + 1 = k + 1; omega, fun i hi => ?_, fun i hi => ?_, h.kp, put_whole h.ok h.wh _ _, h.nn⟩
  · show (d.pn ++ [((u + k : Nat) : Int)]).getD i 0 = _
    by_cases e : i < k
    · rw [gd_app1 (by omega)]; exact h.pn i e
    · obtain rfl : i = k := by omega
      rw [gd_app2 (by omega), show i - d.pn.length = 0 from by omega]; rfl
  · show (d.ps ++ [bl.getD k ⟨#[]⟩]).getD i ⟨#[]⟩ = _
    by_cases e : i < k
    · rw [gd_app1 (by omega)]; exact h.ps i e
    · obtain rfl : i = k := by omega
      rw [gd_app2 (by omega), show i - d.ps.length = 0 from by omega]; rfl
theorem count_mid {d0 d : Dk} {u : Nat} {bl : List ByteArray} {k : Nat} (h : Mid d0 u bl k d) : Mid d0 u bl k (countD d) := ⟨countD_ok h.ok, h.dn, h.np, h.pn, h.ps, h.kp, h.wh, h.nn⟩
theorem wr_any {d0 : Dk} {u : Nat} {bl : List ByteArray} (hb : ∀ b ∈ bl, b.size ≤ 64) : ∀ (r k : Nat) (d : Dk), Mid d0 u bl k d → u + k + r ≤ d0.nn → k + r ≤ 4096 →
    ((wrAll u bl r k d).2 = true ∧ Mid d0 u bl (k + r) (wrAll u bl r k d).1) ∨ ((wrAll u bl r k d).2 = false ∧ Dead d0 u bl (k + r) (wrAll u bl r k d).1) := by
  intro r
  induction r with
  | zero => intro k d h _ _; exact .inl ⟨rfl, h⟩
  | succ r ih =>
    intro k d h hn hp
    have nn := h.nn
    have np := h.np
    have hs := sz_at hb k
    have pm := put_mid h (by omega) (by omega)
    have ew : writeD d ((u + k : Nat) : Int) (bl.getD k ⟨#[]⟩) = if d.steps = 1 then (crashD d.mask (putD d ((u + k : Nat) : Int) (bl.getD k ⟨#[]⟩)), 13) else (countD (putD d ((u + k : Nat) : Int) (bl.getD k ⟨#[]⟩)), 0) := by
      unfold writeD
      rw [if_neg (by rw [h.dn]; decide), if_neg (by omega), if_neg (by omega), if_neg (by omega)]
    simp only [wrAll]
    rw [ew]
    by_cases hst : d.steps = 1
    · rw [if_pos hst, if_neg (by simp)]
      refine .inr ⟨rfl, dead_mono (crash_dead pm (by show u + (k + 1) ≤ d.nn; omega) _) (by omega)⟩
    · rw [if_neg hst, if_pos rfl]
      have := ih (k + 1) _ (count_mid pm) (by omega) (by omega)
      rw [show k + 1 + r = k + (r + 1) from by omega] at this
      exact this
/-- A disk that is up, with a journal on it. -/
structure Aw (d : Dk) (j : Jr) : Prop where
  ok : d.ok
  dn : d.down = false
  np : d.np = 0
  kp : d.kept = d.now
  nn : d.nn ≤ 2000
  sz : ∀ b ∈ d.now, b.size ≤ 64
  jo : JO d j
  js : Js d.now d.nn j
theorem Aw.z {d : Dk} {j : Jr} (h : Aw d j) : Jz j := ⟨h.jo.ge, h.jo.gz, h.jo.st⟩
theorem Aw.op {d : Dk} {j : Jr} (h : Aw d j) : opJ d = j := js_open h.js
theorem aw_mid {d : Dk} {j : Jr} (h : Aw d j) (u : Nat) (bl : List ByteArray) : Mid d u bl 0 d := ⟨h.ok, h.dn, h.np, fun i hi => by omega, fun i hi => by omega, h.kp, by rw [h.np]; exact h.kp, rfl⟩
theorem at_sz {l : List ByteArray} (h : ∀ x, (l.getD x ⟨#[]⟩).size ≤ 64) : ∀ b ∈ l, b.size ≤ 64 := by
  intro b hb
  obtain ⟨i, hi, rfl⟩ := List.getElem_of_mem hb
  have := h i
  rw [List.getD, List.getElem?_eq_getElem hi] at this
  exact this
theorem jo_next' {d : Dk} {j : Jr} (jo : JO d j) {g : List ByteArray} (hg : Gf j d g) (h0 : g ≠ []) {d' : Dk} (hn : d'.nn = d.nn) : JO d' (nextJ j g) := by
  have gs := jo.gs
  have rl := jo.rl
  have rm := jo.rm
  have us := jo.us
  have hrm := hg.rm
  have hl : 0 < g.length := by cases g with | nil => exact absurd rfl h0 | cons a b => simp
  have hnb : 0 < nblk (strm g) := by
    have : 0 < (strm g).size := by rw [← stK_strm, stK_size hg.ok]; have := szK_lt (g := g) g.length; omega
    unfold nblk; omega
  have hle := hg.le
  refine ⟨by rw [hn]; show j.used + nblk (strm g) ≤ d.nn; omega, by show j.groups + 1 ≤ j.used + nblk (strm g); omega, by show (j.recs ++ g).length = j.nr + g.length; rw [List.length_append]; omega, by show j.nr + g.length ≤ 256 * (j.groups + 1); omega, jo.ge, jo.gz, jo.st, hK_bd jo.hb _ _⟩
theorem crash_open {d0 d : Dk} {j : Jr} {g : List ByteArray} (h : Aw d0 j) (hg : Gf j d0 g) (h0 : g ≠ []) (hd : Dead d0 j.used (bkL j.head (strm g) (nblk (strm g))) (nblk (strm g)) d) :
    (∀ b ∈ d.now, b.size ≤ 64) ∧ (opJ (recoverD d).1 = j ∨ opJ (recoverD d).1 = nextJ j g) := by
  have hl : 0 < g.length := by cases g with | nil => exact absurd rfl h0 | cons a b => simp
  have er : (recoverD d).1 = { d with down := false } := by unfold recoverD; rw [if_pos hd.dn]
  have hrm := hg.rm
  have hus := h.jo.us
  have hat : ∀ i, i < nblk (strm g) → d.now.getD (j.used + i) ⟨#[]⟩ = bK j.head (strm g) i ∨ d.now.getD (j.used + i) ⟨#[]⟩ = ⟨#[]⟩ := by
    intro i hi
    rcases hd.pt (j.used + i) with e | ⟨_, _, e⟩
    · exact .inr (e.trans (h.js.emp _ (by omega)))
    · rw [Nat.add_sub_cancel_left, bkL_get _ _ hi] at e; exact .inl e
  have hke : ∀ i, i < j.used ∨ j.used + nblk (strm g) ≤ i → d.now.getD i ⟨#[]⟩ = d0.now.getD i ⟨#[]⟩ := by
    intro i hi
    rcases hd.pt i with e | ⟨a, b, _⟩
    · exact e
    · omega
  refine ⟨at_sz (fun x => ?_), ?_⟩
  · rcases hd.pt x with e | ⟨a, b, e⟩
    · rw [e]; exact sz_at h.sz x
    · rw [e]; exact sz_at (bkL_sz _ _ _) _
  · by_cases hall : ∀ i, i < nblk (strm g) → d.now.getD (j.used + i) ⟨#[]⟩ = bK j.head (strm g) i
    · right
      have := js_more h.js hg.ok hl hg.le (by omega) hall hke
      rw [er]
      exact js_open (d := { d with down := false }) (by show Js d.now d.nn _; rw [hd.nn]; exact this)
    · left
      obtain ⟨i, hi⟩ := Classical.not_forall.1 hall
      obtain ⟨hi, hne⟩ := Classical.not_imp.1 hi
      refine js_miss h.js hg.ok hl hat ⟨i, hi, ?_⟩ (fun i hi => hke i (.inl hi)) _ (by rw [er]) (by rw [er]; exact hd.nn)
      rcases hat i hi with e | e
      · exact absurd e hne
      · exact e
theorem cm_any {j : Jr} {d : Dk} {g : List ByteArray} (h : Aw d j) (hg : Gf j d g) (h0 : g ≠ []) :
    (cmR (j.with g) d).2.1.nn = d.nn ∧ (((cmR (j.with g) d).2.2 = 0 ∧ (cmR (j.with g) d).1 = nextJ j g ∧ Aw (cmR (j.with g) d).2.1 (nextJ j g)) ∨
    ((cmR (j.with g) d).2.2 = 13 ∧ (cmR (j.with g) d).1 = stopJ (j.with g) ∧ Dead d j.used (bkL j.head (strm g) (nblk (strm g))) (nblk (strm g)) (cmR (j.with g) d).2.1)) := by
  have hz := h.z
  have hrm := hg.rm
  have hnn := h.nn
  have hus := h.jo.us
  have hbs := bkL_sz j.head (strm g) (nblk (strm g))
  have hw := wr_any hbs (nblk (strm g)) 0 d (aw_mid h j.used _) (by omega) (by omega)
  rw [Nat.zero_add] at hw
  have eW : cmW (j.with g) d = wrAll j.used (bkL j.head (strm g) (nblk (strm g))) (nblk (strm g)) 0 d := rfl
  have er : cmR (j.with g) d = if (cmW (j.with g) d).2 = false then (stopJ (j.with g), (cmW (j.with g) d).1, 13)
      else if (flushD (cmW (j.with g) d).1).2 ≠ 0 then (stopJ (j.with g), (flushD (cmW (j.with g) d).1).1, 13)
      else (doneJ (j.with g), (flushD (cmW (j.with g) d).1).1, 0) := by
    unfold cmR
    rw [if_neg (show ¬ (j.with g).stopped = true by show ¬ j.stopped = true; rw [hz.st]; decide), if_neg (show ¬ cutE (j.with g).grp ≠ 0 from fun e => e (gf_cut hg h0))]
  rw [er, eW]
  generalize wrAll j.used (bkL j.head (strm g) (nblk (strm g))) (nblk (strm g)) 0 d = W at hw ⊢
  rcases hw with ⟨w1, wm⟩ | ⟨w1, wd⟩
  · rw [if_neg (by rw [w1]; decide)]
    have hnn1 := wm.nn
    by_cases hst : W.1.steps = 1
    · have ef : flushD W.1 = (crashD W.1.mask W.1, 13) := by unfold flushD; rw [if_neg (by rw [wm.dn]; decide), if_pos hst]
      rw [ef, if_pos (by simp)]
      have := crash_dead wm (by omega) W.1.mask
      exact ⟨this.nn, .inr ⟨rfl, rfl, this⟩⟩
    · have ef : flushD W.1 = (countD (keepD W.1), 0) := by unfold flushD; rw [if_neg (by rw [wm.dn]; decide), if_neg hst]
      rw [ef, if_neg (by simp)]
      have enow : ∀ x, W.1.now.getD x ⟨#[]⟩ = if j.used ≤ x ∧ x < j.used + nblk (strm g) then (bkL j.head (strm g) (nblk (strm g))).getD (x - j.used) ⟨#[]⟩ else d.now.getD x ⟨#[]⟩ := by
        intro x
        rw [← wm.wh, wm.np, crash_at (nblk (strm g)) wm.pn wm.ps (by rw [wm.ok.kl]; omega), wm.kp]
        by_cases c : j.used ≤ x ∧ x < j.used + nblk (strm g)
        · rw [if_pos c, if_pos ⟨c.1, c.2, rfl⟩]
        · rw [if_neg c, if_neg (fun k => c ⟨k.1, k.2.1⟩)]
      refine ⟨hnn1, .inl ⟨rfl, ?_, ?_⟩⟩
      · obtain ⟨a, b, c, e, f, gg, n, s⟩ := j
        have h1 := hz.ge
        have h2 := hz.gz
        have h3 := hz.st
        simp only at h1 h2 h3
        subst h1 h2 h3
        rfl
      · have hl : 0 < g.length := by cases g with | nil => exact absurd rfl h0 | cons a b => simp
        refine ⟨countD_ok (keepD_ok wm.ok), wm.dn, rfl, wm.wh, by show W.1.nn ≤ 2000; omega, at_sz (fun x => ?_), jo_next' h.jo hg h0 hnn1, ?_⟩
        · show (W.1.now.getD x ⟨#[]⟩).size ≤ 64
          rw [enow]
          split
          · exact sz_at hbs _
          · exact sz_at h.sz x
        · show Js W.1.now W.1.nn (nextJ j g)
          rw [hnn1]
          refine js_more h.js hg.ok hl hg.le (by omega) (fun i hi => ?_) (fun i hi => ?_)
          · rw [enow, if_pos (by omega), Nat.add_sub_cancel_left, bkL_get _ _ hi]
          · rw [enow, if_neg (by omega)]
  · rw [if_pos w1]
    exact ⟨wd.nn, .inr ⟨rfl, rfl, wd⟩⟩
end Go.Proofs.YtdlpmmdbdjlojaaDoor

/- Contracts of the law's own functions: long, same, fill. -/
namespace Go.Proofs.YtdlpmmdbdjlojaaDoor
open Go.RowKit Go.Sy
attribute [local irreducible] vcall vloop vcallD retP
set_option maxRecDepth 100000
set_option linter.unusedVariables false
set_option linter.unusedSimpArgs false
attribute [local irreducible] seq ByteArray.extract
def longW (g : List ByteArray) : Nat → Int
  | 0 => 0
  | k + 1 => IntKind.i64.wrap (longW g k + ((g.getD k ⟨#[]⟩).size : Int))
def longB (g : List ByteArray) (n : Nat) (m : Int) : Bool := decide (m < longW g n) || decide (300 < n)
/-- A group that is not long. -/
theorem long_no {g : List ByteArray} {n : Nat} {m : Int} (h : longB g n m = false) : n ≤ 300 := by
  unfold longB at h
  simp only [Bool.or_eq_false_iff, decide_eq_false_iff_not] at h
  omega
theorem i64_succ2 {k : Nat} (h : k < 9223372036854775807) : IntKind.i64.wrap ((k : Int) + 1) = ((k + 1 : Nat) : Int) := by rw [w64_in (by omega) (by omega)]; rfl
theorem law_long (g : List ByteArray) (n : Nat) (m : Int) (hn : n ≤ maxLen) : FC Tryd.prog 2 6 [.sl 1 0 0 n, .int .i64 m] [(1, grB n g)] (isOut (.bool (longB g n m)) [] 2) := by
  unfold maxLen at hn
  refine fc_of mixed T_ok Tryd.func6 rfl (by kernel_rfl) (by kernel_rfl) (by kernel_rfl) ?_
  repeat' ((conv => whnf); first | ((first | apply br_dec | apply br_ndec) <;> intro h <;> try (exfalso; (try dsimp only at h); omega)) | ((first | apply br_seq | apply br_nseq | apply br_not | apply br_intro) <;> intro h) | refine cond_a ?_)
  all_goals (conv => whnf)
  refine vloop_of (fun k : Nat => ⟨[(0, .sl 1 0 0 n), (1, .int .i64 m), (5, .int .i64 (longW g k)), (6, .int .i64 k)], [(1, grB n g)], 2⟩) (fun k => k ≤ n) (fun k => n - k) 0 [0, 1] [] ⟨rfl, ⟨rfl, rfl, rfl, rfl, trivial⟩, ⟨rfl, trivial⟩⟩ (Nat.zero_le _) ?_
  intro k hk
  by_cases hlt : k < n
  · repeat' ((conv => whnf); first | ((first | apply br_dec | apply br_ndec) <;> intro h <;> try (exfalso; (try dsimp only at h); omega)) | ((first | apply br_seq | apply br_nseq | apply br_not | apply br_intro) <;> intro h) | refine cond_a ?_)
    all_goals (conv => whnf)
    all_goals first
      | (exfalso; omega)
      | exact ⟨k + 1, [0, 1], [], by omega, by omega, ⟨rfl, ⟨rfl, rfl, rfl, congrArg (fun z => some (SV.int .i64 z)) (i64_succ2 (by omega)), trivial⟩, ⟨rfl, trivial⟩⟩⟩
  · obtain rfl : k = n := by omega
    have eo : ∀ b : Bool, (decide (m < longW g k) || decide (300 < k)) = b → longB g k m = b := fun b h => h
    repeat' ((conv => whnf); first | ((first | apply br_dec | apply br_ndec) <;> intro h <;> try (exfalso; (try dsimp only at h); omega)) | ((first | apply br_seq | apply br_nseq | apply br_not | apply br_intro) <;> intro h) | refine cond_a ?_)
    all_goals (conv => whnf)
    all_goals first
      | (exfalso; omega)
      | (refine ret_out (l := [0, 1]) rfl ?_ trivial allRw_nil
         first
           | (rw [eo true (by simp_all)]; rfl)
           | (rw [eo false (by simp_all)]; rfl)
           | (unfold longB
              rename_i h
              have h' : ¬ (m < longW g k) := h
              rw [show decide (m < longW g k) = false from decide_eq_false h', Bool.false_or]
              rw [show decide (300 < k) = decide ((300 : Int) < (k : Int)) from by simp only [decide_eq_decide]; omega]; rfl))

theorem law_same (a : List ByteArray) (n : Nat) (hl : a.length = n) (hn : n ≤ maxLen) : FC Tryd.prog 3 10 [.sl 1 0 0 n, .sl 2 0 0 n] [(1, grB n a), (2, grB n a)] (isOut (.bool true) [] 3) := by
  unfold maxLen at hn
  refine fc_of mixed T_ok Tryd.func10 rfl (by kernel_rfl) (by kernel_rfl) (by kernel_rfl) ?_
  repeat' ((conv => whnf); first | ((first | apply br_dec | apply br_ndec) <;> intro h <;> try (exfalso; (try dsimp only at h); omega)) | ((first | apply br_seq | apply br_nseq | apply br_not | apply br_intro) <;> intro h) | refine cond_a ?_)
  all_goals (conv => whnf)
  all_goals first
    | (exfalso; omega)
    | skip
  refine vloop_of (fun k : Nat => ⟨[(0, .sl 1 0 0 n), (1, .sl 2 0 0 n), (5, .int .i64 k)], [(1, grB n a), (2, grB n a)], 3⟩) (fun k => k ≤ n) (fun k => n - k) 0 [0, 1, 2] [] ⟨rfl, ⟨rfl, rfl, rfl, trivial⟩, ⟨rfl, rfl, trivial⟩⟩ (Nat.zero_le _) ?_
  intro k hk
  by_cases hlt : k < n
  · repeat' ((conv => whnf); first | ((first | apply br_dec | apply br_ndec) <;> intro h <;> try (exfalso; (try dsimp only at h); omega)) | ((first | apply br_seq | apply br_nseq | apply br_not | apply br_intro) <;> intro h) | refine cond_a ?_)
    all_goals (conv => whnf)
    all_goals first
      | (exfalso; omega)
      | (exfalso; exact h rfl)
      | exact ⟨k + 1, [0, 1, 2], [], by omega, by omega, ⟨rfl, ⟨rfl, rfl, congrArg (fun z => some (SV.int .i64 z)) (i64_succ2 (by omega)), trivial⟩, ⟨rfl, rfl, trivial⟩⟩⟩
  · obtain rfl : k = n := by omega
    repeat' ((conv => whnf); first | ((first | apply br_dec | apply br_ndec) <;> intro h <;> try (exfalso; (try dsimp only at h); omega)) | ((first | apply br_seq | apply br_nseq | apply br_not | apply br_intro) <;> intro h) | refine cond_a ?_)
    all_goals (conv => whnf)
    all_goals first
      | (exfalso; omega)
      | exact ret_out (l := [0, 1, 2]) rfl rfl trivial allRw_nil
end Go.Proofs.YtdlpmmdbdjlojaaDoor

/- Contracts of the law's own functions: fill; of the journal's Records. -/
namespace Go.Proofs.YtdlpmmdbdjlojaaDoor
open Go.RowKit Go.Sy
attribute [local irreducible] vcall vloop vcallD retP
set_option maxRecDepth 100000
set_option linter.unusedVariables false
set_option linter.unusedSimpArgs false
attribute [local irreducible] seq ByteArray.extract
theorem law_fill (j : Jr) (d : Dk) (g : List ByteArray) (n : Nat) (hj : JO d j) (hnn : d.nn ≤ 4096) (hn : n ≤ 300) :
    FC Tryd.prog 9 13 [.ptr 1 0 0 0, .sl 8 0 0 n] [(1, cellB false (jrC 5 6 j)), (2, cellB true (dkJ 7 d)), (6, grW j.ng j.grp), (8, grB n g)]
      (isOut (.sl 10 0 0 (fiO j d g n).length) [(1, cellB false (jrC 5 9 (fiJ j d g n))), (9, grW (fiJ j d g n).ng (fiJ j d g n).grp), (10, grW (fiO j d g n).length (fiO j d g n))] 11) := by
  obtain ⟨J, hJ⟩ : ∃ J, fiJ j d g n = J := ⟨_, rfl⟩
  obtain ⟨O, hO⟩ : ∃ O, fiO j d g n = O := ⟨_, rfl⟩
  rw [hJ, hO]
  refine fc_of mixed T_ok Tryd.func13 rfl (by kernel_rfl) (by kernel_rfl) (by kernel_rfl) ?_
  repeat' ((conv => whnf); first | ((first | apply br_dec | apply br_ndec) <;> intro h <;> try (exfalso; (try dsimp only at h); omega)) | ((first | apply br_seq | apply br_nseq | apply br_not | apply br_intro) <;> intro h) | refine cond_a ?_)
  all_goals (conv => whnf)
  refine vloop_of (fun k : Nat => ⟨[(0, .ptr 1 0 0 0), (1, .sl 8 0 0 n), (5, .sl 9 0 0 (fiO j d g k).length), (6, .int .i64 k)], [(1, cellB false (jrC 5 10 (fiJ j d g k))), (2, cellB true (dkJ 7 d)), (10, grW (fiJ j d g k).ng (fiJ j d g k).grp), (8, grB n g), (9, grW (fiO j d g k).length (fiO j d g k))], 11⟩) (fun k => k ≤ n) (fun k => n - k) 0 [0, 1, 2, 3, 4, 5, 6, 7, 8, 9, 6] [.slot 5 [.sc (.strs [])]] ⟨rfl, ⟨rfl, rfl, rfl, rfl, trivial⟩, ⟨rfl, rfl, rfl, rfl, rfl, trivial⟩⟩ (Nat.zero_le _) ?_
  intro k hk
  have ol := fiO_len j d g k
  by_cases hlt : k < n
  · have c := jr_Append (fiJ j d g k) d (g.getD k ⟨#[]⟩) (fi_ok hj g k) hnn
    have eJ : fiJ j d g (k + 1) = jaJ (fiJ j d g k) d (g.getD k ⟨#[]⟩) := rfl
    by_cases e : jaE (fiJ j d g k) d (g.getD k ⟨#[]⟩) = 0
    · have eO : fiO j d g (k + 1) = fiO j d g k ++ [g.getD k ⟨#[]⟩] := by simp only [fiO]; rw [if_pos e]
      rw [e] at c
      repeat' ((conv => whnf); first | refine vcall_o (l := [0, 1, 2, 3, 4, 5, 10, 7]) (c) ?_ | refine vcallD_o (l := [0, 1, 2, 3, 4, 5, 10, 7]) (c) ?_ | ((first | apply br_dec | apply br_ndec) <;> intro h <;> try (exfalso; (try dsimp only at h); omega)) | ((first | apply br_seq | apply br_nseq | apply br_not | apply br_intro) <;> intro h) | refine cond_a ?_)
      all_goals (conv => whnf)
      all_goals first
        | (exfalso; omega)
        | (exfalso; exact h rfl)
        | (refine ⟨k + 1, [0, 1, 2, 3, 4, 5, 6, 7, 8, 13, 11], [], by omega, by omega, ⟨rfl, ⟨rfl, rfl, ?_, congrArg (fun z => some (SV.int .i64 z)) (i64_succ (by omega)), trivial⟩, ⟨rfl, rfl, rfl, rfl, ?_, trivial⟩⟩⟩
           · rw [eO, List.length_append]; rfl
           · rw [eO, List.length_append]; rfl)
    · have eO : fiO j d g (k + 1) = fiO j d g k := by simp only [fiO]; rw [if_neg e]
      repeat' ((conv => whnf); first | refine vcall_o (l := [0, 1, 2, 3, 4, 5, 10, 7]) (c) ?_ | refine vcallD_o (l := [0, 1, 2, 3, 4, 5, 10, 7]) (c) ?_ | ((first | apply br_dec | apply br_ndec) <;> intro h <;> try (exfalso; (try dsimp only at h); omega)) | ((first | apply br_seq | apply br_nseq | apply br_not | apply br_intro) <;> intro h) | refine cond_a ?_)
      all_goals (conv => whnf)
      all_goals first
        | (exfalso; omega)
        | (exfalso; exact e h)
        | (refine ⟨k + 1, [0, 1, 2, 3, 4, 5, 6, 7, 8, 9, 11], [], by omega, by omega, ⟨rfl, ⟨rfl, rfl, ?_, congrArg (fun z => some (SV.int .i64 z)) (i64_succ (by omega)), trivial⟩, ⟨rfl, rfl, rfl, rfl, ?_, trivial⟩⟩⟩
           · rw [eO]; rfl
           · rw [eO]; rfl)
  · obtain rfl : k = n := by omega
    rw [hJ, hO]
    repeat' ((conv => whnf); first | ((first | apply br_dec | apply br_ndec) <;> intro h <;> try (exfalso; (try dsimp only at h); omega)) | ((first | apply br_seq | apply br_nseq | apply br_not | apply br_intro) <;> intro h) | refine cond_a ?_)
    all_goals (conv => whnf)
    all_goals first
      | (exfalso; omega)
      | exact ret_out (l := [0, 1, 2, 3, 4, 5, 6, 7, 8, 10, 9]) rfl rfl ⟨rfl, rfl, rfl, trivial⟩ (allRw_cons (allRw_cons (allRw_cons allRw_nil)))

theorem seg_all {α : Type} {l : List α} {n : Nat} (h : l.length = n) : seg 0 n l = l := by
  unfold seg; rw [List.drop_zero, List.take_of_length_le (by omega)]
theorem str_Clone (n : Nat) (l : List ByteArray) (hl : l.length = n) (hn : n ≤ 1000000) : FC Tryd.prog 2 35 [.sl 1 0 0 n] [(1, some (.one true (.cols n [.sc (.strs l)])))] (isOut (.sl 2 0 0 n) [(2, some (.one false (.cols n [.sc (.strs l)])))] 3) := by
  cases n with
  | zero =>
    obtain rfl := List.eq_nil_of_length_eq_zero hl
    refine fc_nil rfl ?_
    refine fc_of mixed T_ok Tryd.func35 rfl (by kernel_rfl) (by kernel_rfl) (by kernel_rfl) ?_
    repeat' ((conv => whnf); first | ((first | apply br_dec | apply br_ndec) <;> intro h <;> try (exfalso; (try dsimp only at h); omega)) | ((first | apply br_seq | apply br_nseq | apply br_not | apply br_intro) <;> intro h) | refine cond_a ?_ | (refine And.intro ?_ ?_))
    all_goals (conv => whnf)
    all_goals first
      | exact retP_mono (fun _ _ _ h => .inl h) (ret_out (l := [0, 1]) rfl rfl trivial allRw_nil)
      | exact retP_mono (fun _ _ _ h => .inr h) (ret_out (l := [0, 1, 3]) rfl rfl ⟨rfl, trivial⟩ (allRw_cons allRw_nil))
      | decide
  | succ n =>
    refine fc_of mixed T_ok Tryd.func35 rfl (by kernel_rfl) (by kernel_rfl) (by kernel_rfl) ?_
    repeat' ((conv => whnf); first | ((first | apply br_dec | apply br_ndec) <;> intro h <;> try (exfalso; (try dsimp only at h); omega)) | ((first | apply br_seq | apply br_nseq | apply br_not | apply br_intro) <;> intro h) | refine cond_a ?_)
    all_goals (conv => whnf)
    all_goals (rw [Nat.zero_add (n + 1), seg_all hl]; exact ret_out (l := [0, 1, 3]) rfl rfl ⟨rfl, trivial⟩ (allRw_cons allRw_nil))
theorem jr_Records (j : Jr) (hl : j.recs.length = j.nr) (hn : j.nr ≤ 1000000) : FC Tryd.prog 8 17 [.ptr 1 0 0 0] [(1, cellB true (jrC 5 6 j)), (5, grB j.nr j.recs)] (isOut (.sl 8 0 0 j.nr) [(8, grW j.nr j.recs)] 9) := by
  have c := str_Clone j.nr j.recs hl hn
  refine fc_of mixed T_ok Tryd.func17 rfl (by kernel_rfl) (by kernel_rfl) (by kernel_rfl) ?_
  repeat' ((conv => whnf); first | refine vcall_o (l := [0, 5]) (c) ?_ | refine vcallD_o (l := [0, 5]) (c) ?_ | ((first | apply br_dec | apply br_ndec) <;> intro h <;> try (exfalso; (try dsimp only at h); omega)) | ((first | apply br_seq | apply br_nseq | apply br_not | apply br_intro) <;> intro h) | refine cond_a ?_)
  all_goals (conv => whnf)
  all_goals exact ret_out (l := [0, 1, 2, 3, 4, 5, 6, 7, 8]) rfl rfl ⟨rfl, trivial⟩ (allRw_cons allRw_nil)

def a1 : ByteArray := ⟨#[97]⟩
theorem aw_okR : okR [a1] := by intro r hr; simp only [List.mem_singleton] at hr; rw [hr]; decide
theorem aw_nblk : nblk (strm [a1]) = 1 := by rw [nblk_sz aw_okR]; decide
theorem aw_strm : strm [a1] = ⟨#[48, 48, 48, 49, 97]⟩ := by
  have : numS (a1.size : Nat) 4 = bytesOf (digs 4 1) := numS_ok (numOk4 (n := 1) (by omega))
  simp only [strm]
  rw [this]
  decide
theorem aw_body : bodyN (rsT (strm [a1]) 0) = ⟨#[46, 48, 53, 48, 48, 48, 49, 97]⟩ := by
  have : numS (5 : Nat) 2 = bytesOf (digs 2 5) := numS_ok (numOk2 (n := 5) (by omega))
  rw [rsT_zero, aw_strm]
  unfold bodyN
  rw [show (min (⟨#[48, 48, 48, 49, 97]⟩ : ByteArray).size 45) = 5 from rfl, this, show (⟨#[48, 48, 48, 49, 97]⟩ : ByteArray).extract 0 5 = ⟨#[48, 48, 48, 49, 97]⟩ from ext_all]
  decide
theorem aw_cut : cutE [a1] = 0 := by decide
theorem zer_size (n : Nat) : (bytesOf (seg 0 n (List.replicate n 0))).size = n := by rw [bytesOf_size]; simp [seg]
def z87 : ByteArray := bytesOf (seg 0 87 (List.replicate 87 0))
def z86 : ByteArray := bytesOf (seg 0 86 (List.replicate 86 0))
theorem z86_size : z86.size = 86 := zer_size 86
theorem z87_size : z87.size = 87 := zer_size 87
theorem aw_ja : jaE jr0 (newD 2) z87 = 12 := by
  unfold jaE jaZ
  rw [z87_size]
  decide
theorem aw_jb : jaE jr0 (newD 2) z86 = 0 := by
  unfold jaE jaZ
  rw [z86_size]
  decide
theorem gf_ok' {j : Jr} {d : Dk} (hj : JO d j) : j.ok d := ⟨hj.rl, by rw [hj.ge, hj.gz]; rfl, hj.us, hj.gs, hj.rm, by rw [hj.gz]; exact Nat.zero_le _, (by rw [hj.ge]; intro r hr; cases hr), hj.hb⟩
theorem law_awake : Glob Tryd.prog glT 7 [] (.bool true) := by
  show FC Tryd.prog 1 7 [] [(0, some (GB glT))] (isOut (.bool true) [] 1)
  have J2 := jw_new 2 (by omega)
  have c1 := jr_Blocks 0 [a1] 1 rfl aw_cut
  rw [aw_nblk] at c1
  have e1 : bkL 0 (strm [a1]) 1 = [bK 0 (strm [a1]) 0] := rfl
  have z1 : (bK 0 (strm [a1]) 0).size = 24 := by rw [bK_size, aw_strm]; rfl
  have x1 : (bK 0 (strm [a1]) 0).extract 16 24 = ⟨#[46, 48, 53, 48, 48, 48, 49, 97]⟩ := by
    rw [bK_eq, aw_body]
    exact extract_right (hxS_size _) rfl
  have c2 := disk_New 2 (by omega)
  have c3 := jr_Open (newD 2) rfl (by decide) J2.sz
  rw [J2.op] at c3
  have c4 := jr_Room jr0 (newD 2) (by decide) (Nat.zero_le _)
  have c5 := jr_Append jr0 (newD 2) z87 (gf_ok J2.jo (gf_nil _ _)) (by decide)
  rw [jaJ_no (by rw [aw_ja]; decide), aw_ja] at c5
  have c6 := jr_Append jr0 (newD 2) z86 (gf_ok J2.jo (gf_nil _ _)) (by decide)
  rw [jaJ_ok aw_jb, aw_jb] at c6
  have zR := z86_size
  have gf : Gf jr0 (newD 2) [z86] := by
    have ok : okR [z86] := by intro r hr; simp only [List.mem_singleton] at hr; rw [hr, zR]; decide
    refine ⟨ok, by decide, ?_⟩
    rw [nblk_sz ok]
    show (0 + (4 + z86.size) + 44) / 45 ≤ 2
    omega
  obtain ⟨m1, m2, m3, m4⟩ := cm_full J2 gf (by simp)
  have ej : ({ jr0 with grp := jr0.grp ++ [z86], ng := jr0.ng + 1 } : Jr) = jr0.with [z86] := rfl
  rw [ej] at c6
  have c7 := jr_Pending (jr0.with [z86])
  have c8 := jr_Commit (jr0.with [z86]) (newD 2) (gf_ok J2.jo gf) (newD_ok 2 (by omega))
  rw [m1, m2] at c8
  obtain ⟨D, hD⟩ : ∃ D, (cmR (jr0.with [z86]) (newD 2)).2.1 = D := ⟨_, rfl⟩
  rw [hD] at c8 m3 m4
  have c9 := jr_Groups (nextJ jr0 [z86])
  have c10 := jr_Room (nextJ jr0 [z86]) D (by rw [m4]; exact (by decide : (2 : Nat) ≤ 4096)) m3.jo.us
  have nb2 : nblk (strm [z86]) = 2 := by
    rw [nblk_sz gf.ok]
    show (0 + (4 + z86.size) + 44) / 45 = 2
    omega
  have eu : (nextJ jr0 [z86]).used = 2 := by show 0 + nblk (strm [z86]) = 2; omega
  rw [m4, eu] at c10
  have c11 := jr_Commit (nextJ jr0 [z86]) D (gf_ok' m3.jo) m3.ok
  rw [← jz_with m3.z, cm_nil m3.z] at c11
  refine fc_of mixed T_ok Tryd.func7 rfl (by kernel_rfl) (by kernel_rfl) (by kernel_rfl) ?_
  repeat' ((conv => whnf); first | refine vcall_o (l := [0, 1]) (c1) ?_ | refine vcallD_o (l := [0, 1]) (c1) ?_ | refine vcall_o (l := [0]) (c2) ?_ | refine vcallD_o (l := [0]) (c2) ?_ | refine vcall_o (l := [0, 3, 4, 5, 6]) (c3) ?_ | refine vcallD_o (l := [0, 3, 4, 5, 6]) (c3) ?_ | refine vcall_o (l := [0, 7, 3, 4, 5, 8, 9, 6]) (c4) ?_ | refine vcallD_o (l := [0, 7, 3, 4, 5, 8, 9, 6]) (c4) ?_ | refine vcall_o (l := [0, 7, 3, 4, 5, 8, 9, 6]) (c5) ?_ | refine vcallD_o (l := [0, 7, 3, 4, 5, 8, 9, 6]) (c5) ?_ | refine vcall_o (l := [0, 7, 3, 4, 5, 8, 11, 6]) (c6) ?_ | refine vcallD_o (l := [0, 7, 3, 4, 5, 8, 11, 6]) (c6) ?_ | refine vcall_o (l := [0, 7, 3, 4, 5, 8, 13, 6]) (c7) ?_ | refine vcallD_o (l := [0, 7, 3, 4, 5, 8, 13, 6]) (c7) ?_ | refine vcall_o (l := [0, 7, 3, 4, 5, 8, 13, 6]) (c8) ?_ | refine vcallD_o (l := [0, 7, 3, 4, 5, 8, 13, 6]) (c8) ?_ | refine vcall_o (l := [0, 7, 3, 4, 5, 14, 15, 16]) (c9) ?_ | refine vcallD_o (l := [0, 7, 3, 4, 5, 14, 15, 16]) (c9) ?_ | refine vcall_o (l := [0, 7, 3, 4, 5, 14, 15, 16]) (c10) ?_ | refine vcallD_o (l := [0, 7, 3, 4, 5, 14, 15, 16]) (c10) ?_ | refine vcall_o (l := [0, 7, 3, 4, 5, 14, 15, 16]) (c11) ?_ | refine vcallD_o (l := [0, 7, 3, 4, 5, 14, 15, 16]) (c11) ?_ | ((first | apply br_dec | apply br_ndec) <;> intro h <;> try (exfalso; (try dsimp only at h); omega)) | ((first | apply br_seq | apply br_nseq | apply br_not | apply br_intro) <;> intro h) | refine cond_a ?_)
  all_goals (conv => whnf)
  all_goals first
    | (exfalso; exact h rfl)
    | (exfalso; exact h (show ((bK 0 (strm [a1]) 0).size : Int) = 24 by rw [z1]; rfl))
    | (exfalso; exact h (show (bK 0 (strm [a1]) 0).extract 16 (bK 0 (strm [a1]) 0).size = _ by rw [z1]; exact x1))
    | exact ret_pure rfl
end Go.Proofs.YtdlpmmdbdjlojaaDoor

/- Contracts of the law's own functions at groups that are members of a table; the round of a law as plain facts. -/
namespace Go.Proofs.YtdlpmmdbdjlojaaDoor
open Go.RowKit Go.Sy
attribute [local irreducible] vcall vloop vcallD retP
set_option maxRecDepth 100000
set_option linter.unusedVariables false
set_option linter.unusedSimpArgs false
attribute [local irreducible] seq ByteArray.extract
/-- Groups that are handed in. -/
abbrev famF (ns : List Nat) (z : Nat → List ByteArray) (x : Nat) : Blk := .cols (ns.getD x 0) [.sc (.strs (z x))]
abbrev famG (l : Nat) (ns : List Nat) (z : Nat → List ByteArray) : Option HB := some (.fam true (fun x => x < l) (fun x => .cols (ns.getD x 0) [.sc (.strs (z x))]))
theorem law_longF (l i : Nat) (ns : List Nat) (z : Nat → List ByteArray) (hi : i < l) (m : Int) (hn : ns.getD i 0 ≤ maxLen) :
    FC Tryd.prog 2 6 [.sl 1 i 0 (ns.getD i 0), .int .i64 m] [(1, famG l ns z)] (isOut (.bool (longB (z i) (ns.getD i 0) m)) [] 2) := by
  have c0 := fc_fam [(1, ⟨i, fun x => x < l, famF ns z⟩)] (by exact ⟨⟨by decide, by decide, _, _, rfl, hi, rfl, .inl rfl⟩, trivial⟩) (by exact ⟨rfl, trivial⟩) (by exact trivial) allRw_nil (law_long (z i) (ns.getD i 0) m hn)
  have e : SV.mems (fmu [(1, ⟨i, fun x => x < l, famF ns z⟩)]) [.sl 1 0 0 (ns.getD i 0), .int .i64 m] = [.sl 1 i 0 (ns.getD i 0), .int .i64 m] := by
    show [SV.sl 1 (0 + i) 0 (ns.getD i 0), .int .i64 m] = _
    rw [Nat.zero_add]
  rw [e] at c0
  exact c0
theorem law_fillF (j : Jr) (d : Dk) (l i : Nat) (ns : List Nat) (z : Nat → List ByteArray) (hi : i < l) (hj : JO d j) (hnn : d.nn ≤ 4096) (hn : ns.getD i 0 ≤ 300) :
    FC Tryd.prog 9 13 [.ptr 1 0 0 0, .sl 8 i 0 (ns.getD i 0)] [(1, cellB false (jrC 5 6 j)), (2, cellB true (dkJ 7 d)), (6, grW j.ng j.grp), (8, famG l ns z)]
      (isOut (.sl 10 0 0 (fiO j d (z i) (ns.getD i 0)).length) [(1, cellB false (jrC 5 9 (fiJ j d (z i) (ns.getD i 0)))), (9, grW (fiJ j d (z i) (ns.getD i 0)).ng (fiJ j d (z i) (ns.getD i 0)).grp), (10, grW (fiO j d (z i) (ns.getD i 0)).length (fiO j d (z i) (ns.getD i 0)))] 11) := by
  have c0 := fc_fam [(8, ⟨i, fun x => x < l, famF ns z⟩)] (by exact ⟨⟨by decide, by decide, _, _, rfl, hi, rfl, .inl rfl⟩, trivial⟩) (by exact ⟨rfl, rfl, rfl, rfl, trivial⟩) (by exact ⟨rfl, rfl, rfl, trivial⟩) (allRw_cons (allRw_cons (allRw_cons allRw_nil))) (law_fill j d (z i) (ns.getD i 0) hj hnn hn)
  have e : SV.mems (fmu [(8, ⟨i, fun x => x < l, famF ns z⟩)]) [.ptr 1 0 0 0, .sl 8 0 0 (ns.getD i 0)] = [.ptr 1 0 0 0, .sl 8 i 0 (ns.getD i 0)] := by
    show [SV.ptr 1 0 0 0, .sl 8 (0 + i) 0 (ns.getD i 0)] = _
    rw [Nat.zero_add]
  rw [e] at c0
  exact c0
end Go.Proofs.YtdlpmmdbdjlojaaDoor

/- The law JournalAtomic: the loop over the groups. -/
namespace Go.Proofs.YtdlpmmdbdjlojaaDoor
open Go.RowKit Go.Sy
attribute [local irreducible] vcall vloop vcallD retP
set_option maxRecDepth 100000
set_option linter.unusedVariables false
set_option linter.unusedSimpArgs false
attribute [local irreducible] seq ByteArray.extract
/-- The disk is up: all groups are there. -/
structure AtU (d : Dk) (j : Jr) (G : List (List ByteArray)) (dn : Nat) : Prop where
  aw : Aw d j
  nn : d.nn = 2000
  gr : j.groups = G.length
  rc : j.recs = G.flatten
  dn : dn = G.length
/-- The disk is down: a journal that is opened has some first groups. -/
structure AtD (d : Dk) (j : Jr) (G : List (List ByteArray)) (dn : Nat) : Prop where
  ok : d.ok
  dw : d.down = true
  nn : d.nn = 2000
  sz : ∀ b ∈ d.now, b.size ≤ 64
  st : j.stopped = true
  jok : j.ok d
  gl : G.length = dn + 1
  op : ∃ m, dn ≤ m ∧ m ≤ G.length ∧ (opJ (recoverD d).1).groups = m ∧ (opJ (recoverD d).1).recs = (G.take m).flatten
theorem at_step {d : Dk} {j : Jr} {G : List (List ByteArray)} {dn : Nat} {o : List ByteArray} (h : AtU d j G dn) (hg : Gf j d o) (h0 : o ≠ []) :
    ((cmR (j.with o) d).2.2 = 0 ∧ AtU (cmR (j.with o) d).2.1 (cmR (j.with o) d).1 (G ++ [o]) (dn + 1)) ∨ ((cmR (j.with o) d).2.2 = 13 ∧ AtD (cmR (j.with o) d).2.1 (cmR (j.with o) d).1 (G ++ [o]) dn) := by
  obtain ⟨en, hc⟩ := cm_any h.aw hg h0
  have hgr := h.gr
  have hrc := h.rc
  have hdn := h.dn
  rcases hc with ⟨e, ej, ha⟩ | ⟨e, ej, hd⟩
  · left
    refine ⟨e, by rw [ej]; exact ha, en.trans h.nn, ?_, ?_, ?_⟩
    · rw [ej, List.length_append, List.length_singleton]; show j.groups + 1 = _; omega
    · rw [ej, List.flatten_append]; show j.recs ++ o = _; rw [hrc]; simp
    · rw [List.length_append, List.length_singleton]; omega
  · right
    obtain ⟨sz, hop⟩ := crash_open h.aw hg h0 hd
    have jo := h.aw.jo
    refine ⟨e, hd.ok, hd.dn, hd.nn.trans h.nn, sz, by rw [ej]; rfl, ?_, by rw [List.length_append, List.length_singleton]; omega, ?_⟩
    · rw [ej]
      exact ⟨jo.rl, rfl, by rw [en]; exact jo.us, jo.gs, jo.rm, Nat.zero_le _, (fun r hr => by cases hr), jo.hb⟩
    · rcases hop with hop | hop
      · refine ⟨G.length, by omega, by rw [List.length_append]; omega, by rw [hop]; exact hgr, ?_⟩
        rw [hop, hrc, List.take_append_of_le_length (Nat.le_refl _), List.take_length]
      · refine ⟨G.length + 1, by omega, by rw [List.length_append, List.length_singleton]; exact Nat.le_refl _, by rw [hop]; show j.groups + 1 = _; omega, ?_⟩
        rw [hop, List.take_of_length_le (by rw [List.length_append, List.length_singleton]; exact Nat.le_refl _), List.flatten_append]
        show j.recs ++ o = _
        rw [hrc]; simp
abbrev gF (G : List (List ByteArray)) (x : Nat) : Blk := .cols ((G.map List.length).getD x 0) [.sc (.strs (G.getD x []))]
abbrev famO (G : List (List ByteArray)) : Option HB := some (.fam false (fun x => x < G.length) (gF G))
theorem gF_old {G : List (List ByteArray)} {o : List ByteArray} : ∀ q, q < G.length → gF (G ++ [o]) q = gF G q := by
  intro q hq
  unfold gF
  rw [List.map_append, gd_app1 (by rw [List.length_map]; exact hq), gd_app1 hq]
theorem gF_new {G : List (List ByteArray)} {o : List ByteArray} : gF (G ++ [o]) G.length = .cols o.length [.sc (.strs o)] := by
  unfold gF
  rw [List.map_append, gd_app2 (by rw [List.length_map]; exact Nat.le_refl _), gd_app2 (Nat.le_refl _), List.length_map, Nat.sub_self]
  rfl
abbrev dkY (d : Dk) (p : Nat) : Heap := [(3, cellB false [.sl 4 0 0 d.nn, .sl 5 0 0 d.nn, .sl p 0 0 d.np, .bool d.down, .int .i64 d.steps, .int .u64 d.mask]), (4, grW d.nn d.kept), (5, grW d.nn d.now), (p, some (.one false (.cols d.np [.sc (.ints .i64 d.pn), .sc (.strs d.ps)])))]
abbrev jrY (r g : Nat) (j : Jr) : List SV := [.ptr 3 0 0 0, .sl r 0 0 j.nr, .int .i64 j.groups, .int .i64 j.used, .int .u64 j.head, .sl g 0 0 j.ng, .bool j.stopped]
/-- The head of the loop over the groups: the round, the journal, the disk, all groups, those that are done. -/
def atX (l0 : Nat) (ns : List Nat) (z : Nat → List ByteArray) (x : Nat × Jr × Dk × List (List ByteArray) × Nat) : VS :=
  ⟨[(0, .sl 1 0 0 l0), (7, .ptr 3 0 0 0), (10, .ptr 7 0 0 0), (12, .sl 10 0 0 x.2.2.2.1.length), (13, .int .i64 x.2.2.2.2), (14, .int .i64 x.1)],
    (0, some (GB glT)) :: (1, some (.one true (.cols l0 [.own 2 ns]))) :: (2, famG l0 ns z) :: (7, cellB false (jrY 8 9 x.2.1)) :: (8, grW x.2.1.nr x.2.1.recs) :: (9, grW x.2.1.ng x.2.1.grp) :: (10, some (.one false (.cols x.2.2.2.1.length [.own 11 (x.2.2.2.1.map List.length)]))) :: (11, famO x.2.2.2.1) :: dkY x.2.2.1 6, 12⟩
def atI (l0 : Nat) (x : Nat × Jr × Dk × List (List ByteArray) × Nat) : Prop := x.1 ≤ l0 ∧ x.2.2.2.1.length ≤ x.1 ∧ (∀ g ∈ x.2.2.2.1, g.length ≤ 256) ∧ (AtU x.2.2.1 x.2.1 x.2.2.2.1 x.2.2.2.2 ∨ AtD x.2.2.1 x.2.1 x.2.2.2.1 x.2.2.2.2)
theorem atX_put (l0 : Nat) (ns : List Nat) (z : Nat → List ByteArray) (i : Nat) (j : Jr) (d : Dk) (G : List (List ByteArray)) (o : List ByteArray) (dn : Nat) : atX l0 ns z (i, j, d, G ++ [o], dn) = ⟨[(0, .sl 1 0 0 l0), (7, .ptr 3 0 0 0), (10, .ptr 7 0 0 0), (12, .sl 10 0 0 (G.length + 1)), (13, .int .i64 dn), (14, .int .i64 i)],
    (0, some (GB glT)) :: (1, some (.one true (.cols l0 [.own 2 ns]))) :: (2, famG l0 ns z) :: (7, cellB false (jrY 8 9 j)) :: (8, grW j.nr j.recs) :: (9, grW j.ng j.grp) :: (10, some (.one false (.cols (G.length + 1) [.own 11 (G.map List.length ++ [o.length])]))) :: (11, some (.fam false (fun x => x < G.length + 1) (gF (G ++ [o])))) :: dkY d 6, 12⟩ := by
  have hmap : (G ++ [o]).map List.length = G.map List.length ++ [o.length] := by rw [List.map_append]; rfl
  have hlen : (G ++ [o]).length = G.length + 1 := by rw [List.length_append]; rfl
  unfold atX famO
  simp only [hmap, hlen]
set_option maxHeartbeats 1000000 in
theorem at_round (l0 i : Nat) (ns : List Nat) (z : Nat → List ByteArray) (j : Jr) (d : Dk) (G : List (List ByteArray)) (dn : Nat) (hi : i < l0) (hl : l0 ≤ 20) (hn300 : ns.getD i 0 ≤ 300) (hG : G.length ≤ i) (hG2 : ∀ g ∈ G, g.length ≤ 256) (hu : AtU d j G dn) (K : Exit → VS → Prop)
    (hK : ∀ v, (∃ (y : Nat × Jr × Dk × List (List ByteArray) × Nat) (l : List Nat) (u : List Up), atI l0 y ∧ l0 - y.1 < l0 - i ∧ upK u v (fun v => Weak 3 l v (atX l0 ns z y))) → K .normal v) :
    vcode Tryd.prog T 3 (lpc Tryd.f5 1) (atX l0 ns z (i, j, d, G, dn)) K := by
  have aw := hu.aw
  have jo := aw.jo
  have hnn := hu.nn
  have hjz := aw.z
  have hdn := hu.dn
  have c1 := disk_Down d
  rw [aw.dn] at c1
  have gf := fi_gf hjz d (z i) (ns.getD i 0)
  have c3 := law_fillF j d l0 i ns z hi jo (by omega) hn300
  rw [fi_with hjz] at c3
  generalize fiO j d (z i) (ns.getD i 0) = o at c3 gf
  have ole := gf.le
  by_cases ho : 0 < o.length
  · have h0 : o ≠ [] := by intro e; rw [e] at ho; exact absurd ho (by decide)
    have gok := gf_ok jo gf
    have c5 := jr_Commit (j.with o) d gok aw.ok
    have F := at_step hu gf h0
    generalize cmR (j.with o) d = R at c5 F
    obtain ⟨J, D, E⟩ := R
    dsimp only at F
    have hG3 : ∀ g ∈ G ++ [o], g.length ≤ 256 := by
      intro g hg
      rcases List.mem_append.1 hg with hg | hg
      · exact hG2 g hg
      · rw [List.mem_singleton.1 hg]; exact ole
    have hlen : (G ++ [o]).length = G.length + 1 := by rw [List.length_append]; rfl
    have hown : ∀ H : Heap, hget H 15 = some (.one false (.cols (G.length + 1) [.svs (ownL 11 (G.map List.length) ++ [.sl 13 0 0 o.length])])) → hget H 11 = famO G → hget H 13 = grW o.length o →
        Relab H 19 (gdR 19 G.length [⟨11, 13, gF (G ++ [o])⟩]) (fun _ => 0) [(15, some (.one false (.cols (G.length + 1) [.own 19 (G.map List.length ++ [o.length])]))), (19 + 0, some (.fam false (fun x => x < G.length + 1) (gF (G ++ [o]))))] [11, 13] 1 :=
      fun H h1 h2 h3 => relab_own_put (by rw [List.length_map]) (by omega) h1 h2 (fun q hq => hq) h3 (by decide) (by decide) (by decide) gF_old gF_new
    rcases F with ⟨rfl, F⟩ | ⟨rfl, F⟩
    · repeat' ((conv => whnf); first | refine vcall_o (l := [0, 3, 4, 5, 6]) (c1) ?_ | refine vcallD_o (l := [0, 3, 4, 5, 6]) (c1) ?_ | refine vcall_o (l := [0, 7, 3, 4, 5, 8, 9, 6, 2]) (c3) ?_ | refine vcallD_o (l := [0, 7, 3, 4, 5, 8, 9, 6, 2]) (c3) ?_ | refine vcall_o (l := [0, 7, 3, 4, 5, 8, 12, 6]) (c5) ?_ | refine vcallD_o (l := [0, 7, 3, 4, 5, 8, 12, 6]) (c5) ?_ | ((first | apply br_dec | apply br_ndec) <;> intro h <;> try (exfalso; (try dsimp only at h); omega)) | ((first | apply br_seq | apply br_nseq | apply br_not | apply br_intro) <;> intro h) | refine cond_a ?_)
      all_goals (conv => whnf)
      all_goals first
        | (exfalso; omega)
        | (exfalso; exact h rfl)
        | skip
      refine hK _ ⟨(i + 1, J, D, G ++ [o], dn + 1), [0, 1, 2, 3, 4, 5, 18, 7, 16, 17, 15, 19], [.relab (gdR 19 G.length [⟨11, 13, gF (G ++ [o])⟩]) (fun _ => 0) [(15, some (.one false (.cols (G.length + 1) [.own 19 (G.map List.length ++ [o.length])]))), (19 + 0, some (.fam false (fun x => x < G.length + 1) (gF (G ++ [o]))))] [11, 13] 1], ⟨by dsimp only; omega, by dsimp only; rw [hlen]; omega, hG3, .inl F⟩, by dsimp only; omega, ?_⟩
      rw [atX_put]
      exact ⟨hown _ rfl rfl rfl, rfl, ⟨rfl, rfl, rfl, rfl, congrArg (fun z => some (SV.int .i64 z)) (i64_succ (k := dn) (by omega)), congrArg (fun z => some (SV.int .i64 z)) (i64_succ (by omega)), trivial⟩, ⟨gwk rfl, rfl, rfl, rfl, rfl, rfl, rfl, rfl, rfl, rfl, rfl, rfl, trivial⟩⟩
    · have c6 := disk_Down D
      rw [F.dw] at c6
      repeat' ((conv => whnf); first | refine vcall_o (l := [0, 3, 4, 5, 6]) (c1) ?_ | refine vcallD_o (l := [0, 3, 4, 5, 6]) (c1) ?_ | refine vcall_o (l := [0, 7, 3, 4, 5, 8, 9, 6, 2]) (c3) ?_ | refine vcallD_o (l := [0, 7, 3, 4, 5, 8, 9, 6, 2]) (c3) ?_ | refine vcall_o (l := [0, 7, 3, 4, 5, 8, 12, 6]) (c5) ?_ | refine vcallD_o (l := [0, 7, 3, 4, 5, 8, 12, 6]) (c5) ?_ | refine vcall_o (l := [0, 3, 4, 5, 18]) (c6) ?_ | refine vcallD_o (l := [0, 3, 4, 5, 18]) (c6) ?_ | ((first | apply br_dec | apply br_ndec) <;> intro h <;> try (exfalso; (try dsimp only at h); omega)) | ((first | apply br_seq | apply br_nseq | apply br_not | apply br_intro) <;> intro h) | refine cond_a ?_)
      all_goals (conv => whnf)
      all_goals first
        | (exfalso; omega)
        | (exfalso; exact h rfl)
        | (exfalso; have h' : (13 : Int) = 0 := h; omega)
        | skip
      refine hK _ ⟨(i + 1, J, D, G ++ [o], dn), [0, 1, 2, 3, 4, 5, 18, 7, 16, 17, 15, 19], [.relab (gdR 19 G.length [⟨11, 13, gF (G ++ [o])⟩]) (fun _ => 0) [(15, some (.one false (.cols (G.length + 1) [.own 19 (G.map List.length ++ [o.length])]))), (19 + 0, some (.fam false (fun x => x < G.length + 1) (gF (G ++ [o]))))] [11, 13] 1], ⟨by dsimp only; omega, by dsimp only; rw [hlen]; omega, hG3, .inr F⟩, by dsimp only; omega, ?_⟩
      rw [atX_put]
      exact ⟨hown _ rfl rfl rfl, rfl, ⟨rfl, rfl, rfl, rfl, rfl, congrArg (fun z => some (SV.int .i64 z)) (i64_succ (by omega)), trivial⟩, ⟨gwk rfl, rfl, rfl, rfl, rfl, rfl, rfl, rfl, rfl, rfl, rfl, rfl, trivial⟩⟩
  · have h0 : o = [] := List.eq_nil_of_length_eq_zero (by omega)
    subst h0
    rw [jz_with hjz] at c3
    repeat' ((conv => whnf); first | refine vcall_o (l := [0, 3, 4, 5, 6]) (c1) ?_ | refine vcallD_o (l := [0, 3, 4, 5, 6]) (c1) ?_ | refine vcall_o (l := [0, 7, 3, 4, 5, 8, 9, 6, 2]) (c3) ?_ | refine vcallD_o (l := [0, 7, 3, 4, 5, 8, 9, 6, 2]) (c3) ?_ | ((first | apply br_dec | apply br_ndec) <;> intro h <;> try (exfalso; (try dsimp only at h); omega)) | ((first | apply br_seq | apply br_nseq | apply br_not | apply br_intro) <;> intro h) | refine cond_a ?_)
    all_goals (conv => whnf)
    all_goals first
      | (exfalso; omega)
      | (exfalso; exact h rfl)
      | exact hK _ ⟨(i + 1, j, d, G, dn), [0, 1, 2, 3, 4, 5, 6, 7, 8, 12, 10, 11], [], ⟨by dsimp only; omega, by dsimp only; omega, hG2, .inl hu⟩, by dsimp only; omega, ⟨rfl, ⟨rfl, rfl, rfl, rfl, rfl, congrArg (fun z => some (SV.int .i64 z)) (i64_succ (by omega)), trivial⟩, ⟨gwk rfl, rfl, rfl, rfl, rfl, rfl, rfl, rfl, rfl, rfl, rfl, rfl, trivial⟩⟩⟩
end Go.Proofs.YtdlpmmdbdjlojaaDoor

