/- Several texts in one: XLgH, XLgI, XLgJ, XLgK, XLgL, XLgM, XLgO, XLgN, XSortP, XLgR, XLgS, XLgT, XLgU. -/
import Derived.Test.YtjjnbhbendlnhaaDoorLb1
import Derived.Test.YtjjnbhbendlnhaaDoorYKeys
import Derived.Test.YtjjnbhbendlnhaaDoorLay
import Derived.Test.YtjjnbhbendlnhaaDoorYGb
import Derived.Test.YtjjnbhbendlnhaaDoorYSort
import Derived.Sort.Walk0
import Derived.Test.YtjjnbhbendlnhaaDoorYEnt
/- Contracts of package ledger: Entries. -/
namespace Go.Proofs.YtjjnbhbendlnhaaDoor
open Go.RowKit Go.Sy
attribute [local irreducible] vcall vloop vcallD retP
set_option maxRecDepth 100000
set_option linter.unusedVariables false
set_option linter.unusedSimpArgs false
attribute [local irreducible] seq ByteArray.extract
end Go.Proofs.YtjjnbhbendlnhaaDoor

/- Contracts of package ledger: filter, Trial, Statement. -/
namespace Go.Proofs.YtjjnbhbendlnhaaDoor
open Go.RowKit Go.Sy
attribute [local irreducible] vcall vloop vcallD retP
set_option maxRecDepth 100000
set_option linter.unusedVariables false
set_option linter.unusedSimpArgs false

theorem po_app {Q : List Lp} {j : Nat} {x : Lp} {a c : ByteArray} {v : Int} (hx : x = ⟨a, v, c⟩) : (some (HB.one false (.cols (j + 1) [.sc (.strs (Q.map Lp.a ++ [a])), .sc (.ints .i64 (Q.map Lp.n ++ [v])), .sc (.strs (Q.map Lp.c ++ [c]))])) : Option HB) = some (.one false (poB (j + 1) (Q ++ [x]))) := by
  subst hx
  unfold poB
  simp
theorem flt_step {L : List Lp} {p : Lp → Bool} {k : Nat} (hk : k < L.length) : (L.take (k + 1)).filter p = if p (L.getD k lp0) = true then (L.take k).filter p ++ [L.getD k lp0] else (L.take k).filter p := by
  rw [lg_take hk, List.filter_append, List.filter_cons]
  split
  · rfl
  · rw [List.filter_nil, List.append_nil]
theorem flt_len (L : List Lp) (p : Lp → Bool) (k : Nat) : ((L.take k).filter p).length ≤ k := Nat.le_trans (List.length_filter_le _ _) (by rw [List.length_take]; omega)
/-- The postings that are not zero. -/
def nzP (x : Lp) : Bool := !decide (x.n = 0)
theorem tr_fn (a c : ByteArray) (n : Int) : Pure Tryd.prog 30 [.agg [.str a, .int .i64 n, .str c]] (.bool (!decide (n = 0))) := by
  refine fc_of mixed T_ok Tryd.func30 rfl (by kernel_rfl) (by kernel_rfl) (by kernel_rfl) ?_
  repeat' ((conv => whnf); first | ((first | apply br_dec | apply br_ndec) <;> intro h <;> try (exfalso; (try dsimp only at h); omega)) | ((first | apply br_seq | apply br_nseq | apply br_not | apply br_intro) <;> intro h) | refine cond_a ?_)
  all_goals (conv => whnf)
  exact ret_pure rfl
attribute [local irreducible] seq ByteArray.extract
theorem lg_filterN (L : List Lp) (n : Nat) (hn : L.length = n) (h6 : n ≤ 100000) : FC Tryd.prog 2 29 [.sl 1 0 0 n, .fn 30 []] [(1, some (.one true (poB n L)))] (isOut (.sl 2 0 0 (L.filter nzP).length) [(2, some (.one false (poB (L.filter nzP).length (L.filter nzP))))] 3) := by
  unfold poB
  refine fc_of mixed T_ok Tryd.func29 rfl (by kernel_rfl) (by kernel_rfl) (by kernel_rfl) ?_
  repeat' ((conv => whnf); first | ((first | apply br_dec | apply br_ndec) <;> intro h <;> try (exfalso; (try dsimp only at h); omega)) | ((first | apply br_seq | apply br_nseq | apply br_not | apply br_intro) <;> intro h) | refine cond_a ?_)
  all_goals (conv => whnf)
  refine vloop_of (fun k : Nat => ⟨[(1, .fn 30 []), (5, .sl 2 0 0 ((L.take k).filter nzP).length), (8, .sl 1 0 0 n), (9, .int .i64 n), (10, .int .i64 k)], [(1, some (.one true (poB n L))), (2, some (.one false (poB ((L.take k).filter nzP).length ((L.take k).filter nzP))))], 3⟩) (fun k => k ≤ n) (fun k => n - k) 0 [0, 1, 2] [.slot 5 [.sc (.strs []), .sc (.ints .i64 []), .sc (.strs [])]] ⟨rfl, ⟨rfl, rfl, rfl, rfl, rfl, trivial⟩, ⟨rfl, rfl, trivial⟩⟩ (Nat.zero_le _) ?_
  intro k hk
  have hfl := flt_len L nzP k
  by_cases hk2 : k < n
  · have hst := flt_step (L := L) (p := nzP) (k := k) (by omega)
    have c1 := tr_fn ((L.map Lp.a).getD k ⟨#[]⟩) ((L.map Lp.c).getD k ⟨#[]⟩) ((L.map Lp.n).getD k 0)
    have hp : nzP (L.getD k lp0) = !decide ((L.map Lp.n).getD k 0 = 0) := by rw [lp_n]; rfl
    have hap := po_app (Q := (L.take k).filter nzP) (j := ((L.take k).filter nzP).length) (lp_eta L k)
    unfold poB
    repeat' ((conv => whnf); first | (refine vcall_pure (c1) rfl rfl rfl ?_) | (refine vcallD_pure (c1) rfl rfl rfl ?_) | ((first | apply br_dec | apply br_ndec) <;> intro h <;> try (exfalso; (try dsimp only at h); omega)) | ((first | apply br_seq | apply br_nseq | apply br_not | apply br_intro) <;> intro h) | refine cond_a ?_)
    all_goals (conv => whnf)
    all_goals first
      | (exfalso; omega)
      | skip
    · rw [if_pos (by rw [hp]; simpa using h)] at hst
      refine ⟨k + 1, [0, 1, 5], [], hk2, (show n - (k + 1) < n - k by omega), ?_⟩
      dsimp only
      rw [hst, List.length_append, List.length_singleton]
      exact ⟨rfl, ⟨rfl, rfl, rfl, rfl, congrArg (fun z => some (SV.int .i64 z)) (i64_succ (by omega)), trivial⟩, ⟨rfl, hap, trivial⟩⟩
    · rw [if_neg (by rw [hp]; simpa using h)] at hst
      refine ⟨k + 1, [0, 1, 2], [], hk2, (show n - (k + 1) < n - k by omega), ?_⟩
      dsimp only
      rw [hst]
      exact ⟨rfl, ⟨rfl, rfl, rfl, rfl, congrArg (fun z => some (SV.int .i64 z)) (i64_succ (by omega)), trivial⟩, ⟨rfl, rfl, trivial⟩⟩
  have ek : k = n := by omega
  subst ek
  rw [show L.take k = L by rw [← hn, List.take_length]]
  repeat' ((conv => whnf); first | ((first | apply br_dec | apply br_ndec) <;> intro h <;> try (exfalso; (try dsimp only at h); omega)) | ((first | apply br_seq | apply br_nseq | apply br_not | apply br_intro) <;> intro h) | refine cond_a ?_)
  all_goals (conv => whnf)
  all_goals first
    | (exfalso; omega)
    | exact ret_out (l := [0, 1, 2]) rfl rfl ⟨rfl, trivial⟩ (allRw_cons allRw_nil)
end Go.Proofs.YtjjnbhbendlnhaaDoor

/- Contracts of package ledger: Statement, Trial. -/
namespace Go.Proofs.YtjjnbhbendlnhaaDoor
open Go.RowKit Go.Sy
attribute [local irreducible] vcall vloop vcallD retP
set_option maxRecDepth 100000
set_option linter.unusedVariables false
set_option linter.unusedSimpArgs false
/-- The postings of an account. -/
def acP (y : ByteArray) (x : Lp) : Bool := seq x.a y
attribute [local irreducible] seq ByteArray.extract
theorem st_fn (a c y : ByteArray) (n : Int) : FC Tryd.prog 3 31 [.agg [.str a, .int .i64 n, .str c], .ptr 2 0 0 0] [(2, some (.one true (.cells [.str y])))] (isOut (.bool (seq a y)) [] 3) := by
  refine fc_of mixed T_ok Tryd.func31 rfl (by kernel_rfl) (by kernel_rfl) (by kernel_rfl) ?_
  repeat' ((conv => whnf); first | ((first | apply br_dec | apply br_ndec) <;> intro h <;> try (exfalso; (try dsimp only at h); omega)) | ((first | apply br_seq | apply br_nseq | apply br_not | apply br_intro) <;> intro h) | refine cond_a ?_)
  all_goals (conv => whnf)
  exact ret_out (l := [0, 1, 2]) rfl rfl trivial allRw_nil
theorem lg_filterS (L : List Lp) (n : Nat) (y : ByteArray) (hn : L.length = n) (h6 : n ≤ 100000) : FC Tryd.prog 3 29 [.sl 1 0 0 n, .fn 31 [.ptr 2 0 0 0]] [(1, some (.one true (poB n L))), (2, some (.one true (.cells [.str y])))] (isOut (.sl 3 0 0 (L.filter (acP y)).length) [(3, some (.one false (poB (L.filter (acP y)).length (L.filter (acP y)))))] 4) := by
  unfold poB
  refine fc_of mixed T_ok Tryd.func29 rfl (by kernel_rfl) (by kernel_rfl) (by kernel_rfl) ?_
  repeat' ((conv => whnf); first | ((first | apply br_dec | apply br_ndec) <;> intro h <;> try (exfalso; (try dsimp only at h); omega)) | ((first | apply br_seq | apply br_nseq | apply br_not | apply br_intro) <;> intro h) | refine cond_a ?_)
  all_goals (conv => whnf)
  refine vloop_of (fun k : Nat => ⟨[(1, .fn 31 [.ptr 2 0 0 0]), (5, .sl 3 0 0 ((L.take k).filter (acP y)).length), (8, .sl 1 0 0 n), (9, .int .i64 n), (10, .int .i64 k)], [(1, some (.one true (poB n L))), (2, some (.one true (.cells [.str y]))), (3, some (.one false (poB ((L.take k).filter (acP y)).length ((L.take k).filter (acP y)))))], 4⟩) (fun k => k ≤ n) (fun k => n - k) 0 [0, 1, 2, 3] [.slot 5 [.sc (.strs []), .sc (.ints .i64 []), .sc (.strs [])]] ⟨rfl, ⟨rfl, rfl, rfl, rfl, rfl, trivial⟩, ⟨rfl, rfl, rfl, trivial⟩⟩ (Nat.zero_le _) ?_
  intro k hk
  have hfl := flt_len L (acP y) k
  by_cases hk2 : k < n
  · have hst := flt_step (L := L) (p := (acP y)) (k := k) (by omega)
    have c1 := st_fn ((L.map Lp.a).getD k ⟨#[]⟩) ((L.map Lp.c).getD k ⟨#[]⟩) y ((L.map Lp.n).getD k 0)
    have hp : acP y (L.getD k lp0) = seq ((L.map Lp.a).getD k ⟨#[]⟩) y := by rw [lp_a]; rfl
    have hap := po_app (Q := (L.take k).filter (acP y)) (j := ((L.take k).filter (acP y)).length) (lp_eta L k)
    unfold poB
    repeat' ((conv => whnf); first | refine vcall_o (l := [0, 1, 2]) (c1) ?_ | refine vcallD_o (l := [0, 1, 2]) (c1) ?_ | ((first | apply br_dec | apply br_ndec) <;> intro h <;> try (exfalso; (try dsimp only at h); omega)) | ((first | apply br_seq | apply br_nseq | apply br_not | apply br_intro) <;> intro h) | refine cond_a ?_)
    all_goals (conv => whnf)
    all_goals first
      | (exfalso; omega)
      | skip
    · rw [if_pos (by rw [hp]; exact lg_seq.2 h)] at hst
      refine ⟨k + 1, [0, 1, 2, 6], [], hk2, (show n - (k + 1) < n - k by omega), ?_⟩
      dsimp only
      rw [hst, List.length_append, List.length_singleton]
      exact ⟨rfl, ⟨rfl, rfl, rfl, rfl, congrArg (fun z => some (SV.int .i64 z)) (i64_succ (by omega)), trivial⟩, ⟨rfl, rfl, hap, trivial⟩⟩
    · rw [if_neg (by rw [hp]; exact fun e => h (lg_seq.1 e))] at hst
      refine ⟨k + 1, [0, 1, 2, 3], [], hk2, (show n - (k + 1) < n - k by omega), ?_⟩
      dsimp only
      rw [hst]
      exact ⟨rfl, ⟨rfl, rfl, rfl, rfl, congrArg (fun z => some (SV.int .i64 z)) (i64_succ (by omega)), trivial⟩, ⟨rfl, rfl, rfl, trivial⟩⟩
  have ek : k = n := by omega
  subst ek
  rw [show L.take k = L by rw [← hn, List.take_length]]
  repeat' ((conv => whnf); first | ((first | apply br_dec | apply br_ndec) <;> intro h <;> try (exfalso; (try dsimp only at h); omega)) | ((first | apply br_seq | apply br_nseq | apply br_not | apply br_intro) <;> intro h) | refine cond_a ?_)
  all_goals (conv => whnf)
  all_goals first
    | (exfalso; omega)
    | exact ret_out (l := [0, 1, 2, 3]) rfl rfl ⟨rfl, trivial⟩ (allRw_cons allRw_nil)
theorem lg_filterF (dom : Nat → Prop) (F : Nat → Blk) (i : Nat) (L : List Lp) (n : Nat) (y : ByteArray) (hi : dom i) (hF : F i = poB n L) (hn : L.length = n) (h6 : n ≤ 100000) : FC Tryd.prog 3 29 [.sl 1 i 0 n, .fn 31 [.ptr 2 0 0 0]] [(1, some (.fam true dom F)), (2, some (.one true (.cells [.str y])))] (isOut (.sl 3 0 0 (L.filter (acP y)).length) [(3, some (.one false (poB (L.filter (acP y)).length (L.filter (acP y)))))] 4) := by
  have c0 := fc_fam [(1, ⟨i, dom, F⟩)] (by exact ⟨⟨by decide, by decide, _, _, rfl, hi, hF, .inl rfl⟩, trivial⟩) (by exact ⟨rfl, rfl, trivial⟩) (by exact ⟨rfl, trivial⟩) (allRw_cons allRw_nil) (lg_filterS L n y hn h6)
  have e : SV.mems (fmu [(1, ⟨i, dom, F⟩)]) [.sl 1 0 0 n, .fn 31 [.ptr 2 0 0 0]] = [.sl 1 i 0 n, .fn 31 [.ptr 2 0 0 0]] := by
    show [SV.sl 1 (0 + i) 0 n, .fn _ [.ptr 2 0 0 0]] = _
    rw [Nat.zero_add]
  rw [e] at c0
  exact c0
/-- The postings of an account, in the order of the entries. -/
def stP (y : ByteArray) (E : List Le) : List Lp := E.flatMap (fun e => e.ps.filter (acP y))
theorem stP_next {y : ByteArray} {E : List Le} {k : Nat} (hk : k < E.length) : stP y (E.take (k + 1)) = stP y (E.take k) ++ (E.getD k le0).ps.filter (acP y) := by
  unfold stP
  rw [List.take_add_one, List.getElem?_eq_getElem hk, List.flatMap_append, List.getD, List.getElem?_eq_getElem hk]
  simp
theorem po_cat {Q F : List Lp} {j m : Nat} (hm : F.length = m) : (some (HB.one false (.cols (j + m) [.sc (.strs (Q.map Lp.a ++ seg 0 m (F.map Lp.a))), .sc (.ints .i64 (Q.map Lp.n ++ seg 0 m (F.map Lp.n))), .sc (.strs (Q.map Lp.c ++ seg 0 m (F.map Lp.c)))])) : Option HB) = some (.one false (poB (j + m) (Q ++ F))) := by
  unfold poB
  rw [lseg_all (by rw [List.length_map, hm]), lseg_all (by rw [List.length_map, hm]), lseg_all (by rw [List.length_map, hm]), List.map_append, List.map_append, List.map_append]
theorem lg_Statement (s : Lg) (y : ByteArray) (hs : LgOk s) : FC Tryd.prog 8 15 [.ptr 1 0 0 0, .str y] [(1, some (.one true (.cells (lgF 2 3 4 5 6 s)))), (3, some (.one true (lgEnt 7 s))), (7, lgFam true s)] (isOut (.sl 8 0 0 (stP y s.ent).length) [(8, some (.one false (poB (stP y s.ent).length (stP y s.ent))))] 9) := by
  have hne := hs.ne
  have h512 := hs.e512
  have hlen : ∀ k, k ≤ s.ne → (stP y (s.ent.take k)).length ≤ 16 * k := by
    intro k
    induction k with
    | zero => intro _; simp [stP]
    | succ k ih =>
      intro hk
      have hkl : k < s.ent.length := by omega
      have hm : s.ent.getD k le0 ∈ s.ent := by rw [List.getD, List.getElem?_eq_getElem hkl]; exact List.getElem_mem hkl
      have hok := hs.ent _ hm
      rw [stP_next hkl, List.length_append]
      have h1 := List.length_filter_le (acP y) (s.ent.getD k le0).ps
      have h2 := hok.n
      have h3 := hok.n16
      have := ih (by omega)
      omega
  refine fc_of mixed T_ok Tryd.func15 rfl (by kernel_rfl) (by kernel_rfl) (by kernel_rfl) ?_
  repeat' ((conv => whnf); first | ((first | apply br_dec | apply br_ndec) <;> intro h <;> try (exfalso; (try dsimp only at h); omega)) | ((first | apply br_seq | apply br_nseq | apply br_not | apply br_intro) <;> intro h) | refine cond_a ?_)
  all_goals (conv => whnf)
  refine vloop_of (fun k : Nat => ⟨[(3, .ptr 8 0 0 0), (5, .sl 9 0 0 (stP y (s.ent.take k)).length), (13, .sl 3 0 0 s.ne), (14, .int .i64 s.ne), (15, .int .i64 k)], [(1, some (.one true (.cells (lgF 2 3 4 5 6 s)))), (3, some (.one true (lgEnt 7 s))), (7, lgFam true s), (8, some (.one false (.cells [.str y]))), (9, some (.one false (poB (stP y (s.ent.take k)).length (stP y (s.ent.take k)))))], 10⟩) (fun k => k ≤ s.ne) (fun k => s.ne - k) 0 [0, 1, 2, 3, 4, 5, 6, 7, 8, 9] [.slot 5 [.sc (.strs []), .sc (.ints .i64 []), .sc (.strs [])]] ⟨rfl, ⟨rfl, rfl, rfl, rfl, rfl, trivial⟩, ⟨rfl, rfl, rfl, rfl, rfl, trivial⟩⟩ (Nat.zero_le _) ?_
  intro k hk
  have hfl := hlen k hk
  by_cases hk2 : k < s.ne
  · have hkl : k < s.ent.length := by omega
    have hm : s.ent.getD k le0 ∈ s.ent := by rw [List.getD, List.getElem?_eq_getElem hkl]; exact List.getElem_mem hkl
    have hok := hs.ent _ hm
    have hNP := le_np s.ent k
    have hF : enF s.ent k = poB ((s.ent.map Le.np).getD k 0) (s.ent.getD k le0).ps := by rw [hNP]; rfl
    have c1 := lg_filterF (fun x => x < s.ne) (enF s.ent) k (s.ent.getD k le0).ps ((s.ent.map Le.np).getD k 0) y hk2 hF (by rw [hNP]; exact hok.n) (by rw [hNP]; have := hok.n16; omega)
    have hnx := stP_next (y := y) hkl
    have hf2 := hlen (k + 1) hk2
    rw [hnx, List.length_append] at hf2
    generalize (s.ent.getD k le0).ps.filter (acP y) = F at *
    have hcat := po_cat (Q := stP y (s.ent.take k)) (F := F) (j := (stP y (s.ent.take k)).length) rfl
    have k1 : 0 + F.length ≤ F.length ∧ 0 + (stP y (s.ent.take k)).length = (stP y (s.ent.take k)).length ∧ ((stP y (s.ent.take k)).length + F.length + 500) * 41 ≤ 70368744177664 := by omega
    unfold poB at c1
    repeat' ((conv => whnf); first | refine vcall_o (l := [0, 7, 8]) (c1) ?_ | refine vcallD_o (l := [0, 7, 8]) (c1) ?_ | (refine cond_intro k1 ?_) | ((first | apply br_dec | apply br_ndec) <;> intro h <;> try (exfalso; (try dsimp only at h); omega)) | ((first | apply br_seq | apply br_nseq | apply br_not | apply br_intro) <;> intro h) | refine cond_a ?_)
    all_goals (conv => whnf)
    all_goals first
      | (exfalso; omega)
      | skip
    refine ⟨k + 1, [0, 1, 2, 3, 4, 5, 6, 7, 8, 12], [], hk2, (show s.ne - (k + 1) < s.ne - k by omega), ?_⟩
    dsimp only
    rw [hnx, List.length_append]
    exact ⟨rfl, ⟨rfl, rfl, rfl, rfl, congrArg (fun z => some (SV.int .i64 z)) (i64_succ (by omega)), trivial⟩, ⟨rfl, rfl, rfl, rfl, hcat, trivial⟩⟩
  have ek : k = s.ne := by omega
  subst ek
  rw [show s.ent.take s.ne = s.ent from List.take_of_length_le (by omega)]
  repeat' ((conv => whnf); first | ((first | apply br_dec | apply br_ndec) <;> intro h <;> try (exfalso; (try dsimp only at h); omega)) | ((first | apply br_seq | apply br_nseq | apply br_not | apply br_intro) <;> intro h) | refine cond_a ?_)
  all_goals (conv => whnf)
  all_goals first
    | (exfalso; omega)
    | exact ret_out (l := [0, 1, 2, 3, 4, 5, 6, 7, 9]) rfl rfl ⟨rfl, trivial⟩ (allRw_cons allRw_nil)

theorem lg_keys : FC Tryd.prog 2 28 [.map 1 0] [] (isOut (.fn 43 [.ptr 2 0 0 0]) [(2, some (.one false (.cells [.map 1 0])))] 3) := by
  refine fc_of mixed T_ok Tryd.func28 rfl (by kernel_rfl) (by kernel_rfl) (by kernel_rfl) ?_
  repeat' ((conv => whnf); first | ((first | apply br_dec | apply br_ndec) <;> intro h <;> try (exfalso; (try dsimp only at h); omega)) | ((first | apply br_seq | apply br_nseq | apply br_not | apply br_intro) <;> intro h) | refine cond_a ?_)
  all_goals (conv => whnf)
  all_goals exact ret_out (l := [0, 1, 2]) rfl rfl ⟨rfl, trivial⟩ (allRw_cons allRw_nil)
theorem lg_bodied {P : Program} {f : FuncId} {fn : Func} (h : P.funcs[f]? = some fn) (hb : fn.body.isSome = true) (hn : (fn.name == "runtime.NumGoroutine") = false) : bodied P f := by
  obtain ⟨c, hc⟩ := Option.isSome_iff_exists.1 hb
  exact ⟨fn, c, h, hc, hn⟩
theorem lg_sorted {n : Nat} {ks : List ByteArray} (vs : List Bool) (bs : List Nat) (ck : Nat) (hn : n ≤ 100000) (hz : ∀ s ∈ ks, s.size ≤ 9223372036854775807) (hnd : ks.Nodup) :
    FC Tryd.prog 3 27 [.fn 43 [.ptr 2 0 0 0]] [(1, some (.one true (.obj (.map false false n [.strs ks] [.sc (.bools vs)] bs ck)))), (2, some (.one true (.cells [.map 1 0])))] (isOut (.sl 3 0 0 n) [(3, some (.one false (.cols n [.sc (.strs (sortS ks))])))] 4) :=
  fc_sorted (ρ := Tryd.keys28_ren) (ρ' := Tryd.sorted_ren) rfl rfl rfl { Tryd.keys28 with } Tryd.sorted
    (fun m => ⟨fun blk off cap ss W hH hblk hsz => callsIn_wide.2 (AnyM.slices_Sort_string Tryd.sortS blk off cap ss W hH hblk hsz), fun p cap W => callsIn_wide.2 (AnyM.slices_Sort_string_none Tryd.sortS p cap W)⟩)
    (lg_bodied Tryd.func27 (by kernel_rfl) (by kernel_rfl)) (enters_of Tryd.func42 (by kernel_rfl) rfl) (enters_of Tryd.func43 (by kernel_rfl) rfl) Tryd.underlying9 hn hz hnd
/-- The balances of a currency, by account. -/
def trA (s : Lg) (c : ByteArray) : List Lp := (sortS s.acc).map (fun a => ⟨a, s.bal a c, c⟩)
theorem trA_take {s : Lg} {c : ByteArray} {k : Nat} (hk : k < (sortS s.acc).length) : (trA s c).take (k + 1) = (trA s c).take k ++ [⟨(sortS s.acc).getD k ⟨#[]⟩, s.bal ((sortS s.acc).getD k ⟨#[]⟩) c, c⟩] := by
  unfold trA
  rw [List.take_add_one, List.getElem?_map, List.getElem?_eq_getElem hk, List.getD, List.getElem?_eq_getElem hk]; rfl
theorem lg_Trial_rows (s : Lg) (c : ByteArray) (r : Nat) (R : List Lp) (hs : LgOk s) (hR : R.length = r) (hv : ∀ a c, lgV R a c = s.bal a c) : FC Tryd.prog 7 10 [.ptr 1 0 0 0, .str c] [(6, some (.one true (RL r R))), (1, some (.one true (.cells (lgF 2 3 4 5 6 s)))), (2, some (.one true (lgAcc s)))] (isOut (.sl 7 0 0 ((trA s c).filter nzP).length) [(7, some (.one false (poB ((trA s c).filter nzP).length ((trA s c).filter nzP))))] 8) := by
  have h512 := hs.n512
  have hSl : (sortS s.acc).length = s.na := (sortS_length _).trans hs.na
  have c1 := lg_keys
  have c2 := lg_sorted (ks := s.acc) (List.replicate s.na true) (List.range s.na) s.na (show s.na ≤ 100000 by omega) (fun a ha => by have := (lab_size (hs.lab a ha)).2; omega) hs.nd
  have hTl : (trA s c).length = s.na := by unfold trA; rw [List.length_map, hSl]
  have c3 := lg_filterN (trA s c) s.na hTl (by omega)
  have htk := fun k (hk : k < (sortS s.acc).length) => trA_take (s := s) (c := c) hk
  generalize hT : trA s c = T at *
  generalize hS : sortS s.acc = Q at *
  refine fc_of mixed T_ok Tryd.func10 rfl (by kernel_rfl) (by kernel_rfl) (by kernel_rfl) ?_
  repeat' ((conv => whnf); first | refine vcall_o (l := [0, 2]) (c1) ?_ | refine vcall_o (l := [0, 2, 7]) (c2) ?_ | ((first | apply br_dec | apply br_ndec) <;> intro h <;> try (exfalso; (try dsimp only at h); omega)) | ((first | apply br_seq | apply br_nseq | apply br_not | apply br_intro) <;> intro h) | refine cond_a ?_)
  all_goals (conv => whnf)
  refine vloop_of (fun k : Nat => ⟨[(0, .ptr 1 0 0 0), (1, .str c), (5, .sl 9 0 0 k), (15, .sl 8 0 0 s.na), (16, .int .i64 s.na), (17, .int .i64 k)], [(1, some (.one true (.cells (lgF 2 3 4 5 6 s)))), (6, some (.one true (RL r R))), (8, some (.one false (.cols s.na [.sc (.strs Q)]))), (9, some (.one false (poB k (T.take k))))], 10⟩) (fun k => k ≤ s.na) (fun k => s.na - k) 0 [0, 1, 2, 3, 4, 5, 6, 7, 8, 9] [.slot 5 [.sc (.strs []), .sc (.ints .i64 []), .sc (.strs [])]] ⟨rfl, ⟨rfl, rfl, rfl, rfl, rfl, rfl, trivial⟩, ⟨rfl, rfl, rfl, rfl, trivial⟩⟩ (Nat.zero_le _) ?_
  intro k hk
  by_cases hk2 : k < s.na
  · have e := htk k (by omega)
    have hval : (R.map Lp.n).getD (sidx2 (R.map Lp.a) (R.map Lp.c) (Q.getD k ⟨#[]⟩) c) 0 = s.bal (Q.getD k ⟨#[]⟩) c := (rl_val R _ _).trans (hv _ _)
    rw [← hval] at e
    have hap := po_app (Q := T.take k) (j := k) (x := ⟨Q.getD k ⟨#[]⟩, (R.map Lp.n).getD (sidx2 (R.map Lp.a) (R.map Lp.c) (Q.getD k ⟨#[]⟩) c) 0, c⟩) rfl
    rw [← e] at hap
    unfold poB
    repeat' ((conv => whnf); first | ((first | apply br_dec | apply br_ndec) <;> intro h <;> try (exfalso; (try dsimp only at h); omega)) | ((first | apply br_seq | apply br_nseq | apply br_not | apply br_intro) <;> intro h) | refine cond_a ?_)
    all_goals (conv => whnf)
    all_goals first
      | exact ⟨k + 1, [0, 1, 2, 3, 4, 5, 6, 7, 8, 11], [], hk2, (show s.na - (k + 1) < s.na - k by omega), ⟨rfl, ⟨rfl, rfl, rfl, rfl, rfl, congrArg (fun z => some (SV.int .i64 z)) (i64_succ (by omega)), trivial⟩, ⟨rfl, rfl, rfl, hap, trivial⟩⟩⟩
      | trace_state
  have ek : k = s.na := by omega
  subst ek
  rw [show T.take s.na = T from List.take_of_length_le (by omega)]
  unfold poB at c3 ⊢
  repeat' ((conv => whnf); first | refine vcall_o (l := [0, 9]) (c3) ?_ | ((first | apply br_dec | apply br_ndec) <;> intro h <;> try (exfalso; (try dsimp only at h); omega)) | ((first | apply br_seq | apply br_nseq | apply br_not | apply br_intro) <;> intro h) | refine cond_a ?_)
  all_goals (conv => whnf)
  all_goals first
    | exact ret_out (l := [0, 1, 2, 3, 4, 5, 6, 10]) rfl rfl ⟨rfl, trivial⟩ (allRw_cons allRw_nil)
    | trace_state
theorem lg_Trial (s : Lg) (c : ByteArray) (hs : LgOk s) : FC Tryd.prog 7 10 [.ptr 1 0 0 0, .str c] [(6, lgBg true s), (1, some (.one true (.cells (lgF 2 3 4 5 6 s)))), (2, some (.one true (lgAcc s)))] (isOut (.sl 7 0 0 ((trA s c).filter nzP).length) [(7, some (.one false (poB ((trA s c).filter nzP).length ((trA s c).filter nzP))))] 8) := by
  refine fc_bag_ro fun x hx => ?_
  obtain ⟨R, h1, h2, h3, h4, h5⟩ := lgB_rows hx
  rw [h2]
  exact lg_Trial_rows s c x.n R hs h1 h4
end Go.Proofs.YtjjnbhbendlnhaaDoor

/- Contracts of the ledger's laws' own functions. -/
namespace Go.Proofs.YtjjnbhbendlnhaaDoor
open Go.RowKit Go.Sy
attribute [local irreducible] vcall vloop vcallD retP
set_option maxRecDepth 100000
set_option linter.unusedVariables false
set_option linter.unusedSimpArgs false
attribute [local irreducible] seq ByteArray.extract
theorem law_posting (a : ByteArray) (n : Int) : Pure Tryd.prog 8 [.str a, .int .i64 n] (.agg [.str a, .int .i64 n, .str ⟨#[69, 85, 82]⟩]) := by
  refine fc_of mixed T_ok Tryd.func8 rfl (by kernel_rfl) (by kernel_rfl) (by kernel_rfl) ?_
  repeat' ((conv => whnf); first | ((first | apply br_dec | apply br_ndec) <;> intro h <;> try (exfalso; (try dsimp only at h); omega)) | ((first | apply br_seq | apply br_nseq | apply br_not | apply br_intro) <;> intro h) | refine cond_a ?_)
  all_goals (conv => whnf)
  exact ret_pure rfl
theorem i64_succM {k : Nat} (h : k < 9223372036854775807) : IntKind.i64.wrap ((k : Int) + 1) = ((k + 1 : Nat) : Int) := by rw [w64_in (by omega) (by omega)]; rfl
/-- Whether names are short, and few. -/
def acB (q : List ByteArray) (n : Nat) (m : Int) : Bool := decide ((∀ i, i < n → (q.getD i ⟨#[]⟩).size ≤ 100) ∧ (n : Int) ≤ m)
theorem law_accounts (q : List ByteArray) (n : Nat) (m : Int) (hn : n ≤ 9223372036854775807) : FC Tryd.prog 2 12 [.sl 1 0 0 n, .int .i64 m] [(1, some (.one true (.cols n [.sc (.strs q)])))] (isOut (.bool (acB q n m)) [] 2) := by
  refine fc_of mixed T_ok Tryd.func12 rfl (by kernel_rfl) (by kernel_rfl) (by kernel_rfl) ?_
  (conv => whnf)
  refine vloop_of (fun k : Nat => ⟨[(0, .sl 1 0 0 n), (1, .int .i64 m), (5, .int .i64 k)], [(1, some (.one true (.cols n [.sc (.strs q)])))], 2⟩) (fun k => k ≤ n ∧ ∀ i, i < k → (q.getD i ⟨#[]⟩).size ≤ 100) (fun k => n - k) 0 [0, 1] [] ⟨rfl, ⟨rfl, rfl, rfl, trivial⟩, ⟨rfl, trivial⟩⟩ ⟨Nat.zero_le _, fun i hi => absurd hi (Nat.not_lt_zero _)⟩ ?_
  rintro k ⟨hk, hz⟩
  repeat' ((conv => whnf); first | ((first | apply br_dec | apply br_ndec) <;> intro h <;> try (exfalso; (try dsimp only at h); omega)) | ((first | apply br_seq | apply br_nseq | apply br_not | apply br_intro) <;> intro h) | refine cond_a ?_)
  all_goals (conv => whnf)
  · refine ret_out (l := [0, 1]) rfl ?_ trivial allRw_nil
    have hb : acB q n m = false := by
      unfold acB
      refine decide_eq_false ?_
      rintro ⟨h1, _⟩
      have h3 := h1 k (by omega)
      have h2 : (100 : Int) < ((q.getD k ⟨#[]⟩).size : Int) := h
      omega
    rw [hb]; rfl
  · refine ⟨k + 1, [0, 1], [], ⟨by omega, fun i hi => ?_⟩, by omega, ⟨rfl, ⟨rfl, rfl, congrArg (fun z => some (SV.int .i64 z)) (i64_succM (by omega)), trivial⟩, ⟨rfl, trivial⟩⟩⟩
    by_cases e : i = k
    · subst e
      have h2 : ¬ (100 : Int) < ((q.getD i ⟨#[]⟩).size : Int) := h
      omega
    · exact hz i (by omega)
  · have ek : k = n := by omega
    subst ek
    refine ret_out (l := [0, 1]) rfl ?_ trivial allRw_nil
    have hb : acB q k m = decide ((k : Int) ≤ m) := by
      unfold acB
      by_cases hm : (k : Int) ≤ m
      · rw [decide_eq_true hm]; exact decide_eq_true ⟨hz, hm⟩
      · rw [decide_eq_false hm]; exact decide_eq_false fun h => hm h.2
    rw [hb]; rfl
instance : DecidableEq Lp := fun x y => by
  cases x; cases y
  simp only [Lp.mk.injEq]
  infer_instance
end Go.Proofs.YtjjnbhbendlnhaaDoor

/- Contracts of the ledger's laws' own functions: small, alike. -/
namespace Go.Proofs.YtjjnbhbendlnhaaDoor
open Go.RowKit Go.Sy
attribute [local irreducible] vcall vloop vcallD retP
set_option maxRecDepth 100000
set_option linter.unusedVariables false
set_option linter.unusedSimpArgs false
attribute [local irreducible] seq ByteArray.extract
/-- Whether the lengths of two texts are long together, as the law counts them. -/
def lo2 (a b : ByteArray) : Prop := 200 < IntKind.i64.wrap ((a.size : Int) + (b.size : Int))
instance (a b : ByteArray) : Decidable (lo2 a b) := by unfold lo2; infer_instance
/-- What small asks of a call. -/
def smK (id undo : ByteArray) (L : List Lp) (n : Nat) : Prop := ¬ lo2 id undo ∧ ¬ 20 < n ∧ ∀ k, k < n → ¬ lo2 ((L.map Lp.a).getD k ⟨#[]⟩) ((L.map Lp.c).getD k ⟨#[]⟩)
instance (id undo : ByteArray) (L : List Lp) (n : Nat) : Decidable (smK id undo L n) := by unfold smK; infer_instance
def smB (q0 q3 : List ByteArray) (Z : Nat → List Lp) (ns : List Nat) (l : Nat) (m : Int) : Bool := decide ((∀ i, i < l → smK (q0.getD i ⟨#[]⟩) (q3.getD i ⟨#[]⟩) (Z i) (ns.getD i 0)) ∧ (l : Int) ≤ m)
abbrev doB (l f : Nat) (q0 : List ByteArray) (q1 : List Int) (ns : List Nat) (q3 : List ByteArray) : Blk := .cols l [.sc (.strs q0), .sc (.ints .i64 q1), .own f ns, .sc (.strs q3)]
abbrev doF (l : Nat) (ns : List Nat) (Z : Nat → List Lp) : Option HB := some (.fam true (fun x => x < l) (fun x => poB (ns.getD x 0) (Z x)))
theorem law_small (q0 q3 : List ByteArray) (q1 : List Int) (Z : Nat → List Lp) (ns : List Nat) (l : Nat) (m : Int) (hl : l ≤ 9223372036854775807) : FC Tryd.prog 3 13 [.sl 1 0 0 l, .int .i64 m] [(1, some (.one true (doB l 2 q0 q1 ns q3))), (2, doF l ns Z)] (isOut (.bool (smB q0 q3 Z ns l m)) [] 3) := by
  refine fc_of mixed T_ok Tryd.func13 rfl (by kernel_rfl) (by kernel_rfl) (by kernel_rfl) ?_
  (conv => whnf)
  refine vloop_of (fun i : Nat => ⟨[(0, .sl 1 0 0 l), (1, .int .i64 m), (5, .int .i64 i)], [(1, some (.one true (doB l 2 q0 q1 ns q3))), (2, doF l ns Z)], 3⟩) (fun i => i ≤ l ∧ ∀ x, x < i → smK (q0.getD x ⟨#[]⟩) (q3.getD x ⟨#[]⟩) (Z x) (ns.getD x 0)) (fun i => l - i) 0 [0, 1, 2] [] ⟨rfl, ⟨rfl, rfl, rfl, trivial⟩, ⟨rfl, rfl, trivial⟩⟩ ⟨Nat.zero_le _, fun i hi => absurd hi (Nat.not_lt_zero _)⟩ ?_
  rintro i ⟨hi, hz⟩
  by_cases hi2 : i < l
  · have hno : ¬ smK (q0.getD i ⟨#[]⟩) (q3.getD i ⟨#[]⟩) (Z i) (ns.getD i 0) → smB q0 q3 Z ns l m = false := fun h => decide_eq_false fun h2 => h (h2.1 i hi2)
    repeat' ((conv => whnf); first | (simp only [lg_tn]) | ((first | apply br_dec | apply br_ndec) <;> intro h <;> try (exfalso; (try dsimp only at h); omega)) | ((first | apply br_seq | apply br_nseq | apply br_not | apply br_intro) <;> intro h) | refine cond_a ?_)
    all_goals (conv => whnf)
    all_goals try (exfalso; omega)
    · refine ret_out (l := [0, 1, 2]) rfl ?_ trivial allRw_nil
      rw [hno (fun q => q.1 h)]; rfl
    · refine ret_out (l := [0, 1, 2]) rfl ?_ trivial allRw_nil
      have h2 : (20 : Int) < ((ns.getD i 0 : Nat) : Int) := h
      rw [hno (fun q => q.2.1 (by omega))]; rfl
    rename_i _ g1
    have g2 : ¬ (20 : Int) < ((ns.getD i 0 : Nat) : Int) := h
    have g1' : ¬ lo2 (q0.getD i ⟨#[]⟩) (q3.getD i ⟨#[]⟩) := g1
    refine vloop_of (fun k : Nat => ⟨[(0, .sl 1 0 0 l), (1, .int .i64 m), (5, .int .i64 i), (6, .int .i64 k)], [(1, some (.one true (doB l 2 q0 q1 ns q3))), (2, doF l ns Z)], 3⟩) (fun k => k ≤ ns.getD i 0 ∧ ∀ x, x < k → ¬ lo2 (((Z i).map Lp.a).getD x ⟨#[]⟩) (((Z i).map Lp.c).getD x ⟨#[]⟩)) (fun k => ns.getD i 0 - k) 0 [0, 1, 2] [] ⟨rfl, ⟨rfl, rfl, rfl, rfl, trivial⟩, ⟨rfl, rfl, trivial⟩⟩ ⟨Nat.zero_le _, fun i hi => absurd hi (Nat.not_lt_zero _)⟩ ?_
    rintro k ⟨hk, hy⟩
    by_cases hk2 : k < ns.getD i 0
    · repeat' ((conv => whnf); first | (simp only [lg_tn]) | ((first | apply br_dec | apply br_ndec) <;> intro h <;> try (exfalso; (try dsimp only at h); omega)) | ((first | apply br_seq | apply br_nseq | apply br_not | apply br_intro) <;> intro h) | refine cond_a ?_)
      all_goals (conv => whnf)
      · refine ret_out (l := [0, 1, 2]) rfl ?_ trivial allRw_nil
        rw [hno (fun q => q.2.2 k hk2 h)]; rfl
      · refine ⟨k + 1, [0, 1, 2], [], ⟨hk2, fun x hx => ?_⟩, (show ns.getD i 0 - (k + 1) < ns.getD i 0 - k by omega), ⟨rfl, ⟨rfl, rfl, rfl, congrArg (fun z => some (SV.int .i64 z)) (i64_succM (by omega)), trivial⟩, ⟨rfl, rfl, trivial⟩⟩⟩
        by_cases e : x = k
        · subst e; exact h
        · exact hy x (by omega)
    have ek : k = ns.getD i 0 := by omega
    repeat' ((conv => whnf); first | (simp only [lg_tn]) | ((first | apply br_dec | apply br_ndec) <;> intro h <;> try (exfalso; (try dsimp only at h); omega)) | ((first | apply br_seq | apply br_nseq | apply br_not | apply br_intro) <;> intro h) | refine cond_a ?_)
    all_goals (conv => whnf)
    all_goals first
      | (exfalso; omega)
      | skip
    refine ⟨i + 1, [0, 1, 2], [], ⟨hi2, fun x hx => ?_⟩, (show l - (i + 1) < l - i by omega), ⟨rfl, ⟨rfl, rfl, congrArg (fun z => some (SV.int .i64 z)) (i64_succM (by omega)), trivial⟩, ⟨rfl, rfl, trivial⟩⟩⟩
    by_cases e : x = i
    · subst e; exact ⟨g1', by omega, fun y hy2 => hy y (by omega)⟩
    · exact hz x (by omega)
  have ei : i = l := by omega
  subst ei
  have hb : smB q0 q3 Z ns i m = decide ((i : Int) ≤ m) := by
    unfold smB
    by_cases hm : (i : Int) ≤ m
    · rw [decide_eq_true hm]; exact decide_eq_true ⟨hz, hm⟩
    · rw [decide_eq_false hm]; exact decide_eq_false fun h => hm h.2
  rw [hb]
  repeat' ((conv => whnf); first | (simp only [lg_tn]) | ((first | apply br_dec | apply br_ndec) <;> intro h <;> try (exfalso; (try dsimp only at h); omega)) | ((first | apply br_seq | apply br_nseq | apply br_not | apply br_intro) <;> intro h) | refine cond_a ?_)
  all_goals (conv => whnf)
  all_goals first
    | (exfalso; omega)
    | exact ret_out (l := [0, 1, 2]) rfl rfl trivial allRw_nil
end Go.Proofs.YtjjnbhbendlnhaaDoor

/- Contracts of the ledger's laws' own functions: call. -/
namespace Go.Proofs.YtjjnbhbendlnhaaDoor
open Go.RowKit Go.Sy
attribute [local irreducible] vcall vloop vcallD retP
set_option maxRecDepth 100000
set_option linter.unusedVariables false
set_option linter.unusedSimpArgs false
attribute [local irreducible] seq ByteArray.extract
/-- What a call answers, and what it leaves. -/
def lgCE (s : Lg) (e : Le) (undo : ByteArray) : Int := if seq undo ⟨#[]⟩ = true then lgE s e else lgRE s undo e.id e.date
def lgCS (s : Lg) (e : Le) (undo : ByteArray) : Lg := if seq undo ⟨#[]⟩ = true then lgP s e else lgRv s undo e.id e.date
attribute [local irreducible] lgE
abbrev clH (ro : Bool) (s : Lg) (n : Nat) (L : List Lp) : Heap := [(6, lgBg ro s), (0, some (GB glT)), (1, some (.one ro (.cells (lgF 2 3 4 5 6 s)))), (2, some (.one true (lgAcc s))), (3, some (.one ro (lgEnt 7 s))), (4, some (.one ro (lgPl s))), (5, some (.one ro (lgSt s))), (7, lgFam ro s), (8, some (.one true (poB n L)))]
theorem law_call_no (s : Lg) (id undo : ByteArray) (d : Int) (L : List Lp) (n : Nat) (hs : LgOk s) (hn : L.length = n) (h0 : lgCE s ⟨id, d, L, n⟩ undo ≠ 0) :
    FC Tryd.prog 9 14 [.ptr 1 0 0 0, .agg [.str id, .int .i64 d, .sl 8 0 0 n, .str undo]] (clH true s n L) (isOut (.int .i64 (lgCE s ⟨id, d, L, n⟩ undo)) [] 9) := by
  unfold clH
  by_cases hu : undo = ⟨#[]⟩
  · have e : lgCE s ⟨id, d, L, n⟩ undo = lgE s ⟨id, d, L, n⟩ := by unfold lgCE; rw [if_pos (lg_seq.2 hu)]
    rw [e] at h0 ⊢
    have c := lg_Post_err s id d L n hs hn h0
    generalize lgE s ⟨id, d, L, n⟩ = E at *
    refine fc_of mixed T_ok Tryd.func14 rfl (by kernel_rfl) (by kernel_rfl) (by kernel_rfl) ?_
    repeat' ((conv => whnf); first | refine vcall_o (l := [0, 1, 2, 3, 4, 5, 6, 7, 8]) (c) ?_ | refine vcallD_o (l := [0, 1, 2, 3, 4, 5, 6, 7, 8]) (c) ?_ | ((first | apply br_dec | apply br_ndec) <;> intro h <;> try (exfalso; (try dsimp only at h); omega)) | ((first | apply br_seq | apply br_nseq | apply br_not | apply br_intro) <;> intro h) | refine cond_a ?_)
    all_goals (conv => whnf)
    all_goals first
      | exact ret_out (l := [0, 1, 2, 3, 4, 5, 6, 7, 8]) rfl rfl trivial allRw_nil
      | (exfalso; contradiction)
  have e : lgCE s ⟨id, d, L, n⟩ undo = lgRE s undo id d := by unfold lgCE; rw [if_neg (fun h => hu (lg_seq.1 h))]
  rw [e] at h0 ⊢
  by_cases h1 : inL undo s.ids
  · by_cases h2 : inL undo s.st
    · have e2 : lgRE s undo id d = 8 := by unfold lgRE; rw [if_pos h1, if_pos h2]
      have c := lg_Reverse_set s undo id d hs h1 h2
      rw [e2]
      refine fc_of mixed T_ok Tryd.func14 rfl (by kernel_rfl) (by kernel_rfl) (by kernel_rfl) ?_
      repeat' ((conv => whnf); first | refine vcall_o (l := [0, 1, 2, 3, 4, 5, 6, 7]) (c) ?_ | refine vcallD_o (l := [0, 1, 2, 3, 4, 5, 6, 7]) (c) ?_ | ((first | apply br_dec | apply br_ndec) <;> intro h <;> try (exfalso; (try dsimp only at h); omega)) | ((first | apply br_seq | apply br_nseq | apply br_not | apply br_intro) <;> intro h) | refine cond_a ?_)
      all_goals (conv => whnf)
      all_goals first
        | exact ret_out (l := [0, 1, 2, 3, 4, 5, 6, 7, 8]) rfl rfl trivial allRw_nil
        | (exfalso; contradiction)
    · have e2 : lgRE s undo id d = lgE s (revL s undo id d) := by unfold lgRE; rw [if_pos h1, if_neg h2]
      rw [e2] at h0 ⊢
      have c := lg_Reverse_err s undo id d hs h1 h2 h0
      generalize lgE s (revL s undo id d) = E at *
      refine fc_of mixed T_ok Tryd.func14 rfl (by kernel_rfl) (by kernel_rfl) (by kernel_rfl) ?_
      repeat' ((conv => whnf); first | refine vcall_o (l := [0, 1, 2, 3, 4, 5, 6, 7]) (c) ?_ | refine vcallD_o (l := [0, 1, 2, 3, 4, 5, 6, 7]) (c) ?_ | ((first | apply br_dec | apply br_ndec) <;> intro h <;> try (exfalso; (try dsimp only at h); omega)) | ((first | apply br_seq | apply br_nseq | apply br_not | apply br_intro) <;> intro h) | refine cond_a ?_)
      all_goals (conv => whnf)
      all_goals first
        | exact ret_out (l := [0, 1, 2, 3, 4, 5, 6, 7, 8]) rfl rfl trivial allRw_nil
        | (exfalso; contradiction)
  · have e2 : lgRE s undo id d = 6 := by unfold lgRE; rw [if_neg h1]
    have c := lg_Reverse_none s undo id d hs h1
    rw [e2]
    refine fc_of mixed T_ok Tryd.func14 rfl (by kernel_rfl) (by kernel_rfl) (by kernel_rfl) ?_
    repeat' ((conv => whnf); first | refine vcall_o (l := [0, 1, 2, 3, 4, 5, 6, 7]) (c) ?_ | refine vcallD_o (l := [0, 1, 2, 3, 4, 5, 6, 7]) (c) ?_ | ((first | apply br_dec | apply br_ndec) <;> intro h <;> try (exfalso; (try dsimp only at h); omega)) | ((first | apply br_seq | apply br_nseq | apply br_not | apply br_intro) <;> intro h) | refine cond_a ?_)
    all_goals (conv => whnf)
    all_goals first
      | exact ret_out (l := [0, 1, 2, 3, 4, 5, 6, 7, 8]) rfl rfl trivial allRw_nil
      | (exfalso; contradiction)
abbrev clO (a e p t b f : Nat) (s : Lg) : Heap := [(b, lgBg false s), (1, some (.one false (.cells (lgF a e p t b s)))), (e, some (.one false (lgEnt f s))), (p, some (.one false (lgPl s))), (t, some (.one false (lgSt s))), (f, lgFam false s)]
theorem law_call_ok (s : Lg) (id undo : ByteArray) (d : Int) (L : List Lp) (n : Nat) (hs : LgOk s) (hn : L.length = n) (h0 : lgCE s ⟨id, d, L, n⟩ undo = 0) :
    FC Tryd.prog 9 14 [.ptr 1 0 0 0, .agg [.str id, .int .i64 d, .sl 8 0 0 n, .str undo]] (clH false s n L) (isOut (.int .i64 0) (clO 2 9 4 5 6 10 (lgCS s ⟨id, d, L, n⟩ undo)) 11) := by
  unfold clH clO
  by_cases hu : undo = ⟨#[]⟩
  · have e : lgCE s ⟨id, d, L, n⟩ undo = lgE s ⟨id, d, L, n⟩ := by unfold lgCE; rw [if_pos (lg_seq.2 hu)]
    have e2 : lgCS s ⟨id, d, L, n⟩ undo = lgP s ⟨id, d, L, n⟩ := by unfold lgCS; rw [if_pos (lg_seq.2 hu)]
    rw [e] at h0
    rw [e2]
    have c := lg_Post_ok s id d L n hs hn h0
    have est : lgSt s = lgSt (lgP s ⟨id, d, L, n⟩) := rfl
    rw [← est]
    generalize lgP s ⟨id, d, L, n⟩ = S at *
    refine fc_of mixed T_ok Tryd.func14 rfl (by kernel_rfl) (by kernel_rfl) (by kernel_rfl) ?_
    repeat' ((conv => whnf); first | refine vcall_o (l := [0, 1, 2, 3, 4, 5, 6, 7, 8]) (c) ?_ | refine vcallD_o (l := [0, 1, 2, 3, 4, 5, 6, 7, 8]) (c) ?_ | ((first | apply br_dec | apply br_ndec) <;> intro h <;> try (exfalso; (try dsimp only at h); omega)) | ((first | apply br_seq | apply br_nseq | apply br_not | apply br_intro) <;> intro h) | refine cond_a ?_)
    all_goals (conv => whnf)
    all_goals first
      | exact ret_out (l := [0, 1, 2, 3, 4, 5, 6, 7, 8, 10, 11]) rfl rfl ⟨rfl, rfl, rfl, rfl, rfl, rfl, trivial⟩ (allRw_cons (allRw_cons (allRw_cons (allRw_cons (allRw_cons (allRw_fam allRw_nil))))))
      | (exfalso; contradiction)
  have e : lgCE s ⟨id, d, L, n⟩ undo = lgRE s undo id d := by unfold lgCE; rw [if_neg (fun h => hu (lg_seq.1 h))]
  have e2 : lgCS s ⟨id, d, L, n⟩ undo = lgRv s undo id d := by unfold lgCS; rw [if_neg (fun h => hu (lg_seq.1 h))]
  rw [e] at h0
  rw [e2]
  have h1 : inL undo s.ids := by
    by_cases h : inL undo s.ids
    · exact h
    · unfold lgRE at h0; rw [if_neg h] at h0; cases h0
  have h2 : ¬ inL undo s.st := fun h => by unfold lgRE at h0; rw [if_pos h1, if_pos h] at h0; cases h0
  have c := lg_Reverse_ok s undo id d hs h1 h2 (by unfold lgRE at h0; rw [if_pos h1, if_neg h2] at h0; exact h0)
  generalize lgRv s undo id d = S at *
  refine fc_of mixed T_ok Tryd.func14 rfl (by kernel_rfl) (by kernel_rfl) (by kernel_rfl) ?_
  repeat' ((conv => whnf); first | refine vcall_o (l := [0, 1, 2, 3, 4, 5, 6, 7]) (c) ?_ | refine vcallD_o (l := [0, 1, 2, 3, 4, 5, 6, 7]) (c) ?_ | ((first | apply br_dec | apply br_ndec) <;> intro h <;> try (exfalso; (try dsimp only at h); omega)) | ((first | apply br_seq | apply br_nseq | apply br_not | apply br_intro) <;> intro h) | refine cond_a ?_)
  all_goals (conv => whnf)
  all_goals first
    | exact ret_out (l := [0, 1, 2, 3, 4, 5, 6, 7, 8, 10, 11]) rfl rfl ⟨rfl, rfl, rfl, rfl, rfl, rfl, trivial⟩ (allRw_cons (allRw_cons (allRw_cons (allRw_cons (allRw_cons (allRw_fam allRw_nil))))))
    | (exfalso; contradiction)
end Go.Proofs.YtjjnbhbendlnhaaDoor

/- Plain facts of the ledger's laws: the balances of all accounts add up to the sum of all postings. -/
namespace Go.Proofs.YtjjnbhbendlnhaaDoor
open Go.RowKit Go.Sy
set_option linter.unusedVariables false
set_option linter.unusedSimpArgs false

/-- A sum over names. -/
def nmS (f : ByteArray → Int) : List ByteArray → Int
  | [] => 0
  | a :: l => f a + nmS f l
theorem nmS_add (f g : ByteArray → Int) : ∀ l, nmS (fun a => f a + g a) l = nmS f l + nmS g l
  | [] => rfl
  | a :: l => by simp only [nmS]; rw [nmS_add f g l]; omega
theorem nmS_zero {f : ByteArray → Int} : ∀ {l : List ByteArray}, (∀ a ∈ l, f a = 0) → nmS f l = 0
  | [], _ => rfl
  | a :: l, h => by simp only [nmS]; rw [h a (by simp), nmS_zero (fun b hb => h b (by simp [hb]))]; rfl
theorem nmS_congr {f g : ByteArray → Int} : ∀ {l : List ByteArray}, (∀ a ∈ l, f a = g a) → nmS f l = nmS g l
  | [], _ => rfl
  | a :: l, h => by simp only [nmS]; rw [h a (by simp), nmS_congr (fun b hb => h b (by simp [hb]))]
theorem nmS_one {x : ByteArray} {n : Int} : ∀ {l : List ByteArray}, l.Nodup → x ∈ l → nmS (fun a => if x = a then n else 0) l = n
  | [], _, h => by cases h
  | a :: l, hd, h => by
    obtain ⟨h1, h2⟩ := List.nodup_cons.1 hd
    simp only [nmS]
    by_cases e : x = a
    · rw [if_pos e, nmS_zero (fun b hb => if_neg (fun e2 => h1 (by rw [← e, e2]; exact hb)))]; omega
    · rw [if_neg e, nmS_one h2 (by rcases List.mem_cons.1 h with h | h; exact absurd h e; exact h)]; omega
theorem nm_lgC {names : List ByteArray} (hd : names.Nodup) (c : ByteArray) : ∀ {L : List Lp}, (∀ p ∈ L, p.a ∈ names) → nmS (fun a => lgS L a c) names = lgC L c
  | [], _ => nmS_zero fun a _ => rfl
  | p :: L, h => by
    have ih := nm_lgC hd c (L := L) (fun q hq => h q (by simp [hq]))
    have e : nmS (fun a => lgS (p :: L) a c) names = nmS (fun a => if p.a = a then (if p.c = c then p.n else 0) else 0) names + nmS (fun a => lgS L a c) names := by
      rw [← nmS_add]
      refine nmS_congr fun a _ => ?_
      simp only [lgS]
      by_cases h1 : p.a = a
      · by_cases h2 : p.c = c
        · rw [if_pos ⟨h1, h2⟩, if_pos h1, if_pos h2]
        · rw [if_neg (fun h => h2 h.2), if_pos h1, if_neg h2]
      · rw [if_neg (fun h => h1 h.1), if_neg h1]
    rw [e, ih, nmS_one hd (h p (by simp))]
    rfl
theorem lgC_all {c : ByteArray} : ∀ {E : List Le}, (∀ e ∈ E, lgBal e.ps = true) → lgC (allP E) c = 0
  | [], _ => rfl
  | e :: E, h => by
    have : allP (e :: E) = e.ps ++ allP E := rfl
    rw [this, lgC_append, lgC_all (fun x hx => h x (by simp [hx])), lgBal_iff.1 (h e (by simp)) c]; rfl
/-- THE BALANCES OF ALL ACCOUNTS ADD UP TO ZERO. -/
theorem lg_total {s : Lg} (h : LgOk s) (c : ByteArray) : nmS (fun a => s.bal a c) s.acc = 0 := by
  rw [nmS_congr (fun a _ => h.bal a c), nm_lgC h.nd c (fun p hp => ?_)]
  · exact lgC_all fun e he => (h.ent e he).b
  · obtain ⟨e, he, hp⟩ := List.mem_flatMap.1 hp
    exact (poE_zero.1 (h.ent e he).ps p hp).1
/-- The postings of an account in a currency add up to its balance. -/
def cuS (c : ByteArray) : List Lp → Int
  | [] => 0
  | x :: L => (if x.c = c then x.n else 0) + cuS c L
theorem cuS_append (c : ByteArray) (A B : List Lp) : cuS c (A ++ B) = cuS c A + cuS c B := by
  induction A with
  | nil => simp [cuS]
  | cons x A ih => simp only [List.cons_append, cuS, ih, Int.add_assoc]
theorem cuS_filter (y c : ByteArray) : ∀ L : List Lp, cuS c (L.filter (acP y)) = lgS L y c
  | [] => rfl
  | x :: L => by
    have ih := cuS_filter y c L
    simp only [List.filter_cons, lgS]
    by_cases h : x.a = y
    · rw [if_pos (show acP y x = true from lg_seq.2 h)]
      simp only [cuS]
      rw [ih]
      by_cases h2 : x.c = c
      · rw [if_pos h2, if_pos ⟨h, h2⟩]
      · rw [if_neg h2, if_neg (fun k => h2 k.2)]
    · rw [if_neg (show ¬ acP y x = true from fun k => h (lg_seq.1 k)), if_neg (fun k => h k.1), ih]; omega
theorem cuS_st (y c : ByteArray) : ∀ E : List Le, cuS c (stP y E) = lgS (allP E) y c
  | [] => rfl
  | e :: E => by
    have e1 : stP y (e :: E) = e.ps.filter (acP y) ++ stP y E := rfl
    have e2 : allP (e :: E) = e.ps ++ allP E := rfl
    rw [e1, e2, cuS_append, lgS_append, cuS_filter, cuS_st y c E]
end Go.Proofs.YtjjnbhbendlnhaaDoor

/- Contracts of the ledger's laws: a call whose postings are a member of a family. -/
namespace Go.Proofs.YtjjnbhbendlnhaaDoor
open Go.RowKit Go.Sy
attribute [local irreducible] vcall vloop vcallD retP
set_option maxRecDepth 100000
set_option linter.unusedVariables false
set_option linter.unusedSimpArgs false
attribute [local irreducible] seq ByteArray.extract
abbrev clF (ro : Bool) (s : Lg) (dom : Nat → Prop) (F : Nat → Blk) : Heap := [(6, lgBg ro s), (0, some (GB glT)), (1, some (.one ro (.cells (lgF 2 3 4 5 6 s)))), (2, some (.one true (lgAcc s))), (3, some (.one ro (lgEnt 7 s))), (4, some (.one ro (lgPl s))), (5, some (.one ro (lgSt s))), (7, lgFam ro s), (8, some (.fam true dom F))]
theorem law_callF_no (s : Lg) (id undo : ByteArray) (d : Int) (L : List Lp) (n : Nat) (dom : Nat → Prop) (F : Nat → Blk) (i : Nat) (hi : dom i) (hF : F i = poB n L) (hs : LgOk s) (hn : L.length = n) (h0 : lgCE s ⟨id, d, L, n⟩ undo ≠ 0) :
    FC Tryd.prog 9 14 [.ptr 1 0 0 0, .agg [.str id, .int .i64 d, .sl 8 i 0 n, .str undo]] (clF true s dom F) (isOut (.int .i64 (lgCE s ⟨id, d, L, n⟩ undo)) [] 9) := by
  have c0 := fc_fam [(8, ⟨i, dom, F⟩)] (by exact ⟨⟨by decide, by decide, _, _, rfl, hi, hF, .inl rfl⟩, trivial⟩) (by exact ⟨rfl, gb_mok _ _, rfl, rfl, rfl, rfl, rfl, fun q _ => rfl, rfl, trivial⟩) (by exact trivial) allRw_nil (law_call_no s id undo d L n hs hn h0)
  have e : SV.mems (fmu [(8, ⟨i, dom, F⟩)]) [.ptr 1 0 0 0, .agg [.str id, .int .i64 d, .sl 8 0 0 n, .str undo]] = [.ptr 1 0 0 0, .agg [.str id, .int .i64 d, .sl 8 i 0 n, .str undo]] := by
    show [SV.ptr 1 0 0 0, SV.agg [.str id, .int .i64 d, .sl 8 (0 + i) 0 n, .str undo]] = _
    rw [Nat.zero_add]
  have eH : famH [(8, ⟨i, dom, F⟩)] (clH true s n L) = clF true s dom F := by
    show (6, _) :: (0, some (famHB _ 0 (GB glT))) :: _ = _
    rw [gb_fam]; rfl
  rw [e, eH] at c0
  exact c0
theorem law_callF_ok (s : Lg) (id undo : ByteArray) (d : Int) (L : List Lp) (n : Nat) (dom : Nat → Prop) (F : Nat → Blk) (i : Nat) (hi : dom i) (hF : F i = poB n L) (hs : LgOk s) (hn : L.length = n) (h0 : lgCE s ⟨id, d, L, n⟩ undo = 0) :
    FC Tryd.prog 9 14 [.ptr 1 0 0 0, .agg [.str id, .int .i64 d, .sl 8 i 0 n, .str undo]] (clF false s dom F) (isOut (.int .i64 0) (clO 2 9 4 5 6 10 (lgCS s ⟨id, d, L, n⟩ undo)) 11) := by
  have c0 := fc_fam [(8, ⟨i, dom, F⟩)] (by exact ⟨⟨by decide, by decide, _, _, rfl, hi, hF, .inl rfl⟩, trivial⟩) (by exact ⟨rfl, gb_mok _ _, rfl, rfl, rfl, rfl, rfl, fun q _ => rfl, rfl, trivial⟩) (by exact ⟨rfl, rfl, rfl, rfl, rfl, fun q _ => rfl, trivial⟩) (allRw_cons (allRw_cons (allRw_cons (allRw_cons (allRw_cons (allRw_fam allRw_nil)))))) (law_call_ok s id undo d L n hs hn h0)
  have e : SV.mems (fmu [(8, ⟨i, dom, F⟩)]) [.ptr 1 0 0 0, .agg [.str id, .int .i64 d, .sl 8 0 0 n, .str undo]] = [.ptr 1 0 0 0, .agg [.str id, .int .i64 d, .sl 8 i 0 n, .str undo]] := by
    show [SV.ptr 1 0 0 0, SV.agg [.str id, .int .i64 d, .sl 8 (0 + i) 0 n, .str undo]] = _
    rw [Nat.zero_add]
  have eH : famH [(8, ⟨i, dom, F⟩)] (clH false s n L) = clF false s dom F := by
    show (6, _) :: (0, some (famHB _ 0 (GB glT))) :: _ = _
    rw [gb_fam]; rfl
  rw [e, eH] at c0
  exact c0
end Go.Proofs.YtjjnbhbendlnhaaDoor

/- Plain facts on texts in ascending order. No program in sight. -/
namespace Go.Sy
open Go.RowKit

theorem ofB_toList (s : ByteArray) : s.toList = ofB s := by
  exact (by simpa using ByteArray.toList_eq s : s.toList = s.data.toList)
theorem strLt_eq (a b : ByteArray) : strLt a b = decide (ofB a < ofB b) := by
  unfold strLt
  rw [ofB_toList, ofB_toList, Go.Proofs.bytesLess_eq]
theorem ofB_inj {a b : ByteArray} (h : ofB a = ofB b) : a = b := by rw [← toB_ofB a, ← toB_ofB b, h]
theorem strLt_irrefl (a : ByteArray) : strLt a a = false := by rw [strLt_eq]; exact decide_eq_false (List.lt_irrefl _)
theorem strLt_asymm {a b : ByteArray} (h : strLt a b = true) : strLt b a = false := by
  rw [strLt_eq] at h ⊢
  exact decide_eq_false (List.lt_asymm (of_decide_eq_true h))
theorem sortS_pairwise {l : List ByteArray} (hd : l.Nodup) : (sortS l).Pairwise (fun a b => strLt a b = true) := by
  have tr : ∀ a b c : List UInt8, leB a b = true → leB b c = true → leB a c = true := fun a b c h1 h2 => by simp only [leB, decide_eq_true_eq] at *; exact List.le_trans h1 h2
  have to : ∀ a b : List UInt8, (leB a b || leB b a) = true := fun a b => by simp only [leB, Bool.or_eq_true, decide_eq_true_eq]; exact List.le_total a b
  have h1 := List.pairwise_mergeSort tr to (l.map ofB)
  have hd2 : (sortS l).Nodup := (sortS_perm l).symm.nodup hd
  have h2 : (sortS l).Pairwise (fun a b => leB (ofB a) (ofB b) = true) := by
    unfold sortS
    rw [List.pairwise_map]
    exact h1
  refine (List.Pairwise.and h2 hd2).imp ?_
  rintro a b ⟨h3, h4⟩
  rw [strLt_eq]
  simp only [leB, decide_eq_true_eq] at h3
  rcases List.le_iff_lt_or_eq.1 h3 with h5 | h5
  · exact decide_eq_true h5
  · exact absurd (ofB_inj h5) h4
/-- Texts in strictly ascending order are their own order. -/
theorem sortS_of {l m : List ByteArray} (hp : m.Perm l) (hm : m.Pairwise (fun a b => strLt a b = true)) : sortS l = m := by
  have hdm : m.Nodup := hm.imp (fun {a b} h e => by subst e; rw [strLt_irrefl] at h; cases h)
  refine List.Perm.eq_of_pairwise (le := fun a b => strLt a b = true) (fun a b _ _ h1 h2 => ?_) (sortS_pairwise (hp.nodup hdm)) hm ((sortS_perm l).trans hp.symm)
  rw [strLt_asymm h1] at h2; cases h2
end Go.Sy

/- The ledger's laws: the example of the chapter. -/
namespace Go.Proofs.YtjjnbhbendlnhaaDoor
open Go.RowKit Go.Sy
attribute [local irreducible] vcall vloop vcallD retP
set_option maxRecDepth 100000
set_option linter.unusedVariables false
set_option linter.unusedSimpArgs false

abbrev aA : ByteArray := ⟨#[97]⟩
abbrev aB : ByteArray := ⟨#[98]⟩
abbrev aEur : ByteArray := ⟨#[69, 85, 82]⟩
abbrev aUsd : ByteArray := ⟨#[85, 83, 68]⟩
abbrev aE1 : ByteArray := ⟨#[101, 49]⟩
abbrev aE2 : ByteArray := ⟨#[101, 50]⟩
abbrev aE3 : ByteArray := ⟨#[101, 51]⟩
abbrev aN : List ByteArray := [aA, aB]
abbrev aL1 : List Lp := [⟨aA, -5, aEur⟩, ⟨aB, 5, aEur⟩]
abbrev aL2 : List Lp := [⟨aA, -5, aEur⟩, ⟨aB, 5, aUsd⟩]
def aS0 : Lg := lg0 aN
def aS1 : Lg := lgP aS0 ⟨aE1, 20, aL1, 2⟩
def aS2 : Lg := lgRv aS1 aE1 aE2 21
theorem aw_n0 : nwE aN = 0 := by kernel_rfl
theorem aw_g1 : lgE aS0 ⟨aE1, 20, aL1, 2⟩ = 0 := by kernel_rfl
theorem aw_g2 : lgE aS1 ⟨aE2, 0, aL2, 2⟩ = 26 := by kernel_rfl
theorem aw_g3 : lgRE aS1 aE1 aE2 21 = 0 := by kernel_rfl
theorem aw_i1 : inL aE1 aS1.ids := by decide +kernel
theorem aw_i2 : ¬ inL aE1 aS1.st := by decide +kernel
theorem aw_g4 : lgE aS1 (revL aS1 aE1 aE2 21) = 0 := by kernel_rfl
theorem aw_i3 : inL aE1 aS2.ids := by decide +kernel
theorem aw_i4 : inL aE1 aS2.st := by decide +kernel
theorem aw_i5 : inL aE2 aS2.ids := by decide +kernel
theorem aw_i6 : inL aE2 aS2.st := by decide +kernel
theorem aw_b : aS2.bal aA aEur = 0 := by kernel_rfl
theorem aw_ok0 : LgOk aS0 := lg0_ok aw_n0
theorem aw_ok1 : LgOk aS1 := lgOk_post aw_ok0 rfl aw_g1
theorem aw_ok2 : LgOk aS2 := lgOk_rev aw_ok1 aw_g3
theorem aw_sort : sortS aN = aN := sortS_of (List.Perm.refl _) (.cons (fun a h => by simp only [List.mem_cons, List.not_mem_nil, or_false] at h; subst h; kernel_rfl) (List.pairwise_singleton _ _))
theorem aw_tr : (trA aS1 aEur).filter nzP = aL1 := by
  unfold trA
  rw [show aS1.acc = aN from rfl, aw_sort]
  kernel_rfl
attribute [local irreducible] lgE seq ByteArray.extract
set_option maxHeartbeats 2000000 in
theorem law_awake : Glob Tryd.prog glT 11 [] (.bool true) := by
  have c0 := lg_New_ok aN 2 rfl aw_n0
  have p1 := law_posting aA (-5)
  have p2 := law_posting aB 5
  have c1 := lg_Digest aS0
  have c2 := lg_Post_ok aS0 aE1 20 aL1 2 aw_ok0 rfl aw_g1
  have c3 := lg_Trial aS1 aEur aw_ok1
  rw [aw_tr] at c3
  have c4 := lg_Post_err aS1 aE2 0 aL2 2 aw_ok1 rfl (by rw [aw_g2]; decide)
  rw [aw_g2] at c4
  have c5 := lg_Reverse_ok aS1 aE1 aE2 21 aw_ok1 aw_i1 aw_i2 aw_g4
  have c6 := lg_Balance aS2 aA aEur
  rw [aw_b] at c6
  have c7 := lg_Reverse_set aS2 aE1 aE3 21 aw_ok2 aw_i3 aw_i4
  have c8 := lg_Reverse_set aS2 aE2 aE3 21 aw_ok2 aw_i5 aw_i6
  have d0 : aS0.dig = 0 := rfl
  change FC _ _ _ _ _ (isOut _ ((7, lgBg false aS0) :: _) _) at c0
  change FC _ _ _ _ _ (isOut _ ((6, lgBg false aS1) :: _) _) at c2
  change FC _ _ _ _ _ (isOut _ ((6, lgBg false aS2) :: _) _) at c5
  refine fc_of mixed T_ok Tryd.func11 rfl (by kernel_rfl) (by kernel_rfl) (by kernel_rfl) ?_
  repeat' ((conv => whnf); first | (refine vcall_pure (p1) rfl rfl rfl ?_) | (refine vcallD_pure (p1) rfl rfl rfl ?_) | (refine vcall_pure (p2) rfl rfl rfl ?_) | (refine vcallD_pure (p2) rfl rfl rfl ?_) | refine vcall_o (l := [0, 1]) (c0) ?_ | refine vcall_o (l := [0, 2, 3, 4, 5, 6, 7]) (c1) ?_ | refine vcall_o (l := [0, 2, 3, 4, 5, 6, 7, 8, 9]) (c2) ?_ | refine vcall_o (l := [0, 2, 3, 10, 5, 6, 7]) (c3) ?_ | refine vcallD_o (l := [0, 2, 3, 10, 5, 6, 7, 11, 13]) (c4) ?_ | refine vcall_o (l := [0, 2, 3, 10, 5, 6, 7, 11]) (c5) ?_ | refine vcall_o (l := [0, 2, 3, 14, 5, 6, 7]) (c6) ?_ | refine vcall_o (l := [0, 2, 3, 14, 5, 6, 7, 15]) (c7) ?_ | refine vcall_o (l := [0, 2, 3, 14, 5, 6, 7, 15]) (c8) ?_ | ((first | apply br_dec | apply br_ndec) <;> intro h <;> try (exfalso; (try dsimp only at h); omega)) | ((first | apply br_seq | apply br_nseq | apply br_not | apply br_intro) <;> intro h) | refine cond_a ?_)
  all_goals (conv => whnf)
  all_goals first
    | exact ret_pure rfl
    | (exfalso; exact absurd h (by decide +kernel))
    | trace_state
end Go.Proofs.YtjjnbhbendlnhaaDoor

/- Plain facts of the ledger's laws: postings by columns; how often a trial balance has an account; bounds of sums. No program in sight. -/
namespace Go.Proofs.YtjjnbhbendlnhaaDoor
open Go.RowKit Go.Sy
set_option linter.unusedVariables false
set_option linter.unusedSimpArgs false

/-- Postings out of columns. -/
def mkL (a : List ByteArray) (n : List Int) (c : List ByteArray) : List Lp := (List.range a.length).map (fun i => ⟨a.getD i ⟨#[]⟩, n.getD i 0, c.getD i ⟨#[]⟩⟩)
theorem mkL_len (a : List ByteArray) (n : List Int) (c : List ByteArray) : (mkL a n c).length = a.length := by unfold mkL; rw [List.length_map, List.length_range]
theorem mkL_a (a : List ByteArray) (n : List Int) (c : List ByteArray) : (mkL a n c).map Lp.a = a := by
  unfold mkL; rw [List.map_map]; exact map_range_getD a _
theorem mkL_n {a : List ByteArray} {n : List Int} (c : List ByteArray) (h : n.length = a.length) : (mkL a n c).map Lp.n = n := by
  unfold mkL; rw [List.map_map, ← h]; exact map_range_getD n _
theorem mkL_c {a c : List ByteArray} (n : List Int) (h : c.length = a.length) : (mkL a n c).map Lp.c = c := by
  unfold mkL; rw [List.map_map, ← h]; exact map_range_getD c _
theorem mkL_poB {a c : List ByteArray} {n : List Int} (k : Nat) (h : n.length = a.length) (h2 : c.length = a.length) : poB k (mkL a n c) = .cols k [.sc (.strs a), .sc (.ints .i64 n), .sc (.strs c)] := by
  unfold poB; rw [mkL_a, mkL_n c h, mkL_c n h2]
/-- Two lists of texts, three columns. -/
def isV (y cu : ByteArray) (v : Int) (x : Lp) : Bool := decide (x = ⟨y, v, cu⟩)
theorem isV_iff {y cu : ByteArray} {v : Int} {x : Lp} : isV y cu v x = true ↔ x.a = y ∧ x.n = v ∧ x.c = cu := by
  unfold isV
  rw [decide_eq_true_iff]
  cases x
  simp only [Lp.mk.injEq]
theorem cn_next {α : Type} {p : α → Bool} {L : List α} {k : Nat} (d : α) (hk : k < L.length) : (L.take (k + 1)).countP p = (L.take k).countP p + if p (L.getD k d) = true then 1 else 0 := by
  rw [List.take_add_one, List.getElem?_eq_getElem hk, List.countP_append, List.getD, List.getElem?_eq_getElem hk]
  simp [List.countP_cons]
theorem trA_nodup {s : Lg} (h : LgOk s) (cu : ByteArray) : (trA s cu).Nodup := by
  unfold trA
  refine List.pairwise_map.2 ?_
  have hn : (sortS s.acc).Nodup := (sortS_perm s.acc).nodup_iff.2 h.nd
  exact hn.imp fun hne e => hne (congrArg Lp.a e)
theorem trA_mem {s : Lg} {cu y : ByteArray} (hy : y ∈ s.acc) : (⟨y, s.bal y cu, cu⟩ : Lp) ∈ trA s cu := by
  unfold trA
  exact List.mem_map.2 ⟨y, (sortS_perm s.acc).mem_iff.2 hy, rfl⟩
/-- How often a trial balance has an account with its balance. -/
theorem tr_count {s : Lg} (h : LgOk s) {cu y : ByteArray} (hy : y ∈ s.acc) : ((trA s cu).filter nzP).countP (isV y cu (s.bal y cu)) = if s.bal y cu = 0 then 0 else 1 := by
  have hnd : ((trA s cu).filter nzP).Nodup := (trA_nodup h cu).filter _
  have e : ((trA s cu).filter nzP).countP (isV y cu (s.bal y cu)) = ((trA s cu).filter nzP).count ⟨y, s.bal y cu, cu⟩ := by
    unfold List.count
    refine congrArg (fun p => List.countP p _) (funext fun x => ?_)
    unfold isV
    rw [Bool.eq_iff_iff, decide_eq_true_iff, beq_iff_eq]
  rw [e]
  split
  · rename_i h0
    refine List.count_eq_zero.2 fun hm => ?_
    have := (List.mem_filter.1 hm).2
    unfold nzP at this
    rw [h0] at this
    simp at this
  · rename_i h0
    have hm : (⟨y, s.bal y cu, cu⟩ : Lp) ∈ (trA s cu).filter nzP := List.mem_filter.2 ⟨trA_mem hy, by unfold nzP; simpa using h0⟩
    have h1 := (List.nodup_iff_count.1 hnd) ⟨y, s.bal y cu, cu⟩
    have h2 := List.count_pos_iff.2 hm
    omega
/-- How many accounts have a balance that is not zero. -/
def nzA (s : Lg) (cu : ByteArray) (a : ByteArray) : Bool := !decide (s.bal a cu = 0)
theorem tr_len (s : Lg) (cu : ByteArray) : ((trA s cu).filter nzP).length = s.acc.countP (nzA s cu) := by
  rw [← List.countP_eq_length_filter]
  unfold trA
  rw [List.countP_map]
  exact (sortS_perm s.acc).countP_eq _
/-- Postings of entries are bounded, and not many. -/
theorem stP_le {s : Lg} (h : LgOk s) (y : ByteArray) : (stP y s.ent).length ≤ 16 * s.ne := by
  have key : ∀ E : List Le, (∀ e ∈ E, EntOk s.acc e) → (stP y E).length ≤ 16 * E.length := by
    intro E
    induction E with
    | nil => intro _; simp [stP]
    | cons e E ih =>
      intro he
      have h1 := ih (fun x hx => he x (by simp [hx]))
      have h2 := he e (by simp)
      have e1 : stP y (e :: E) = e.ps.filter (acP y) ++ stP y E := rfl
      rw [e1, List.length_append, List.length_cons]
      have h3 := List.length_filter_le (acP y) e.ps
      have h4 := h2.n
      have h5 := h2.n16
      omega
  have := key s.ent h.ent
  rw [h.ne] at this
  exact this
theorem stP_mem {s : Lg} (h : LgOk s) {y : ByteArray} {x : Lp} (hx : x ∈ stP y s.ent) : x.a = y ∧ -4503599627370496 ≤ x.n ∧ x.n ≤ 4503599627370496 := by
  obtain ⟨e, he, hm⟩ := List.mem_flatMap.1 hx
  obtain ⟨h1, h2⟩ := List.mem_filter.1 hm
  exact ⟨lg_seq.1 h2, poE_bd (h.ent e he).ps x h1⟩
theorem cuS_bd (c : ByteArray) : ∀ {L : List Lp}, (∀ x ∈ L, -4503599627370496 ≤ x.n ∧ x.n ≤ 4503599627370496) → -(4503599627370496 * (L.length : Int)) ≤ cuS c L ∧ cuS c L ≤ 4503599627370496 * (L.length : Int)
  | [], _ => by simp [cuS]
  | x :: L, h => by
    have i1 := cuS_bd c (L := L) (fun y hy => h y (by simp [hy]))
    have i2 := h x (by simp)
    simp only [cuS, List.length_cons]
    split <;> omega
theorem cuS_next {c : ByteArray} {L : List Lp} {k : Nat} (hk : k < L.length) : cuS c (L.take (k + 1)) = cuS c (L.take k) + if (L.getD k lp0).c = c then (L.getD k lp0).n else 0 := by
  rw [lg_take hk, cuS_append]; simp [cuS]
theorem nmS_next (f : ByteArray → Int) {L : List ByteArray} {k : Nat} (hk : k < L.length) : nmS f (L.take (k + 1)) = nmS f (L.take k) + f (L.getD k ⟨#[]⟩) := by
  have app : ∀ A B : List ByteArray, nmS f (A ++ B) = nmS f A + nmS f B := by
    intro A B
    induction A with
    | nil => simp [nmS]
    | cons x A ih => simp only [List.cons_append, nmS, ih, Int.add_assoc]
  rw [List.take_add_one, List.getElem?_eq_getElem hk, app, List.getD, List.getElem?_eq_getElem hk]
  simp [nmS]
theorem nmS_bd {f : ByteArray → Int} (h : ∀ a, -4503599627370496 ≤ f a ∧ f a ≤ 4503599627370496) : ∀ L : List ByteArray, -(4503599627370496 * (L.length : Int)) ≤ nmS f L ∧ nmS f L ≤ 4503599627370496 * (L.length : Int)
  | [] => by simp [nmS]
  | x :: L => by
    have i1 := nmS_bd h L
    have i2 := h x
    simp only [nmS, List.length_cons]
    omega
/-- What a call leaves, and what always holds. -/
theorem cs_acc (s : Lg) (e : Le) (u : ByteArray) : (lgCS s e u).acc = s.acc ∧ (lgCS s e u).na = s.na ∧ (lgCS s e u).ne = s.ne + 1 := by
  unfold lgCS
  split <;> exact ⟨rfl, rfl, rfl⟩
theorem cs_ok {s : Lg} (h : LgOk s) {e : Le} {u : ByteArray} (hn : e.ps.length = e.np) (h0 : lgCE s e u = 0) : LgOk (lgCS s e u) := by
  unfold lgCE at h0
  unfold lgCS
  split
  · rename_i h1
    rw [if_pos h1] at h0
    exact lgOk_post h hn h0
  · rename_i h1
    rw [if_neg h1] at h0
    exact lgOk_rev h h0
end Go.Proofs.YtjjnbhbendlnhaaDoor

/- The law LedgerBalances. -/
namespace Go.Proofs.YtjjnbhbendlnhaaDoor
open Go.RowKit Go.Sy
attribute [local irreducible] vcall vloop vcallD retP
set_option maxRecDepth 100000
set_option linter.unusedVariables false
set_option linter.unusedSimpArgs false
attribute [local irreducible] seq ByteArray.extract lgE
abbrev lbRows (s : Lg) : Heap := [(9, lgBg false s), (4, some (.one false (.cells (lgF 5 6 7 8 9 s)))), (5, some (.one false (lgAcc s))), (6, some (.one false (lgEnt 10 s))), (7, some (.one false (lgPl s))), (8, some (.one false (lgSt s))), (10, lgFam false s)]
abbrev laH (l0 l1 : Nat) (q q0 q3 : List ByteArray) (q1 : List Int) (ns : List Nat) (Z : Nat → List Lp) (H : Heap) : Heap := (0, some (GB glT)) :: (1, some (.one true (.cols l0 [.sc (.strs q)]))) :: (2, some (.one true (doB l1 3 q0 q1 ns q3))) :: (3, doF l1 ns Z) :: H
def lbS (l0 l1 : Nat) (cu : ByteArray) (q q0 q3 : List ByteArray) (q1 : List Int) (ns : List Nat) (Z : Nat → List Lp) (x : Nat × Lg) : VS :=
  ⟨[(0, .sl 1 0 0 l0), (1, .sl 2 0 0 l1), (2, .str cu), (7, .ptr 4 0 0 0), (9, .int .i64 x.1)], laH l0 l1 q q0 q3 q1 ns Z (lbRows x.2), 11⟩
theorem acc_eq {s s' : Lg} (h1 : s'.acc = s.acc) (h2 : s'.na = s.na) : lgAcc s = lgAcc s' := by
  unfold lgAcc; rw [h1, h2]
theorem lb_round (l0 l1 : Nat) (cu : ByteArray) (q q0 q3 : List ByteArray) (q1 : List Int) (ns : List Nat) (Z : Nat → List Lp) (k : Nat) (s : Lg) (hk : k < l1) (hl : l1 ≤ 60) (hs : LgOk s) (hZ : (Z k).length = ns.getD k 0) (hne : s.ne ≤ k) (K : Exit → VS → Prop)
    (hK : ∀ v, (∃ (y : Nat × Lg) (l : List Nat) (u : List Up), (y.1 ≤ l1 ∧ LgOk y.2 ∧ y.2.acc = s.acc ∧ y.2.ne ≤ y.1) ∧ l1 - y.1 < l1 - k ∧ upK u v (fun v => Weak 4 l v (lbS l0 l1 cu q q0 q3 q1 ns Z y))) → K .normal v) :
    vcode Tryd.prog T 4 (lpc Tryd.f4 0) (lbS l0 l1 cu q q0 q3 q1 ns Z (k, s)) K := by
  by_cases h0 : lgCE s ⟨q0.getD k ⟨#[]⟩, q1.getD k 0, Z k, ns.getD k 0⟩ (q3.getD k ⟨#[]⟩) = 0
  · have c := law_callF_ok s (q0.getD k ⟨#[]⟩) (q3.getD k ⟨#[]⟩) (q1.getD k 0) (Z k) (ns.getD k 0) (fun x => x < l1) (fun x => poB (ns.getD x 0) (Z x)) k hk rfl hs hZ h0
    obtain ⟨a1, a2, a3⟩ := cs_acc s ⟨q0.getD k ⟨#[]⟩, q1.getD k 0, Z k, ns.getD k 0⟩ (q3.getD k ⟨#[]⟩)
    have ok := cs_ok hs (e := ⟨q0.getD k ⟨#[]⟩, q1.getD k 0, Z k, ns.getD k 0⟩) (u := q3.getD k ⟨#[]⟩) hZ h0
    generalize lgCS s ⟨q0.getD k ⟨#[]⟩, q1.getD k 0, Z k, ns.getD k 0⟩ (q3.getD k ⟨#[]⟩) = s' at *
    have ha := acc_eq a1 a2
    repeat' ((conv => whnf); first | refine vcall_o (l := [0, 4, 5, 6, 7, 8, 9, 10, 3]) (c) ?_ | ((first | apply br_dec | apply br_ndec) <;> intro h <;> try (exfalso; (try dsimp only at h); omega)) | ((first | apply br_seq | apply br_nseq | apply br_not | apply br_intro) <;> intro h) | refine cond_a ?_)
    all_goals (conv => whnf)
    all_goals first
      | (exfalso; omega)
      | exact hK _ ⟨(k + 1, s'), [0, 1, 2, 3, 4, 5, 11, 7, 8, 9, 12], [], ⟨by dsimp only; omega, ok, a1, by dsimp only; omega⟩, by dsimp only; omega, ⟨rfl, ⟨rfl, rfl, rfl, rfl, congrArg (fun z => some (SV.int .i64 z)) (i64_succ (by omega)), trivial⟩, ⟨gwk rfl, rfl, rfl, rfl, rfl, rfl, congrArg (fun z => some (HB.one false z)) ha, rfl, rfl, rfl, rfl, trivial⟩⟩⟩
      | trace_state
  · have c := law_callF_no s (q0.getD k ⟨#[]⟩) (q3.getD k ⟨#[]⟩) (q1.getD k 0) (Z k) (ns.getD k 0) (fun x => x < l1) (fun x => poB (ns.getD x 0) (Z x)) k hk rfl hs hZ h0
    generalize lgCE s ⟨q0.getD k ⟨#[]⟩, q1.getD k 0, Z k, ns.getD k 0⟩ (q3.getD k ⟨#[]⟩) = E at *
    repeat' ((conv => whnf); first | refine vcall_o (l := [0, 4, 5, 6, 7, 8, 9, 10, 3]) (c) ?_ | ((first | apply br_dec | apply br_ndec) <;> intro h <;> try (exfalso; (try dsimp only at h); omega)) | ((first | apply br_seq | apply br_nseq | apply br_not | apply br_intro) <;> intro h) | refine cond_a ?_)
    all_goals (conv => whnf)
    all_goals first
      | (exfalso; omega)
      | exact hK _ ⟨(k + 1, s), [0, 1, 2, 3, 4, 5, 6, 7, 8, 9, 10], [], ⟨by dsimp only; omega, hs, rfl, by dsimp only; omega⟩, by dsimp only; omega, ⟨rfl, ⟨rfl, rfl, rfl, rfl, congrArg (fun z => some (SV.int .i64 z)) (i64_succ (by omega)), trivial⟩, ⟨gwk rfl, rfl, rfl, rfl, rfl, rfl, rfl, rfl, rfl, rfl, rfl, trivial⟩⟩⟩
      | trace_state

/-- The state at the head of a round over the names. -/
abbrev lnH (l0 : Nat) (q : List ByteArray) (s : Lg) (tn : Nat) (Tr : List Lp) (H : Heap) : Heap := (0, some (GB glT)) :: (1, some (.one true (.cols l0 [.sc (.strs q)]))) :: (9, lgBg false s) :: (4, some (.one false (.cells (lgF 5 6 7 8 9 s)))) :: (6, some (.one false (lgEnt 10 s))) :: (10, lgFam false s) :: (11, some (.one false (poB tn Tr))) :: H
def lnS (l0 : Nat) (cu : ByteArray) (q : List ByteArray) (s : Lg) (tn : Nat) (Tr : List Lp) (k : Nat) : VS :=
  ⟨[(0, .sl 1 0 0 l0), (2, .str cu), (7, .ptr 4 0 0 0), (10, .int .i64 (nmS (fun a => s.bal a cu) (q.take k))), (11, .int .i64 ((q.take k).countP (nzA s cu) : Nat)), (12, .sl 11 0 0 tn), (13, .int .i64 k)], lnH l0 q s tn Tr [], 12⟩
theorem lb_names (l0 : Nat) (cu : ByteArray) (q : List ByteArray) (s : Lg) (tn : Nat) (Tr : List Lp) (hq : q.length = l0) (hl : l0 ≤ 30) (hs : LgOk s) (ha : s.acc = q) (h60 : s.ne ≤ 60) (hT : Tr = (trA s cu).filter nzP) (htn : Tr.length = tn) (k : Nat) (hk : k < l0) (K : Exit → VS → Prop)
    (hK : ∀ v, (∃ (y : Nat) (l : List Nat) (u : List Up), y ≤ l0 ∧ l0 - y < l0 - k ∧ upK u v (fun v => Weak 4 l v (lnS l0 cu q s tn Tr y))) → K .normal v) :
    vcode Tryd.prog T 4 (lpc Tryd.f4 1) (lnS l0 cu q s tn Tr k) K := by
  have hy : q.getD k ⟨#[]⟩ ∈ s.acc := by rw [ha, List.getD, List.getElem?_eq_getElem (by omega)]; exact List.getElem_mem _
  have hn2 := nmS_next (fun a => s.bal a cu) (L := q) (k := k) (by omega)
  have hc2 := cn_next (p := nzA s cu) (L := q) (k := k) ⟨#[]⟩ (by omega)
  have hb2 := nmS_bd (f := fun a => s.bal a cu) (fun a => hs.rng a cu) (q.take (k + 1))
  rw [List.length_take, Nat.min_eq_left (by omega)] at hb2
  have hcl : (q.take k).countP (nzA s cu) ≤ 30 := Nat.le_trans List.countP_le_length (by rw [List.length_take]; omega)
  have hct := tr_count hs (cu := cu) hy
  rw [← hT] at hct
  have hct2 : ∀ j, (Tr.take j).countP (isV (q.getD k ⟨#[]⟩) cu (s.bal (q.getD k ⟨#[]⟩) cu)) ≤ 512 := by
    intro j
    have e := (List.take_append_drop j Tr).symm
    rw [e, List.countP_append] at hct
    split at hct <;> omega
  have hsl := stP_le hs (q.getD k ⟨#[]⟩)
  have hsm := fun x hx => stP_mem hs (y := q.getD k ⟨#[]⟩) (x := x) hx
  have hbal : cuS cu (stP (q.getD k ⟨#[]⟩) s.ent) = s.bal (q.getD k ⟨#[]⟩) cu := by rw [cuS_st, hs.bal]
  have hrg := hs.rng (q.getD k ⟨#[]⟩) cu
  have htl : tn ≤ 512 := by rw [← htn, hT, tr_len]; exact Nat.le_trans List.countP_le_length (by have := hs.na; have := hs.n512; omega)
  have c1 := lg_Statement s (q.getD k ⟨#[]⟩) hs
  have c2 := lg_Balance s (q.getD k ⟨#[]⟩) cu
  unfold nzA at hc2
  have hnzA : nzA s cu = fun a => !decide (s.bal a cu = 0) := rfl
  rw [← hnzA] at hc2
  generalize hS : stP (q.getD k ⟨#[]⟩) s.ent = S at *
  generalize hv : s.bal (q.getD k ⟨#[]⟩) cu = v at *
  generalize htt : nmS (fun a => s.bal a cu) (q.take k) = tt at *
  generalize hcc : (q.take k).countP (nzA s cu) = cc at *
  generalize hm : S.length = m at *
  unfold lnS
  rw [htt, hcc]
  repeat' ((conv => whnf); first | refine vcall_o (l := [0, 4, 5, 6, 7, 8, 9, 10]) (c1) ?_ | ((first | apply br_dec | apply br_ndec) <;> intro h <;> try (exfalso; (try dsimp only at h); omega)) | ((first | apply br_seq | apply br_nseq | apply br_not | apply br_intro) <;> intro h) | refine cond_a ?_)
  all_goals (conv => whnf)
  all_goals first
    | (exfalso; omega)
    | skip
  refine vloop_of (fun j : Nat => ⟨[(0, .sl 1 0 0 l0), (2, .str cu), (7, .ptr 4 0 0 0), (10, .int .i64 tt), (11, .int .i64 cc), (12, .sl 11 0 0 tn), (13, .int .i64 k), (14, .int .i64 (cuS cu (S.take j))), (15, .sl 12 0 0 m), (16, .int .i64 j)], lnH l0 q s tn Tr [(12, some (.one false (poB m S)))], 13⟩) (fun j => j ≤ m) (fun j => m - j) 0 [0, 1, 2, 3, 4, 5, 6, 7, 8, 9, 10, 11, 12] [] ⟨rfl, ⟨rfl, rfl, rfl, rfl, rfl, rfl, rfl, rfl, rfl, rfl, trivial⟩, ⟨gwk rfl, rfl, rfl, rfl, rfl, rfl, rfl, rfl, trivial⟩⟩ (Nat.zero_le _) ?_
  intro j hj
  have hSb := cuS_bd cu (L := S.take (j + 1)) (fun x hx => (hsm x (List.mem_of_mem_take hx)).2)
  rw [List.length_take] at hSb
  by_cases hj2 : j < m
  · have hx := hsm (S.getD j lp0) (by rw [List.getD, List.getElem?_eq_getElem (by omega)]; exact List.getElem_mem _)
    have ea := hx.1
    rw [← lp_a] at ea
    have en := cuS_next (c := cu) (L := S) (k := j) (by omega)
    rw [← lp_c, ← lp_n] at en
    by_cases hcu : (S.map Lp.c).getD j ⟨#[]⟩ = cu
    · rw [if_pos hcu] at en
      have e14 : (some (SV.int .i64 (IntKind.i64.wrap (cuS cu (S.take j) + (S.map Lp.n).getD j 0))) : Option SV) = some (.int .i64 (cuS cu (S.take (j + 1)))) := congrArg (fun z => some (SV.int .i64 z)) (by rw [en] at hSb ⊢; exact w64_in (by omega) (by omega))
      repeat' ((conv => whnf); first | ((first | apply br_dec | apply br_ndec) <;> intro h <;> try (exfalso; (try dsimp only at h); omega)) | ((first | apply br_seq | apply br_nseq | apply br_not | apply br_intro) <;> intro h) | refine cond_a ?_)
      all_goals (conv => whnf)
      all_goals first
        | (exfalso; omega)
        | (exfalso; exact h ea)
        | (exfalso; exact h hcu)
        | exact ⟨j + 1, [0, 1, 2, 3, 4, 5, 6, 7, 8, 9, 10, 11, 12], [], hj2, (show m - (j + 1) < m - j by omega), ⟨rfl, ⟨rfl, rfl, rfl, rfl, rfl, rfl, rfl, e14, rfl, congrArg (fun z => some (SV.int .i64 z)) (i64_succ (by omega)), trivial⟩, ⟨gwk rfl, rfl, rfl, rfl, rfl, rfl, rfl, rfl, trivial⟩⟩⟩
        | trace_state
    · rw [if_neg hcu, Int.add_zero] at en
      have e14 : (some (SV.int .i64 (cuS cu (S.take j))) : Option SV) = some (.int .i64 (cuS cu (S.take (j + 1)))) := by rw [en]
      repeat' ((conv => whnf); first | ((first | apply br_dec | apply br_ndec) <;> intro h <;> try (exfalso; (try dsimp only at h); omega)) | ((first | apply br_seq | apply br_nseq | apply br_not | apply br_intro) <;> intro h) | refine cond_a ?_)
      all_goals (conv => whnf)
      all_goals first
        | (exfalso; omega)
        | (exfalso; exact h ea)
        | (exfalso; exact hcu h)
        | exact ⟨j + 1, [0, 1, 2, 3, 4, 5, 6, 7, 8, 9, 10, 11, 12], [], hj2, (show m - (j + 1) < m - j by omega), ⟨rfl, ⟨rfl, rfl, rfl, rfl, rfl, rfl, rfl, e14, rfl, congrArg (fun z => some (SV.int .i64 z)) (i64_succ (by omega)), trivial⟩, ⟨gwk rfl, rfl, rfl, rfl, rfl, rfl, rfl, rfl, trivial⟩⟩⟩
        | trace_state
  obtain rfl : j = m := by omega
  rw [show S.take j = S from List.take_of_length_le (by omega), hbal]
  repeat' ((conv => whnf); first | refine vcall_o (l := [0, 4, 5, 6, 7, 8, 9]) (c2) ?_ | ((first | apply br_dec | apply br_ndec) <;> intro h <;> try (exfalso; (try dsimp only at h); omega)) | ((first | apply br_seq | apply br_nseq | apply br_not | apply br_intro) <;> intro h) | refine cond_a ?_)
  all_goals (conv => whnf)
  all_goals first
    | (exfalso; omega)
    | (exfalso; exact h rfl)
    | skip
  refine vloop_of (fun i : Nat => ⟨[(0, .sl 1 0 0 l0), (2, .str cu), (7, .ptr 4 0 0 0), (10, .int .i64 (tt + v)), (11, .int .i64 cc), (12, .sl 11 0 0 tn), (13, .int .i64 k), (14, .int .i64 v), (17, .int .i64 ((Tr.take i).countP (isV (q.getD k ⟨#[]⟩) cu v) : Nat)), (18, .int .i64 i)], lnH l0 q s tn Tr [], 12⟩) (fun i => i ≤ tn) (fun i => tn - i) 0 [0, 1, 2, 3, 4, 5, 6, 7, 8, 9, 10, 11] [] ⟨rfl, ⟨rfl, rfl, rfl, congrArg (fun z => some (SV.int .i64 z)) (w64_in (by omega) (by omega)), rfl, rfl, rfl, rfl, rfl, rfl, trivial⟩, ⟨gwk rfl, rfl, rfl, rfl, rfl, rfl, rfl, trivial⟩⟩ (Nat.zero_le _) ?_
  intro i hi
  have hci := hct2 i
  by_cases hi2 : i < tn
  · have en := cn_next (p := isV (q.getD k ⟨#[]⟩) cu v) (L := Tr) (k := i) lp0 (by omega)
    by_cases hv : (Tr.map Lp.a).getD i ⟨#[]⟩ = q.getD k ⟨#[]⟩ ∧ (Tr.map Lp.n).getD i 0 = v ∧ (Tr.map Lp.c).getD i ⟨#[]⟩ = cu
    · rw [if_pos (isV_iff.2 (by rw [lp_a, lp_n, lp_c] at hv; exact hv))] at en
      obtain ⟨v1, v2, v3⟩ := hv
      have e17 : (some (SV.int .i64 (IntKind.i64.wrap (((Tr.take i).countP (isV (q.getD k ⟨#[]⟩) cu v) : Nat) + 1))) : Option SV) = some (.int .i64 ((Tr.take (i + 1)).countP (isV (q.getD k ⟨#[]⟩) cu v) : Nat)) := congrArg (fun z => some (SV.int .i64 z)) (by rw [en]; exact i64_succ (by omega))
      repeat' ((conv => whnf); first | ((first | apply br_dec | apply br_ndec) <;> intro h <;> try (exfalso; (try dsimp only at h); omega)) | ((first | apply br_seq | apply br_nseq | apply br_not | apply br_intro) <;> intro h) | refine cond_a ?_)
      all_goals (conv => whnf)
      all_goals first
        | (exfalso; omega)
        | (exfalso; exact h v1)
        | (exfalso; exact h v2)
        | (exfalso; exact h v3)
        | exact ⟨i + 1, [0, 1, 2, 3, 4, 5, 6, 7, 8, 9, 10, 11], [], hi2, (show tn - (i + 1) < tn - i by omega), ⟨rfl, ⟨rfl, rfl, rfl, rfl, rfl, rfl, rfl, rfl, e17, congrArg (fun z => some (SV.int .i64 z)) (i64_succ (by omega)), trivial⟩, ⟨gwk rfl, rfl, rfl, rfl, rfl, rfl, rfl, trivial⟩⟩⟩
        | trace_state
    · rw [if_neg (fun h => hv (by have h := isV_iff.1 h; rw [lp_a, lp_n, lp_c]; exact h)), Nat.add_zero] at en
      have e17 : (some (SV.int .i64 ((Tr.take i).countP (isV (q.getD k ⟨#[]⟩) cu v) : Nat)) : Option SV) = some (.int .i64 ((Tr.take (i + 1)).countP (isV (q.getD k ⟨#[]⟩) cu v) : Nat)) := by rw [en]; rfl
      repeat' ((conv => whnf); first | ((first | apply br_dec | apply br_ndec) <;> intro h <;> try (exfalso; (try dsimp only at h); omega)) | ((first | apply br_seq | apply br_nseq | apply br_not | apply br_intro) <;> intro h) | refine cond_a ?_)
      all_goals (conv => whnf)
      all_goals first
        | (exfalso; omega)
        | (exfalso; exact hv ⟨by assumption, by assumption, by assumption⟩)
        | exact ⟨i + 1, [0, 1, 2, 3, 4, 5, 6, 7, 8, 9, 10, 11], [], hi2, (show tn - (i + 1) < tn - i by omega), ⟨rfl, ⟨rfl, rfl, rfl, rfl, rfl, rfl, rfl, rfl, e17, congrArg (fun z => some (SV.int .i64 z)) (i64_succ (by omega)), trivial⟩, ⟨gwk rfl, rfl, rfl, rfl, rfl, rfl, rfl, trivial⟩⟩⟩
        | trace_state
  obtain rfl : i = tn := by omega
  rw [show Tr.take i = Tr from List.take_of_length_le (by omega), hct]
  by_cases hv0 : v = 0
  · subst hv0
    rw [if_pos rfl]
    rw [if_neg (by decide), Nat.add_zero] at hc2
    repeat' ((conv => whnf); first | ((first | apply br_dec | apply br_ndec) <;> intro h <;> try (exfalso; (try dsimp only at h); omega)) | ((first | apply br_seq | apply br_nseq | apply br_not | apply br_intro) <;> intro h) | refine cond_a ?_)
    all_goals (conv => whnf)
    all_goals first
      | (exfalso; omega)
      | (exfalso; exact h rfl)
      | (refine hK _ ⟨k + 1, [0, 1, 2, 3, 4, 5, 6, 7, 8, 9, 10, 11], [], by omega, by omega, ?_⟩
         unfold lnS
         rw [hn2, hc2]
         exact ⟨rfl, ⟨rfl, rfl, rfl, rfl, rfl, rfl, congrArg (fun z => some (SV.int .i64 z)) (i64_succ (by omega)), trivial⟩, ⟨gwk rfl, rfl, rfl, rfl, rfl, rfl, rfl, trivial⟩⟩)
      | trace_state
  · rw [if_neg hv0]
    have hd : decide (v = 0) = false := decide_eq_false hv0
    rw [hd, if_pos (show (!false) = true from rfl)] at hc2
    repeat' ((conv => whnf); first | (rw [hd]) | ((first | apply br_dec | apply br_ndec) <;> intro h <;> try (exfalso; (try dsimp only at h); omega)) | ((first | apply br_seq | apply br_nseq | apply br_not | apply br_intro) <;> intro h) | refine cond_a ?_)
    all_goals (conv => whnf)
    all_goals first
      | (exfalso; omega)
      | (exfalso; exact h rfl)
      | (exfalso; exact hv0 h)
      | (refine hK _ ⟨k + 1, [0, 1, 2, 3, 4, 5, 6, 7, 8, 9, 10, 11], [], by omega, by omega, ?_⟩
         unfold lnS
         rw [hn2, hc2]
         exact ⟨rfl, ⟨rfl, rfl, rfl, rfl, congrArg (fun z => some (SV.int .i64 z)) (i64_succ (by omega)), rfl, congrArg (fun z => some (SV.int .i64 z)) (i64_succ (by omega)), trivial⟩, ⟨gwk rfl, rfl, rfl, rfl, rfl, rfl, rfl, trivial⟩⟩)
      | trace_state
end Go.Proofs.YtjjnbhbendlnhaaDoor

/- The law LedgerBalances, as a whole. -/
namespace Go.Proofs.YtjjnbhbendlnhaaDoor
open Go.RowKit Go.Sy
attribute [local irreducible] vcall vloop vcallD retP
set_option maxRecDepth 100000
set_option linter.unusedVariables false
set_option linter.unusedSimpArgs false
attribute [local irreducible] seq ByteArray.extract lgE
theorem ac_yes {q : List ByteArray} {n : Nat} {m : Int} (h : acB q n m = true) : (n : Int) ≤ m := by
  unfold acB at h; exact (of_decide_eq_true h).2
theorem sm_yes {q0 q3 : List ByteArray} {Z : Nat → List Lp} {ns : List Nat} {l : Nat} {m : Int} (h : smB q0 q3 Z ns l m = true) : (l : Int) ≤ m := by
  unfold smB at h; exact (of_decide_eq_true h).2
theorem law_Balances (l0 l1 : Nat) (cu : ByteArray) (q q0 q3 : List ByteArray) (q1 : List Int) (ns : List Nat) (Z : Nat → List Lp) (hq : q.length = l0) (hl0 : l0 ≤ maxLen) (hl1 : l1 ≤ maxLen) (hZ : ∀ x, x < l1 → (Z x).length = ns.getD x 0) :
    FC Tryd.prog 4 4 [.sl 1 0 0 l0, .sl 2 0 0 l1, .str cu] (laH l0 l1 q q0 q3 q1 ns Z []) (isOut (.bool true) [] 4) := by
  have eM : maxLen = 9223372036854775807 := rfl
  have cA := law_awake
  have c1 := law_accounts q l0 30 (by omega)
  have c2 := law_small q0 q3 q1 Z ns l1 60 (by omega)
  by_cases hn : nwE q = 0
  case neg =>
    have c0 := lg_New_no q l0 hq hn
    generalize nwE q = E at *
    have hd : decide (E = 0) = false := decide_eq_false hn
    refine fc_of mixed T_ok Tryd.func4 rfl (by kernel_rfl) (by kernel_rfl) (by kernel_rfl) ?_
    repeat' ((conv => whnf); first | refine vcall_o (l := [0, 1]) (c0) ?_ | (refine vcall_glob (cA) rfl rfl rfl rfl ?_) | (refine vcallD_glob (cA) rfl rfl rfl rfl ?_) | (rw [hd]) | ((first | apply br_dec | apply br_ndec) <;> intro h <;> try (exfalso; (try dsimp only at h); omega)) | ((first | apply br_seq | apply br_nseq | apply br_not | apply br_intro) <;> intro h) | refine cond_a ?_)
    all_goals (conv => whnf)
    all_goals first
      | exact ret_out (l := [0, 1, 2, 3]) rfl rfl trivial allRw_nil
      | (exfalso; omega)
      | (exfalso; exact hn h)
      | trace_state
  have c0 := lg_New_ok q l0 hq hn
  have ok0 := lg0_ok hn
  have a0 : (lg0 q).acc = q := rfl
  have n0 : (lg0 q).ne = 0 := rfl
  generalize lg0 q = s0 at *
  have y1 := fun h => ac_yes (q := q) (n := l0) (m := 30) h
  have y2 := fun h => sm_yes (q0 := q0) (q3 := q3) (Z := Z) (ns := ns) (l := l1) (m := 60) h
  generalize acB q l0 30 = b1 at *
  generalize smB q0 q3 Z ns l1 60 = b2 at *
  refine fc_of mixed T_ok Tryd.func4 rfl (by kernel_rfl) (by kernel_rfl) (by kernel_rfl) ?_
  repeat' ((conv => whnf); first | refine vcall_o (l := [0, 1]) (c0) ?_ | refine vcall_o (l := [0, 1]) (c1) ?_ | refine vcall_o (l := [0, 2, 3]) (c2) ?_ | (refine vcall_glob (cA) rfl rfl rfl rfl ?_) | (refine vcallD_glob (cA) rfl rfl rfl rfl ?_) | ((first | apply br_dec | apply br_ndec) <;> intro h <;> try (exfalso; (try dsimp only at h); omega)) | ((first | apply br_seq | apply br_nseq | apply br_not | apply br_intro) <;> intro h) | refine cond_a ?_)
  all_goals (conv => whnf)
  all_goals first
    | exact ret_out (l := [0, 1, 2, 3]) rfl rfl trivial allRw_nil
    | (exfalso; omega)
    | (exfalso; exact h rfl)
    | skip
  have h30 := y1 (by assumption)
  have h60 := y2 (by assumption)
  refine vloop_of (lbS l0 l1 cu q q0 q3 q1 ns Z) (fun x => x.1 ≤ l1 ∧ LgOk x.2 ∧ x.2.acc = q ∧ x.2.ne ≤ x.1) (fun x => l1 - x.1) (0, s0) [0, 1, 2, 3, 4, 5, 6, 7, 8, 9, 10] [] ⟨rfl, ⟨rfl, rfl, rfl, rfl, rfl, trivial⟩, ⟨gwk rfl, rfl, rfl, rfl, rfl, rfl, rfl, rfl, rfl, rfl, rfl, trivial⟩⟩ ⟨Nat.zero_le _, ok0, a0, by dsimp only; omega⟩ ?_
  rintro ⟨k, s⟩ ⟨hk, hs, ha, hne⟩
  dsimp only at hk hs ha hne
  by_cases hk2 : k < l1
  · refine lb_round l0 l1 cu q q0 q3 q1 ns Z k s hk2 (by omega) hs (hZ k hk2) hne _ (fun v hv => ?_)
    rw [ha] at hv
    exact hv
  obtain rfl : k = l1 := by omega
  have c3 := lg_Trial s cu hs
  generalize hT : (trA s cu).filter nzP = Tr at *
  generalize htn : Tr.length = tn at *
  unfold lbS
  repeat' ((conv => whnf); first | refine vcall_o (l := [0, 4, 5, 6, 7, 8, 9]) (c3) ?_ | ((first | apply br_dec | apply br_ndec) <;> intro h <;> try (exfalso; (try dsimp only at h); omega)) | ((first | apply br_seq | apply br_nseq | apply br_not | apply br_intro) <;> intro h) | refine cond_a ?_)
  all_goals (conv => whnf)
  all_goals first
    | (exfalso; omega)
    | skip
  refine vloop_of (lnS l0 cu q s tn Tr) (fun x => x ≤ l0) (fun x => l0 - x) 0 [0, 1, 2, 3, 4, 5, 6, 7, 8, 9, 10, 11] [] ⟨rfl, ⟨rfl, rfl, rfl, rfl, rfl, rfl, rfl, trivial⟩, ⟨gwk rfl, rfl, rfl, rfl, rfl, rfl, rfl, trivial⟩⟩ (Nat.zero_le _) ?_
  intro i hi
  by_cases hi2 : i < l0
  · exact lb_names l0 cu q s tn Tr hq (by omega) hs ha (by omega) hT.symm htn i hi2 _ (fun v hv => hv)
  obtain rfl : i = l0 := by omega
  have ht : nmS (fun a => s.bal a cu) (q.take i) = 0 := by rw [List.take_of_length_le (by omega), ← ha]; exact lg_total hs cu
  have hcn : (q.take i).countP (nzA s cu) = tn := by rw [List.take_of_length_le (by omega), ← htn, ← hT, tr_len, ha]
  unfold lnS
  rw [ht, hcn]
  repeat' ((conv => whnf); first | (refine vcall_glob (cA) rfl rfl rfl rfl ?_) | (refine vcallD_glob (cA) rfl rfl rfl rfl ?_) | ((first | apply br_dec | apply br_ndec) <;> intro h <;> try (exfalso; (try dsimp only at h); omega)) | ((first | apply br_seq | apply br_nseq | apply br_not | apply br_intro) <;> intro h) | refine cond_a ?_)
  all_goals (conv => whnf)
  all_goals first
    | (exfalso; omega)
    | (exfalso; exact h rfl)
    | exact ret_out (l := [0, 1, 2, 3]) rfl rfl trivial allRw_nil
    | trace_state
end Go.Proofs.YtjjnbhbendlnhaaDoor

