/- Several texts in one: XLgH, XLgI, XLgJ, XLgK, XLgL, XLgM, XLgO, XLgN, XSortP, XLgR, XLgS, XLgV, XLgW, XLgT, XLgU, XLgX, XLgY. -/
import Derived.Test.YtjjnbhbendlnhaaDoorLr1
import Derived.Test.YtjjnbhbendlnhaaDoorYKeys
import Derived.Test.YtjjnbhbendlnhaaDoorLay
import Derived.Test.YtjjnbhbendlnhaaDoorYGb
import Derived.Test.YtjjnbhbendlnhaaDoorYSort
import Derived.Sort.Walk0
import Derived.Test.YtjjnbhbendlnhaaDoorYEnt
/- Contracts of package ledger: Entries. -/
namespace Go.Proofs.YtjjnbhbendlnhaaDoor
open Go.RowKit Go.Sy
attribute [local irreducible] vcall vloop vcallD retP
set_option maxRecDepth 100000
set_option linter.unusedVariables false
set_option linter.unusedSimpArgs false
attribute [local irreducible] seq ByteArray.extract
/-- The first entries. -/
abbrev sT (s : Lg) (k : Nat) : Lg := { s with ne := k, ent := s.ent.take k }
def enS (s : Lg) (k : Nat) : VS := ⟨[(3, .sl 8 0 0 k), (11, .sl 3 0 0 s.ne), (12, .int .i64 s.ne), (13, .int .i64 k)], [(1, some (.one true (.cells (lgF 2 3 4 5 6 s)))), (3, some (.one true (lgEnt 7 s))), (7, lgFam true s), (8, some (.one false (lgEnt 9 (sT s k)))), (9, lgFam false (sT s k))], 10⟩
theorem enS_put {s : Lg} {k : Nat} (hk : k < s.ent.length) : enS s (k + 1) = ⟨[(3, .sl 8 0 0 (k + 1)), (11, .sl 3 0 0 s.ne), (12, .int .i64 s.ne), (13, .int .i64 (k + 1 : Nat))], [(1, some (.one true (.cells (lgF 2 3 4 5 6 s)))), (3, some (.one true (lgEnt 7 s))), (7, lgFam true s), (8, some (.one false (.cols (k + 1) [.sc (.strs ((s.ent.take k).map Le.id ++ [(s.ent.map Le.id).getD k ⟨#[]⟩])), .sc (.ints .i64 ((s.ent.take k).map Le.date ++ [(s.ent.map Le.date).getD k 0])), .own 9 ((s.ent.take k).map Le.np ++ [(s.ent.map Le.np).getD k 0])]))), (9, some (.fam false (fun x => x < k + 1) (enF (s.ent.take k ++ [s.ent.getD k le0]))))], 10⟩ := by
  have e : s.ent.take (k + 1) = s.ent.take k ++ [s.ent.getD k le0] := by
    rw [List.take_add_one, List.getD, List.getElem?_eq_getElem hk]; rfl
  unfold enS
  show VS.mk _ [_, _, _, (8, some (HB.one false (.cols (k + 1) [.sc (.strs ((s.ent.take (k + 1)).map Le.id)), .sc (.ints .i64 ((s.ent.take (k + 1)).map Le.date)), .own 9 ((s.ent.take (k + 1)).map Le.np)]))), (9, some (HB.fam false (fun x => x < k + 1) (enF (s.ent.take (k + 1)))))] _ = _
  rw [e, le_id, le_date, le_np]
  simp only [List.map_append, List.map_cons, List.map_nil]
theorem enS_end {s : Lg} (h : s.ent.length = s.ne) : enS s s.ne = ⟨[(3, .sl 8 0 0 s.ne), (11, .sl 3 0 0 s.ne), (12, .int .i64 s.ne), (13, .int .i64 s.ne)], [(1, some (.one true (.cells (lgF 2 3 4 5 6 s)))), (3, some (.one true (lgEnt 7 s))), (7, lgFam true s), (8, some (.one false (lgEnt 9 s))), (9, lgFam false s)], 10⟩ := by
  have e : sT s s.ne = s := by
    show ({ s with ne := s.ne, ent := s.ent.take s.ne } : Lg) = s
    rw [List.take_of_length_le (by omega)]
  unfold enS
  rw [e]
theorem lg_Entries (s : Lg) (hs : LgOk s) : FC Tryd.prog 8 9 [.ptr 1 0 0 0] [(1, some (.one true (.cells (lgF 2 3 4 5 6 s)))), (3, some (.one true (lgEnt 7 s))), (7, lgFam true s)] (isOut (.sl 8 0 0 s.ne) [(8, some (.one false (lgEnt 9 s))), (9, lgFam false s)] 10) := by
  have hne := hs.ne
  have h512 := hs.e512
  refine fc_of mixed T_ok Tryd.func9 rfl (by kernel_rfl) (by kernel_rfl) (by kernel_rfl) ?_
  repeat' ((conv => whnf); first | ((first | apply br_dec | apply br_ndec) <;> intro h <;> try (exfalso; (try dsimp only at h); omega)) | ((first | apply br_seq | apply br_nseq | apply br_not | apply br_intro) <;> intro h) | refine cond_a ?_)
  all_goals (conv => whnf)
  refine vloop_of (enS s) (fun k => k ≤ s.ne) (fun k => s.ne - k) 0 [0, 1, 2, 3, 4, 5, 6, 7, 8, 9] [.slot 3 [.sc (.strs []), .sc (.ints .i64 []), .svs []], .relab (fun _ _ => none) (fun _ => 0) [(8, some (.one false (.cols 0 [.sc (.strs []), .sc (.ints .i64 []), .own 9 []]))), (9 + 0, some (.fam false (fun x => x < 0) (enF [])))] [] 1] ⟨relab_ent_start (n := 9) (a := 8) (by decide) rfl, rfl, ⟨rfl, rfl, rfl, rfl, trivial⟩, ⟨rfl, rfl, rfl, rfl, rfl, trivial⟩⟩ (Nat.zero_le _) ?_
  intro k hk
  by_cases hk2 : k < s.ne
  · have hkl : k < s.ent.length := by omega
    have hm : s.ent.getD k le0 ∈ s.ent := by rw [List.getD, List.getElem?_eq_getElem hkl]; exact List.getElem_mem hkl
    have hok := hs.ent _ hm
    have hNP := le_np s.ent k
    have hF : enF s.ent k = poB ((s.ent.map Le.np).getD k 0) (s.ent.getD k le0).ps := by rw [hNP]; rfl
    have c1 := lg_copyF (fun x => x < s.ne) (enF s.ent) k ((s.ent.map Le.id).getD k ⟨#[]⟩) ((s.ent.map Le.date).getD k 0) (s.ent.getD k le0).ps ((s.ent.map Le.np).getD k 0) hk2 hF (by rw [hNP]; exact hok.n) (by rw [hNP]; exact hok.n1) (by rw [hNP]; have := hok.n16; omega)
    have hput := enS_put hkl
    repeat' ((conv => whnf); first | refine vcall_o (l := [0, 7]) (c1) ?_ | refine vcallD_o (l := [0, 7]) (c1) ?_ | ((first | apply br_dec | apply br_ndec) <;> intro h <;> try (exfalso; (try dsimp only at h); omega)) | ((first | apply br_seq | apply br_nseq | apply br_not | apply br_intro) <;> intro h) | refine cond_a ?_)
    all_goals (conv => whnf)
    all_goals first
      | (exfalso; omega)
      | skip
    refine ⟨k + 1, [0, 1, 2, 3, 4, 5, 6, 7, 13, 14], [.relab (gdR 14 k [⟨9, 11, enF (s.ent.take k ++ [s.ent.getD k le0])⟩]) (fun _ => 0) [(13, some (.one false (.cols (k + 1) [.sc (.strs ((s.ent.take k).map Le.id ++ [(s.ent.map Le.id).getD k ⟨#[]⟩])), .sc (.ints .i64 ((s.ent.take k).map Le.date ++ [(s.ent.map Le.date).getD k 0])), .own 14 ((s.ent.take k).map Le.np ++ [(s.ent.map Le.np).getD k 0])]))), (14 + 0, some (.fam false (fun x => x < k + 1) (enF (s.ent.take k ++ [s.ent.getD k le0]))))] [9, 11] 1], hk2, (show s.ne - (k + 1) < s.ne - k by omega), ?_⟩
    have hlt : (s.ent.take k).length = k := by rw [List.length_take]; omega
    rw [hput]
    exact ⟨relab_ent_put (by rw [List.length_map]; exact hlt) (by show ((s.ent.take k).map Le.id ++ [(s.ent.map Le.id).getD k ⟨#[]⟩]).length = k + 1; simp [hlt]; omega) (by show ((s.ent.take k).map Le.date ++ [(s.ent.map Le.date).getD k 0]).length = k + 1; simp [hlt]; omega) (by omega) rfl rfl (fun q hq => hq) rfl (by decide) (by decide) (by decide) (fun q hq => enF_old q (by rw [hlt]; exact hq)) (by rw [hNP]; exact Eq.trans (congrArg (enF _) hlt.symm) enF_new), rfl, ⟨rfl, rfl, rfl, congrArg (fun z => some (SV.int .i64 z)) (i64_succ (by omega)), trivial⟩, ⟨rfl, rfl, rfl, rfl, rfl, trivial⟩⟩
  have ek : k = s.ne := by omega
  subst ek
  rw [enS_end hne]
  repeat' ((conv => whnf); first | ((first | apply br_dec | apply br_ndec) <;> intro h <;> try (exfalso; (try dsimp only at h); omega)) | ((first | apply br_seq | apply br_nseq | apply br_not | apply br_intro) <;> intro h) | refine cond_a ?_)
  all_goals (conv => whnf)
  all_goals first
    | (exfalso; omega)
    | exact ret_out (l := [0, 1, 2, 3, 4, 5, 6, 7, 8, 9]) rfl rfl ⟨rfl, rfl, trivial⟩ (allRw_cons (allRw_fam allRw_nil))
end Go.Proofs.YtjjnbhbendlnhaaDoor

/- Contracts of package ledger: filter, Trial, Statement. -/
namespace Go.Proofs.YtjjnbhbendlnhaaDoor
open Go.RowKit Go.Sy
attribute [local irreducible] vcall vloop vcallD retP
set_option maxRecDepth 100000
set_option linter.unusedVariables false
set_option linter.unusedSimpArgs false

theorem po_app {Q : List Lp} {j : Nat} {x : Lp} {a c : ByteArray} {v : Int} (hx : x = ⟨a, v, c⟩) : (some (HB.one false (.cols (j + 1) [.sc (.strs (Q.map Lp.a ++ [a])), .sc (.ints .i64 (Q.map Lp.n ++ [v])), .sc (.strs (Q.map Lp.c ++ [c]))])) : Option HB) = some (.one false (poB (j + 1) (Q ++ [x]))) := by
  subst hx
  unfold poB
  simp
theorem flt_step {L : List Lp} {p : Lp → Bool} {k : Nat} (hk : k < L.length) : (L.take (k + 1)).filter p = if p (L.getD k lp0) = true then (L.take k).filter p ++ [L.getD k lp0] else (L.take k).filter p := by
  rw [lg_take hk, List.filter_append, List.filter_cons]
  split
  · rfl
  · rw [List.filter_nil, List.append_nil]
theorem flt_len (L : List Lp) (p : Lp → Bool) (k : Nat) : ((L.take k).filter p).length ≤ k := Nat.le_trans (List.length_filter_le _ _) (by rw [List.length_take]; omega)
/-- The postings that are not zero. -/
def nzP (x : Lp) : Bool := !decide (x.n = 0)
theorem tr_fn (a c : ByteArray) (n : Int) : Pure Tryd.prog 30 [.agg [.str a, .int .i64 n, .str c]] (.bool (!decide (n = 0))) := by
  refine fc_of mixed T_ok Tryd.func30 rfl (by kernel_rfl) (by kernel_rfl) (by kernel_rfl) ?_
  repeat' ((conv => whnf); first | ((first | apply br_dec | apply br_ndec) <;> intro h <;> try (exfalso; (try dsimp only at h); omega)) | ((first | apply br_seq | apply br_nseq | apply br_not | apply br_intro) <;> intro h) | refine cond_a ?_)
  all_goals (conv => whnf)
  exact ret_pure rfl
attribute [local irreducible] seq ByteArray.extract
theorem lg_filterN (L : List Lp) (n : Nat) (hn : L.length = n) (h6 : n ≤ 100000) : FC Tryd.prog 2 29 [.sl 1 0 0 n, .fn 30 []] [(1, some (.one true (poB n L)))] (isOut (.sl 2 0 0 (L.filter nzP).length) [(2, some (.one false (poB (L.filter nzP).length (L.filter nzP))))] 3) := by
  unfold poB
  refine fc_of mixed T_ok Tryd.func29 rfl (by kernel_rfl) (by kernel_rfl) (by kernel_rfl) ?_
  repeat' ((conv => whnf); first | ((first | apply br_dec | apply br_ndec) <;> intro h <;> try (exfalso; (try dsimp only at h); omega)) | ((first | apply br_seq | apply br_nseq | apply br_not | apply br_intro) <;> intro h) | refine cond_a ?_)
  all_goals (conv => whnf)
  refine vloop_of (fun k : Nat => ⟨[(1, .fn 30 []), (5, .sl 2 0 0 ((L.take k).filter nzP).length), (8, .sl 1 0 0 n), (9, .int .i64 n), (10, .int .i64 k)], [(1, some (.one true (poB n L))), (2, some (.one false (poB ((L.take k).filter nzP).length ((L.take k).filter nzP))))], 3⟩) (fun k => k ≤ n) (fun k => n - k) 0 [0, 1, 2] [.slot 5 [.sc (.strs []), .sc (.ints .i64 []), .sc (.strs [])]] ⟨rfl, ⟨rfl, rfl, rfl, rfl, rfl, trivial⟩, ⟨rfl, rfl, trivial⟩⟩ (Nat.zero_le _) ?_
  intro k hk
  have hfl := flt_len L nzP k
  by_cases hk2 : k < n
  · have hst := flt_step (L := L) (p := nzP) (k := k) (by omega)
    have c1 := tr_fn ((L.map Lp.a).getD k ⟨#[]⟩) ((L.map Lp.c).getD k ⟨#[]⟩) ((L.map Lp.n).getD k 0)
    have hp : nzP (L.getD k lp0) = !decide ((L.map Lp.n).getD k 0 = 0) := by rw [lp_n]; rfl
    have hap := po_app (Q := (L.take k).filter nzP) (j := ((L.take k).filter nzP).length) (lp_eta L k)
    unfold poB
    repeat' ((conv => whnf); first | (refine vcall_pure (c1) rfl rfl rfl ?_) | (refine vcallD_pure (c1) rfl rfl rfl ?_) | ((first | apply br_dec | apply br_ndec) <;> intro h <;> try (exfalso; (try dsimp only at h); omega)) | ((first | apply br_seq | apply br_nseq | apply br_not | apply br_intro) <;> intro h) | refine cond_a ?_)
    all_goals (conv => whnf)
    all_goals first
      | (exfalso; omega)
      | skip
    · rw [if_pos (by rw [hp]; simpa using h)] at hst
      refine ⟨k + 1, [0, 1, 5], [], hk2, (show n - (k + 1) < n - k by omega), ?_⟩
      dsimp only
      rw [hst, List.length_append, List.length_singleton]
      exact ⟨rfl, ⟨rfl, rfl, rfl, rfl, congrArg (fun z => some (SV.int .i64 z)) (i64_succ (by omega)), trivial⟩, ⟨rfl, hap, trivial⟩⟩
    · rw [if_neg (by rw [hp]; simpa using h)] at hst
      refine ⟨k + 1, [0, 1, 2], [], hk2, (show n - (k + 1) < n - k by omega), ?_⟩
      dsimp only
      rw [hst]
      exact ⟨rfl, ⟨rfl, rfl, rfl, rfl, congrArg (fun z => some (SV.int .i64 z)) (i64_succ (by omega)), trivial⟩, ⟨rfl, rfl, trivial⟩⟩
  have ek : k = n := by omega
  subst ek
  rw [show L.take k = L by rw [← hn, List.take_length]]
  repeat' ((conv => whnf); first | ((first | apply br_dec | apply br_ndec) <;> intro h <;> try (exfalso; (try dsimp only at h); omega)) | ((first | apply br_seq | apply br_nseq | apply br_not | apply br_intro) <;> intro h) | refine cond_a ?_)
  all_goals (conv => whnf)
  all_goals first
    | (exfalso; omega)
    | exact ret_out (l := [0, 1, 2]) rfl rfl ⟨rfl, trivial⟩ (allRw_cons allRw_nil)
end Go.Proofs.YtjjnbhbendlnhaaDoor

/- Contracts of package ledger: Statement, Trial. -/
namespace Go.Proofs.YtjjnbhbendlnhaaDoor
open Go.RowKit Go.Sy
attribute [local irreducible] vcall vloop vcallD retP
set_option maxRecDepth 100000
set_option linter.unusedVariables false
set_option linter.unusedSimpArgs false
attribute [local irreducible] seq ByteArray.extract
theorem lg_keys : FC Tryd.prog 2 28 [.map 1 0] [] (isOut (.fn 43 [.ptr 2 0 0 0]) [(2, some (.one false (.cells [.map 1 0])))] 3) := by
  refine fc_of mixed T_ok Tryd.func28 rfl (by kernel_rfl) (by kernel_rfl) (by kernel_rfl) ?_
  repeat' ((conv => whnf); first | ((first | apply br_dec | apply br_ndec) <;> intro h <;> try (exfalso; (try dsimp only at h); omega)) | ((first | apply br_seq | apply br_nseq | apply br_not | apply br_intro) <;> intro h) | refine cond_a ?_)
  all_goals (conv => whnf)
  all_goals exact ret_out (l := [0, 1, 2]) rfl rfl ⟨rfl, trivial⟩ (allRw_cons allRw_nil)
theorem lg_bodied {P : Program} {f : FuncId} {fn : Func} (h : P.funcs[f]? = some fn) (hb : fn.body.isSome = true) (hn : (fn.name == "runtime.NumGoroutine") = false) : bodied P f := by
  obtain ⟨c, hc⟩ := Option.isSome_iff_exists.1 hb
  exact ⟨fn, c, h, hc, hn⟩
theorem lg_sorted {n : Nat} {ks : List ByteArray} (vs : List Bool) (bs : List Nat) (ck : Nat) (hn : n ≤ 100000) (hz : ∀ s ∈ ks, s.size ≤ 9223372036854775807) (hnd : ks.Nodup) :
    FC Tryd.prog 3 27 [.fn 43 [.ptr 2 0 0 0]] [(1, some (.one true (.obj (.map false false n [.strs ks] [.sc (.bools vs)] bs ck)))), (2, some (.one true (.cells [.map 1 0])))] (isOut (.sl 3 0 0 n) [(3, some (.one false (.cols n [.sc (.strs (sortS ks))])))] 4) :=
  fc_sorted (ρ := Tryd.keys28_ren) (ρ' := Tryd.sorted_ren) rfl rfl rfl { Tryd.keys28 with } Tryd.sorted
    (fun m => ⟨fun blk off cap ss W hH hblk hsz => callsIn_wide.2 (AnyM.slices_Sort_string Tryd.sortS blk off cap ss W hH hblk hsz), fun p cap W => callsIn_wide.2 (AnyM.slices_Sort_string_none Tryd.sortS p cap W)⟩)
    (lg_bodied Tryd.func27 (by kernel_rfl) (by kernel_rfl)) (enters_of Tryd.func42 (by kernel_rfl) rfl) (enters_of Tryd.func43 (by kernel_rfl) rfl) Tryd.underlying9 hn hz hnd
/-- The balances of a currency, by account. -/
def trA (s : Lg) (c : ByteArray) : List Lp := (sortS s.acc).map (fun a => ⟨a, s.bal a c, c⟩)
theorem trA_take {s : Lg} {c : ByteArray} {k : Nat} (hk : k < (sortS s.acc).length) : (trA s c).take (k + 1) = (trA s c).take k ++ [⟨(sortS s.acc).getD k ⟨#[]⟩, s.bal ((sortS s.acc).getD k ⟨#[]⟩) c, c⟩] := by
  unfold trA
  rw [List.take_add_one, List.getElem?_map, List.getElem?_eq_getElem hk, List.getD, List.getElem?_eq_getElem hk]; rfl
theorem lg_Trial_rows (s : Lg) (c : ByteArray) (r : Nat) (R : List Lp) (hs : LgOk s) (hR : R.length = r) (hv : ∀ a c, lgV R a c = s.bal a c) : FC Tryd.prog 7 10 [.ptr 1 0 0 0, .str c] [(6, some (.one true (RL r R))), (1, some (.one true (.cells (lgF 2 3 4 5 6 s)))), (2, some (.one true (lgAcc s)))] (isOut (.sl 7 0 0 ((trA s c).filter nzP).length) [(7, some (.one false (poB ((trA s c).filter nzP).length ((trA s c).filter nzP))))] 8) := by
  have h512 := hs.n512
  have hSl : (sortS s.acc).length = s.na := (sortS_length _).trans hs.na
  have c1 := lg_keys
  have c2 := lg_sorted (ks := s.acc) (List.replicate s.na true) (List.range s.na) s.na (show s.na ≤ 100000 by omega) (fun a ha => by have := (lab_size (hs.lab a ha)).2; omega) hs.nd
  have hTl : (trA s c).length = s.na := by unfold trA; rw [List.length_map, hSl]
  have c3 := lg_filterN (trA s c) s.na hTl (by omega)
  have htk := fun k (hk : k < (sortS s.acc).length) => trA_take (s := s) (c := c) hk
  generalize hT : trA s c = T at *
  generalize hS : sortS s.acc = Q at *
  refine fc_of mixed T_ok Tryd.func10 rfl (by kernel_rfl) (by kernel_rfl) (by kernel_rfl) ?_
  repeat' ((conv => whnf); first | refine vcall_o (l := [0, 2]) (c1) ?_ | refine vcall_o (l := [0, 2, 7]) (c2) ?_ | ((first | apply br_dec | apply br_ndec) <;> intro h <;> try (exfalso; (try dsimp only at h); omega)) | ((first | apply br_seq | apply br_nseq | apply br_not | apply br_intro) <;> intro h) | refine cond_a ?_)
  all_goals (conv => whnf)
  refine vloop_of (fun k : Nat => ⟨[(0, .ptr 1 0 0 0), (1, .str c), (5, .sl 9 0 0 k), (15, .sl 8 0 0 s.na), (16, .int .i64 s.na), (17, .int .i64 k)], [(1, some (.one true (.cells (lgF 2 3 4 5 6 s)))), (6, some (.one true (RL r R))), (8, some (.one false (.cols s.na [.sc (.strs Q)]))), (9, some (.one false (poB k (T.take k))))], 10⟩) (fun k => k ≤ s.na) (fun k => s.na - k) 0 [0, 1, 2, 3, 4, 5, 6, 7, 8, 9] [.slot 5 [.sc (.strs []), .sc (.ints .i64 []), .sc (.strs [])]] ⟨rfl, ⟨rfl, rfl, rfl, rfl, rfl, rfl, trivial⟩, ⟨rfl, rfl, rfl, rfl, trivial⟩⟩ (Nat.zero_le _) ?_
  intro k hk
  by_cases hk2 : k < s.na
  · have e := htk k (by omega)
    have hval : (R.map Lp.n).getD (sidx2 (R.map Lp.a) (R.map Lp.c) (Q.getD k ⟨#[]⟩) c) 0 = s.bal (Q.getD k ⟨#[]⟩) c := (rl_val R _ _).trans (hv _ _)
    rw [← hval] at e
    have hap := po_app (Q := T.take k) (j := k) (x := ⟨Q.getD k ⟨#[]⟩, (R.map Lp.n).getD (sidx2 (R.map Lp.a) (R.map Lp.c) (Q.getD k ⟨#[]⟩) c) 0, c⟩) rfl
    rw [← e] at hap
    unfold poB
    repeat' ((conv => whnf); first | ((first | apply br_dec | apply br_ndec) <;> intro h <;> try (exfalso; (try dsimp only at h); omega)) | ((first | apply br_seq | apply br_nseq | apply br_not | apply br_intro) <;> intro h) | refine cond_a ?_)
    all_goals (conv => whnf)
    all_goals first
      | exact ⟨k + 1, [0, 1, 2, 3, 4, 5, 6, 7, 8, 11], [], hk2, (show s.na - (k + 1) < s.na - k by omega), ⟨rfl, ⟨rfl, rfl, rfl, rfl, rfl, congrArg (fun z => some (SV.int .i64 z)) (i64_succ (by omega)), trivial⟩, ⟨rfl, rfl, rfl, hap, trivial⟩⟩⟩
      | trace_state
  have ek : k = s.na := by omega
  subst ek
  rw [show T.take s.na = T from List.take_of_length_le (by omega)]
  unfold poB at c3 ⊢
  repeat' ((conv => whnf); first | refine vcall_o (l := [0, 9]) (c3) ?_ | ((first | apply br_dec | apply br_ndec) <;> intro h <;> try (exfalso; (try dsimp only at h); omega)) | ((first | apply br_seq | apply br_nseq | apply br_not | apply br_intro) <;> intro h) | refine cond_a ?_)
  all_goals (conv => whnf)
  all_goals first
    | exact ret_out (l := [0, 1, 2, 3, 4, 5, 6, 10]) rfl rfl ⟨rfl, trivial⟩ (allRw_cons allRw_nil)
    | trace_state
theorem lg_Trial (s : Lg) (c : ByteArray) (hs : LgOk s) : FC Tryd.prog 7 10 [.ptr 1 0 0 0, .str c] [(6, lgBg true s), (1, some (.one true (.cells (lgF 2 3 4 5 6 s)))), (2, some (.one true (lgAcc s)))] (isOut (.sl 7 0 0 ((trA s c).filter nzP).length) [(7, some (.one false (poB ((trA s c).filter nzP).length ((trA s c).filter nzP))))] 8) := by
  refine fc_bag_ro fun x hx => ?_
  obtain ⟨R, h1, h2, h3, h4, h5⟩ := lgB_rows hx
  rw [h2]
  exact lg_Trial_rows s c x.n R hs h1 h4
end Go.Proofs.YtjjnbhbendlnhaaDoor

/- Contracts of the ledger's laws' own functions. -/
namespace Go.Proofs.YtjjnbhbendlnhaaDoor
open Go.RowKit Go.Sy
attribute [local irreducible] vcall vloop vcallD retP
set_option maxRecDepth 100000
set_option linter.unusedVariables false
set_option linter.unusedSimpArgs false
attribute [local irreducible] seq ByteArray.extract
theorem law_posting (a : ByteArray) (n : Int) : Pure Tryd.prog 8 [.str a, .int .i64 n] (.agg [.str a, .int .i64 n, .str ⟨#[69, 85, 82]⟩]) := by
  refine fc_of mixed T_ok Tryd.func8 rfl (by kernel_rfl) (by kernel_rfl) (by kernel_rfl) ?_
  repeat' ((conv => whnf); first | ((first | apply br_dec | apply br_ndec) <;> intro h <;> try (exfalso; (try dsimp only at h); omega)) | ((first | apply br_seq | apply br_nseq | apply br_not | apply br_intro) <;> intro h) | refine cond_a ?_)
  all_goals (conv => whnf)
  exact ret_pure rfl
theorem i64_succM {k : Nat} (h : k < 9223372036854775807) : IntKind.i64.wrap ((k : Int) + 1) = ((k + 1 : Nat) : Int) := by rw [w64_in (by omega) (by omega)]; rfl
/-- Whether names are short, and few. -/
def acB (q : List ByteArray) (n : Nat) (m : Int) : Bool := decide ((∀ i, i < n → (q.getD i ⟨#[]⟩).size ≤ 100) ∧ (n : Int) ≤ m)
theorem law_accounts (q : List ByteArray) (n : Nat) (m : Int) (hn : n ≤ 9223372036854775807) : FC Tryd.prog 2 12 [.sl 1 0 0 n, .int .i64 m] [(1, some (.one true (.cols n [.sc (.strs q)])))] (isOut (.bool (acB q n m)) [] 2) := by
  refine fc_of mixed T_ok Tryd.func12 rfl (by kernel_rfl) (by kernel_rfl) (by kernel_rfl) ?_
  (conv => whnf)
  refine vloop_of (fun k : Nat => ⟨[(0, .sl 1 0 0 n), (1, .int .i64 m), (5, .int .i64 k)], [(1, some (.one true (.cols n [.sc (.strs q)])))], 2⟩) (fun k => k ≤ n ∧ ∀ i, i < k → (q.getD i ⟨#[]⟩).size ≤ 100) (fun k => n - k) 0 [0, 1] [] ⟨rfl, ⟨rfl, rfl, rfl, trivial⟩, ⟨rfl, trivial⟩⟩ ⟨Nat.zero_le _, fun i hi => absurd hi (Nat.not_lt_zero _)⟩ ?_
  rintro k ⟨hk, hz⟩
  repeat' ((conv => whnf); first | ((first | apply br_dec | apply br_ndec) <;> intro h <;> try (exfalso; (try dsimp only at h); omega)) | ((first | apply br_seq | apply br_nseq | apply br_not | apply br_intro) <;> intro h) | refine cond_a ?_)
  all_goals (conv => whnf)
  · refine ret_out (l := [0, 1]) rfl ?_ trivial allRw_nil
    have hb : acB q n m = false := by
      unfold acB
      refine decide_eq_false ?_
      rintro ⟨h1, _⟩
      have h3 := h1 k (by omega)
      have h2 : (100 : Int) < ((q.getD k ⟨#[]⟩).size : Int) := h
      omega
    rw [hb]; rfl
  · refine ⟨k + 1, [0, 1], [], ⟨by omega, fun i hi => ?_⟩, by omega, ⟨rfl, ⟨rfl, rfl, congrArg (fun z => some (SV.int .i64 z)) (i64_succM (by omega)), trivial⟩, ⟨rfl, trivial⟩⟩⟩
    by_cases e : i = k
    · subst e
      have h2 : ¬ (100 : Int) < ((q.getD i ⟨#[]⟩).size : Int) := h
      omega
    · exact hz i (by omega)
  · have ek : k = n := by omega
    subst ek
    refine ret_out (l := [0, 1]) rfl ?_ trivial allRw_nil
    have hb : acB q k m = decide ((k : Int) ≤ m) := by
      unfold acB
      by_cases hm : (k : Int) ≤ m
      · rw [decide_eq_true hm]; exact decide_eq_true ⟨hz, hm⟩
      · rw [decide_eq_false hm]; exact decide_eq_false fun h => hm h.2
    rw [hb]; rfl
instance : DecidableEq Lp := fun x y => by
  cases x; cases y
  simp only [Lp.mk.injEq]
  infer_instance
/-- Whether postings are equal. -/
def saB (A B : List Lp) : Bool := decide (A = B)
theorem lp_eqB (x y : Lp) : (seq x.a y.a && (decide (x.n = y.n) && (seq x.c y.c && true))) = decide (x = y) := by
  by_cases e : x = y
  · subst e
    rw [decide_eq_true (rfl : x = x), decide_eq_true (rfl : x.n = x.n), lg_seq.2 (rfl : x.a = x.a), lg_seq.2 (rfl : x.c = x.c)]; rfl
  · rw [decide_eq_false e]
    cases hb : (seq x.a y.a && (decide (x.n = y.n) && (seq x.c y.c && true))) with
    | false => rfl
    | true =>
      exfalso
      rw [Bool.and_eq_true, Bool.and_eq_true, Bool.and_eq_true] at hb
      obtain ⟨h1, h2, h3, _⟩ := hb
      have g1 := lg_seq.1 h1
      have g2 := of_decide_eq_true h2
      have g3 := lg_seq.1 h3
      clear h1 h2 h3
      cases x; cases y
      refine e ?_
      rw [Lp.mk.injEq]
      exact ⟨g1, g2, g3⟩
theorem law_same (A B : List Lp) (n m : Nat) (hA : A.length = n) (hB : B.length = m) (hn : n ≤ 9223372036854775807) : FC Tryd.prog 3 20 [.sl 1 0 0 n, .sl 2 0 0 m] [(1, some (.one true (poB n A))), (2, some (.one true (poB m B)))] (isOut (.bool (saB A B)) [] 3) := by
  by_cases hnm : n = m
  · subst hnm
    unfold poB
    refine fc_of mixed T_ok Tryd.func20 rfl (by kernel_rfl) (by kernel_rfl) (by kernel_rfl) ?_
    repeat' ((conv => whnf); first | ((first | apply br_dec | apply br_ndec) <;> intro h <;> try (exfalso; (try dsimp only at h); omega)) | ((first | apply br_seq | apply br_nseq | apply br_not | apply br_intro) <;> intro h) | refine cond_a ?_)
    all_goals (conv => whnf)
    all_goals first
      | (exfalso; omega)
      | skip
    refine vloop_of (fun k : Nat => ⟨[(0, .sl 1 0 0 n), (1, .sl 2 0 0 n), (5, .int .i64 k)], [(1, some (.one true (poB n A))), (2, some (.one true (poB n B)))], 3⟩) (fun k => k ≤ n ∧ A.take k = B.take k) (fun k => n - k) 0 [0, 1, 2] [] ⟨rfl, ⟨rfl, rfl, rfl, trivial⟩, ⟨rfl, rfl, trivial⟩⟩ ⟨Nat.zero_le _, by simp⟩ ?_
    rintro k ⟨hk, hz⟩
    unfold poB
    by_cases hk2 : k < n
    · have eA := lg_take (L := A) (k := k) (by omega)
      have eB := lg_take (L := B) (k := k) (by omega)
      repeat' ((conv => whnf); first | ((first | apply br_dec | apply br_ndec) <;> intro h <;> try (exfalso; (try dsimp only at h); omega)) | ((first | apply br_seq | apply br_nseq | apply br_not | apply br_intro) <;> intro h) | refine cond_a ?_)
      all_goals (conv => whnf)
      all_goals (simp only [lg_tn, lp_a, lp_n, lp_c, lp_eqB] at h)
      · have hb : saB A B = false := decide_eq_false fun e => of_decide_eq_false h (by rw [e])
        rw [hb]
        exact ret_out (l := [0, 1, 2]) rfl rfl trivial allRw_nil
      · have h := of_decide_eq_true h
        exact ⟨k + 1, [0, 1, 2], [], ⟨hk2, by rw [lg_take (by omega), lg_take (by omega), hz, h]⟩, (show n - (k + 1) < n - k by omega), ⟨rfl, ⟨rfl, rfl, congrArg (fun z => some (SV.int .i64 z)) (i64_succM (by omega)), trivial⟩, ⟨rfl, rfl, trivial⟩⟩⟩
    have ek : k = n := by omega
    subst ek
    have e : A = B := by
      rw [← hA] at hz
      have := hz
      rw [List.take_length, hA, ← hB, List.take_length] at this
      exact this
    have hb : saB A B = true := decide_eq_true e
    rw [hb]
    repeat' ((conv => whnf); first | ((first | apply br_dec | apply br_ndec) <;> intro h <;> try (exfalso; (try dsimp only at h); omega)) | ((first | apply br_seq | apply br_nseq | apply br_not | apply br_intro) <;> intro h) | refine cond_a ?_)
    all_goals (conv => whnf)
    all_goals first
      | (exfalso; omega)
      | exact ret_out (l := [0, 1, 2]) rfl rfl trivial allRw_nil
  · have hb : saB A B = false := decide_eq_false fun e => hnm (by rw [← hA, e, hB])
    rw [hb]
    refine fc_of mixed T_ok Tryd.func20 rfl (by kernel_rfl) (by kernel_rfl) (by kernel_rfl) ?_
    repeat' ((conv => whnf); first | ((first | apply br_dec | apply br_ndec) <;> intro h <;> try (exfalso; (try dsimp only at h); omega)) | ((first | apply br_seq | apply br_nseq | apply br_not | apply br_intro) <;> intro h) | refine cond_a ?_)
    all_goals (conv => whnf)
    all_goals first
      | (exfalso; omega)
      | exact ret_out (l := [0, 1, 2]) rfl rfl trivial allRw_nil
end Go.Proofs.YtjjnbhbendlnhaaDoor

/- Contracts of the ledger's laws' own functions: small, alike. -/
namespace Go.Proofs.YtjjnbhbendlnhaaDoor
open Go.RowKit Go.Sy
attribute [local irreducible] vcall vloop vcallD retP
set_option maxRecDepth 100000
set_option linter.unusedVariables false
set_option linter.unusedSimpArgs false
attribute [local irreducible] seq ByteArray.extract
theorem law_alike (i1 i2 : ByteArray) (d1 d2 : Int) (A B : List Lp) (n m : Nat) (hA : A.length = n) (hB : B.length = m) (hn : n ≤ 9223372036854775807) : FC Tryd.prog 3 19 [.agg [.str i1, .int .i64 d1, .sl 1 0 0 n], .agg [.str i2, .int .i64 d2, .sl 2 0 0 m]] [(1, some (.one true (poB n A))), (2, some (.one true (poB m B)))] (isOut (.bool (seq i1 i2 && (decide (d1 = d2) && saB A B))) [] 3) := by
  have c1 := law_same A B n m hA hB hn
  by_cases h1 : i1 = i2
  · have e1 : seq i1 i2 = true := lg_seq.2 h1
    by_cases h2 : d1 = d2
    · have e : (seq i1 i2 && (decide (d1 = d2) && saB A B)) = saB A B := by rw [e1, decide_eq_true h2]; rfl
      rw [e]
      generalize saB A B = S at *
      refine fc_of mixed T_ok Tryd.func19 rfl (by kernel_rfl) (by kernel_rfl) (by kernel_rfl) ?_
      repeat' ((conv => whnf); first | refine vcall_o (l := [0, 1, 2]) (c1) ?_ | refine vcallD_o (l := [0, 1, 2]) (c1) ?_ | ((first | apply br_dec | apply br_ndec) <;> intro h <;> try (exfalso; (try dsimp only at h); omega)) | ((first | apply br_seq | apply br_nseq | apply br_not | apply br_intro) <;> intro h) | refine cond_a ?_)
      all_goals (conv => whnf)
      all_goals first
        | exact ret_out (l := [0, 1, 2]) rfl rfl trivial allRw_nil
        | (exfalso; omega)
        | (exfalso; exact h h1)
        | (exfalso; exact h h2)
        | (exfalso; contradiction)
    · have e : (seq i1 i2 && (decide (d1 = d2) && saB A B)) = false := by rw [e1, decide_eq_false h2]; rfl
      rw [e]
      refine fc_of mixed T_ok Tryd.func19 rfl (by kernel_rfl) (by kernel_rfl) (by kernel_rfl) ?_
      repeat' ((conv => whnf); first | refine vcall_o (l := [0, 1, 2]) (c1) ?_ | refine vcallD_o (l := [0, 1, 2]) (c1) ?_ | ((first | apply br_dec | apply br_ndec) <;> intro h <;> try (exfalso; (try dsimp only at h); omega)) | ((first | apply br_seq | apply br_nseq | apply br_not | apply br_intro) <;> intro h) | refine cond_a ?_)
      all_goals (conv => whnf)
      all_goals first
        | exact ret_out (l := [0, 1, 2]) rfl rfl trivial allRw_nil
        | (exfalso; omega)
        | (exfalso; exact h2 h)
        | (exfalso; exact h h1)
        | (exfalso; contradiction)
  · have e : (seq i1 i2 && (decide (d1 = d2) && saB A B)) = false := by
      rw [show seq i1 i2 = false from by cases hb : seq i1 i2 with | false => rfl | true => exact absurd (lg_seq.1 hb) h1]; rfl
    rw [e]
    refine fc_of mixed T_ok Tryd.func19 rfl (by kernel_rfl) (by kernel_rfl) (by kernel_rfl) ?_
    repeat' ((conv => whnf); first | refine vcall_o (l := [0, 1, 2]) (c1) ?_ | refine vcallD_o (l := [0, 1, 2]) (c1) ?_ | ((first | apply br_dec | apply br_ndec) <;> intro h <;> try (exfalso; (try dsimp only at h); omega)) | ((first | apply br_seq | apply br_nseq | apply br_not | apply br_intro) <;> intro h) | refine cond_a ?_)
    all_goals (conv => whnf)
    all_goals first
      | exact ret_out (l := [0, 1, 2]) rfl rfl trivial allRw_nil
      | (exfalso; omega)
      | (exfalso; exact h1 h)
      | (exfalso; contradiction)
/-- Whether the lengths of two texts are long together, as the law counts them. -/
def lo2 (a b : ByteArray) : Prop := 200 < IntKind.i64.wrap ((a.size : Int) + (b.size : Int))
instance (a b : ByteArray) : Decidable (lo2 a b) := by unfold lo2; infer_instance
/-- What small asks of a call. -/
def smK (id undo : ByteArray) (L : List Lp) (n : Nat) : Prop := ¬ lo2 id undo ∧ ¬ 20 < n ∧ ∀ k, k < n → ¬ lo2 ((L.map Lp.a).getD k ⟨#[]⟩) ((L.map Lp.c).getD k ⟨#[]⟩)
instance (id undo : ByteArray) (L : List Lp) (n : Nat) : Decidable (smK id undo L n) := by unfold smK; infer_instance
def smB (q0 q3 : List ByteArray) (Z : Nat → List Lp) (ns : List Nat) (l : Nat) (m : Int) : Bool := decide ((∀ i, i < l → smK (q0.getD i ⟨#[]⟩) (q3.getD i ⟨#[]⟩) (Z i) (ns.getD i 0)) ∧ (l : Int) ≤ m)
abbrev doB (l f : Nat) (q0 : List ByteArray) (q1 : List Int) (ns : List Nat) (q3 : List ByteArray) : Blk := .cols l [.sc (.strs q0), .sc (.ints .i64 q1), .own f ns, .sc (.strs q3)]
abbrev doF (l : Nat) (ns : List Nat) (Z : Nat → List Lp) : Option HB := some (.fam true (fun x => x < l) (fun x => poB (ns.getD x 0) (Z x)))
theorem law_small (q0 q3 : List ByteArray) (q1 : List Int) (Z : Nat → List Lp) (ns : List Nat) (l : Nat) (m : Int) (hl : l ≤ 9223372036854775807) : FC Tryd.prog 3 13 [.sl 1 0 0 l, .int .i64 m] [(1, some (.one true (doB l 2 q0 q1 ns q3))), (2, doF l ns Z)] (isOut (.bool (smB q0 q3 Z ns l m)) [] 3) := by
  refine fc_of mixed T_ok Tryd.func13 rfl (by kernel_rfl) (by kernel_rfl) (by kernel_rfl) ?_
  (conv => whnf)
  refine vloop_of (fun i : Nat => ⟨[(0, .sl 1 0 0 l), (1, .int .i64 m), (5, .int .i64 i)], [(1, some (.one true (doB l 2 q0 q1 ns q3))), (2, doF l ns Z)], 3⟩) (fun i => i ≤ l ∧ ∀ x, x < i → smK (q0.getD x ⟨#[]⟩) (q3.getD x ⟨#[]⟩) (Z x) (ns.getD x 0)) (fun i => l - i) 0 [0, 1, 2] [] ⟨rfl, ⟨rfl, rfl, rfl, trivial⟩, ⟨rfl, rfl, trivial⟩⟩ ⟨Nat.zero_le _, fun i hi => absurd hi (Nat.not_lt_zero _)⟩ ?_
  rintro i ⟨hi, hz⟩
  by_cases hi2 : i < l
  · have hno : ¬ smK (q0.getD i ⟨#[]⟩) (q3.getD i ⟨#[]⟩) (Z i) (ns.getD i 0) → smB q0 q3 Z ns l m = false := fun h => decide_eq_false fun h2 => h (h2.1 i hi2)
    repeat' ((conv => whnf); first | (simp only [lg_tn]) | ((first | apply br_dec | apply br_ndec) <;> intro h <;> try (exfalso; (try dsimp only at h); omega)) | ((first | apply br_seq | apply br_nseq | apply br_not | apply br_intro) <;> intro h) | refine cond_a ?_)
    all_goals (conv => whnf)
    all_goals try (exfalso; omega)
    · refine ret_out (l := [0, 1, 2]) rfl ?_ trivial allRw_nil
      rw [hno (fun q => q.1 h)]; rfl
    · refine ret_out (l := [0, 1, 2]) rfl ?_ trivial allRw_nil
      have h2 : (20 : Int) < ((ns.getD i 0 : Nat) : Int) := h
      rw [hno (fun q => q.2.1 (by omega))]; rfl
    rename_i _ g1
    have g2 : ¬ (20 : Int) < ((ns.getD i 0 : Nat) : Int) := h
    have g1' : ¬ lo2 (q0.getD i ⟨#[]⟩) (q3.getD i ⟨#[]⟩) := g1
    refine vloop_of (fun k : Nat => ⟨[(0, .sl 1 0 0 l), (1, .int .i64 m), (5, .int .i64 i), (6, .int .i64 k)], [(1, some (.one true (doB l 2 q0 q1 ns q3))), (2, doF l ns Z)], 3⟩) (fun k => k ≤ ns.getD i 0 ∧ ∀ x, x < k → ¬ lo2 (((Z i).map Lp.a).getD x ⟨#[]⟩) (((Z i).map Lp.c).getD x ⟨#[]⟩)) (fun k => ns.getD i 0 - k) 0 [0, 1, 2] [] ⟨rfl, ⟨rfl, rfl, rfl, rfl, trivial⟩, ⟨rfl, rfl, trivial⟩⟩ ⟨Nat.zero_le _, fun i hi => absurd hi (Nat.not_lt_zero _)⟩ ?_
    rintro k ⟨hk, hy⟩
    by_cases hk2 : k < ns.getD i 0
    · repeat' ((conv => whnf); first | (simp only [lg_tn]) | ((first | apply br_dec | apply br_ndec) <;> intro h <;> try (exfalso; (try dsimp only at h); omega)) | ((first | apply br_seq | apply br_nseq | apply br_not | apply br_intro) <;> intro h) | refine cond_a ?_)
      all_goals (conv => whnf)
      · refine ret_out (l := [0, 1, 2]) rfl ?_ trivial allRw_nil
        rw [hno (fun q => q.2.2 k hk2 h)]; rfl
      · refine ⟨k + 1, [0, 1, 2], [], ⟨hk2, fun x hx => ?_⟩, (show ns.getD i 0 - (k + 1) < ns.getD i 0 - k by omega), ⟨rfl, ⟨rfl, rfl, rfl, congrArg (fun z => some (SV.int .i64 z)) (i64_succM (by omega)), trivial⟩, ⟨rfl, rfl, trivial⟩⟩⟩
        by_cases e : x = k
        · subst e; exact h
        · exact hy x (by omega)
    have ek : k = ns.getD i 0 := by omega
    repeat' ((conv => whnf); first | (simp only [lg_tn]) | ((first | apply br_dec | apply br_ndec) <;> intro h <;> try (exfalso; (try dsimp only at h); omega)) | ((first | apply br_seq | apply br_nseq | apply br_not | apply br_intro) <;> intro h) | refine cond_a ?_)
    all_goals (conv => whnf)
    all_goals first
      | (exfalso; omega)
      | skip
    refine ⟨i + 1, [0, 1, 2], [], ⟨hi2, fun x hx => ?_⟩, (show l - (i + 1) < l - i by omega), ⟨rfl, ⟨rfl, rfl, congrArg (fun z => some (SV.int .i64 z)) (i64_succM (by omega)), trivial⟩, ⟨rfl, rfl, trivial⟩⟩⟩
    by_cases e : x = i
    · subst e; exact ⟨g1', by omega, fun y hy2 => hy y (by omega)⟩
    · exact hz x (by omega)
  have ei : i = l := by omega
  subst ei
  have hb : smB q0 q3 Z ns i m = decide ((i : Int) ≤ m) := by
    unfold smB
    by_cases hm : (i : Int) ≤ m
    · rw [decide_eq_true hm]; exact decide_eq_true ⟨hz, hm⟩
    · rw [decide_eq_false hm]; exact decide_eq_false fun h => hm h.2
  rw [hb]
  repeat' ((conv => whnf); first | (simp only [lg_tn]) | ((first | apply br_dec | apply br_ndec) <;> intro h <;> try (exfalso; (try dsimp only at h); omega)) | ((first | apply br_seq | apply br_nseq | apply br_not | apply br_intro) <;> intro h) | refine cond_a ?_)
  all_goals (conv => whnf)
  all_goals first
    | (exfalso; omega)
    | exact ret_out (l := [0, 1, 2]) rfl rfl trivial allRw_nil
end Go.Proofs.YtjjnbhbendlnhaaDoor

/- Contracts of the ledger's laws' own functions: call. -/
namespace Go.Proofs.YtjjnbhbendlnhaaDoor
open Go.RowKit Go.Sy
attribute [local irreducible] vcall vloop vcallD retP
set_option maxRecDepth 100000
set_option linter.unusedVariables false
set_option linter.unusedSimpArgs false
attribute [local irreducible] seq ByteArray.extract
/-- What a call answers, and what it leaves. -/
def lgCE (s : Lg) (e : Le) (undo : ByteArray) : Int := if seq undo ⟨#[]⟩ = true then lgE s e else lgRE s undo e.id e.date
def lgCS (s : Lg) (e : Le) (undo : ByteArray) : Lg := if seq undo ⟨#[]⟩ = true then lgP s e else lgRv s undo e.id e.date
attribute [local irreducible] lgE
abbrev clH (ro : Bool) (s : Lg) (n : Nat) (L : List Lp) : Heap := [(6, lgBg ro s), (0, some (GB glT)), (1, some (.one ro (.cells (lgF 2 3 4 5 6 s)))), (2, some (.one true (lgAcc s))), (3, some (.one ro (lgEnt 7 s))), (4, some (.one ro (lgPl s))), (5, some (.one ro (lgSt s))), (7, lgFam ro s), (8, some (.one true (poB n L)))]
theorem law_call_no (s : Lg) (id undo : ByteArray) (d : Int) (L : List Lp) (n : Nat) (hs : LgOk s) (hn : L.length = n) (h0 : lgCE s ⟨id, d, L, n⟩ undo ≠ 0) :
    FC Tryd.prog 9 14 [.ptr 1 0 0 0, .agg [.str id, .int .i64 d, .sl 8 0 0 n, .str undo]] (clH true s n L) (isOut (.int .i64 (lgCE s ⟨id, d, L, n⟩ undo)) [] 9) := by
  unfold clH
  by_cases hu : undo = ⟨#[]⟩
  · have e : lgCE s ⟨id, d, L, n⟩ undo = lgE s ⟨id, d, L, n⟩ := by unfold lgCE; rw [if_pos (lg_seq.2 hu)]
    rw [e] at h0 ⊢
    have c := lg_Post_err s id d L n hs hn h0
    generalize lgE s ⟨id, d, L, n⟩ = E at *
    refine fc_of mixed T_ok Tryd.func14 rfl (by kernel_rfl) (by kernel_rfl) (by kernel_rfl) ?_
    repeat' ((conv => whnf); first | refine vcall_o (l := [0, 1, 2, 3, 4, 5, 6, 7, 8]) (c) ?_ | refine vcallD_o (l := [0, 1, 2, 3, 4, 5, 6, 7, 8]) (c) ?_ | ((first | apply br_dec | apply br_ndec) <;> intro h <;> try (exfalso; (try dsimp only at h); omega)) | ((first | apply br_seq | apply br_nseq | apply br_not | apply br_intro) <;> intro h) | refine cond_a ?_)
    all_goals (conv => whnf)
    all_goals first
      | exact ret_out (l := [0, 1, 2, 3, 4, 5, 6, 7, 8]) rfl rfl trivial allRw_nil
      | (exfalso; contradiction)
  have e : lgCE s ⟨id, d, L, n⟩ undo = lgRE s undo id d := by unfold lgCE; rw [if_neg (fun h => hu (lg_seq.1 h))]
  rw [e] at h0 ⊢
  by_cases h1 : inL undo s.ids
  · by_cases h2 : inL undo s.st
    · have e2 : lgRE s undo id d = 8 := by unfold lgRE; rw [if_pos h1, if_pos h2]
      have c := lg_Reverse_set s undo id d hs h1 h2
      rw [e2]
      refine fc_of mixed T_ok Tryd.func14 rfl (by kernel_rfl) (by kernel_rfl) (by kernel_rfl) ?_
      repeat' ((conv => whnf); first | refine vcall_o (l := [0, 1, 2, 3, 4, 5, 6, 7]) (c) ?_ | refine vcallD_o (l := [0, 1, 2, 3, 4, 5, 6, 7]) (c) ?_ | ((first | apply br_dec | apply br_ndec) <;> intro h <;> try (exfalso; (try dsimp only at h); omega)) | ((first | apply br_seq | apply br_nseq | apply br_not | apply br_intro) <;> intro h) | refine cond_a ?_)
      all_goals (conv => whnf)
      all_goals first
        | exact ret_out (l := [0, 1, 2, 3, 4, 5, 6, 7, 8]) rfl rfl trivial allRw_nil
        | (exfalso; contradiction)
    · have e2 : lgRE s undo id d = lgE s (revL s undo id d) := by unfold lgRE; rw [if_pos h1, if_neg h2]
      rw [e2] at h0 ⊢
      have c := lg_Reverse_err s undo id d hs h1 h2 h0
      generalize lgE s (revL s undo id d) = E at *
      refine fc_of mixed T_ok Tryd.func14 rfl (by kernel_rfl) (by kernel_rfl) (by kernel_rfl) ?_
      repeat' ((conv => whnf); first | refine vcall_o (l := [0, 1, 2, 3, 4, 5, 6, 7]) (c) ?_ | refine vcallD_o (l := [0, 1, 2, 3, 4, 5, 6, 7]) (c) ?_ | ((first | apply br_dec | apply br_ndec) <;> intro h <;> try (exfalso; (try dsimp only at h); omega)) | ((first | apply br_seq | apply br_nseq | apply br_not | apply br_intro) <;> intro h) | refine cond_a ?_)
      all_goals (conv => whnf)
      all_goals first
        | exact ret_out (l := [0, 1, 2, 3, 4, 5, 6, 7, 8]) rfl rfl trivial allRw_nil
        | (exfalso; contradiction)
  · have e2 : lgRE s undo id d = 6 := by unfold lgRE; rw [if_neg h1]
    have c := lg_Reverse_none s undo id d hs h1
    rw [e2]
    refine fc_of mixed T_ok Tryd.func14 rfl (by kernel_rfl) (by kernel_rfl) (by kernel_rfl) ?_
    repeat' ((conv => whnf); first | refine vcall_o (l := [0, 1, 2, 3, 4, 5, 6, 7]) (c) ?_ | refine vcallD_o (l := [0, 1, 2, 3, 4, 5, 6, 7]) (c) ?_ | ((first | apply br_dec | apply br_ndec) <;> intro h <;> try (exfalso; (try dsimp only at h); omega)) | ((first | apply br_seq | apply br_nseq | apply br_not | apply br_intro) <;> intro h) | refine cond_a ?_)
    all_goals (conv => whnf)
    all_goals first
      | exact ret_out (l := [0, 1, 2, 3, 4, 5, 6, 7, 8]) rfl rfl trivial allRw_nil
      | (exfalso; contradiction)
abbrev clO (a e p t b f : Nat) (s : Lg) : Heap := [(b, lgBg false s), (1, some (.one false (.cells (lgF a e p t b s)))), (e, some (.one false (lgEnt f s))), (p, some (.one false (lgPl s))), (t, some (.one false (lgSt s))), (f, lgFam false s)]
theorem law_call_ok (s : Lg) (id undo : ByteArray) (d : Int) (L : List Lp) (n : Nat) (hs : LgOk s) (hn : L.length = n) (h0 : lgCE s ⟨id, d, L, n⟩ undo = 0) :
    FC Tryd.prog 9 14 [.ptr 1 0 0 0, .agg [.str id, .int .i64 d, .sl 8 0 0 n, .str undo]] (clH false s n L) (isOut (.int .i64 0) (clO 2 9 4 5 6 10 (lgCS s ⟨id, d, L, n⟩ undo)) 11) := by
  unfold clH clO
  by_cases hu : undo = ⟨#[]⟩
  · have e : lgCE s ⟨id, d, L, n⟩ undo = lgE s ⟨id, d, L, n⟩ := by unfold lgCE; rw [if_pos (lg_seq.2 hu)]
    have e2 : lgCS s ⟨id, d, L, n⟩ undo = lgP s ⟨id, d, L, n⟩ := by unfold lgCS; rw [if_pos (lg_seq.2 hu)]
    rw [e] at h0
    rw [e2]
    have c := lg_Post_ok s id d L n hs hn h0
    have est : lgSt s = lgSt (lgP s ⟨id, d, L, n⟩) := rfl
    rw [← est]
    generalize lgP s ⟨id, d, L, n⟩ = S at *
    refine fc_of mixed T_ok Tryd.func14 rfl (by kernel_rfl) (by kernel_rfl) (by kernel_rfl) ?_
    repeat' ((conv => whnf); first | refine vcall_o (l := [0, 1, 2, 3, 4, 5, 6, 7, 8]) (c) ?_ | refine vcallD_o (l := [0, 1, 2, 3, 4, 5, 6, 7, 8]) (c) ?_ | ((first | apply br_dec | apply br_ndec) <;> intro h <;> try (exfalso; (try dsimp only at h); omega)) | ((first | apply br_seq | apply br_nseq | apply br_not | apply br_intro) <;> intro h) | refine cond_a ?_)
    all_goals (conv => whnf)
    all_goals first
      | exact ret_out (l := [0, 1, 2, 3, 4, 5, 6, 7, 8, 10, 11]) rfl rfl ⟨rfl, rfl, rfl, rfl, rfl, rfl, trivial⟩ (allRw_cons (allRw_cons (allRw_cons (allRw_cons (allRw_cons (allRw_fam allRw_nil))))))
      | (exfalso; contradiction)
  have e : lgCE s ⟨id, d, L, n⟩ undo = lgRE s undo id d := by unfold lgCE; rw [if_neg (fun h => hu (lg_seq.1 h))]
  have e2 : lgCS s ⟨id, d, L, n⟩ undo = lgRv s undo id d := by unfold lgCS; rw [if_neg (fun h => hu (lg_seq.1 h))]
  rw [e] at h0
  rw [e2]
  have h1 : inL undo s.ids := by
    by_cases h : inL undo s.ids
    · exact h
    · unfold lgRE at h0; rw [if_neg h] at h0; cases h0
  have h2 : ¬ inL undo s.st := fun h => by unfold lgRE at h0; rw [if_pos h1, if_pos h] at h0; cases h0
  have c := lg_Reverse_ok s undo id d hs h1 h2 (by unfold lgRE at h0; rw [if_pos h1, if_neg h2] at h0; exact h0)
  generalize lgRv s undo id d = S at *
  refine fc_of mixed T_ok Tryd.func14 rfl (by kernel_rfl) (by kernel_rfl) (by kernel_rfl) ?_
  repeat' ((conv => whnf); first | refine vcall_o (l := [0, 1, 2, 3, 4, 5, 6, 7]) (c) ?_ | refine vcallD_o (l := [0, 1, 2, 3, 4, 5, 6, 7]) (c) ?_ | ((first | apply br_dec | apply br_ndec) <;> intro h <;> try (exfalso; (try dsimp only at h); omega)) | ((first | apply br_seq | apply br_nseq | apply br_not | apply br_intro) <;> intro h) | refine cond_a ?_)
  all_goals (conv => whnf)
  all_goals first
    | exact ret_out (l := [0, 1, 2, 3, 4, 5, 6, 7, 8, 10, 11]) rfl rfl ⟨rfl, rfl, rfl, rfl, rfl, rfl, trivial⟩ (allRw_cons (allRw_cons (allRw_cons (allRw_cons (allRw_cons (allRw_fam allRw_nil))))))
    | (exfalso; contradiction)
end Go.Proofs.YtjjnbhbendlnhaaDoor

/- Plain facts of the ledger's laws: the balances of all accounts add up to the sum of all postings. -/
namespace Go.Proofs.YtjjnbhbendlnhaaDoor
open Go.RowKit Go.Sy
set_option linter.unusedVariables false
set_option linter.unusedSimpArgs false

end Go.Proofs.YtjjnbhbendlnhaaDoor

/- Contracts of the ledger's laws: a call whose postings are a member of a family. -/
namespace Go.Proofs.YtjjnbhbendlnhaaDoor
open Go.RowKit Go.Sy
attribute [local irreducible] vcall vloop vcallD retP
set_option maxRecDepth 100000
set_option linter.unusedVariables false
set_option linter.unusedSimpArgs false
attribute [local irreducible] seq ByteArray.extract
abbrev clF (ro : Bool) (s : Lg) (dom : Nat → Prop) (F : Nat → Blk) : Heap := [(6, lgBg ro s), (0, some (GB glT)), (1, some (.one ro (.cells (lgF 2 3 4 5 6 s)))), (2, some (.one true (lgAcc s))), (3, some (.one ro (lgEnt 7 s))), (4, some (.one ro (lgPl s))), (5, some (.one ro (lgSt s))), (7, lgFam ro s), (8, some (.fam true dom F))]
theorem law_callF_no (s : Lg) (id undo : ByteArray) (d : Int) (L : List Lp) (n : Nat) (dom : Nat → Prop) (F : Nat → Blk) (i : Nat) (hi : dom i) (hF : F i = poB n L) (hs : LgOk s) (hn : L.length = n) (h0 : lgCE s ⟨id, d, L, n⟩ undo ≠ 0) :
    FC Tryd.prog 9 14 [.ptr 1 0 0 0, .agg [.str id, .int .i64 d, .sl 8 i 0 n, .str undo]] (clF true s dom F) (isOut (.int .i64 (lgCE s ⟨id, d, L, n⟩ undo)) [] 9) := by
  have c0 := fc_fam [(8, ⟨i, dom, F⟩)] (by exact ⟨⟨by decide, by decide, _, _, rfl, hi, hF, .inl rfl⟩, trivial⟩) (by exact ⟨rfl, gb_mok _ _, rfl, rfl, rfl, rfl, rfl, fun q _ => rfl, rfl, trivial⟩) (by exact trivial) allRw_nil (law_call_no s id undo d L n hs hn h0)
  have e : SV.mems (fmu [(8, ⟨i, dom, F⟩)]) [.ptr 1 0 0 0, .agg [.str id, .int .i64 d, .sl 8 0 0 n, .str undo]] = [.ptr 1 0 0 0, .agg [.str id, .int .i64 d, .sl 8 i 0 n, .str undo]] := by
    show [SV.ptr 1 0 0 0, SV.agg [.str id, .int .i64 d, .sl 8 (0 + i) 0 n, .str undo]] = _
    rw [Nat.zero_add]
  have eH : famH [(8, ⟨i, dom, F⟩)] (clH true s n L) = clF true s dom F := by
    show (6, _) :: (0, some (famHB _ 0 (GB glT))) :: _ = _
    rw [gb_fam]; rfl
  rw [e, eH] at c0
  exact c0
theorem law_callF_ok (s : Lg) (id undo : ByteArray) (d : Int) (L : List Lp) (n : Nat) (dom : Nat → Prop) (F : Nat → Blk) (i : Nat) (hi : dom i) (hF : F i = poB n L) (hs : LgOk s) (hn : L.length = n) (h0 : lgCE s ⟨id, d, L, n⟩ undo = 0) :
    FC Tryd.prog 9 14 [.ptr 1 0 0 0, .agg [.str id, .int .i64 d, .sl 8 i 0 n, .str undo]] (clF false s dom F) (isOut (.int .i64 0) (clO 2 9 4 5 6 10 (lgCS s ⟨id, d, L, n⟩ undo)) 11) := by
  have c0 := fc_fam [(8, ⟨i, dom, F⟩)] (by exact ⟨⟨by decide, by decide, _, _, rfl, hi, hF, .inl rfl⟩, trivial⟩) (by exact ⟨rfl, gb_mok _ _, rfl, rfl, rfl, rfl, rfl, fun q _ => rfl, rfl, trivial⟩) (by exact ⟨rfl, rfl, rfl, rfl, rfl, fun q _ => rfl, trivial⟩) (allRw_cons (allRw_cons (allRw_cons (allRw_cons (allRw_cons (allRw_fam allRw_nil)))))) (law_call_ok s id undo d L n hs hn h0)
  have e : SV.mems (fmu [(8, ⟨i, dom, F⟩)]) [.ptr 1 0 0 0, .agg [.str id, .int .i64 d, .sl 8 0 0 n, .str undo]] = [.ptr 1 0 0 0, .agg [.str id, .int .i64 d, .sl 8 i 0 n, .str undo]] := by
    show [SV.ptr 1 0 0 0, SV.agg [.str id, .int .i64 d, .sl 8 (0 + i) 0 n, .str undo]] = _
    rw [Nat.zero_add]
  have eH : famH [(8, ⟨i, dom, F⟩)] (clH false s n L) = clF false s dom F := by
    show (6, _) :: (0, some (famHB _ 0 (GB glT))) :: _ = _
    rw [gb_fam]; rfl
  rw [e, eH] at c0
  exact c0
end Go.Proofs.YtjjnbhbendlnhaaDoor

/- Plain facts on texts in ascending order. No program in sight. -/
namespace Go.Sy
open Go.RowKit

theorem ofB_toList (s : ByteArray) : s.toList = ofB s := by
  exact (by simpa using ByteArray.toList_eq s : s.toList = s.data.toList)
theorem strLt_eq (a b : ByteArray) : strLt a b = decide (ofB a < ofB b) := by
  unfold strLt
  rw [ofB_toList, ofB_toList, Go.Proofs.bytesLess_eq]
theorem ofB_inj {a b : ByteArray} (h : ofB a = ofB b) : a = b := by rw [← toB_ofB a, ← toB_ofB b, h]
theorem strLt_irrefl (a : ByteArray) : strLt a a = false := by rw [strLt_eq]; exact decide_eq_false (List.lt_irrefl _)
theorem strLt_asymm {a b : ByteArray} (h : strLt a b = true) : strLt b a = false := by
  rw [strLt_eq] at h ⊢
  exact decide_eq_false (List.lt_asymm (of_decide_eq_true h))
theorem sortS_pairwise {l : List ByteArray} (hd : l.Nodup) : (sortS l).Pairwise (fun a b => strLt a b = true) := by
  have tr : ∀ a b c : List UInt8, leB a b = true → leB b c = true → leB a c = true := fun a b c h1 h2 => by simp only [leB, decide_eq_true_eq] at *; exact List.le_trans h1 h2
  have to : ∀ a b : List UInt8, (leB a b || leB b a) = true := fun a b => by simp only [leB, Bool.or_eq_true, decide_eq_true_eq]; exact List.le_total a b
  have h1 := List.pairwise_mergeSort tr to (l.map ofB)
  have hd2 : (sortS l).Nodup := (sortS_perm l).symm.nodup hd
  have h2 : (sortS l).Pairwise (fun a b => leB (ofB a) (ofB b) = true) := by
    unfold sortS
    rw [List.pairwise_map]
    exact h1
  refine (List.Pairwise.and h2 hd2).imp ?_
  rintro a b ⟨h3, h4⟩
  rw [strLt_eq]
  simp only [leB, decide_eq_true_eq] at h3
  rcases List.le_iff_lt_or_eq.1 h3 with h5 | h5
  · exact decide_eq_true h5
  · exact absurd (ofB_inj h5) h4
/-- Texts in strictly ascending order are their own order. -/
theorem sortS_of {l m : List ByteArray} (hp : m.Perm l) (hm : m.Pairwise (fun a b => strLt a b = true)) : sortS l = m := by
  have hdm : m.Nodup := hm.imp (fun {a b} h e => by subst e; rw [strLt_irrefl] at h; cases h)
  refine List.Perm.eq_of_pairwise (le := fun a b => strLt a b = true) (fun a b _ _ h1 h2 => ?_) (sortS_pairwise (hp.nodup hdm)) hm ((sortS_perm l).trans hp.symm)
  rw [strLt_asymm h1] at h2; cases h2
end Go.Sy

/- The ledger's laws: the example of the chapter. -/
namespace Go.Proofs.YtjjnbhbendlnhaaDoor
open Go.RowKit Go.Sy
attribute [local irreducible] vcall vloop vcallD retP
set_option maxRecDepth 100000
set_option linter.unusedVariables false
set_option linter.unusedSimpArgs false

abbrev aA : ByteArray := ⟨#[97]⟩
abbrev aB : ByteArray := ⟨#[98]⟩
abbrev aEur : ByteArray := ⟨#[69, 85, 82]⟩
abbrev aUsd : ByteArray := ⟨#[85, 83, 68]⟩
abbrev aE1 : ByteArray := ⟨#[101, 49]⟩
abbrev aE2 : ByteArray := ⟨#[101, 50]⟩
abbrev aE3 : ByteArray := ⟨#[101, 51]⟩
abbrev aN : List ByteArray := [aA, aB]
abbrev aL1 : List Lp := [⟨aA, -5, aEur⟩, ⟨aB, 5, aEur⟩]
abbrev aL2 : List Lp := [⟨aA, -5, aEur⟩, ⟨aB, 5, aUsd⟩]
def aS0 : Lg := lg0 aN
def aS1 : Lg := lgP aS0 ⟨aE1, 20, aL1, 2⟩
def aS2 : Lg := lgRv aS1 aE1 aE2 21
theorem aw_n0 : nwE aN = 0 := by kernel_rfl
theorem aw_g1 : lgE aS0 ⟨aE1, 20, aL1, 2⟩ = 0 := by kernel_rfl
theorem aw_g2 : lgE aS1 ⟨aE2, 0, aL2, 2⟩ = 26 := by kernel_rfl
theorem aw_g3 : lgRE aS1 aE1 aE2 21 = 0 := by kernel_rfl
theorem aw_i1 : inL aE1 aS1.ids := by decide +kernel
theorem aw_i2 : ¬ inL aE1 aS1.st := by decide +kernel
theorem aw_g4 : lgE aS1 (revL aS1 aE1 aE2 21) = 0 := by kernel_rfl
theorem aw_i3 : inL aE1 aS2.ids := by decide +kernel
theorem aw_i4 : inL aE1 aS2.st := by decide +kernel
theorem aw_i5 : inL aE2 aS2.ids := by decide +kernel
theorem aw_i6 : inL aE2 aS2.st := by decide +kernel
theorem aw_b : aS2.bal aA aEur = 0 := by kernel_rfl
theorem aw_ok0 : LgOk aS0 := lg0_ok aw_n0
theorem aw_ok1 : LgOk aS1 := lgOk_post aw_ok0 rfl aw_g1
theorem aw_ok2 : LgOk aS2 := lgOk_rev aw_ok1 aw_g3
theorem aw_sort : sortS aN = aN := sortS_of (List.Perm.refl _) (.cons (fun a h => by simp only [List.mem_cons, List.not_mem_nil, or_false] at h; subst h; kernel_rfl) (List.pairwise_singleton _ _))
theorem aw_tr : (trA aS1 aEur).filter nzP = aL1 := by
  unfold trA
  rw [show aS1.acc = aN from rfl, aw_sort]
  kernel_rfl
attribute [local irreducible] lgE seq ByteArray.extract
set_option maxHeartbeats 2000000 in
theorem law_awake : Glob Tryd.prog glT 11 [] (.bool true) := by
  have c0 := lg_New_ok aN 2 rfl aw_n0
  have p1 := law_posting aA (-5)
  have p2 := law_posting aB 5
  have c1 := lg_Digest aS0
  have c2 := lg_Post_ok aS0 aE1 20 aL1 2 aw_ok0 rfl aw_g1
  have c3 := lg_Trial aS1 aEur aw_ok1
  rw [aw_tr] at c3
  have c4 := lg_Post_err aS1 aE2 0 aL2 2 aw_ok1 rfl (by rw [aw_g2]; decide)
  rw [aw_g2] at c4
  have c5 := lg_Reverse_ok aS1 aE1 aE2 21 aw_ok1 aw_i1 aw_i2 aw_g4
  have c6 := lg_Balance aS2 aA aEur
  rw [aw_b] at c6
  have c7 := lg_Reverse_set aS2 aE1 aE3 21 aw_ok2 aw_i3 aw_i4
  have c8 := lg_Reverse_set aS2 aE2 aE3 21 aw_ok2 aw_i5 aw_i6
  have d0 : aS0.dig = 0 := rfl
  change FC _ _ _ _ _ (isOut _ ((7, lgBg false aS0) :: _) _) at c0
  change FC _ _ _ _ _ (isOut _ ((6, lgBg false aS1) :: _) _) at c2
  change FC _ _ _ _ _ (isOut _ ((6, lgBg false aS2) :: _) _) at c5
  refine fc_of mixed T_ok Tryd.func11 rfl (by kernel_rfl) (by kernel_rfl) (by kernel_rfl) ?_
  repeat' ((conv => whnf); first | (refine vcall_pure (p1) rfl rfl rfl ?_) | (refine vcallD_pure (p1) rfl rfl rfl ?_) | (refine vcall_pure (p2) rfl rfl rfl ?_) | (refine vcallD_pure (p2) rfl rfl rfl ?_) | refine vcall_o (l := [0, 1]) (c0) ?_ | refine vcall_o (l := [0, 2, 3, 4, 5, 6, 7]) (c1) ?_ | refine vcall_o (l := [0, 2, 3, 4, 5, 6, 7, 8, 9]) (c2) ?_ | refine vcall_o (l := [0, 2, 3, 10, 5, 6, 7]) (c3) ?_ | refine vcallD_o (l := [0, 2, 3, 10, 5, 6, 7, 11, 13]) (c4) ?_ | refine vcall_o (l := [0, 2, 3, 10, 5, 6, 7, 11]) (c5) ?_ | refine vcall_o (l := [0, 2, 3, 14, 5, 6, 7]) (c6) ?_ | refine vcall_o (l := [0, 2, 3, 14, 5, 6, 7, 15]) (c7) ?_ | refine vcall_o (l := [0, 2, 3, 14, 5, 6, 7, 15]) (c8) ?_ | ((first | apply br_dec | apply br_ndec) <;> intro h <;> try (exfalso; (try dsimp only at h); omega)) | ((first | apply br_seq | apply br_nseq | apply br_not | apply br_intro) <;> intro h) | refine cond_a ?_)
  all_goals (conv => whnf)
  all_goals first
    | exact ret_pure rfl
    | (exfalso; exact absurd h (by decide +kernel))
    | trace_state
end Go.Proofs.YtjjnbhbendlnhaaDoor

/- Plain facts of the ledger's laws: postings by columns; how often a trial balance has an account; bounds of sums. No program in sight. -/
namespace Go.Proofs.YtjjnbhbendlnhaaDoor
open Go.RowKit Go.Sy
set_option linter.unusedVariables false
set_option linter.unusedSimpArgs false

/-- Postings out of columns. -/
def mkL (a : List ByteArray) (n : List Int) (c : List ByteArray) : List Lp := (List.range a.length).map (fun i => ⟨a.getD i ⟨#[]⟩, n.getD i 0, c.getD i ⟨#[]⟩⟩)
theorem mkL_len (a : List ByteArray) (n : List Int) (c : List ByteArray) : (mkL a n c).length = a.length := by unfold mkL; rw [List.length_map, List.length_range]
theorem mkL_a (a : List ByteArray) (n : List Int) (c : List ByteArray) : (mkL a n c).map Lp.a = a := by
  unfold mkL; rw [List.map_map]; exact map_range_getD a _
theorem mkL_n {a : List ByteArray} {n : List Int} (c : List ByteArray) (h : n.length = a.length) : (mkL a n c).map Lp.n = n := by
  unfold mkL; rw [List.map_map, ← h]; exact map_range_getD n _
theorem mkL_c {a c : List ByteArray} (n : List Int) (h : c.length = a.length) : (mkL a n c).map Lp.c = c := by
  unfold mkL; rw [List.map_map, ← h]; exact map_range_getD c _
theorem mkL_poB {a c : List ByteArray} {n : List Int} (k : Nat) (h : n.length = a.length) (h2 : c.length = a.length) : poB k (mkL a n c) = .cols k [.sc (.strs a), .sc (.ints .i64 n), .sc (.strs c)] := by
  unfold poB; rw [mkL_a, mkL_n c h, mkL_c n h2]
/-- How many accounts have a balance that is not zero. -/
def nzA (s : Lg) (cu : ByteArray) (a : ByteArray) : Bool := !decide (s.bal a cu = 0)
theorem tr_len (s : Lg) (cu : ByteArray) : ((trA s cu).filter nzP).length = s.acc.countP (nzA s cu) := by
  rw [← List.countP_eq_length_filter]
  unfold trA
  rw [List.countP_map]
  exact (sortS_perm s.acc).countP_eq _
/-- What a call leaves, and what always holds. -/
theorem cs_acc (s : Lg) (e : Le) (u : ByteArray) : (lgCS s e u).acc = s.acc ∧ (lgCS s e u).na = s.na ∧ (lgCS s e u).ne = s.ne + 1 := by
  unfold lgCS
  split <;> exact ⟨rfl, rfl, rfl⟩
end Go.Proofs.YtjjnbhbendlnhaaDoor

/- Plain facts of the law LedgerReverses: a ledger is posted again entry by entry; a reversal restores the balances. No program in sight. -/
namespace Go.Proofs.YtjjnbhbendlnhaaDoor
open Go.RowKit Go.Sy
set_option linter.unusedVariables false
set_option linter.unusedSimpArgs false

def digL (E : List Le) : Int := E.foldl (fun h e => chI h (leT e e.np)) 0
theorem digL_app (E : List Le) (e : Le) : digL (E ++ [e]) = chI (digL E) (leT e e.np) := by unfold digL; rw [List.foldl_append]; rfl
structure LgX (s : Lg) : Prop where
  ok : LgOk s
  dig : s.dig = digL s.ent
  pre : ∀ k a c, -4503599627370496 ≤ lgS (allP (s.ent.take k)) a c ∧ lgS (allP (s.ent.take k)) a c ≤ 4503599627370496
theorem lgX_zero {L : List ByteArray} (h : nwE L = 0) : LgX (lg0 L) := by
  refine ⟨lg0_ok h, rfl, fun k a c => ?_⟩
  have : (lg0 L).ent.take k = [] := by show ([] : List Le).take k = []; exact List.take_nil
  rw [this]
  show (-4503599627370496 : Int) ≤ 0 ∧ (0 : Int) ≤ 4503599627370496
  decide
theorem lgX_of {s s' : Lg} {e : Le} (h : LgX s) (h' : LgOk s') (h1 : s'.ent = s.ent ++ [e]) (h2 : s'.dig = chI s.dig (leT e e.np)) : LgX s' := by
  refine ⟨h', by rw [h1, h2, digL_app, h.dig], fun k a c => ?_⟩
  rcases Nat.lt_or_ge s.ent.length k with hk | hk
  · rw [List.take_of_length_le (by rw [h1, List.length_append, List.length_singleton]; omega), ← h'.bal]
    exact h'.rng a c
  · rw [h1, List.take_append_of_le_length hk]
    exact h.pre k a c
theorem lgX_p {s : Lg} {e : Le} (h : LgX s) (hn : e.ps.length = e.np) (h0 : lgE s e = 0) : LgX (lgP s e) := lgX_of h (lgOk_post h.ok hn h0) rfl rfl
theorem lgX_r {s : Lg} {id b : ByteArray} {d : Int} (h : LgX s) (h0 : lgRE s id b d = 0) : LgX (lgRv s id b d) := lgX_of h (lgOk_rev h.ok h0) rfl rfl
theorem cs_X {s : Lg} (h : LgX s) {e : Le} {u : ByteArray} (hn : e.ps.length = e.np) (h0 : lgCE s e u = 0) : LgX (lgCS s e u) := by
  unfold lgCE at h0
  unfold lgCS
  split
  · rename_i h1
    rw [if_pos h1] at h0
    exact lgX_p h hn h0
  · rename_i h1
    rw [if_neg h1] at h0
    exact lgX_r h h0
/-- The ledger of the first entries. -/
def yS (s : Lg) (k : Nat) : Lg := ⟨s.na, s.acc, k, s.ent.take k, 0, [], fun a c => lgS (allP (s.ent.take k)) a c, digL (s.ent.take k)⟩
theorem y_zero {s : Lg} {q : List ByteArray} (h : LgX s) (ha : s.acc = q) : lg0 q = yS s 0 := by
  unfold lg0 yS
  rw [← h.ok.na, ha]
  rfl
theorem digL_bd : ∀ E : List Le, 0 ≤ digL E ∧ digL E < 18446744073709551616 := by
  intro E
  rcases List.eq_nil_or_concat E with rfl | ⟨E', e, rfl⟩
  · exact ⟨by decide, by decide⟩
  · rw [List.concat_eq_append, digL_app]; exact chI_bd _ _
theorem y_ok {s : Lg} (h : LgX s) {k : Nat} (hk : k ≤ s.ne) : LgOk (yS s k) := by
  have hl : (s.ent.take k).length = k := by rw [List.length_take, h.ok.ne]; omega
  refine ⟨h.ok.na, h.ok.n512, h.ok.nd, h.ok.lab, hl, ?_, ?_, fun e he => h.ok.ent e (List.mem_of_mem_take he), rfl, ?_, ?_, fun a c => rfl, fun a c => h.pre k a c, digL_bd _⟩
  · have := h.ok.e512
    show k ≤ 512; omega
  · show ((s.ent.take k).map Le.id).Nodup
    rw [List.map_take]
    exact (List.take_sublist _ _).nodup h.ok.ids
  · exact Nat.zero_le _
  · exact fun x hx => absurd hx List.not_mem_nil
theorem y_take {s : Lg} {k : Nat} (hk : k < s.ent.length) : s.ent.take (k + 1) = s.ent.take k ++ [s.ent.getD k le0] := by
  rw [List.take_add_one, List.getD, List.getElem?_eq_getElem hk]; rfl
theorem y_mem {s : Lg} (h : LgX s) {k : Nat} (hk : k < s.ne) : s.ent.getD k le0 ∈ s.ent := by
  rw [List.getD, List.getElem?_eq_getElem (by rw [h.ok.ne]; exact hk)]; exact List.getElem_mem _
theorem y_step {s : Lg} (h : LgX s) {k : Nat} (hk : k < s.ne) : lgE (yS s k) (s.ent.getD k le0) = 0 ∧ lgP (yS s k) (s.ent.getD k le0) = yS s (k + 1) := by
  have hl : k < s.ent.length := by rw [h.ok.ne]; exact hk
  have ht := y_take (s := s) hl
  have hap : allP (s.ent.take (k + 1)) = allP (s.ent.take k) ++ (s.ent.getD k le0).ps := by rw [ht, allP_app]
  have hbal : ∀ a c, lgS (allP (s.ent.take (k + 1))) a c = lgS (allP (s.ent.take k)) a c + lgS (s.ent.getD k le0).ps a c := fun a c => by rw [hap, lgS_append]
  constructor
  · refine lgE_ok (h.ok.ent _ (y_mem h hk)) ?_ ?_ ?_
    · show (s.ent.getD k le0).id ∉ (s.ent.take k).map Le.id
      intro hm
      have hn := h.ok.ids
      have hids : s.ids = (s.ent.take (k + 1) ++ s.ent.drop (k + 1)).map Le.id := by rw [List.take_append_drop]
      rw [hids, ht, List.map_append, List.map_append] at hn
      have := (List.nodup_append.1 (List.nodup_append.1 hn).1).2.2 _ hm _ (by simp : (s.ent.getD k le0).id ∈ [s.ent.getD k le0].map Le.id)
      exact this rfl
    · refine rng_of fun a c => ?_
      show _ ≤ lgS (allP (s.ent.take k)) a c + _ ∧ lgS (allP (s.ent.take k)) a c + _ ≤ _
      rw [← hbal]
      exact h.pre (k + 1) a c
    · have := h.ok.e512
      show k < 512; omega
  · show Lg.mk _ _ _ (s.ent.take k ++ [s.ent.getD k le0]) _ _ (fun a c => lgS (allP (s.ent.take k)) a c + lgS (s.ent.getD k le0).ps a c) (chI (digL (s.ent.take k)) (leT _ _)) = _
    rw [← digL_app, ← ht]
    unfold yS
    congr 1
    funext a c
    exact (hbal a c).symm
theorem y_all {s : Lg} (h : LgX s) : (yS s s.ne).dig = s.dig ∧ (yS s s.ne).ent = s.ent := by
  have e : s.ent.take s.ne = s.ent := List.take_of_length_le (by rw [h.ok.ne]; exact Nat.le_refl _)
  unfold yS
  dsimp only
  rw [e, h.dig]
  exact ⟨rfl, rfl⟩
/-- The opposite postings. -/
theorem lgS_neg (a c : ByteArray) : ∀ L : List Lp, lgS (negP L) a c = - lgS L a c
  | [] => rfl
  | x :: L => by
    have ih := lgS_neg a c L
    have e : negP (x :: L) = ⟨x.a, -x.n, x.c⟩ :: negP L := rfl
    rw [e]
    simp only [lgS]
    rw [ih]
    split <;> omega
theorem lgC_neg (c : ByteArray) : ∀ L : List Lp, lgC (negP L) c = - lgC L c
  | [] => rfl
  | x :: L => by
    have ih := lgC_neg c L
    have e : negP (x :: L) = ⟨x.a, -x.n, x.c⟩ :: negP L := rfl
    rw [e]
    simp only [lgC]
    rw [ih]
    split <;> omega
theorem rev_last {s : Lg} {e : Le} (h : LgOk s) (he : e.id ∉ s.ids) (b : ByteArray) (d : Int) : revL (lgP s e) e.id b d = ⟨b, d, negP e.ps, e.np⟩ := by
  have hix : sidx (lgP s e).ids e.id = s.ent.length := by
    show sidx ((s.ent ++ [e]).map Le.id) e.id = _
    rw [List.map_append]
    refine sidx_of_get ?_ ?_
    · exact List.nodup_append.2 ⟨h.ids, by simp, fun x hx y hy e' => by simp at hy; subst hy; subst e'; exact he hx⟩
    · rw [List.getElem?_append_right (by simp)]; simp
  have hg : (lgP s e).ent.getD (sidx (lgP s e).ids e.id) le0 = e := by
    rw [hix]
    show (s.ent ++ [e]).getD s.ent.length le0 = e
    rw [List.getD, List.getElem?_append_right (Nat.le_refl _), Nat.sub_self]; rfl
  unfold revL
  rw [hg]
/-- What the reversal of the last entry answers. -/
theorem rev_err {s : Lg} {e : Le} (h : LgOk s) (hn : e.ps.length = e.np) (h0 : lgE s e = 0) (b : ByteArray) :
    inL e.id (lgP s e).ids ∧ ¬ inL e.id (lgP s e).st ∧ (lgE (lgP s e) (revL (lgP s e) e.id b e.date) = 0 ∨ lgE (lgP s e) (revL (lgP s e) e.id b e.date) = 5 ∨ lgE (lgP s e) (revL (lgP s e) e.id b e.date) = 7 ∨ lgE (lgP s e) (revL (lgP s e) e.id b e.date) = 12) := by
  obtain ⟨k1, k2, k3, k4⟩ := lgE_zero hn h0
  refine ⟨in_iff.2 ?_, fun hm => k2 (h.st _ (in_iff.1 hm)), ?_⟩
  · show e.id ∈ (s.ent ++ [e]).map Le.id
    rw [List.map_append]; exact List.mem_append_right _ (by simp)
  rw [rev_last h k2]
  obtain ⟨j1, j2, j3, j4, j5, j6, j7⟩ := k1
  by_cases hb : labB b = true
  · by_cases hi : b ∈ (lgP s e).ids
    · refine .inr (.inr (.inl ?_))
      unfold lgE
      rw [if_neg (by rw [hb]; decide), if_neg (by dsimp only; omega), if_pos (in_iff.2 hi)]
    · by_cases hf : (lgP s e).ne < 512
      · refine .inl (lgE_ok ⟨hb, j2, by dsimp only; rw [negP_len]; exact j3, j4, j5, ?_, ?_⟩ hi ?_ hf)
        · refine poE_zero.2 fun p hp => ?_
          obtain ⟨x, hx, rfl⟩ := List.mem_map.1 hp
          obtain ⟨a1, a2⟩ := poE_zero.1 j6 x hx
          exact ⟨a1, mchk_neg a2⟩
        · rw [lgBal_iff]
          intro c
          rw [lgC_neg, lgBal_iff.1 j7]; rfl
        · refine rng_of fun a c => ?_
          rw [lgS_neg]
          show _ ≤ s.bal a c + lgS e.ps a c + _ ∧ s.bal a c + lgS e.ps a c + _ ≤ _
          have := h.rng a c
          omega
      · refine .inr (.inr (.inr ?_))
        have e1 : poE (lgP s e).acc (negP e.ps) = 0 := poE_zero.2 fun p hp => by
          obtain ⟨x, hx, rfl⟩ := List.mem_map.1 hp
          obtain ⟨a1, a2⟩ := poE_zero.1 j6 x hx
          exact ⟨a1, mchk_neg a2⟩
        have e2 : lgBal (negP e.ps) = true := lgBal_iff.2 fun c => by rw [lgC_neg, lgBal_iff.1 j7]; rfl
        have e3 : rngB (lgP s e).bal (negP e.ps) = true := rng_of fun a c => by
          rw [lgS_neg]
          show _ ≤ s.bal a c + lgS e.ps a c + _ ∧ s.bal a c + lgS e.ps a c + _ ≤ _
          have := h.rng a c
          omega
        unfold lgE
        dsimp only
        rw [if_neg (by rw [hb]; decide), if_neg (by omega), if_neg (fun h => hi (in_iff.1 h)), if_neg (by omega), if_neg (fun h => h e1), if_neg (by rw [e2]; decide), if_neg (by rw [e3]; decide), if_pos (by omega)]
  · refine .inr (.inl ?_)
    unfold lgE
    rw [if_pos (by simpa using hb)]
/-- Behind the reversal the balances are as they were. -/
theorem rev_tr {s : Lg} {e : Le} (h : LgOk s) (he : e.id ∉ s.ids) (b : ByteArray) (d : Int) (c : ByteArray) : trA (lgRv (lgP s e) e.id b d) c = trA s c := by
  unfold trA
  refine List.map_congr_left fun a _ => ?_
  show (⟨a, (s.bal a c + lgS e.ps a c) + lgS (revL (lgP s e) e.id b d).ps a c, c⟩ : Lp) = _
  rw [rev_last h he]
  dsimp only
  rw [lgS_neg, Int.add_neg_cancel_right]
end Go.Proofs.YtjjnbhbendlnhaaDoor

/- Contracts for the law LedgerReverses: small of one call, alike and Post at members of families. -/
namespace Go.Proofs.YtjjnbhbendlnhaaDoor
open Go.RowKit Go.Sy
attribute [local irreducible] vcall vloop vcallD retP
set_option maxRecDepth 100000
set_option linter.unusedVariables false
set_option linter.unusedSimpArgs false
attribute [local irreducible] seq ByteArray.extract lgE
theorem law_small1 (id : ByteArray) (d : Int) (L : List Lp) (n : Nat) (hn : n ≤ 9223372036854775807) : FC Tryd.prog 3 13 [.sl 1 0 0 1, .int .i64 1] [(1, some (.one true (.cols 1 [.sc (.strs [id]), .sc (.ints .i64 [d]), .svs [.sl 2 0 0 n], .sc (.strs [⟨#[]⟩])]))), (2, some (.one true (poB n L)))] (isOut (.bool (decide (smK id ⟨#[]⟩ L n))) [] 3) := by
  refine fc_of mixed T_ok Tryd.func13 rfl (by kernel_rfl) (by kernel_rfl) (by kernel_rfl) ?_
  (conv => whnf)
  refine vloop_of (fun i : Nat => ⟨[(0, .sl 1 0 0 1), (1, .int .i64 1), (5, .int .i64 i)], [(1, some (.one true (.cols 1 [.sc (.strs [id]), .sc (.ints .i64 [d]), .svs [.sl 2 0 0 n], .sc (.strs [⟨#[]⟩])]))), (2, some (.one true (poB n L)))], 3⟩) (fun i => i = 0 ∨ (i = 1 ∧ smK id ⟨#[]⟩ L n)) (fun i => 1 - i) 0 [0, 1, 2] [] ⟨rfl, ⟨rfl, rfl, rfl, trivial⟩, ⟨rfl, rfl, trivial⟩⟩ (.inl rfl) ?_
  rintro i (rfl | ⟨rfl, hz⟩)
  · repeat' ((conv => whnf); first | (simp only [lg_tn]) | ((first | apply br_dec | apply br_ndec) <;> intro h <;> try (exfalso; (try dsimp only at h); omega)) | ((first | apply br_seq | apply br_nseq | apply br_not | apply br_intro) <;> intro h) | refine cond_a ?_)
    all_goals (conv => whnf)
    all_goals try (exfalso; omega)
    · refine ret_out (l := [0, 1, 2]) rfl ?_ trivial allRw_nil
      rw [decide_eq_false (fun q : smK id ⟨#[]⟩ L n => q.1 h)]; rfl
    · refine ret_out (l := [0, 1, 2]) rfl ?_ trivial allRw_nil
      have h2 : (20 : Int) < (n : Int) := h
      rw [decide_eq_false (fun q : smK id ⟨#[]⟩ L n => q.2.1 (by omega))]; rfl
    rename_i g1
    have g2 : ¬ (20 : Int) < (n : Int) := h
    have g1' : ¬ lo2 id ⟨#[]⟩ := g1
    refine vloop_of (fun k : Nat => ⟨[(0, .sl 1 0 0 1), (1, .int .i64 1), (5, .int .i64 0), (6, .int .i64 k)], [(1, some (.one true (.cols 1 [.sc (.strs [id]), .sc (.ints .i64 [d]), .svs [.sl 2 0 0 n], .sc (.strs [⟨#[]⟩])]))), (2, some (.one true (poB n L)))], 3⟩) (fun k => k ≤ n ∧ ∀ x, x < k → ¬ lo2 ((L.map Lp.a).getD x ⟨#[]⟩) ((L.map Lp.c).getD x ⟨#[]⟩)) (fun k => n - k) 0 [0, 1, 2] [] ⟨rfl, ⟨rfl, rfl, rfl, rfl, trivial⟩, ⟨rfl, rfl, trivial⟩⟩ ⟨Nat.zero_le _, fun i hi => absurd hi (Nat.not_lt_zero _)⟩ ?_
    rintro k ⟨hk, hy⟩
    unfold poB
    by_cases hk2 : k < n
    · repeat' ((conv => whnf); first | (simp only [lg_tn]) | ((first | apply br_dec | apply br_ndec) <;> intro h <;> try (exfalso; (try dsimp only at h); omega)) | ((first | apply br_seq | apply br_nseq | apply br_not | apply br_intro) <;> intro h) | refine cond_a ?_)
      all_goals (conv => whnf)
      · refine ret_out (l := [0, 1, 2]) rfl ?_ trivial allRw_nil
        rw [decide_eq_false (fun q : smK id ⟨#[]⟩ L n => q.2.2 k hk2 h)]; rfl
      · refine ⟨k + 1, [0, 1, 2], [], ⟨hk2, fun x hx => ?_⟩, (show n - (k + 1) < n - k by omega), ⟨rfl, ⟨rfl, rfl, rfl, congrArg (fun z => some (SV.int .i64 z)) (i64_succM (by omega)), trivial⟩, ⟨rfl, rfl, trivial⟩⟩⟩
        by_cases e : x = k
        · subst e; exact h
        · exact hy x (by omega)
    have ek : k = n := by omega
    repeat' ((conv => whnf); first | (simp only [lg_tn]) | ((first | apply br_dec | apply br_ndec) <;> intro h <;> try (exfalso; (try dsimp only at h); omega)) | ((first | apply br_seq | apply br_nseq | apply br_not | apply br_intro) <;> intro h) | refine cond_a ?_)
    all_goals (conv => whnf)
    all_goals first
      | (exfalso; omega)
      | skip
    exact ⟨1, [0, 1, 2], [], .inr ⟨rfl, g1', by omega, fun y hy2 => hy y (by omega)⟩, by decide, ⟨rfl, ⟨rfl, rfl, rfl, trivial⟩, ⟨rfl, rfl, trivial⟩⟩⟩
  · rw [decide_eq_true hz]
    repeat' ((conv => whnf); first | (simp only [lg_tn]) | ((first | apply br_dec | apply br_ndec) <;> intro h <;> try (exfalso; (try dsimp only at h); omega)) | ((first | apply br_seq | apply br_nseq | apply br_not | apply br_intro) <;> intro h) | refine cond_a ?_)
    all_goals (conv => whnf)
    all_goals first
      | (exfalso; omega)
      | exact ret_out (l := [0, 1, 2]) rfl rfl trivial allRw_nil
theorem law_alikeF1 (i1 i2 : ByteArray) (d1 d2 : Int) (A B : List Lp) (n m p : Nat) (dom : Nat → Prop) (F : Nat → Blk) (hp : dom p) (hF : F p = poB n A) (hA : A.length = n) (hB : B.length = m) (hn : n ≤ 9223372036854775807) : FC Tryd.prog 3 19 [.agg [.str i1, .int .i64 d1, .sl 1 p 0 n], .agg [.str i2, .int .i64 d2, .sl 2 0 0 m]] [(1, some (.fam true dom F)), (2, some (.one true (poB m B)))] (isOut (.bool (seq i1 i2 && (decide (d1 = d2) && saB A B))) [] 3) := by
  have c0 := fc_fam [(1, ⟨p, dom, F⟩)] (by exact ⟨⟨by decide, by decide, _, _, rfl, hp, hF, .inl rfl⟩, trivial⟩) (by exact ⟨rfl, rfl, trivial⟩) (by exact trivial) allRw_nil (law_alike i1 i2 d1 d2 A B n m hA hB hn)
  have e : SV.mems (fmu [(1, ⟨p, dom, F⟩)]) [.agg [.str i1, .int .i64 d1, .sl 1 0 0 n], .agg [.str i2, .int .i64 d2, .sl 2 0 0 m]] = [.agg [.str i1, .int .i64 d1, .sl 1 p 0 n], .agg [.str i2, .int .i64 d2, .sl 2 0 0 m]] := by
    show [SV.agg [.str i1, .int .i64 d1, .sl 1 (0 + p) 0 n], _] = _
    rw [Nat.zero_add]; rfl
  rw [e] at c0
  exact c0
theorem law_alikeFF (i1 i2 : ByteArray) (d1 d2 : Int) (A B : List Lp) (n m p p' : Nat) (dom dom' : Nat → Prop) (F F' : Nat → Blk) (hp : dom p) (hp' : dom' p') (hF : F p = poB n A) (hF' : F' p' = poB m B) (hA : A.length = n) (hB : B.length = m) (hn : n ≤ 9223372036854775807) : FC Tryd.prog 3 19 [.agg [.str i1, .int .i64 d1, .sl 1 p 0 n], .agg [.str i2, .int .i64 d2, .sl 2 p' 0 m]] [(1, some (.fam true dom F)), (2, some (.fam true dom' F'))] (isOut (.bool (seq i1 i2 && (decide (d1 = d2) && saB A B))) [] 3) := by
  have c0 := fc_fam [(1, ⟨p, dom, F⟩), (2, ⟨p', dom', F'⟩)] (by exact ⟨⟨by decide, by decide, _, _, rfl, hp, hF, .inl rfl⟩, ⟨by decide, by decide, _, _, rfl, hp', hF', .inl rfl⟩, trivial⟩) (by exact ⟨rfl, rfl, trivial⟩) (by exact trivial) allRw_nil (law_alike i1 i2 d1 d2 A B n m hA hB hn)
  have e : SV.mems (fmu [(1, ⟨p, dom, F⟩), (2, ⟨p', dom', F'⟩)]) [.agg [.str i1, .int .i64 d1, .sl 1 0 0 n], .agg [.str i2, .int .i64 d2, .sl 2 0 0 m]] = [.agg [.str i1, .int .i64 d1, .sl 1 p 0 n], .agg [.str i2, .int .i64 d2, .sl 2 p' 0 m]] := by
    show [SV.agg [.str i1, .int .i64 d1, .sl 1 (0 + p) 0 n], SV.agg [.str i2, .int .i64 d2, .sl 2 (0 + p') 0 m]] = _
    rw [Nat.zero_add, Nat.zero_add]
  rw [e] at c0
  exact c0
abbrev psF (s : Lg) (dom : Nat → Prop) (F : Nat → Blk) : Heap := [(6, lgBg false s), (0, some (GB glT)), (1, some (.one false (.cells (lgF 2 3 4 5 6 s)))), (2, some (.one true (lgAcc s))), (3, some (.one false (lgEnt 7 s))), (4, some (.one false (lgPl s))), (7, lgFam false s), (8, some (.fam true dom F))]
theorem lg_PostF (s : Lg) (id : ByteArray) (d : Int) (L : List Lp) (n : Nat) (dom : Nat → Prop) (F : Nat → Blk) (i : Nat) (hi : dom i) (hF : F i = poB n L) (hs : LgOk s) (hn : L.length = n) (h0 : lgE s ⟨id, d, L, n⟩ = 0) :
    FC Tryd.prog 9 7 [.ptr 1 0 0 0, .agg [.str id, .int .i64 d, .sl 8 i 0 n]] (psF s dom F) (isOut (.int .i64 0) ((6, lgBg false (lgP s ⟨id, d, L, n⟩)) :: psO (lgP s ⟨id, d, L, n⟩)) 11) := by
  have c0 := fc_fam [(8, ⟨i, dom, F⟩)] (by exact ⟨⟨by decide, by decide, _, _, rfl, hi, hF, .inl rfl⟩, trivial⟩) (by exact ⟨rfl, gb_mok _ _, rfl, rfl, rfl, rfl, fun q _ => rfl, rfl, trivial⟩) (by exact ⟨rfl, rfl, rfl, rfl, fun q _ => rfl, trivial⟩) (allRw_cons (allRw_cons (allRw_cons (allRw_cons (allRw_fam allRw_nil))))) (lg_Post_ok s id d L n hs hn h0)
  have e : SV.mems (fmu [(8, ⟨i, dom, F⟩)]) [.ptr 1 0 0 0, .agg [.str id, .int .i64 d, .sl 8 0 0 n]] = [.ptr 1 0 0 0, .agg [.str id, .int .i64 d, .sl 8 i 0 n]] := by
    show [SV.ptr 1 0 0 0, SV.agg [.str id, .int .i64 d, .sl 8 (0 + i) 0 n]] = _
    rw [Nat.zero_add]
  have eH : famH [(8, ⟨i, dom, F⟩)] ((6, lgBg false s) :: psH s n L) = psF s dom F := by
    show (6, _) :: (0, some (famHB _ 0 (GB glT))) :: _ = _
    rw [gb_fam]; rfl
  rw [e, eH] at c0
  exact c0
end Go.Proofs.YtjjnbhbendlnhaaDoor

/- The law LedgerBalances. -/
namespace Go.Proofs.YtjjnbhbendlnhaaDoor
open Go.RowKit Go.Sy
attribute [local irreducible] vcall vloop vcallD retP
set_option maxRecDepth 100000
set_option linter.unusedVariables false
set_option linter.unusedSimpArgs false
attribute [local irreducible] seq ByteArray.extract lgE
abbrev laH (l0 l1 : Nat) (q q0 q3 : List ByteArray) (q1 : List Int) (ns : List Nat) (Z : Nat → List Lp) (H : Heap) : Heap := (0, some (GB glT)) :: (1, some (.one true (.cols l0 [.sc (.strs q)]))) :: (2, some (.one true (doB l1 3 q0 q1 ns q3))) :: (3, doF l1 ns Z) :: H
theorem acc_eq {s s' : Lg} (h1 : s'.acc = s.acc) (h2 : s'.na = s.na) : lgAcc s = lgAcc s' := by
  unfold lgAcc; rw [h1, h2]
end Go.Proofs.YtjjnbhbendlnhaaDoor

/- The law LedgerBalances, as a whole. -/
namespace Go.Proofs.YtjjnbhbendlnhaaDoor
open Go.RowKit Go.Sy
attribute [local irreducible] vcall vloop vcallD retP
set_option maxRecDepth 100000
set_option linter.unusedVariables false
set_option linter.unusedSimpArgs false
attribute [local irreducible] seq ByteArray.extract lgE
theorem sm_yes {q0 q3 : List ByteArray} {Z : Nat → List Lp} {ns : List Nat} {l : Nat} {m : Int} (h : smB q0 q3 Z ns l m = true) : (l : Int) ≤ m := by
  unfold smB at h; exact (of_decide_eq_true h).2
end Go.Proofs.YtjjnbhbendlnhaaDoor

/- The law LedgerReverses: its loops. -/
namespace Go.Proofs.YtjjnbhbendlnhaaDoor
open Go.RowKit Go.Sy
attribute [local irreducible] vcall vloop vcallD retP
set_option maxRecDepth 100000
set_option linter.unusedVariables false
set_option linter.unusedSimpArgs false
attribute [local irreducible] seq ByteArray.extract lgE
abbrev rx (s : Lg) : Heap := [(11, lgBg false s), (6, some (.one false (.cells (lgF 7 8 9 10 11 s)))), (7, some (.one false (lgAcc s))), (8, some (.one false (lgEnt 12 s))), (9, some (.one false (lgPl s))), (10, some (.one false (lgSt s))), (12, lgFam false s)]
abbrev ry (s : Lg) : Heap := [(18, lgBg false s), (13, some (.one false (.cells (lgF 14 15 16 17 18 s)))), (14, some (.one false (lgAcc s))), (15, some (.one false (lgEnt 19 s))), (16, some (.one false (lgPl s))), (17, some (.one false (lgSt s))), (19, lgFam false s)]
/-- The entry that is handed in. -/
abbrev reE (id : ByteArray) (d : Int) (n : Nat) (L : List Lp) (H : Heap) : Heap := (0, some (GB glT)) :: (4, some (.one true (poB n L))) :: (5, some (.one false (.cells [.str id, .int .i64 d, .sl 4 0 0 n]))) :: H
abbrev reD (l1 : Nat) (q0 q3 : List ByteArray) (q1 : List Int) (ns : List Nat) (Z : Nat → List Lp) (H : Heap) : Heap := (2, some (.one true (doB l1 3 q0 q1 ns q3))) :: (3, doF l1 ns Z) :: H
def reS (l1 : Nat) (q0 q3 : List ByteArray) (q1 : List Int) (ns : List Nat) (Z : Nat → List Lp) (id : ByteArray) (d : Int) (n : Nat) (L : List Lp) (y0 : Lg) (x : Nat × Lg) : VS :=
  ⟨[(1, .sl 2 0 0 l1), (5, .ptr 5 0 0 0), (7, .ptr 6 0 0 0), (9, .ptr 13 0 0 0), (11, .int .i64 x.1)], reE id d n L (reD l1 q0 q3 q1 ns Z (rx x.2 ++ ry y0)), 20⟩
theorem re_round (l1 : Nat) (q0 q3 : List ByteArray) (q1 : List Int) (ns : List Nat) (Z : Nat → List Lp) (id : ByteArray) (d : Int) (n : Nat) (L : List Lp) (y0 : Lg) (k : Nat) (s : Lg) (hk : k < l1) (hl : l1 ≤ 60) (hs : LgX s) (hZ : (Z k).length = ns.getD k 0) (hne : s.ne ≤ k) (K : Exit → VS → Prop)
    (hK : ∀ v, (∃ (y : Nat × Lg) (l : List Nat) (u : List Up), (y.1 ≤ l1 ∧ LgX y.2 ∧ y.2.acc = s.acc ∧ y.2.ne ≤ y.1) ∧ l1 - y.1 < l1 - k ∧ upK u v (fun v => Weak 5 l v (reS l1 q0 q3 q1 ns Z id d n L y0 y))) → K .normal v) :
    vcode Tryd.prog T 5 (lpc Tryd.f5 0) (reS l1 q0 q3 q1 ns Z id d n L y0 (k, s)) K := by
  by_cases h0 : lgCE s ⟨q0.getD k ⟨#[]⟩, q1.getD k 0, Z k, ns.getD k 0⟩ (q3.getD k ⟨#[]⟩) = 0
  · have c := law_callF_ok s (q0.getD k ⟨#[]⟩) (q3.getD k ⟨#[]⟩) (q1.getD k 0) (Z k) (ns.getD k 0) (fun x => x < l1) (fun x => poB (ns.getD x 0) (Z x)) k hk rfl hs.ok hZ h0
    obtain ⟨a1, a2, a3⟩ := cs_acc s ⟨q0.getD k ⟨#[]⟩, q1.getD k 0, Z k, ns.getD k 0⟩ (q3.getD k ⟨#[]⟩)
    have ok := cs_X hs (e := ⟨q0.getD k ⟨#[]⟩, q1.getD k 0, Z k, ns.getD k 0⟩) (u := q3.getD k ⟨#[]⟩) hZ h0
    generalize lgCS s ⟨q0.getD k ⟨#[]⟩, q1.getD k 0, Z k, ns.getD k 0⟩ (q3.getD k ⟨#[]⟩) = s' at *
    have ha := acc_eq a1 a2
    repeat' ((conv => whnf); first | refine vcall_o (l := [0, 6, 7, 8, 9, 10, 11, 12, 3]) (c) ?_ | ((first | apply br_dec | apply br_ndec) <;> intro h <;> try (exfalso; (try dsimp only at h); omega)) | ((first | apply br_seq | apply br_nseq | apply br_not | apply br_intro) <;> intro h) | refine cond_a ?_)
    all_goals (conv => whnf)
    all_goals first
      | (exfalso; omega)
      | exact hK _ ⟨(k + 1, s'), [0, 1, 2, 3, 4, 5, 6, 7, 20, 9, 10, 11, 21, 13, 14, 15, 16, 17, 18, 19], [], ⟨by dsimp only; omega, ok, a1, by dsimp only; omega⟩, by dsimp only; omega, ⟨rfl, ⟨rfl, rfl, rfl, rfl, congrArg (fun z => some (SV.int .i64 z)) (i64_succ (by omega)), trivial⟩, ⟨gwk rfl, rfl, rfl, rfl, rfl, rfl, rfl, congrArg (fun z => some (HB.one false z)) ha, rfl, rfl, rfl, rfl, rfl, rfl, rfl, rfl, rfl, rfl, rfl, trivial⟩⟩⟩
      | trace_state
  · have c := law_callF_no s (q0.getD k ⟨#[]⟩) (q3.getD k ⟨#[]⟩) (q1.getD k 0) (Z k) (ns.getD k 0) (fun x => x < l1) (fun x => poB (ns.getD x 0) (Z x)) k hk rfl hs.ok hZ h0
    generalize lgCE s ⟨q0.getD k ⟨#[]⟩, q1.getD k 0, Z k, ns.getD k 0⟩ (q3.getD k ⟨#[]⟩) = E at *
    repeat' ((conv => whnf); first | refine vcall_o (l := [0, 6, 7, 8, 9, 10, 11, 12, 3]) (c) ?_ | ((first | apply br_dec | apply br_ndec) <;> intro h <;> try (exfalso; (try dsimp only at h); omega)) | ((first | apply br_seq | apply br_nseq | apply br_not | apply br_intro) <;> intro h) | refine cond_a ?_)
    all_goals (conv => whnf)
    all_goals first
      | (exfalso; omega)
      | exact hK _ ⟨(k + 1, s), [0, 1, 2, 3, 4, 5, 6, 7, 8, 9, 10, 11, 12, 13, 14, 15, 16, 17, 18, 19], [], ⟨by dsimp only; omega, hs, rfl, by dsimp only; omega⟩, by dsimp only; omega, ⟨rfl, ⟨rfl, rfl, rfl, rfl, congrArg (fun z => some (SV.int .i64 z)) (i64_succ (by omega)), trivial⟩, ⟨gwk rfl, rfl, rfl, rfl, rfl, rfl, rfl, rfl, rfl, rfl, rfl, rfl, rfl, rfl, rfl, rfl, rfl, rfl, rfl, trivial⟩⟩⟩
      | trace_state
/-- The entries are posted again. -/
abbrev reW (s : Lg) (H : Heap) : Heap := (20, some (.one false (lgEnt 21 s))) :: (21, lgFam false s) :: H
def rpS (id : ByteArray) (d : Int) (n : Nat) (L : List Lp) (s : Lg) (k : Nat) : VS :=
  ⟨[(5, .ptr 5 0 0 0), (7, .ptr 6 0 0 0), (9, .ptr 13 0 0 0), (12, .sl 20 0 0 s.ne), (13, .int .i64 k)], reE id d n L (reW s (rx s ++ ry (yS s k))), 22⟩
theorem re_post (id : ByteArray) (d : Int) (n : Nat) (L : List Lp) (s : Lg) (k : Nat) (hk : k < s.ne) (hs : LgX s) (K : Exit → VS → Prop)
    (hK : ∀ v, (∃ (y : Nat) (l : List Nat) (u : List Up), y ≤ s.ne ∧ s.ne - y < s.ne - k ∧ upK u v (fun v => Weak 5 l v (rpS id d n L s y))) → K .normal v) :
    vcode Tryd.prog T 5 (lpc Tryd.f5 1) (rpS id d n L s k) K := by
  have h5 := hs.ok.e512
  have hok := hs.ok.ent _ (y_mem hs hk)
  obtain ⟨h0, h1⟩ := y_step hs hk
  have c := lg_PostF (yS s k) ((s.ent.map Le.id).getD k ⟨#[]⟩) ((s.ent.map Le.date).getD k 0) (s.ent.getD k le0).ps ((s.ent.map Le.np).getD k 0) (fun x => x < s.ne) (enF s.ent) k hk (by rw [le_np]; rfl) (y_ok hs (by omega)) (by rw [le_np]; exact hok.n) (by rw [le_id, le_date, le_np]; exact h0)
  have h1' : lgP (yS s k) ⟨(s.ent.map Le.id).getD k ⟨#[]⟩, (s.ent.map Le.date).getD k 0, (s.ent.getD k le0).ps, (s.ent.map Le.np).getD k 0⟩ = yS s (k + 1) := by rw [le_id, le_date, le_np]; exact h1
  rw [h1'] at c
  have ha : lgAcc (yS s k) = lgAcc (yS s (k + 1)) := rfl
  have hst : lgSt (yS s k) = lgSt (yS s (k + 1)) := rfl
  unfold rpS
  generalize hy : yS s (k + 1) = y1 at *
  generalize hy0 : yS s k = y0 at *
  repeat' ((conv => whnf); first | refine vcall_o (l := [0, 13, 14, 15, 16, 17, 18, 19, 21]) (c) ?_ | ((first | apply br_dec | apply br_ndec) <;> intro h <;> try (exfalso; (try dsimp only at h); omega)) | ((first | apply br_seq | apply br_nseq | apply br_not | apply br_intro) <;> intro h) | refine cond_a ?_)
  all_goals (conv => whnf)
  all_goals first
    | (exfalso; omega)
    | (refine hK _ ⟨k + 1, [0, 1, 2, 3, 4, 5, 6, 7, 8, 9, 10, 11, 12, 13, 14, 22, 16, 17, 18, 23, 20, 21], [], by omega, by omega, ?_⟩
       unfold rpS
       rw [hy]
       exact ⟨rfl, ⟨rfl, rfl, rfl, rfl, congrArg (fun z => some (SV.int .i64 z)) (i64_succ (by omega)), trivial⟩, ⟨gwk rfl, rfl, rfl, rfl, rfl, rfl, rfl, rfl, rfl, rfl, rfl, rfl, rfl, rfl, congrArg (fun z => some (HB.one false z)) ha, rfl, rfl, congrArg (fun z => some (HB.one false z)) hst, rfl, trivial⟩⟩)
    | trace_state
/-- Entries are compared. -/
def rcS (s s' : Lg) (n1 n2 : Nat) (T1 T2 : List Lp) (f : Int) (k : Nat) : VS :=
  ⟨[(7, .ptr 6 0 0 0), (12, .sl 20 0 0 s.ne), (14, .sl 22 0 0 n1), (15, .sl 23 0 0 n2), (16, .int .i64 f), (17, .sl 24 0 0 s'.ne), (18, .int .i64 k)],
    (0, some (GB glT)) :: (11, lgBg false s') :: (6, some (.one false (.cells (lgF 7 8 9 10 11 s')))) :: (7, some (.one false (lgAcc s'))) :: reW s [(22, some (.one false (poB n1 T1))), (23, some (.one false (poB n2 T2))), (24, some (.one false (lgEnt 25 s'))), (25, lgFam false s')], 26⟩
theorem al_true {i1 i2 : ByteArray} {d1 d2 : Int} {A B : List Lp} (h1 : i1 = i2) (h2 : d1 = d2) (h3 : A = B) : (seq i1 i2 && (decide (d1 = d2) && saB A B)) = true := by
  rw [Bool.and_eq_true, Bool.and_eq_true]
  exact ⟨lg_seq.2 h1, decide_eq_true h2, decide_eq_true h3⟩
theorem re_cmp (s s' : Lg) (n1 n2 : Nat) (T1 T2 : List Lp) (f : Int) (k : Nat) (hk : k < s.ne) (hs : LgX s) (hle : s.ne < s'.ne) (he : s'.ent.getD k le0 = s.ent.getD k le0) (K : Exit → VS → Prop)
    (hK : ∀ v, (∃ (y : Nat) (l : List Nat) (u : List Up), y ≤ s.ne ∧ s.ne - y < s.ne - k ∧ upK u v (fun v => Weak 5 l v (rcS s s' n1 n2 T1 T2 f y))) → K .normal v) :
    vcode Tryd.prog T 5 (lpc Tryd.f5 2) (rcS s s' n1 n2 T1 T2 f k) K := by
  have h5 := hs.ok.e512
  have hok := hs.ok.ent _ (y_mem hs hk)
  have hn : (s.ent.getD k le0).ps.length = (s.ent.map Le.np).getD k 0 := by rw [le_np]; exact hok.n
  have hn' : (s'.ent.getD k le0).ps.length = (s'.ent.map Le.np).getD k 0 := by rw [le_np, he]; exact hok.n
  have c := law_alikeFF ((s'.ent.map Le.id).getD k ⟨#[]⟩) ((s.ent.map Le.id).getD k ⟨#[]⟩) ((s'.ent.map Le.date).getD k 0) ((s.ent.map Le.date).getD k 0) (s'.ent.getD k le0).ps (s.ent.getD k le0).ps ((s'.ent.map Le.np).getD k 0) ((s.ent.map Le.np).getD k 0) k k (fun x => x < s'.ne) (fun x => x < s.ne) (enF s'.ent) (enF s.ent) (by omega) hk (by rw [le_np]; rfl) (by rw [le_np]; rfl) hn' hn (by rw [← hn', he, hok.n]; have := hok.n16; omega)
  rw [al_true (by rw [le_id, le_id, he]) (by rw [le_date, le_date, he]) (by rw [he])] at c
  unfold rcS
  repeat' ((conv => whnf); first | refine vcallD_o (l := [0, 25, 21]) (c) ?_ | ((first | apply br_dec | apply br_ndec) <;> intro h <;> try (exfalso; (try dsimp only at h); omega)) | ((first | apply br_seq | apply br_nseq | apply br_not | apply br_intro) <;> intro h) | refine cond_a ?_)
  all_goals (conv => whnf)
  all_goals first
    | (exfalso; omega)
    | exact hK _ ⟨k + 1, [0, 1, 2, 3, 4, 5, 6, 7, 8, 9, 10, 11, 12, 13, 14, 15, 16, 17, 18, 19, 20, 21, 22, 23, 24, 25], [], by omega, by omega, ⟨rfl, ⟨rfl, rfl, rfl, rfl, rfl, rfl, congrArg (fun z => some (SV.int .i64 z)) (i64_succ (by omega)), trivial⟩, ⟨gwk rfl, rfl, rfl, rfl, rfl, rfl, rfl, rfl, rfl, rfl, trivial⟩⟩⟩
    | trace_state
end Go.Proofs.YtjjnbhbendlnhaaDoor

/- The law LedgerReverses, as a whole. -/
namespace Go.Proofs.YtjjnbhbendlnhaaDoor
open Go.RowKit Go.Sy
attribute [local irreducible] vcall vloop vcallD retP
set_option maxRecDepth 100000
set_option linter.unusedVariables false
set_option linter.unusedSimpArgs false
attribute [local irreducible] seq ByteArray.extract lgE
theorem ent_facts {s s' : Lg} {e : Le} {R : List Le} (h : LgOk s) (he : s'.ent = s.ent ++ e :: R) : (∀ k, k < s.ne → s'.ent.getD k le0 = s.ent.getD k le0) ∧ s'.ent.getD s.ne le0 = e := by
  rw [he, ← h.ne]
  constructor
  · intro k hk
    rw [List.getD, List.getElem?_append_left hk]; rfl
  · rw [List.getD, List.getElem?_append_right (Nat.le_refl _), Nat.sub_self]; rfl
abbrev aUndo : ByteArray := ⟨#[117, 110, 100, 111, 58]⟩
set_option maxHeartbeats 4000000 in
theorem law_Reverses (l0 l1 : Nat) (q q0 q3 : List ByteArray) (q1 : List Int) (ns : List Nat) (Z : Nat → List Lp) (hq : q.length = l0) (hl0 : l0 ≤ maxLen) (hl1 : l1 ≤ maxLen) (hZ : ∀ x, x < l1 → (Z x).length = ns.getD x 0) (id : ByteArray) (d : Int) (n : Nat) (L : List Lp) (hn : L.length = n) (hnl : n ≤ maxLen) :
    FC Tryd.prog 5 5 [.sl 1 0 0 l0, .sl 2 0 0 l1, .agg [.str id, .int .i64 d, .sl 4 0 0 n]] (laH l0 l1 q q0 q3 q1 ns Z [(4, some (.one true (poB n L)))]) (isOut (.bool true) [] 5) := by
  have eM : maxLen = 9223372036854775807 := rfl
  have cA := law_awake
  have c1 := law_accounts q l0 30 (by omega)
  have c2 := law_small q0 q3 q1 Z ns l1 60 (by omega)
  have c3 := law_small1 id d L n (by omega)
  by_cases hn : nwE q = 0
  case neg =>
    have c0 := lg_New_no q l0 hq hn
    generalize nwE q = E at *
    have hd : decide (E = 0) = false := decide_eq_false hn
    refine fc_of mixed T_ok Tryd.func5 rfl (by kernel_rfl) (by kernel_rfl) (by kernel_rfl) ?_
    repeat' ((conv => whnf); first | refine vcall_o (l := [0, 1]) (c0) ?_ | (refine vcall_glob (cA) rfl rfl rfl rfl ?_) | (refine vcallD_glob (cA) rfl rfl rfl rfl ?_) | (rw [hd]) | ((first | apply br_dec | apply br_ndec) <;> intro h <;> try (exfalso; (try dsimp only at h); omega)) | ((first | apply br_seq | apply br_nseq | apply br_not | apply br_intro) <;> intro h) | refine cond_a ?_)
    all_goals (conv => whnf)
    all_goals first
      | exact ret_out (l := [0, 1, 2, 3, 4]) rfl rfl trivial allRw_nil
      | (exfalso; omega)
      | (exfalso; exact hn h)
      | (exfalso; exact h rfl)
      | trace_state
  have c0 := lg_New_ok q l0 hq hn
  have ok0 := lgX_zero hn
  have yz := fun (s : Lg) (h : LgX s) (ha : s.acc = q) => y_zero h ha
  have a0 : (lg0 q).acc = q := rfl
  have n0 : (lg0 q).ne = 0 := rfl
  generalize lg0 q = s0 at *
  have y2 := fun h => sm_yes (q0 := q0) (q3 := q3) (Z := Z) (ns := ns) (l := l1) (m := 60) h
  generalize acB q l0 30 = b1 at *
  generalize smB q0 q3 Z ns l1 60 = b2 at *
  generalize decide (smK id ⟨#[]⟩ L n) = b3 at *
  refine fc_of mixed T_ok Tryd.func5 rfl (by kernel_rfl) (by kernel_rfl) (by kernel_rfl) ?_
  repeat' ((conv => whnf); first | refine vcall_o (l := [0, 1]) (c0) ?_ | refine vcall_o (l := [0, 1]) (c1) ?_ | refine vcall_o (l := [0, 2, 3]) (c2) ?_ | refine vcall_o (l := [0, 20, 4]) (c3) ?_ | (refine vcall_glob (cA) rfl rfl rfl rfl ?_) | (refine vcallD_glob (cA) rfl rfl rfl rfl ?_) | ((first | apply br_dec | apply br_ndec) <;> intro h <;> try (exfalso; (try dsimp only at h); omega)) | ((first | apply br_seq | apply br_nseq | apply br_not | apply br_intro) <;> intro h) | refine cond_a ?_)
  all_goals (conv => whnf)
  all_goals first
    | exact ret_out (l := [0, 1, 2, 3, 4]) rfl rfl trivial allRw_nil
    | (exfalso; omega)
    | (exfalso; exact h rfl)
    | skip
  have h60 := y2 (by assumption)
  refine vloop_of (reS l1 q0 q3 q1 ns Z id d n L s0) (fun x => x.1 ≤ l1 ∧ LgX x.2 ∧ x.2.acc = q ∧ x.2.ne ≤ x.1) (fun x => l1 - x.1) (0, s0) [0, 1, 2, 3, 4, 5, 6, 7, 8, 9, 10, 11, 12, 13, 14, 15, 16, 17, 18, 19] [] ⟨rfl, ⟨rfl, rfl, rfl, rfl, rfl, trivial⟩, ⟨gwk rfl, rfl, rfl, rfl, rfl, rfl, rfl, rfl, rfl, rfl, rfl, rfl, rfl, rfl, rfl, rfl, rfl, rfl, rfl, trivial⟩⟩ ⟨Nat.zero_le _, ok0, a0, by dsimp only; omega⟩ ?_
  rintro ⟨k, s⟩ ⟨hk, hs, ha, hne⟩
  dsimp only at hk hs ha hne
  by_cases hk2 : k < l1
  · refine re_round l1 q0 q3 q1 ns Z id d n L s0 k s hk2 (by omega) hs (hZ k hk2) hne _ (fun v hv => ?_)
    rw [ha] at hv
    exact hv
  obtain rfl : k = l1 := by omega
  have hn60 : s.ne ≤ 60 := by omega
  have cE := lg_Entries s hs.ok
  have hy := yz s hs ha
  subst hy
  unfold reS
  repeat' ((conv => whnf); first | refine vcall_o (l := [0, 6, 7, 8, 9, 10, 11, 12]) (cE) ?_ | ((first | apply br_dec | apply br_ndec) <;> intro h <;> try (exfalso; (try dsimp only at h); omega)) | ((first | apply br_seq | apply br_nseq | apply br_not | apply br_intro) <;> intro h) | refine cond_a ?_)
  all_goals (conv => whnf)
  all_goals first
    | (exfalso; omega)
    | skip
  refine vloop_of (rpS id d n L s) (fun x => x ≤ s.ne) (fun x => s.ne - x) 0 [0, 1, 2, 3, 4, 5, 6, 7, 8, 9, 10, 11, 12, 13, 14, 15, 16, 17, 18, 19, 20, 21] [] ⟨rfl, ⟨rfl, rfl, rfl, rfl, rfl, trivial⟩, ⟨gwk rfl, rfl, rfl, rfl, rfl, rfl, rfl, rfl, rfl, rfl, rfl, rfl, rfl, rfl, rfl, rfl, rfl, rfl, rfl, trivial⟩⟩ (Nat.zero_le _) ?_
  intro i hi
  by_cases hi2 : i < s.ne
  · exact re_post id d n L s i hi2 hs _ (fun v hv => hv)
  obtain rfl : i = s.ne := by omega
  have cDx := lg_Digest s
  have cDy := lg_Digest (yS s s.ne)
  rw [(y_all hs).1] at cDy
  have cT1 := lg_Trial s aEur hs.ok
  have cT2 := lg_Trial s aUsd hs.ok
  unfold rpS
  generalize yS s s.ne = y at *
  have hT1 : (trA s aEur).filter nzP = (trA s aEur).filter nzP := rfl
  have hT2 : (trA s aUsd).filter nzP = (trA s aUsd).filter nzP := rfl
  have hT1n : ((trA s aEur).filter nzP).length ≤ 512 := by rw [tr_len]; exact Nat.le_trans List.countP_le_length (by have := hs.ok.na; have := hs.ok.n512; omega)
  have hT2n : ((trA s aUsd).filter nzP).length ≤ 512 := by rw [tr_len]; exact Nat.le_trans List.countP_le_length (by have := hs.ok.na; have := hs.ok.n512; omega)
  generalize hE1 : (trA s aEur).filter nzP = T1 at cT1 hT1 hT1n
  generalize hE2 : (trA s aUsd).filter nzP = T2 at cT2 hT2 hT2n
  generalize hn1 : T1.length = n1 at *
  generalize hn2 : T2.length = n2 at *
  by_cases h0 : lgE s ⟨id, d, L, n⟩ = 0
  case neg =>
    have cP := lg_Post_err s id d L n hs.ok (by assumption) h0
    generalize lgE s ⟨id, d, L, n⟩ = E at *
    repeat' ((conv => whnf); first | refine vcall_o (l := [0, 6, 7, 8, 9, 10, 11]) (cDx) ?_ | refine vcall_o (l := [0, 13, 14, 15, 16, 17, 18]) (cDy) ?_ | refine vcall_o (l := [0, 6, 7, 8, 9, 10, 11]) (cT1) ?_ | refine vcall_o (l := [0, 6, 7, 8, 9, 10, 11]) (cT2) ?_ | refine vcall_o (l := [0, 6, 7, 8, 9, 10, 11, 12, 4]) (cP) ?_ | refine vcall_o (l := [0, 6, 7, 8, 9, 10, 11, 12]) (cE) ?_ | (refine vcall_glob (cA) rfl rfl rfl rfl ?_) | (refine vcallD_glob (cA) rfl rfl rfl rfl ?_) | ((first | apply br_dec | apply br_ndec) <;> intro h <;> try (exfalso; (try dsimp only at h); omega)) | ((first | apply br_seq | apply br_nseq | apply br_not | apply br_intro) <;> intro h) | refine cond_a ?_)
    all_goals (conv => whnf)
    all_goals first
      | (exfalso; omega)
      | (exfalso; exact h rfl)
      | (exfalso; exact h0 h)
      | exact ret_out (l := [0, 1, 2, 3, 4]) rfl rfl trivial allRw_nil
      | trace_state
  have cP := lg_Post_ok s id d L n hs.ok (by assumption) h0
  obtain ⟨kk1, kk2, kk3, kk4⟩ := lgE_zero (e := ⟨id, d, L, n⟩) (by assumption) h0
  have okP := lgOk_post hs.ok (e := ⟨id, d, L, n⟩) (by assumption) h0
  obtain ⟨g1, g2, g3⟩ := rev_err hs.ok (e := ⟨id, d, L, n⟩) (by assumption) h0 (aUndo ++ id)
  have hrt := fun c => rev_tr hs.ok (e := ⟨id, d, L, n⟩) kk2 (aUndo ++ id) d c
  have hsz : id.size ≤ 40 := (lab_size kk1.id).2
  have hcat : aUndo.size + id.size ≤ 9223372036854775807 := by have : aUndo.size = 5 := rfl; omega
  have hnl2 : n ≤ 16 := kk1.n16
  have hLn : L.length = n := by assumption
  have hw1 : IntKind.i64.wrap ((s.ne : Int) + 1) = ((s.ne + 1 : Nat) : Int) := i64_succ (by omega)
  have hw2 : IntKind.i64.wrap ((s.ne : Int) + 2) = ((s.ne + 2 : Nat) : Int) := by rw [w64_in (by omega) (by omega)]; rfl
  dsimp only at g1 g2 g3 hrt
  have pent : (lgP s ⟨id, d, L, n⟩).ent = s.ent ++ ⟨id, d, L, n⟩ :: [] := rfl
  have pne : (lgP s ⟨id, d, L, n⟩).ne = s.ne + 1 := rfl
  have pst : lgSt (lgP s ⟨id, d, L, n⟩) = lgSt s := rfl
  have plA : lgAcc (lgP s ⟨id, d, L, n⟩) = lgAcc s := rfl
  have pacc : (lgP s ⟨id, d, L, n⟩).acc = s.acc := rfl
  have pna : (lgP s ⟨id, d, L, n⟩).na = s.na := rfl
  generalize lgP s ⟨id, d, L, n⟩ = s1 at *
  by_cases g0 : lgE s1 (revL s1 id (aUndo ++ id) d) = 0
  case pos =>
    have cR := lg_Reverse_ok s1 id (aUndo ++ id) d okP g1 g2 g0
    rw [pst, plA] at cR
    have okS : LgOk (lgRv s1 id (aUndo ++ id) d) := lgOk_rev okP (by unfold lgRE; rw [if_pos g1, if_neg g2]; exact g0)
    obtain ⟨hL1, hL2⟩ := ent_facts (s' := lgRv s1 id (aUndo ++ id) d) (R := [revL s1 id (aUndo ++ id) d]) hs.ok (by show s1.ent ++ _ = _; rw [pent, List.append_assoc]; rfl)
    have hS2 : (lgRv s1 id (aUndo ++ id) d).ne = s.ne + 2 := by show s1.ne + 1 = _; omega
    have cT3 := lg_Trial (lgRv s1 id (aUndo ++ id) d) aEur okS
    rw [hrt, hE1, hn1] at cT3
    have cT4 := lg_Trial (lgRv s1 id (aUndo ++ id) d) aUsd okS
    rw [hrt, hE2, hn2] at cT4
    have accS : (some (HB.one false (lgAcc s)) : Option HB) = some (.one false (lgAcc (lgRv s1 id (aUndo ++ id) d))) := congrArg (fun z => some (HB.one false z)) (acc_eq (s := s) (s' := lgRv s1 id (aUndo ++ id) d) pacc pna)
    generalize lgRv s1 id (aUndo ++ id) d = s2 at *
    have cS1 := law_same T1 T1 n1 n1 hn1 hn1 (by omega)
    rw [show saB T1 T1 = true from decide_eq_true rfl] at cS1
    have cS2 := law_same T2 T2 n2 n2 hn2 hn2 (by omega)
    rw [show saB T2 T2 = true from decide_eq_true rfl] at cS2
    have cE2 := lg_Entries s2 okS
    have cAl := law_alikeF1 ((s2.ent.map Le.id).getD s.ne ⟨#[]⟩) id ((s2.ent.map Le.date).getD s.ne 0) d (s2.ent.getD s.ne le0).ps L ((s2.ent.map Le.np).getD s.ne 0) n s.ne (fun x => x < s2.ne) (enF s2.ent) (by omega) (by rw [le_np]; rfl) (by rw [le_np, hL2]; exact hLn) hLn (by rw [le_np, hL2]; dsimp only; omega)
    rw [al_true (by rw [le_id, hL2]) (by rw [le_date, hL2]) (by rw [hL2])] at cAl
    repeat' ((conv => whnf); first | refine vcall_o (l := [0, 6, 7, 8, 9, 10, 11]) (cDx) ?_ | refine vcall_o (l := [0, 13, 14, 15, 16, 17, 18]) (cDy) ?_ | refine vcall_o (l := [0, 6, 7, 8, 9, 10, 11]) (cT1) ?_ | refine vcall_o (l := [0, 6, 7, 8, 9, 10, 11]) (cT2) ?_ | refine vcall_o (l := [0, 6, 7, 8, 9, 10, 11, 12, 4]) (cP) ?_ | (refine cond_intro hcat ?_) | refine vcall_o (l := [0, 6, 7, 24, 9, 10, 11, 25]) (cR) ?_ | refine vcall_o (l := [0, 6, 7, 26, 9, 10, 11, 27]) (cE2) ?_ | refine vcallD_o (l := [0, 29, 4]) (cAl) ?_ | (rw [hw1]) | ((first | apply br_dec | apply br_ndec) <;> intro h <;> try (exfalso; (try dsimp only at h); omega)) | ((first | apply br_seq | apply br_nseq | apply br_not | apply br_intro) <;> intro h) | refine cond_a ?_)
    all_goals (conv => whnf)
    all_goals first
      | (exfalso; omega)
      | (exfalso; exact h rfl)
      | skip
    refine vloop_of (rcS s s2 n1 n2 T1 T2 0) (fun x => x ≤ s.ne) (fun x => s.ne - x) 0 [0, 1, 2, 3, 4, 5, 6, 7, 26, 9, 10, 11, 12, 13, 14, 15, 16, 17, 18, 19, 20, 21, 22, 23, 28, 29] [] ⟨rfl, ⟨rfl, rfl, rfl, rfl, rfl, rfl, rfl, trivial⟩, ⟨gwk rfl, rfl, rfl, (by exact accS), rfl, rfl, rfl, rfl, rfl, rfl, trivial⟩⟩ (Nat.zero_le _) ?_
    intro j hj
    by_cases hj2 : j < s.ne
    · exact re_cmp s s2 n1 n2 T1 T2 0 j hj2 hs (by omega) (hL1 j hj2) _ (fun v hv => hv)
    obtain rfl : j = s.ne := by omega
    unfold rcS
    repeat' ((conv => whnf); first | refine vcall_o (l := [0, 6, 7, 8, 9, 10, 11]) (cT3) ?_ | refine vcall_o (l := [0, 6, 7, 8, 9, 10, 11]) (cT4) ?_ | refine vcall_o (l := [0, 26, 22]) (cS1) ?_ | refine vcall_o (l := [0, 27, 23]) (cS2) ?_ | (rw [hw2]) | (refine vcall_glob (cA) rfl rfl rfl rfl ?_) | (refine vcallD_glob (cA) rfl rfl rfl rfl ?_) | ((first | apply br_dec | apply br_ndec) <;> intro h <;> try (exfalso; (try dsimp only at h); omega)) | ((first | apply br_seq | apply br_nseq | apply br_not | apply br_intro) <;> intro h) | refine cond_a ?_)
    all_goals (conv => whnf)
    all_goals first
      | (exfalso; omega)
      | (exfalso; exact h rfl)
      | exact ret_out (l := [0, 1, 2, 3, 4]) rfl rfl trivial allRw_nil
      | trace_state
  have cR := lg_Reverse_err s1 id (aUndo ++ id) d okP g1 g2 g0
  rw [pst, plA] at cR
  have okS := okP
  obtain ⟨hL1, hL2⟩ := ent_facts (s' := s1) (R := []) hs.ok pent
  have accS : (some (HB.one false (lgAcc s)) : Option HB) = some (.one false (lgAcc s1)) := congrArg (fun z => some (HB.one false z)) (acc_eq (s := s) (s' := s1) pacc pna)
  rcases g3 with g3 | g3 | g3 | g3
  · exact absurd g3 g0
  · rw [g3] at cR
    have cE2 := lg_Entries s1 okS
    have cAl := law_alikeF1 ((s1.ent.map Le.id).getD s.ne ⟨#[]⟩) id ((s1.ent.map Le.date).getD s.ne 0) d (s1.ent.getD s.ne le0).ps L ((s1.ent.map Le.np).getD s.ne 0) n s.ne (fun x => x < s1.ne) (enF s1.ent) (by omega) (by rw [le_np]; rfl) (by rw [le_np, hL2]; exact hLn) hLn (by rw [le_np, hL2]; dsimp only; omega)
    rw [al_true (by rw [le_id, hL2]) (by rw [le_date, hL2]) (by rw [hL2])] at cAl
    repeat' ((conv => whnf); first | refine vcall_o (l := [0, 6, 7, 8, 9, 10, 11]) (cDx) ?_ | refine vcall_o (l := [0, 13, 14, 15, 16, 17, 18]) (cDy) ?_ | refine vcall_o (l := [0, 6, 7, 8, 9, 10, 11]) (cT1) ?_ | refine vcall_o (l := [0, 6, 7, 8, 9, 10, 11]) (cT2) ?_ | refine vcall_o (l := [0, 6, 7, 8, 9, 10, 11, 12, 4]) (cP) ?_ | (refine cond_intro hcat ?_) | refine vcall_o (l := [0, 6, 7, 24, 9, 10, 11, 25]) (cR) ?_ | refine vcall_o (l := [0, 6, 7, 24, 9, 10, 11, 25]) (cE2) ?_ | refine vcallD_o (l := [0, 27, 4]) (cAl) ?_ | (rw [hw1]) | ((first | apply br_dec | apply br_ndec) <;> intro h <;> try (exfalso; (try dsimp only at h); omega)) | ((first | apply br_seq | apply br_nseq | apply br_not | apply br_intro) <;> intro h) | refine cond_a ?_)
    all_goals (conv => whnf)
    all_goals first
      | (exfalso; omega)
      | (exfalso; exact h rfl)
      | skip
    refine vloop_of (rcS s s1 n1 n2 T1 T2 5) (fun x => x ≤ s.ne) (fun x => s.ne - x) 0 [0, 1, 2, 3, 4, 5, 6, 7, 24, 9, 10, 11, 12, 13, 14, 15, 16, 17, 18, 19, 20, 21, 22, 23, 26, 27] [] ⟨rfl, ⟨rfl, rfl, rfl, rfl, rfl, rfl, rfl, trivial⟩, ⟨gwk rfl, rfl, rfl, (by exact accS), rfl, rfl, rfl, rfl, rfl, rfl, trivial⟩⟩ (Nat.zero_le _) ?_
    intro j hj
    by_cases hj2 : j < s.ne
    · exact re_cmp s s1 n1 n2 T1 T2 5 j hj2 hs (by omega) (hL1 j hj2) _ (fun v hv => hv)
    obtain rfl : j = s.ne := by omega
    unfold rcS
    repeat' ((conv => whnf); first | (refine vcall_glob (cA) rfl rfl rfl rfl ?_) | (refine vcallD_glob (cA) rfl rfl rfl rfl ?_) | ((first | apply br_dec | apply br_ndec) <;> intro h <;> try (exfalso; (try dsimp only at h); omega)) | ((first | apply br_seq | apply br_nseq | apply br_not | apply br_intro) <;> intro h) | refine cond_a ?_)
    all_goals (conv => whnf)
    all_goals first
      | (exfalso; omega)
      | (exfalso; exact h rfl)
      | exact ret_out (l := [0, 1, 2, 3, 4]) rfl rfl trivial allRw_nil
      | trace_state
  · rw [g3] at cR
    have cE2 := lg_Entries s1 okS
    have cAl := law_alikeF1 ((s1.ent.map Le.id).getD s.ne ⟨#[]⟩) id ((s1.ent.map Le.date).getD s.ne 0) d (s1.ent.getD s.ne le0).ps L ((s1.ent.map Le.np).getD s.ne 0) n s.ne (fun x => x < s1.ne) (enF s1.ent) (by omega) (by rw [le_np]; rfl) (by rw [le_np, hL2]; exact hLn) hLn (by rw [le_np, hL2]; dsimp only; omega)
    rw [al_true (by rw [le_id, hL2]) (by rw [le_date, hL2]) (by rw [hL2])] at cAl
    repeat' ((conv => whnf); first | refine vcall_o (l := [0, 6, 7, 8, 9, 10, 11]) (cDx) ?_ | refine vcall_o (l := [0, 13, 14, 15, 16, 17, 18]) (cDy) ?_ | refine vcall_o (l := [0, 6, 7, 8, 9, 10, 11]) (cT1) ?_ | refine vcall_o (l := [0, 6, 7, 8, 9, 10, 11]) (cT2) ?_ | refine vcall_o (l := [0, 6, 7, 8, 9, 10, 11, 12, 4]) (cP) ?_ | (refine cond_intro hcat ?_) | refine vcall_o (l := [0, 6, 7, 24, 9, 10, 11, 25]) (cR) ?_ | refine vcall_o (l := [0, 6, 7, 24, 9, 10, 11, 25]) (cE2) ?_ | refine vcallD_o (l := [0, 27, 4]) (cAl) ?_ | (rw [hw1]) | ((first | apply br_dec | apply br_ndec) <;> intro h <;> try (exfalso; (try dsimp only at h); omega)) | ((first | apply br_seq | apply br_nseq | apply br_not | apply br_intro) <;> intro h) | refine cond_a ?_)
    all_goals (conv => whnf)
    all_goals first
      | (exfalso; omega)
      | (exfalso; exact h rfl)
      | skip
    refine vloop_of (rcS s s1 n1 n2 T1 T2 7) (fun x => x ≤ s.ne) (fun x => s.ne - x) 0 [0, 1, 2, 3, 4, 5, 6, 7, 24, 9, 10, 11, 12, 13, 14, 15, 16, 17, 18, 19, 20, 21, 22, 23, 26, 27] [] ⟨rfl, ⟨rfl, rfl, rfl, rfl, rfl, rfl, rfl, trivial⟩, ⟨gwk rfl, rfl, rfl, (by exact accS), rfl, rfl, rfl, rfl, rfl, rfl, trivial⟩⟩ (Nat.zero_le _) ?_
    intro j hj
    by_cases hj2 : j < s.ne
    · exact re_cmp s s1 n1 n2 T1 T2 7 j hj2 hs (by omega) (hL1 j hj2) _ (fun v hv => hv)
    obtain rfl : j = s.ne := by omega
    unfold rcS
    repeat' ((conv => whnf); first | (refine vcall_glob (cA) rfl rfl rfl rfl ?_) | (refine vcallD_glob (cA) rfl rfl rfl rfl ?_) | ((first | apply br_dec | apply br_ndec) <;> intro h <;> try (exfalso; (try dsimp only at h); omega)) | ((first | apply br_seq | apply br_nseq | apply br_not | apply br_intro) <;> intro h) | refine cond_a ?_)
    all_goals (conv => whnf)
    all_goals first
      | (exfalso; omega)
      | (exfalso; exact h rfl)
      | exact ret_out (l := [0, 1, 2, 3, 4]) rfl rfl trivial allRw_nil
      | trace_state
  · rw [g3] at cR
    have cE2 := lg_Entries s1 okS
    have cAl := law_alikeF1 ((s1.ent.map Le.id).getD s.ne ⟨#[]⟩) id ((s1.ent.map Le.date).getD s.ne 0) d (s1.ent.getD s.ne le0).ps L ((s1.ent.map Le.np).getD s.ne 0) n s.ne (fun x => x < s1.ne) (enF s1.ent) (by omega) (by rw [le_np]; rfl) (by rw [le_np, hL2]; exact hLn) hLn (by rw [le_np, hL2]; dsimp only; omega)
    rw [al_true (by rw [le_id, hL2]) (by rw [le_date, hL2]) (by rw [hL2])] at cAl
    repeat' ((conv => whnf); first | refine vcall_o (l := [0, 6, 7, 8, 9, 10, 11]) (cDx) ?_ | refine vcall_o (l := [0, 13, 14, 15, 16, 17, 18]) (cDy) ?_ | refine vcall_o (l := [0, 6, 7, 8, 9, 10, 11]) (cT1) ?_ | refine vcall_o (l := [0, 6, 7, 8, 9, 10, 11]) (cT2) ?_ | refine vcall_o (l := [0, 6, 7, 8, 9, 10, 11, 12, 4]) (cP) ?_ | (refine cond_intro hcat ?_) | refine vcall_o (l := [0, 6, 7, 24, 9, 10, 11, 25]) (cR) ?_ | refine vcall_o (l := [0, 6, 7, 24, 9, 10, 11, 25]) (cE2) ?_ | refine vcallD_o (l := [0, 27, 4]) (cAl) ?_ | (rw [hw1]) | ((first | apply br_dec | apply br_ndec) <;> intro h <;> try (exfalso; (try dsimp only at h); omega)) | ((first | apply br_seq | apply br_nseq | apply br_not | apply br_intro) <;> intro h) | refine cond_a ?_)
    all_goals (conv => whnf)
    all_goals first
      | (exfalso; omega)
      | (exfalso; exact h rfl)
      | skip
    refine vloop_of (rcS s s1 n1 n2 T1 T2 12) (fun x => x ≤ s.ne) (fun x => s.ne - x) 0 [0, 1, 2, 3, 4, 5, 6, 7, 24, 9, 10, 11, 12, 13, 14, 15, 16, 17, 18, 19, 20, 21, 22, 23, 26, 27] [] ⟨rfl, ⟨rfl, rfl, rfl, rfl, rfl, rfl, rfl, trivial⟩, ⟨gwk rfl, rfl, rfl, (by exact accS), rfl, rfl, rfl, rfl, rfl, rfl, trivial⟩⟩ (Nat.zero_le _) ?_
    intro j hj
    by_cases hj2 : j < s.ne
    · exact re_cmp s s1 n1 n2 T1 T2 12 j hj2 hs (by omega) (hL1 j hj2) _ (fun v hv => hv)
    obtain rfl : j = s.ne := by omega
    unfold rcS
    repeat' ((conv => whnf); first | (refine vcall_glob (cA) rfl rfl rfl rfl ?_) | (refine vcallD_glob (cA) rfl rfl rfl rfl ?_) | ((first | apply br_dec | apply br_ndec) <;> intro h <;> try (exfalso; (try dsimp only at h); omega)) | ((first | apply br_seq | apply br_nseq | apply br_not | apply br_intro) <;> intro h) | refine cond_a ?_)
    all_goals (conv => whnf)
    all_goals first
      | (exfalso; omega)
      | (exfalso; exact h rfl)
      | exact ret_out (l := [0, 1, 2, 3, 4]) rfl rfl trivial allRw_nil
      | trace_state
end Go.Proofs.YtjjnbhbendlnhaaDoor

