/- Several texts in one: XLgH, XLgI, XLgJ, XLgK, XLgL, XLgM, XLgO, XLgN, XSortP, XLgR, XLgS, XLgMa, XLgMb. -/
import Derived.Test.YtjjnbhbendlnhaaDoorLm1
import Derived.Test.YtjjnbhbendlnhaaDoorYKeys
import Derived.Test.YtjjnbhbendlnhaaDoorLay
import Derived.Test.YtjjnbhbendlnhaaDoorYGb
import Derived.Test.YtjjnbhbendlnhaaDoorYSort
import Derived.Sort.Walk0
import Derived.Test.YtjjnbhbendlnhaaDoorYEnt
/- Contracts of package ledger: Entries. -/
namespace Go.Proofs.YtjjnbhbendlnhaaDoor
open Go.RowKit Go.Sy
attribute [local irreducible] vcall vloop vcallD retP
set_option maxRecDepth 100000
set_option linter.unusedVariables false
set_option linter.unusedSimpArgs false
attribute [local irreducible] seq ByteArray.extract
/-- The first entries. -/
abbrev sT (s : Lg) (k : Nat) : Lg := { s with ne := k, ent := s.ent.take k }
def enS (s : Lg) (k : Nat) : VS := ⟨[(3, .sl 8 0 0 k), (11, .sl 3 0 0 s.ne), (12, .int .i64 s.ne), (13, .int .i64 k)], [(1, some (.one true (.cells (lgF 2 3 4 5 6 s)))), (3, some (.one true (lgEnt 7 s))), (7, lgFam true s), (8, some (.one false (lgEnt 9 (sT s k)))), (9, lgFam false (sT s k))], 10⟩
theorem enS_put {s : Lg} {k : Nat} (hk : k < s.ent.length) : enS s (k + 1) = ⟨[(3, .sl 8 0 0 (k + 1)), (11, .sl 3 0 0 s.ne), (12, .int .i64 s.ne), (13, .int .i64 (k + 1 : Nat))], [(1, some (.one true (.cells (lgF 2 3 4 5 6 s)))), (3, some (.one true (lgEnt 7 s))), (7, lgFam true s), (8, some (.one false (.cols (k + 1) [.sc (.strs ((s.ent.take k).map Le.id ++ [(s.ent.map Le.id).getD k ⟨#[]⟩])), .sc (.ints .i64 ((s.ent.take k).map Le.date ++ [(s.ent.map Le.date).getD k 0])), .own 9 ((s.ent.take k).map Le.np ++ [(s.ent.map Le.np).getD k 0])]))), (9, some (.fam false (fun x => x < k + 1) (enF (s.ent.take k ++ [s.ent.getD k le0]))))], 10⟩ := by
  have e : s.ent.take (k + 1) = s.ent.take k ++ [s.ent.getD k le0] := by
    rw [List.take_add_one, List.getD, List.getElem?_eq_getElem hk]; rfl
  unfold enS
  show VS.mk _ [_, _, _, (8, some (HB.one false (.cols (k + 1) [.sc (.strs ((s.ent.take (k + 1)).map Le.id)), .sc (.ints .i64 ((s.ent.take (k + 1)).map Le.date)), .own 9 ((s.ent.take (k + 1)).map Le.np)]))), (9, some (HB.fam false (fun x => x < k + 1) (enF (s.ent.take (k + 1)))))] _ = _
  rw [e, le_id, le_date, le_np]
  simp only [List.map_append, List.map_cons, List.map_nil]
theorem enS_end {s : Lg} (h : s.ent.length = s.ne) : enS s s.ne = ⟨[(3, .sl 8 0 0 s.ne), (11, .sl 3 0 0 s.ne), (12, .int .i64 s.ne), (13, .int .i64 s.ne)], [(1, some (.one true (.cells (lgF 2 3 4 5 6 s)))), (3, some (.one true (lgEnt 7 s))), (7, lgFam true s), (8, some (.one false (lgEnt 9 s))), (9, lgFam false s)], 10⟩ := by
  have e : sT s s.ne = s := by
    show ({ s with ne := s.ne, ent := s.ent.take s.ne } : Lg) = s
    rw [List.take_of_length_le (by omega)]
  unfold enS
  rw [e]
theorem lg_Entries (s : Lg) (hs : LgOk s) : FC Tryd.prog 8 9 [.ptr 1 0 0 0] [(1, some (.one true (.cells (lgF 2 3 4 5 6 s)))), (3, some (.one true (lgEnt 7 s))), (7, lgFam true s)] (isOut (.sl 8 0 0 s.ne) [(8, some (.one false (lgEnt 9 s))), (9, lgFam false s)] 10) := by
  have hne := hs.ne
  have h512 := hs.e512
  refine fc_of mixed T_ok Tryd.func9 rfl (by kernel_rfl) (by kernel_rfl) (by kernel_rfl) ?_
  repeat' ((conv => whnf); first | ((first | apply br_dec | apply br_ndec) <;> intro h <;> try (exfalso; (try dsimp only at h); omega)) | ((first | apply br_seq | apply br_nseq | apply br_not | apply br_intro) <;> intro h) | refine cond_a ?_)
  all_goals (conv => whnf)
  refine vloop_of (enS s) (fun k => k ≤ s.ne) (fun k => s.ne - k) 0 [0, 1, 2, 3, 4, 5, 6, 7, 8, 9] [.slot 3 [.sc (.strs []), .sc (.ints .i64 []), .svs []], .relab (fun _ _ => none) (fun _ => 0) [(8, some (.one false (.cols 0 [.sc (.strs []), .sc (.ints .i64 []), .own 9 []]))), (9 + 0, some (.fam false (fun x => x < 0) (enF [])))] [] 1] ⟨relab_ent_start (n := 9) (a := 8) (by decide) rfl, rfl, ⟨rfl, rfl, rfl, rfl, trivial⟩, ⟨rfl, rfl, rfl, rfl, rfl, trivial⟩⟩ (Nat.zero_le _) ?_
  intro k hk
  by_cases hk2 : k < s.ne
  · have hkl : k < s.ent.length := by omega
    have hm : s.ent.getD k le0 ∈ s.ent := by rw [List.getD, List.getElem?_eq_getElem hkl]; exact List.getElem_mem hkl
    have hok := hs.ent _ hm
    have hNP := le_np s.ent k
    have hF : enF s.ent k = poB ((s.ent.map Le.np).getD k 0) (s.ent.getD k le0).ps := by rw [hNP]; rfl
    have c1 := lg_copyF (fun x => x < s.ne) (enF s.ent) k ((s.ent.map Le.id).getD k ⟨#[]⟩) ((s.ent.map Le.date).getD k 0) (s.ent.getD k le0).ps ((s.ent.map Le.np).getD k 0) hk2 hF (by rw [hNP]; exact hok.n) (by rw [hNP]; exact hok.n1) (by rw [hNP]; have := hok.n16; omega)
    have hput := enS_put hkl
    repeat' ((conv => whnf); first | refine vcall_o (l := [0, 7]) (c1) ?_ | refine vcallD_o (l := [0, 7]) (c1) ?_ | ((first | apply br_dec | apply br_ndec) <;> intro h <;> try (exfalso; (try dsimp only at h); omega)) | ((first | apply br_seq | apply br_nseq | apply br_not | apply br_intro) <;> intro h) | refine cond_a ?_)
    all_goals (conv => whnf)
    all_goals first
      | (exfalso; omega)
      | skip
    refine ⟨k + 1, [0, 1, 2, 3, 4, 5, 6, 7, 13, 14], [.relab (gdR 14 k [⟨9, 11, enF (s.ent.take k ++ [s.ent.getD k le0])⟩]) (fun _ => 0) [(13, some (.one false (.cols (k + 1) [.sc (.strs ((s.ent.take k).map Le.id ++ [(s.ent.map Le.id).getD k ⟨#[]⟩])), .sc (.ints .i64 ((s.ent.take k).map Le.date ++ [(s.ent.map Le.date).getD k 0])), .own 14 ((s.ent.take k).map Le.np ++ [(s.ent.map Le.np).getD k 0])]))), (14 + 0, some (.fam false (fun x => x < k + 1) (enF (s.ent.take k ++ [s.ent.getD k le0]))))] [9, 11] 1], hk2, (show s.ne - (k + 1) < s.ne - k by omega), ?_⟩
    have hlt : (s.ent.take k).length = k := by rw [List.length_take]; omega
    rw [hput]
    exact ⟨relab_ent_put (by rw [List.length_map]; exact hlt) (by show ((s.ent.take k).map Le.id ++ [(s.ent.map Le.id).getD k ⟨#[]⟩]).length = k + 1; simp [hlt]; omega) (by show ((s.ent.take k).map Le.date ++ [(s.ent.map Le.date).getD k 0]).length = k + 1; simp [hlt]; omega) (by omega) rfl rfl (fun q hq => hq) rfl (by decide) (by decide) (by decide) (fun q hq => enF_old q (by rw [hlt]; exact hq)) (by rw [hNP]; exact Eq.trans (congrArg (enF _) hlt.symm) enF_new), rfl, ⟨rfl, rfl, rfl, congrArg (fun z => some (SV.int .i64 z)) (i64_succ (by omega)), trivial⟩, ⟨rfl, rfl, rfl, rfl, rfl, trivial⟩⟩
  have ek : k = s.ne := by omega
  subst ek
  rw [enS_end hne]
  repeat' ((conv => whnf); first | ((first | apply br_dec | apply br_ndec) <;> intro h <;> try (exfalso; (try dsimp only at h); omega)) | ((first | apply br_seq | apply br_nseq | apply br_not | apply br_intro) <;> intro h) | refine cond_a ?_)
  all_goals (conv => whnf)
  all_goals first
    | (exfalso; omega)
    | exact ret_out (l := [0, 1, 2, 3, 4, 5, 6, 7, 8, 9]) rfl rfl ⟨rfl, rfl, trivial⟩ (allRw_cons (allRw_fam allRw_nil))
end Go.Proofs.YtjjnbhbendlnhaaDoor

/- Contracts of package ledger: filter, Trial, Statement. -/
namespace Go.Proofs.YtjjnbhbendlnhaaDoor
open Go.RowKit Go.Sy
attribute [local irreducible] vcall vloop vcallD retP
set_option maxRecDepth 100000
set_option linter.unusedVariables false
set_option linter.unusedSimpArgs false

theorem po_app {Q : List Lp} {j : Nat} {x : Lp} {a c : ByteArray} {v : Int} (hx : x = ⟨a, v, c⟩) : (some (HB.one false (.cols (j + 1) [.sc (.strs (Q.map Lp.a ++ [a])), .sc (.ints .i64 (Q.map Lp.n ++ [v])), .sc (.strs (Q.map Lp.c ++ [c]))])) : Option HB) = some (.one false (poB (j + 1) (Q ++ [x]))) := by
  subst hx
  unfold poB
  simp
theorem flt_step {L : List Lp} {p : Lp → Bool} {k : Nat} (hk : k < L.length) : (L.take (k + 1)).filter p = if p (L.getD k lp0) = true then (L.take k).filter p ++ [L.getD k lp0] else (L.take k).filter p := by
  rw [lg_take hk, List.filter_append, List.filter_cons]
  split
  · rfl
  · rw [List.filter_nil, List.append_nil]
theorem flt_len (L : List Lp) (p : Lp → Bool) (k : Nat) : ((L.take k).filter p).length ≤ k := Nat.le_trans (List.length_filter_le _ _) (by rw [List.length_take]; omega)
/-- The postings that are not zero. -/
def nzP (x : Lp) : Bool := !decide (x.n = 0)
theorem tr_fn (a c : ByteArray) (n : Int) : Pure Tryd.prog 30 [.agg [.str a, .int .i64 n, .str c]] (.bool (!decide (n = 0))) := by
  refine fc_of mixed T_ok Tryd.func30 rfl (by kernel_rfl) (by kernel_rfl) (by kernel_rfl) ?_
  repeat' ((conv => whnf); first | ((first | apply br_dec | apply br_ndec) <;> intro h <;> try (exfalso; (try dsimp only at h); omega)) | ((first | apply br_seq | apply br_nseq | apply br_not | apply br_intro) <;> intro h) | refine cond_a ?_)
  all_goals (conv => whnf)
  exact ret_pure rfl
attribute [local irreducible] seq ByteArray.extract
theorem lg_filterN (L : List Lp) (n : Nat) (hn : L.length = n) (h6 : n ≤ 100000) : FC Tryd.prog 2 29 [.sl 1 0 0 n, .fn 30 []] [(1, some (.one true (poB n L)))] (isOut (.sl 2 0 0 (L.filter nzP).length) [(2, some (.one false (poB (L.filter nzP).length (L.filter nzP))))] 3) := by
  unfold poB
  refine fc_of mixed T_ok Tryd.func29 rfl (by kernel_rfl) (by kernel_rfl) (by kernel_rfl) ?_
  repeat' ((conv => whnf); first | ((first | apply br_dec | apply br_ndec) <;> intro h <;> try (exfalso; (try dsimp only at h); omega)) | ((first | apply br_seq | apply br_nseq | apply br_not | apply br_intro) <;> intro h) | refine cond_a ?_)
  all_goals (conv => whnf)
  refine vloop_of (fun k : Nat => ⟨[(1, .fn 30 []), (5, .sl 2 0 0 ((L.take k).filter nzP).length), (8, .sl 1 0 0 n), (9, .int .i64 n), (10, .int .i64 k)], [(1, some (.one true (poB n L))), (2, some (.one false (poB ((L.take k).filter nzP).length ((L.take k).filter nzP))))], 3⟩) (fun k => k ≤ n) (fun k => n - k) 0 [0, 1, 2] [.slot 5 [.sc (.strs []), .sc (.ints .i64 []), .sc (.strs [])]] ⟨rfl, ⟨rfl, rfl, rfl, rfl, rfl, trivial⟩, ⟨rfl, rfl, trivial⟩⟩ (Nat.zero_le _) ?_
  intro k hk
  have hfl := flt_len L nzP k
  by_cases hk2 : k < n
  · have hst := flt_step (L := L) (p := nzP) (k := k) (by omega)
    have c1 := tr_fn ((L.map Lp.a).getD k ⟨#[]⟩) ((L.map Lp.c).getD k ⟨#[]⟩) ((L.map Lp.n).getD k 0)
    have hp : nzP (L.getD k lp0) = !decide ((L.map Lp.n).getD k 0 = 0) := by rw [lp_n]; rfl
    have hap := po_app (Q := (L.take k).filter nzP) (j := ((L.take k).filter nzP).length) (lp_eta L k)
    unfold poB
    repeat' ((conv => whnf); first | (refine vcall_pure (c1) rfl rfl rfl ?_) | (refine vcallD_pure (c1) rfl rfl rfl ?_) | ((first | apply br_dec | apply br_ndec) <;> intro h <;> try (exfalso; (try dsimp only at h); omega)) | ((first | apply br_seq | apply br_nseq | apply br_not | apply br_intro) <;> intro h) | refine cond_a ?_)
    all_goals (conv => whnf)
    all_goals first
      | (exfalso; omega)
      | skip
    · rw [if_pos (by rw [hp]; simpa using h)] at hst
      refine ⟨k + 1, [0, 1, 5], [], hk2, (show n - (k + 1) < n - k by omega), ?_⟩
      dsimp only
      rw [hst, List.length_append, List.length_singleton]
      exact ⟨rfl, ⟨rfl, rfl, rfl, rfl, congrArg (fun z => some (SV.int .i64 z)) (i64_succ (by omega)), trivial⟩, ⟨rfl, hap, trivial⟩⟩
    · rw [if_neg (by rw [hp]; simpa using h)] at hst
      refine ⟨k + 1, [0, 1, 2], [], hk2, (show n - (k + 1) < n - k by omega), ?_⟩
      dsimp only
      rw [hst]
      exact ⟨rfl, ⟨rfl, rfl, rfl, rfl, congrArg (fun z => some (SV.int .i64 z)) (i64_succ (by omega)), trivial⟩, ⟨rfl, rfl, trivial⟩⟩
  have ek : k = n := by omega
  subst ek
  rw [show L.take k = L by rw [← hn, List.take_length]]
  repeat' ((conv => whnf); first | ((first | apply br_dec | apply br_ndec) <;> intro h <;> try (exfalso; (try dsimp only at h); omega)) | ((first | apply br_seq | apply br_nseq | apply br_not | apply br_intro) <;> intro h) | refine cond_a ?_)
  all_goals (conv => whnf)
  all_goals first
    | (exfalso; omega)
    | exact ret_out (l := [0, 1, 2]) rfl rfl ⟨rfl, trivial⟩ (allRw_cons allRw_nil)
end Go.Proofs.YtjjnbhbendlnhaaDoor

/- Contracts of package ledger: Statement, Trial. -/
namespace Go.Proofs.YtjjnbhbendlnhaaDoor
open Go.RowKit Go.Sy
attribute [local irreducible] vcall vloop vcallD retP
set_option maxRecDepth 100000
set_option linter.unusedVariables false
set_option linter.unusedSimpArgs false
attribute [local irreducible] seq ByteArray.extract
theorem lg_keys : FC Tryd.prog 2 28 [.map 1 0] [] (isOut (.fn 43 [.ptr 2 0 0 0]) [(2, some (.one false (.cells [.map 1 0])))] 3) := by
  refine fc_of mixed T_ok Tryd.func28 rfl (by kernel_rfl) (by kernel_rfl) (by kernel_rfl) ?_
  repeat' ((conv => whnf); first | ((first | apply br_dec | apply br_ndec) <;> intro h <;> try (exfalso; (try dsimp only at h); omega)) | ((first | apply br_seq | apply br_nseq | apply br_not | apply br_intro) <;> intro h) | refine cond_a ?_)
  all_goals (conv => whnf)
  all_goals exact ret_out (l := [0, 1, 2]) rfl rfl ⟨rfl, trivial⟩ (allRw_cons allRw_nil)
theorem lg_bodied {P : Program} {f : FuncId} {fn : Func} (h : P.funcs[f]? = some fn) (hb : fn.body.isSome = true) (hn : (fn.name == "runtime.NumGoroutine") = false) : bodied P f := by
  obtain ⟨c, hc⟩ := Option.isSome_iff_exists.1 hb
  exact ⟨fn, c, h, hc, hn⟩
theorem lg_sorted {n : Nat} {ks : List ByteArray} (vs : List Bool) (bs : List Nat) (ck : Nat) (hn : n ≤ 100000) (hz : ∀ s ∈ ks, s.size ≤ 9223372036854775807) (hnd : ks.Nodup) :
    FC Tryd.prog 3 27 [.fn 43 [.ptr 2 0 0 0]] [(1, some (.one true (.obj (.map false false n [.strs ks] [.sc (.bools vs)] bs ck)))), (2, some (.one true (.cells [.map 1 0])))] (isOut (.sl 3 0 0 n) [(3, some (.one false (.cols n [.sc (.strs (sortS ks))])))] 4) :=
  fc_sorted (ρ := Tryd.keys28_ren) (ρ' := Tryd.sorted_ren) rfl rfl rfl { Tryd.keys28 with } Tryd.sorted
    (fun m => ⟨fun blk off cap ss W hH hblk hsz => callsIn_wide.2 (AnyM.slices_Sort_string Tryd.sortS blk off cap ss W hH hblk hsz), fun p cap W => callsIn_wide.2 (AnyM.slices_Sort_string_none Tryd.sortS p cap W)⟩)
    (lg_bodied Tryd.func27 (by kernel_rfl) (by kernel_rfl)) (enters_of Tryd.func42 (by kernel_rfl) rfl) (enters_of Tryd.func43 (by kernel_rfl) rfl) Tryd.underlying9 hn hz hnd
/-- The balances of a currency, by account. -/
def trA (s : Lg) (c : ByteArray) : List Lp := (sortS s.acc).map (fun a => ⟨a, s.bal a c, c⟩)
theorem trA_take {s : Lg} {c : ByteArray} {k : Nat} (hk : k < (sortS s.acc).length) : (trA s c).take (k + 1) = (trA s c).take k ++ [⟨(sortS s.acc).getD k ⟨#[]⟩, s.bal ((sortS s.acc).getD k ⟨#[]⟩) c, c⟩] := by
  unfold trA
  rw [List.take_add_one, List.getElem?_map, List.getElem?_eq_getElem hk, List.getD, List.getElem?_eq_getElem hk]; rfl
theorem lg_Trial_rows (s : Lg) (c : ByteArray) (r : Nat) (R : List Lp) (hs : LgOk s) (hR : R.length = r) (hv : ∀ a c, lgV R a c = s.bal a c) : FC Tryd.prog 7 10 [.ptr 1 0 0 0, .str c] [(6, some (.one true (RL r R))), (1, some (.one true (.cells (lgF 2 3 4 5 6 s)))), (2, some (.one true (lgAcc s)))] (isOut (.sl 7 0 0 ((trA s c).filter nzP).length) [(7, some (.one false (poB ((trA s c).filter nzP).length ((trA s c).filter nzP))))] 8) := by
  have h512 := hs.n512
  have hSl : (sortS s.acc).length = s.na := (sortS_length _).trans hs.na
  have c1 := lg_keys
  have c2 := lg_sorted (ks := s.acc) (List.replicate s.na true) (List.range s.na) s.na (show s.na ≤ 100000 by omega) (fun a ha => by have := (lab_size (hs.lab a ha)).2; omega) hs.nd
  have hTl : (trA s c).length = s.na := by unfold trA; rw [List.length_map, hSl]
  have c3 := lg_filterN (trA s c) s.na hTl (by omega)
  have htk := fun k (hk : k < (sortS s.acc).length) => trA_take (s := s) (c := c) hk
  generalize hT : trA s c = T at *
  generalize hS : sortS s.acc = Q at *
  refine fc_of mixed T_ok Tryd.func10 rfl (by kernel_rfl) (by kernel_rfl) (by kernel_rfl) ?_
  repeat' ((conv => whnf); first | refine vcall_o (l := [0, 2]) (c1) ?_ | refine vcall_o (l := [0, 2, 7]) (c2) ?_ | ((first | apply br_dec | apply br_ndec) <;> intro h <;> try (exfalso; (try dsimp only at h); omega)) | ((first | apply br_seq | apply br_nseq | apply br_not | apply br_intro) <;> intro h) | refine cond_a ?_)
  all_goals (conv => whnf)
  refine vloop_of (fun k : Nat => ⟨[(0, .ptr 1 0 0 0), (1, .str c), (5, .sl 9 0 0 k), (15, .sl 8 0 0 s.na), (16, .int .i64 s.na), (17, .int .i64 k)], [(1, some (.one true (.cells (lgF 2 3 4 5 6 s)))), (6, some (.one true (RL r R))), (8, some (.one false (.cols s.na [.sc (.strs Q)]))), (9, some (.one false (poB k (T.take k))))], 10⟩) (fun k => k ≤ s.na) (fun k => s.na - k) 0 [0, 1, 2, 3, 4, 5, 6, 7, 8, 9] [.slot 5 [.sc (.strs []), .sc (.ints .i64 []), .sc (.strs [])]] ⟨rfl, ⟨rfl, rfl, rfl, rfl, rfl, rfl, trivial⟩, ⟨rfl, rfl, rfl, rfl, trivial⟩⟩ (Nat.zero_le _) ?_
  intro k hk
  by_cases hk2 : k < s.na
  · have e := htk k (by omega)
    have hval : (R.map Lp.n).getD (sidx2 (R.map Lp.a) (R.map Lp.c) (Q.getD k ⟨#[]⟩) c) 0 = s.bal (Q.getD k ⟨#[]⟩) c := (rl_val R _ _).trans (hv _ _)
    rw [← hval] at e
    have hap := po_app (Q := T.take k) (j := k) (x := ⟨Q.getD k ⟨#[]⟩, (R.map Lp.n).getD (sidx2 (R.map Lp.a) (R.map Lp.c) (Q.getD k ⟨#[]⟩) c) 0, c⟩) rfl
    rw [← e] at hap
    unfold poB
    repeat' ((conv => whnf); first | ((first | apply br_dec | apply br_ndec) <;> intro h <;> try (exfalso; (try dsimp only at h); omega)) | ((first | apply br_seq | apply br_nseq | apply br_not | apply br_intro) <;> intro h) | refine cond_a ?_)
    all_goals (conv => whnf)
    all_goals first
      | exact ⟨k + 1, [0, 1, 2, 3, 4, 5, 6, 7, 8, 11], [], hk2, (show s.na - (k + 1) < s.na - k by omega), ⟨rfl, ⟨rfl, rfl, rfl, rfl, rfl, congrArg (fun z => some (SV.int .i64 z)) (i64_succ (by omega)), trivial⟩, ⟨rfl, rfl, rfl, hap, trivial⟩⟩⟩
      | trace_state
  have ek : k = s.na := by omega
  subst ek
  rw [show T.take s.na = T from List.take_of_length_le (by omega)]
  unfold poB at c3 ⊢
  repeat' ((conv => whnf); first | refine vcall_o (l := [0, 9]) (c3) ?_ | ((first | apply br_dec | apply br_ndec) <;> intro h <;> try (exfalso; (try dsimp only at h); omega)) | ((first | apply br_seq | apply br_nseq | apply br_not | apply br_intro) <;> intro h) | refine cond_a ?_)
  all_goals (conv => whnf)
  all_goals first
    | exact ret_out (l := [0, 1, 2, 3, 4, 5, 6, 10]) rfl rfl ⟨rfl, trivial⟩ (allRw_cons allRw_nil)
    | trace_state
theorem lg_Trial (s : Lg) (c : ByteArray) (hs : LgOk s) : FC Tryd.prog 7 10 [.ptr 1 0 0 0, .str c] [(6, lgBg true s), (1, some (.one true (.cells (lgF 2 3 4 5 6 s)))), (2, some (.one true (lgAcc s)))] (isOut (.sl 7 0 0 ((trA s c).filter nzP).length) [(7, some (.one false (poB ((trA s c).filter nzP).length ((trA s c).filter nzP))))] 8) := by
  refine fc_bag_ro fun x hx => ?_
  obtain ⟨R, h1, h2, h3, h4, h5⟩ := lgB_rows hx
  rw [h2]
  exact lg_Trial_rows s c x.n R hs h1 h4
end Go.Proofs.YtjjnbhbendlnhaaDoor

/- Contracts of the ledger's laws' own functions. -/
namespace Go.Proofs.YtjjnbhbendlnhaaDoor
open Go.RowKit Go.Sy
attribute [local irreducible] vcall vloop vcallD retP
set_option maxRecDepth 100000
set_option linter.unusedVariables false
set_option linter.unusedSimpArgs false
attribute [local irreducible] seq ByteArray.extract
theorem law_posting (a : ByteArray) (n : Int) : Pure Tryd.prog 8 [.str a, .int .i64 n] (.agg [.str a, .int .i64 n, .str ⟨#[69, 85, 82]⟩]) := by
  refine fc_of mixed T_ok Tryd.func8 rfl (by kernel_rfl) (by kernel_rfl) (by kernel_rfl) ?_
  repeat' ((conv => whnf); first | ((first | apply br_dec | apply br_ndec) <;> intro h <;> try (exfalso; (try dsimp only at h); omega)) | ((first | apply br_seq | apply br_nseq | apply br_not | apply br_intro) <;> intro h) | refine cond_a ?_)
  all_goals (conv => whnf)
  exact ret_pure rfl
instance : DecidableEq Lp := fun x y => by
  cases x; cases y
  simp only [Lp.mk.injEq]
  infer_instance
end Go.Proofs.YtjjnbhbendlnhaaDoor

/- Contracts of the ledger's laws' own functions: small, alike. -/
namespace Go.Proofs.YtjjnbhbendlnhaaDoor
open Go.RowKit Go.Sy
attribute [local irreducible] vcall vloop vcallD retP
set_option maxRecDepth 100000
set_option linter.unusedVariables false
set_option linter.unusedSimpArgs false
attribute [local irreducible] seq ByteArray.extract
/-- Whether the lengths of two texts are long together, as the law counts them. -/
def lo2 (a b : ByteArray) : Prop := 200 < IntKind.i64.wrap ((a.size : Int) + (b.size : Int))
instance (a b : ByteArray) : Decidable (lo2 a b) := by unfold lo2; infer_instance
/-- What small asks of a call. -/
def smK (id undo : ByteArray) (L : List Lp) (n : Nat) : Prop := ¬ lo2 id undo ∧ ¬ 20 < n ∧ ∀ k, k < n → ¬ lo2 ((L.map Lp.a).getD k ⟨#[]⟩) ((L.map Lp.c).getD k ⟨#[]⟩)
instance (id undo : ByteArray) (L : List Lp) (n : Nat) : Decidable (smK id undo L n) := by unfold smK; infer_instance
end Go.Proofs.YtjjnbhbendlnhaaDoor

/- Contracts of the ledger's laws' own functions: call. -/
namespace Go.Proofs.YtjjnbhbendlnhaaDoor
open Go.RowKit Go.Sy
attribute [local irreducible] vcall vloop vcallD retP
set_option maxRecDepth 100000
set_option linter.unusedVariables false
set_option linter.unusedSimpArgs false
attribute [local irreducible] seq ByteArray.extract
attribute [local irreducible] lgE
end Go.Proofs.YtjjnbhbendlnhaaDoor

/- Plain facts of the ledger's laws: the balances of all accounts add up to the sum of all postings. -/
namespace Go.Proofs.YtjjnbhbendlnhaaDoor
open Go.RowKit Go.Sy
set_option linter.unusedVariables false
set_option linter.unusedSimpArgs false

end Go.Proofs.YtjjnbhbendlnhaaDoor

/- Contracts of the ledger's laws: a call whose postings are a member of a family. -/
namespace Go.Proofs.YtjjnbhbendlnhaaDoor
open Go.RowKit Go.Sy
attribute [local irreducible] vcall vloop vcallD retP
set_option maxRecDepth 100000
set_option linter.unusedVariables false
set_option linter.unusedSimpArgs false
attribute [local irreducible] seq ByteArray.extract
end Go.Proofs.YtjjnbhbendlnhaaDoor

/- Plain facts on texts in ascending order. No program in sight. -/
namespace Go.Sy
open Go.RowKit

theorem ofB_toList (s : ByteArray) : s.toList = ofB s := by
  exact (by simpa using ByteArray.toList_eq s : s.toList = s.data.toList)
theorem strLt_eq (a b : ByteArray) : strLt a b = decide (ofB a < ofB b) := by
  unfold strLt
  rw [ofB_toList, ofB_toList, Go.Proofs.bytesLess_eq]
theorem ofB_inj {a b : ByteArray} (h : ofB a = ofB b) : a = b := by rw [← toB_ofB a, ← toB_ofB b, h]
theorem strLt_irrefl (a : ByteArray) : strLt a a = false := by rw [strLt_eq]; exact decide_eq_false (List.lt_irrefl _)
theorem strLt_asymm {a b : ByteArray} (h : strLt a b = true) : strLt b a = false := by
  rw [strLt_eq] at h ⊢
  exact decide_eq_false (List.lt_asymm (of_decide_eq_true h))
theorem sortS_pairwise {l : List ByteArray} (hd : l.Nodup) : (sortS l).Pairwise (fun a b => strLt a b = true) := by
  have tr : ∀ a b c : List UInt8, leB a b = true → leB b c = true → leB a c = true := fun a b c h1 h2 => by simp only [leB, decide_eq_true_eq] at *; exact List.le_trans h1 h2
  have to : ∀ a b : List UInt8, (leB a b || leB b a) = true := fun a b => by simp only [leB, Bool.or_eq_true, decide_eq_true_eq]; exact List.le_total a b
  have h1 := List.pairwise_mergeSort tr to (l.map ofB)
  have hd2 : (sortS l).Nodup := (sortS_perm l).symm.nodup hd
  have h2 : (sortS l).Pairwise (fun a b => leB (ofB a) (ofB b) = true) := by
    unfold sortS
    rw [List.pairwise_map]
    exact h1
  refine (List.Pairwise.and h2 hd2).imp ?_
  rintro a b ⟨h3, h4⟩
  rw [strLt_eq]
  simp only [leB, decide_eq_true_eq] at h3
  rcases List.le_iff_lt_or_eq.1 h3 with h5 | h5
  · exact decide_eq_true h5
  · exact absurd (ofB_inj h5) h4
/-- Texts in strictly ascending order are their own order. -/
theorem sortS_of {l m : List ByteArray} (hp : m.Perm l) (hm : m.Pairwise (fun a b => strLt a b = true)) : sortS l = m := by
  have hdm : m.Nodup := hm.imp (fun {a b} h e => by subst e; rw [strLt_irrefl] at h; cases h)
  refine List.Perm.eq_of_pairwise (le := fun a b => strLt a b = true) (fun a b _ _ h1 h2 => ?_) (sortS_pairwise (hp.nodup hdm)) hm ((sortS_perm l).trans hp.symm)
  rw [strLt_asymm h1] at h2; cases h2
end Go.Sy

/- The ledger's laws: the example of the chapter. -/
namespace Go.Proofs.YtjjnbhbendlnhaaDoor
open Go.RowKit Go.Sy
attribute [local irreducible] vcall vloop vcallD retP
set_option maxRecDepth 100000
set_option linter.unusedVariables false
set_option linter.unusedSimpArgs false

abbrev aA : ByteArray := ⟨#[97]⟩
abbrev aB : ByteArray := ⟨#[98]⟩
abbrev aEur : ByteArray := ⟨#[69, 85, 82]⟩
abbrev aUsd : ByteArray := ⟨#[85, 83, 68]⟩
abbrev aE1 : ByteArray := ⟨#[101, 49]⟩
abbrev aE2 : ByteArray := ⟨#[101, 50]⟩
abbrev aE3 : ByteArray := ⟨#[101, 51]⟩
abbrev aN : List ByteArray := [aA, aB]
abbrev aL1 : List Lp := [⟨aA, -5, aEur⟩, ⟨aB, 5, aEur⟩]
abbrev aL2 : List Lp := [⟨aA, -5, aEur⟩, ⟨aB, 5, aUsd⟩]
def aS0 : Lg := lg0 aN
def aS1 : Lg := lgP aS0 ⟨aE1, 20, aL1, 2⟩
def aS2 : Lg := lgRv aS1 aE1 aE2 21
theorem aw_n0 : nwE aN = 0 := by kernel_rfl
theorem aw_g1 : lgE aS0 ⟨aE1, 20, aL1, 2⟩ = 0 := by kernel_rfl
theorem aw_g2 : lgE aS1 ⟨aE2, 0, aL2, 2⟩ = 26 := by kernel_rfl
theorem aw_g3 : lgRE aS1 aE1 aE2 21 = 0 := by kernel_rfl
theorem aw_i1 : inL aE1 aS1.ids := by decide +kernel
theorem aw_i2 : ¬ inL aE1 aS1.st := by decide +kernel
theorem aw_g4 : lgE aS1 (revL aS1 aE1 aE2 21) = 0 := by kernel_rfl
theorem aw_i3 : inL aE1 aS2.ids := by decide +kernel
theorem aw_i4 : inL aE1 aS2.st := by decide +kernel
theorem aw_i5 : inL aE2 aS2.ids := by decide +kernel
theorem aw_i6 : inL aE2 aS2.st := by decide +kernel
theorem aw_b : aS2.bal aA aEur = 0 := by kernel_rfl
theorem aw_ok0 : LgOk aS0 := lg0_ok aw_n0
theorem aw_ok1 : LgOk aS1 := lgOk_post aw_ok0 rfl aw_g1
theorem aw_ok2 : LgOk aS2 := lgOk_rev aw_ok1 aw_g3
theorem aw_sort : sortS aN = aN := sortS_of (List.Perm.refl _) (.cons (fun a h => by simp only [List.mem_cons, List.not_mem_nil, or_false] at h; subst h; kernel_rfl) (List.pairwise_singleton _ _))
theorem aw_tr : (trA aS1 aEur).filter nzP = aL1 := by
  unfold trA
  rw [show aS1.acc = aN from rfl, aw_sort]
  kernel_rfl
attribute [local irreducible] lgE seq ByteArray.extract
set_option maxHeartbeats 2000000 in
theorem law_awake : Glob Tryd.prog glT 11 [] (.bool true) := by
  have c0 := lg_New_ok aN 2 rfl aw_n0
  have p1 := law_posting aA (-5)
  have p2 := law_posting aB 5
  have c1 := lg_Digest aS0
  have c2 := lg_Post_ok aS0 aE1 20 aL1 2 aw_ok0 rfl aw_g1
  have c3 := lg_Trial aS1 aEur aw_ok1
  rw [aw_tr] at c3
  have c4 := lg_Post_err aS1 aE2 0 aL2 2 aw_ok1 rfl (by rw [aw_g2]; decide)
  rw [aw_g2] at c4
  have c5 := lg_Reverse_ok aS1 aE1 aE2 21 aw_ok1 aw_i1 aw_i2 aw_g4
  have c6 := lg_Balance aS2 aA aEur
  rw [aw_b] at c6
  have c7 := lg_Reverse_set aS2 aE1 aE3 21 aw_ok2 aw_i3 aw_i4
  have c8 := lg_Reverse_set aS2 aE2 aE3 21 aw_ok2 aw_i5 aw_i6
  have d0 : aS0.dig = 0 := rfl
  change FC _ _ _ _ _ (isOut _ ((7, lgBg false aS0) :: _) _) at c0
  change FC _ _ _ _ _ (isOut _ ((6, lgBg false aS1) :: _) _) at c2
  change FC _ _ _ _ _ (isOut _ ((6, lgBg false aS2) :: _) _) at c5
  refine fc_of mixed T_ok Tryd.func11 rfl (by kernel_rfl) (by kernel_rfl) (by kernel_rfl) ?_
  repeat' ((conv => whnf); first | (refine vcall_pure (p1) rfl rfl rfl ?_) | (refine vcallD_pure (p1) rfl rfl rfl ?_) | (refine vcall_pure (p2) rfl rfl rfl ?_) | (refine vcallD_pure (p2) rfl rfl rfl ?_) | refine vcall_o (l := [0, 1]) (c0) ?_ | refine vcall_o (l := [0, 2, 3, 4, 5, 6, 7]) (c1) ?_ | refine vcall_o (l := [0, 2, 3, 4, 5, 6, 7, 8, 9]) (c2) ?_ | refine vcall_o (l := [0, 2, 3, 10, 5, 6, 7]) (c3) ?_ | refine vcallD_o (l := [0, 2, 3, 10, 5, 6, 7, 11, 13]) (c4) ?_ | refine vcall_o (l := [0, 2, 3, 10, 5, 6, 7, 11]) (c5) ?_ | refine vcall_o (l := [0, 2, 3, 14, 5, 6, 7]) (c6) ?_ | refine vcall_o (l := [0, 2, 3, 14, 5, 6, 7, 15]) (c7) ?_ | refine vcall_o (l := [0, 2, 3, 14, 5, 6, 7, 15]) (c8) ?_ | ((first | apply br_dec | apply br_ndec) <;> intro h <;> try (exfalso; (try dsimp only at h); omega)) | ((first | apply br_seq | apply br_nseq | apply br_not | apply br_intro) <;> intro h) | refine cond_a ?_)
  all_goals (conv => whnf)
  all_goals first
    | exact ret_pure rfl
    | (exfalso; exact absurd h (by decide +kernel))
    | trace_state
end Go.Proofs.YtjjnbhbendlnhaaDoor

/- Plain facts of the ledger's laws: postings by columns; how often a trial balance has an account; bounds of sums. No program in sight. -/
namespace Go.Proofs.YtjjnbhbendlnhaaDoor
open Go.RowKit Go.Sy
set_option linter.unusedVariables false
set_option linter.unusedSimpArgs false

end Go.Proofs.YtjjnbhbendlnhaaDoor

/- Plain facts of the law LedgerMany: the names, the entries, and what the ledger holds behind so many of them. No program in sight. -/
namespace Go.Proofs.YtjjnbhbendlnhaaDoor
open Go.RowKit Go.Sy
set_option maxRecDepth 100000
set_option linter.unusedVariables false
set_option linter.unusedSimpArgs false

/-- The three letters of a number, as the law computes them. -/
def chr3 (k : Nat) : List Int := [IntKind.u8.wrap (IntKind.i64.wrap (97 + (k : Int).tmod 16)), IntKind.u8.wrap (IntKind.i64.wrap (97 + (IntKind.i64.wrap ((k : Int).tdiv 16)).tmod 16)), IntKind.u8.wrap (IntKind.i64.wrap (97 + IntKind.i64.wrap ((k : Int).tdiv 256)))]
abbrev sA2 : ByteArray := ⟨#[97, 58]⟩
abbrev sE : ByteArray := ⟨#[101]⟩
def nmN (k : Nat) : ByteArray := sA2 ++ bytesOf (seg 0 3 (chr3 k))
def idN (k : Nat) : ByteArray := sE ++ bytesOf (seg 0 3 (chr3 k))
theorem nm_size (k : Nat) : sA2.size + (bytesOf (seg 0 3 (chr3 k))).size ≤ 9223372036854775807 := by
  show 2 + 3 ≤ _; decide
theorem id_size (k : Nat) : sE.size + (bytesOf (seg 0 3 (chr3 k))).size ≤ 9223372036854775807 := by
  show 1 + 3 ≤ _; decide
/-- The number of three letters. -/
def unN (o : Nat) (s : ByteArray) : Nat := ((s.data.toList.getD o 0).toNat - 97) + 16 * ((s.data.toList.getD (o + 1) 0).toNat - 97) + 256 * ((s.data.toList.getD (o + 2) 0).toNat - 97)
theorem un_nm : ∀ k, k < 520 → unN 2 (nmN k) = k := by decide +kernel
theorem un_id : ∀ k, k < 520 → unN 1 (idN k) = k := by decide +kernel
theorem lab_nm : ∀ k, k < 520 → labB (nmN k) = true := by decide +kernel
theorem lab_id : ∀ k, k < 520 → labB (idN k) = true := by decide +kernel
theorem nm_inj {i j : Nat} (hi : i < 520) (hj : j < 520) (h : nmN i = nmN j) : i = j := by rw [← un_nm i hi, ← un_nm j hj, h]
theorem id_inj {i j : Nat} (hi : i < 520) (hj : j < 520) (h : idN i = idN j) : i = j := by rw [← un_id i hi, ← un_id j hj, h]
attribute [irreducible] nmN idN
def nmT (k : Nat) : List ByteArray := (List.range k).map nmN
theorem nmT_succ (k : Nat) : nmT (k + 1) = nmT k ++ [nmN k] := by unfold nmT; rw [List.range_succ, List.map_append]; rfl
theorem nmT_len (k : Nat) : (nmT k).length = k := by unfold nmT; rw [List.length_map, List.length_range]
theorem nmT_get {k i : Nat} (h : i < k) : (nmT k).getD i ⟨#[]⟩ = nmN i := by
  unfold nmT; rw [List.getD, List.getElem?_map, List.getElem?_range h]; rfl
theorem nmT_mem {a : ByteArray} {k : Nat} : a ∈ nmT k ↔ ∃ i, i < k ∧ nmN i = a := by
  unfold nmT
  simp only [List.mem_map, List.mem_range]
theorem nmT_svs {k i : Nat} (h : i < k) : ((nmT k).map SV.str).getD i .unk = .str (nmN i) := by
  rw [List.getD, List.getElem?_map]
  unfold nmT
  rw [List.getElem?_map, List.getElem?_range h]; rfl
theorem nmT_nodup {k : Nat} (hk : k ≤ 520) : (nmT k).Nodup := by
  unfold nmT
  refine List.pairwise_map.2 ((List.nodup_range (n := k)).imp_of_mem fun {i j} hi hj hne e => hne (nm_inj ?_ ?_ e))
  · have := List.mem_range.1 hi; omega
  · have := List.mem_range.1 hj; omega
theorem nm_nwE : nwE (nmT 512) = 0 := by
  have key : ∀ (L A : List ByteArray), (A ++ L).Nodup → (∀ a ∈ L, labB a = true) → nmE A L = 0 := by
    intro L
    induction L with
    | nil => intro A _ _; rfl
    | cons a L ih =>
      intro A hn hl
      unfold nmE
      rw [if_neg (by rw [hl a (by simp)]; decide), if_neg (fun h => ?_)]
      · exact ih (A ++ [a]) (by rw [List.append_assoc]; exact hn) (fun b hb => hl b (by simp [hb]))
      · exact (List.nodup_append.1 hn).2.2 _ (in_iff.1 h) a (by simp) rfl
  unfold nwE
  rw [if_neg (by rw [nmT_len]; decide)]
  refine key _ [] (nmT_nodup (by decide)) fun a ha => ?_
  obtain ⟨i, hi, rfl⟩ := nmT_mem.1 ha
  exact lab_nm i (by omega)
/-- The entries. -/
def psN (k : Nat) : List Lp := [⟨nmN (k % 512), 1, aEur⟩, ⟨nmN ((k + 7) % 512), -1, aEur⟩]
def enN (k : Nat) : Le := ⟨idN k, (k : Int), psN k, 2⟩
structure MnI (k : Nat) (s : Lg) : Prop where
  ok : LgOk s
  acc : s.acc = nmT 512
  ne : s.ne = min k 512
  ent : s.ent = (List.range (min k 512)).map enN
theorem mn_zero : MnI 0 (lg0 (nmT 512)) := ⟨lg0_ok nm_nwE, rfl, rfl, rfl⟩
theorem mchk_eur : mchk 1 aEur = 0 ∧ mchk (-1) aEur = 0 := by constructor <;> kernel_rfl
theorem en_poE (k : Nat) : poE (nmT 512) (psN k) = 0 := by
  refine poE_zero.2 fun p hp => ?_
  simp only [psN, List.mem_cons, List.not_mem_nil, or_false] at hp
  rcases hp with rfl | rfl
  · exact ⟨nmT_mem.2 ⟨k % 512, by omega, rfl⟩, mchk_eur.1⟩
  · exact ⟨nmT_mem.2 ⟨(k + 7) % 512, by omega, rfl⟩, mchk_eur.2⟩
theorem en_bal (k : Nat) : lgBal (psN k) = true := by
  rw [lgBal_iff]
  intro c
  simp only [psN, lgC]
  split <;> rfl
theorem en_sum (k : Nat) (a c : ByteArray) : -2 ≤ lgS (psN k) a c ∧ lgS (psN k) a c ≤ 2 := by
  simp only [psN, lgS]
  split <;> split <;> omega
theorem mn_bd {k : Nat} {s : Lg} (h : MnI k s) (a c : ByteArray) : -2000 ≤ s.bal a c ∧ s.bal a c ≤ 2000 := by
  have key : ∀ n : Nat, -(2 * (n : Int)) ≤ lgS (allP ((List.range n).map enN)) a c ∧ lgS (allP ((List.range n).map enN)) a c ≤ 2 * (n : Int) := by
    intro n
    induction n with
    | zero => simp [allP, lgS]
    | succ n ih =>
      have e : (List.range (n + 1)).map enN = (List.range n).map enN ++ [enN n] := by rw [List.range_succ, List.map_append]; rfl
      rw [e, allP_app, lgS_append]
      have := en_sum n a c
      have e2 : (enN n).ps = psN n := rfl
      rw [e2]
      omega
  have := key (min k 512)
  rw [h.ok.bal, h.ent]
  omega
theorem mn_rng {k : Nat} {s : Lg} (h : MnI k s) (j : Nat) : rngB s.bal (psN j) = true := by
  refine rng_of fun a c => ?_
  have h1 := mn_bd h a c
  have h2 := en_sum j a c
  omega
theorem mn_id {k : Nat} {s : Lg} (h : MnI k s) (hk : k < 520) : idN k ∉ s.ids := by
  intro hm
  have : s.ids = (List.range (min k 512)).map idN := by
    show s.ent.map Le.id = _
    rw [h.ent, List.map_map]; rfl
  rw [this] at hm
  obtain ⟨i, hi, e⟩ := List.mem_map.1 hm
  have hi := List.mem_range.1 hi
  have := id_inj (by omega) hk e
  omega
theorem mn_ok {k : Nat} {s : Lg} (h : MnI k s) (hk : k < 512) : lgE s (enN k) = 0 := by
  refine lgE_ok ⟨lab_id k (by omega), by show (0 : Int) ≤ (k : Int) ∧ (k : Int) ≤ 99999; omega, rfl, by show 1 ≤ 2; omega, by show 2 ≤ 16; omega, by rw [h.acc]; exact en_poE k, en_bal k⟩ (mn_id h (by omega)) (mn_rng h k) (by rw [h.ne]; omega)
theorem mn_next {k : Nat} {s : Lg} (h : MnI k s) (hk : k < 512) : MnI (k + 1) (lgP s (enN k)) := by
  refine ⟨lgOk_post h.ok rfl (mn_ok h hk), h.acc, ?_, ?_⟩
  · show s.ne + 1 = _
    rw [h.ne]; omega
  · show s.ent ++ [enN k] = _
    rw [h.ent, show min (k + 1) 512 = k + 1 by omega, show min k 512 = k by omega, List.range_succ, List.map_append]; rfl
theorem mn_full {k : Nat} {s : Lg} (h : MnI k s) (hk : ¬ k < 512) (hk2 : k < 520) : lgE s (enN k) = 12 := by
  have e1 : poE s.acc (enN k).ps = 0 := by rw [h.acc]; exact en_poE k
  have e2 : lgBal (enN k).ps = true := en_bal k
  have e3 : rngB s.bal (enN k).ps = true := mn_rng h k
  unfold lgE
  rw [if_neg (by rw [show (enN k).id = idN k from rfl, lab_id k hk2]; decide), if_neg (by show ¬ ((k : Int) < 0 ∨ 99999 < (k : Int)); omega), if_neg (show ¬ inL (enN k).id s.ids from fun h' => mn_id h hk2 (in_iff.1 h')), if_neg (by show ¬ (2 < 1 ∨ 16 < 2); omega), if_neg (fun h => h e1), if_neg (by rw [e2]; decide), if_neg (by rw [e3]; decide), if_pos (by rw [h.ne]; omega)]
theorem mn_stay {k : Nat} {s : Lg} (h : MnI k s) (hk : ¬ k < 512) : MnI (k + 1) s := ⟨h.ok, h.acc, by rw [h.ne]; omega, by rw [h.ent, show min (k + 1) 512 = min k 512 by omega]⟩
/-- The balance of an account behind so many entries. -/
theorem bal_N {j : Nat} (hj : j < 512) : ∀ n, n ≤ 512 → lgS (allP ((List.range n).map enN)) (nmN j) aEur = (if j < n then 1 else 0) - (if (j + 505) % 512 < n then 1 else 0)
  | 0, _ => by simp [allP, lgS]
  | n + 1, h => by
    have e : (List.range (n + 1)).map enN = (List.range n).map enN ++ [enN n] := by rw [List.range_succ, List.map_append]; rfl
    rw [e, allP_app, lgS_append, bal_N hj n (by omega)]
    have e2 : (enN n).ps = psN n := rfl
    rw [e2]
    simp only [psN, lgS, and_true]
    have i1 : nmN (n % 512) = nmN j ↔ n = j := ⟨fun h => by have := nm_inj (by omega) (by omega) h; omega, fun h => by subst h; rw [Nat.mod_eq_of_lt hj]⟩
    have i2 : nmN ((n + 7) % 512) = nmN j ↔ n = (j + 505) % 512 := ⟨fun h => by have := nm_inj (by omega) (by omega) h; omega, fun h => congrArg nmN (by omega)⟩
    simp only [i1, i2]
    split <;> split <;> split <;> split <;> split <;> split <;> omega
theorem mn_tr {k : Nat} {s : Lg} (h : MnI k s) (hk : ¬ k < 512) : (trA s aEur).filter nzP = [] := by
  refine List.filter_eq_nil_iff.2 fun x hx => ?_
  obtain ⟨a, ha, rfl⟩ := List.mem_map.1 hx
  have ha := (sortS_perm s.acc).mem_iff.1 ha
  rw [h.acc] at ha
  obtain ⟨j, hj, rfl⟩ := nmT_mem.1 ha
  have e : s.bal (nmN j) aEur = 0 := by
    rw [h.ok.bal, h.ent, show min k 512 = 512 by omega, bal_N hj 512 (Nat.le_refl _), if_pos hj, if_pos (by omega)]; rfl
  unfold nzP
  simp only [e]
  decide
end Go.Proofs.YtjjnbhbendlnhaaDoor

/- The law LedgerMany. -/
namespace Go.Proofs.YtjjnbhbendlnhaaDoor
open Go.RowKit Go.Sy
attribute [local irreducible] vcall vloop vcallD retP
set_option maxRecDepth 100000
set_option linter.unusedVariables false
set_option linter.unusedSimpArgs false

theorem lg_New_big (n : Nat) (h : 512 < n) : FC Tryd.prog 2 6 [.sl 1 0 0 n] [] (isOut (.tup [.nptr, .int .i64 3]) [] 2) := by
  refine fc_of mixed T_ok Tryd.func6 rfl (by kernel_rfl) (by kernel_rfl) (by kernel_rfl) ?_
  repeat' ((conv => whnf); first | ((first | apply br_dec | apply br_ndec) <;> intro h <;> try (exfalso; (try dsimp only at h); omega)) | ((first | apply br_seq | apply br_nseq | apply br_not | apply br_intro) <;> intro h) | refine cond_a ?_)
  all_goals (conv => whnf)
  all_goals first
    | exact ret_out (l := [0, 1]) rfl rfl trivial allRw_nil
    | (exfalso; omega)
/-- Texts, written out. -/
theorem svs_at {g : G} {w : World} {β : Base} {ro : Bool} {n : Nat} {L : List ByteArray} (hL : L.length = n) (h : BlkAt g β ro (.cols n [.svs (L.map SV.str)]) w) : BlkAt g β ro (.cols n [.sc (.strs L)]) w := by
  refine ⟨h.lt, h.es, ?_, h.cap, ?_, h.one, h.rw, trivial⟩
  · intro c hc
    simp only [List.mem_cons, List.not_mem_nil, or_false] at hc
    subst hc; exact hL
  · intro i j sv hi hj
    have hi' : i < n := hi
    cases j with
    | zero =>
      simp only [Blk.at, nth, Option.some.injEq] at hj
      subst hj
      refine h.cell i 0 _ hi ?_
      simp only [Blk.at, nth, Option.some.injEq, BCol.at, Col.at]
      rw [List.getD, List.getElem?_map, List.getD, List.getElem?_eq_getElem (by omega)]; rfl
    | succ j => simp [Blk.at, nth] at hj
theorem lg_New_svs (L : List ByteArray) (n : Nat) (hn : L.length = n) (h : nwE L = 0) : FC Tryd.prog 2 6 [.sl 1 0 0 n] [(1, some (.one true (.cols n [.svs (L.map SV.str)])))]
    (isOut (.tup [.ptr 2 0 0 0, .int .i64 0]) [(7, lgBg false (lg0 L)), (2, some (.one false (.cells (lgF 3 4 5 6 7 (lg0 L))))), (3, some (.one false (lgAcc (lg0 L)))), (4, some (.one false (lgEnt 8 (lg0 L)))), (5, some (.one false (lgPl (lg0 L)))), (6, some (.one false (lgSt (lg0 L)))), (8, lgFam false (lg0 L))] 9) :=
  fc_choose (α := Unit) (A := fun _ => True) (B := fun _ => .cols n [.sc (.strs L)]) (fun g w β hb => ⟨(), trivial, svs_at hn hb⟩) (fun _ _ _ _ _ ho => ho) (fun _ _ => lg_New_ok L n hn h)
theorem rens_str (ρ : Nat → Nat) : ∀ L : List ByteArray, SV.rens ρ (L.map SV.str) = L.map SV.str
  | [] => rfl
  | a :: L => by
    show SV.str a :: SV.rens ρ (L.map SV.str) = _
    rw [rens_str ρ L]; rfl
theorem wfs_str (n : Nat) : ∀ L : List ByteArray, SV.wfs n (L.map SV.str) = true
  | [] => rfl
  | a :: L => by
    show (true && SV.wfs n (L.map SV.str)) = true
    rw [wfs_str n L]; rfl
theorem row_str {o : Option HB} {ρ : Nat → Nat} {k : Nat} {L : List ByteArray} (h : o = some (.one false (.cols k [.svs (L.map SV.str)]))) : o = some ((HB.one false (.cols k [.svs (L.map SV.str)])).ren ρ) := by
  show o = some (.one false (.cols k [.svs (SV.rens ρ (L.map SV.str))]))
  rw [rens_str]; exact h
theorem wf_str {n k : Nat} {L : List ByteArray} : (HB.one true (.cols k [.svs (L.map SV.str)])).wf n := by
  show (SV.wfs n (L.map SV.str) && true) = true
  rw [wfs_str]; rfl
theorem fit_str {o : Option HB} {ρ : Nat → Nat} {k : Nat} {L : List ByteArray} (h : o = some (.one false (.cols k [.svs (L.map SV.str)]))) : fitsAt o ((HB.one true (.cols k [.svs (L.map SV.str)])).ren ρ) := by
  subst h
  show fitsAt _ (.one true (.cols k [.svs (SV.rens ρ (L.map SV.str))]))
  rw [rens_str]
  exact ⟨rfl, rfl⟩
/-- The column of the names: written out when all are there. -/
def nmC (k : Nat) : BCol := if k < 512 then .sc (.strs (nmT k)) else .svs ((nmT k).map SV.str)
theorem nmC_lt {k : Nat} (h : k < 512) : nmC k = .sc (.strs (nmT k)) := if_pos h
theorem nmC_ge {k : Nat} (h : ¬ k < 512) : nmC k = .svs ((nmT k).map SV.str) := if_neg h
def mnS (n0 : Int) (k : Nat) : VS := ⟨[(0, .int .u8 n0), (3, .sl 1 0 0 k), (4, .int .i64 k)], [(0, some (GB glT)), (1, some (.one false (.cols k [nmC k])))], 2⟩
theorem mn_round (n0 : Int) (k : Nat) (hk : k < 512) (K : Exit → VS → Prop)
    (hK : ∀ v, (∃ (y : Nat) (l : List Nat) (u : List Up), y ≤ 512 ∧ 512 - y < 512 - k ∧ upK u v (fun v => Weak 1 l v (mnS n0 y))) → K .normal v) :
    vcode Tryd.prog T 1 (lpc Tryd.f3 0) (mnS n0 k) K := by
  unfold mnS
  rw [nmC_lt hk]
  have hsz := nm_size k
  have hnm : sA2 ++ bytesOf (seg 0 3 (chr3 k)) = nmN k := by unfold nmN; rfl
  repeat' ((conv => whnf); first | (refine cond_intro hsz ?_) | ((first | apply br_dec | apply br_ndec) <;> intro h <;> try (exfalso; (try dsimp only at h); omega)) | ((first | apply br_seq | apply br_nseq | apply br_not | apply br_intro) <;> intro h) | refine cond_a ?_)
  all_goals (conv => whnf)
  all_goals first
    | (exfalso; omega)
    | skip
  have erow : (some (HB.one false (.cols (k + 1) [.sc (.strs (nmT k ++ [sA2 ++ bytesOf (seg 0 3 (chr3 k))]))])) : Option HB) = some (.one false (.cols (k + 1) [.sc (.strs (nmT (k + 1)))])) := by rw [nmT_succ, hnm]
  by_cases hk2 : k + 1 < 512
  · refine hK _ ⟨k + 1, [0, 4], [], by omega, by omega, ?_⟩
    unfold mnS
    rw [nmC_lt hk2]
    exact ⟨rfl, ⟨rfl, rfl, congrArg (fun z => some (SV.int .i64 z)) (i64_succ (by omega)), trivial⟩, ⟨gwk rfl, erow, trivial⟩⟩
  · refine hK _ ⟨k + 1, [0, 4], [.relab (fun _ _ => none) (fun _ => 0) [(4, some (.one false (.cols (k + 1) [.svs ((nmT (k + 1)).map SV.str)])))] [] 0], by omega, by omega, ?_⟩
    unfold mnS
    rw [nmC_ge hk2]
    refine ⟨relab_top (n := 5) (th := 4) (tb0 := .cols (k + 1) [.sc (.strs (nmT (k + 1)))]) (by decide) erow (ble_cols ⟨⟨fun _ => by show ((nmT (k + 1)).map SV.str).length = k + 1; rw [List.length_map, nmT_len], fun i hi => ?_⟩, trivial⟩), rfl, ⟨rfl, rfl, congrArg (fun z => some (SV.int .i64 z)) (i64_succ (by omega)), trivial⟩, ⟨gwk rfl, row_str rfl, trivial⟩⟩
    have e : (BCol.svs ((nmT (k + 1)).map SV.str)).at i = (BCol.sc (.strs (nmT (k + 1)))).at i := by
      show ((nmT (k + 1)).map SV.str).getD i .unk = .str ((nmT (k + 1)).getD i ⟨#[]⟩)
      rw [nmT_svs hi, nmT_get hi]
    rw [e]
    exact sle_refl _
/-- The state at the head of a round of postings. -/
def mpS (n0 : Int) (x : Nat × Lg) : VS := ⟨[(0, .int .u8 n0), (3, .sl 1 0 0 512), (5, .ptr 2 0 0 0), (9, .int .i64 x.1)],
  [(0, some (GB glT)), (1, some (.one false (.cols 512 [.svs ((nmT 512).map SV.str)]))), (7, lgBg false x.2), (2, some (.one false (.cells (lgF 3 4 5 6 7 x.2)))), (3, some (.one false (lgAcc x.2))), (4, some (.one false (lgEnt 8 x.2))), (5, some (.one false (lgPl x.2))), (6, some (.one false (lgSt x.2))), (8, lgFam false x.2)], 9⟩
theorem mp_round (n0 : Int) (m k : Nat) (s : Lg) (hm : m ≤ 3) (hb : IntKind.i64.wrap (512 + IntKind.i64.wrap (n0.tmod 4)) = ((512 + m : Nat) : Int)) (hk : k < 512 + m) (hs : MnI k s) (K : Exit → VS → Prop)
    (hK : ∀ v, (∃ (y : Nat × Lg) (l : List Nat) (u : List Up), (y.1 ≤ 512 + m ∧ MnI y.1 y.2) ∧ 512 + m - y.1 < 512 + m - k ∧ upK u v (fun v => Weak 1 l v (mpS n0 y))) → K .normal v) :
    vcode Tryd.prog T 1 (lpc Tryd.f3 1) (mpS n0 (k, s)) K := by
  have hsz := id_size k
  have hid : sE ++ bytesOf (seg 0 3 (chr3 k)) = idN k := by unfold idN; rfl
  have hx1 : [((nmT 512).map SV.str).getD (k % 512) .unk, SV.int .i64 1] = [.str (nmN (k % 512)), .int .i64 1] := by rw [nmT_svs (by omega)]
  have hw : IntKind.i64.wrap ((k : Int) + 7) = ((k + 7 : Nat) : Int) := by rw [w64_in (by omega) (by omega)]; rfl
  have hx2 : [((nmT 512).map SV.str).getD ((IntKind.i64.wrap ((k : Int) + 7)).tmod 512).toNat .unk, SV.int .i64 (-1)] = [.str (nmN ((k + 7) % 512)), .int .i64 (-1)] := by
    rw [hw, show (((k + 7 : Nat) : Int).tmod 512).toNat = (k + 7) % 512 from rfl, nmT_svs (by omega)]
  have hc1 : (0 : Int) ≤ (k : Int).tmod 512 ∧ (k : Int).tmod 512 < 512 := by rw [show (k : Int).tmod 512 = ((k % 512 : Nat) : Int) from rfl]; omega
  have hc2 : (0 : Int) ≤ (IntKind.i64.wrap ((k : Int) + 7)).tmod 512 ∧ (IntKind.i64.wrap ((k : Int) + 7)).tmod 512 < 512 := by rw [hw, show ((k + 7 : Nat) : Int).tmod 512 = (((k + 7) % 512 : Nat) : Int) from rfl]; omega
  have p1 := law_posting (nmN (k % 512)) 1
  have p2 := law_posting (nmN ((k + 7) % 512)) (-1)
  unfold mpS
  by_cases hk2 : k < 512
  · have c := lg_Post_ok s (idN k) (k : Int) (psN k) 2 hs.ok rfl (mn_ok hs hk2)
    have hnx := mn_next hs hk2
    change FC _ _ _ _ _ (isOut _ ((6, lgBg false (lgP s (enN k))) :: psO (lgP s (enN k))) _) at c
    have ha : lgAcc s = lgAcc (lgP s (enN k)) := rfl
    have hst : lgSt s = lgSt (lgP s (enN k)) := rfl
    rw [← hid] at c
    unfold psN at c
    generalize lgP s (enN k) = s' at *
    have hd : decide ((k : Int) < 512) = true := decide_eq_true (by omega)
    repeat' ((conv => whnf); first | (rw [hb]) | (refine cond_intro hsz ?_) | (refine cond_intro hc1 ?_) | (refine cond_intro hc2 ?_) | (refine vcallD_out (l := [0]) p1 ⟨rfl, rfl, (by exact hx1), rfl, trivial, trivial⟩ ?_) | (refine vcallD_out (l := [0]) p2 ⟨rfl, rfl, (by exact hx2), rfl, trivial, trivial⟩ ?_) | refine vcallD_o (l := [0, 2, 3, 4, 5, 6, 7, 8, 10]) (c) ?_ | (rw [hd]) | ((first | apply br_dec | apply br_ndec) <;> intro h <;> try (exfalso; (try dsimp only at h); omega)) | ((first | apply br_seq | apply br_nseq | apply br_not | apply br_intro) <;> intro h) | refine cond_a ?_)
    all_goals (conv => whnf)
    all_goals first
      | (exfalso; omega)
      | exact hK _ ⟨(k + 1, s'), [0, 1, 2, 3, 11, 5, 6, 7, 12], [], ⟨by dsimp only; omega, hnx⟩, by dsimp only; omega, ⟨rfl, ⟨rfl, rfl, rfl, congrArg (fun z => some (SV.int .i64 z)) (i64_succ (by omega)), trivial⟩, ⟨gwk rfl, row_str rfl, rfl, rfl, congrArg (fun z => some (HB.one false z)) ha, rfl, rfl, congrArg (fun z => some (HB.one false z)) hst, rfl, trivial⟩⟩⟩
      | trace_state
  · have hE := mn_full hs hk2 (by omega)
    have c := lg_Post_err s (idN k) (k : Int) (psN k) 2 hs.ok rfl (by show lgE s (enN k) ≠ 0; rw [hE]; decide)
    rw [show lgE s ⟨idN k, (k : Int), psN k, 2⟩ = 12 from hE] at c
    rw [← hid] at c
    unfold psN at c
    have hnx := mn_stay hs hk2
    have hd : decide ((k : Int) < 512) = false := decide_eq_false (by omega)
    repeat' ((conv => whnf); first | (rw [hb]) | (refine cond_intro hsz ?_) | (refine cond_intro hc1 ?_) | (refine cond_intro hc2 ?_) | (refine vcallD_out (l := [0]) p1 ⟨rfl, rfl, (by exact hx1), rfl, trivial, trivial⟩ ?_) | (refine vcallD_out (l := [0]) p2 ⟨rfl, rfl, (by exact hx2), rfl, trivial, trivial⟩ ?_) | refine vcallD_o (l := [0, 2, 3, 4, 5, 6, 7, 8, 10]) (c) ?_ | (rw [hd]) | ((first | apply br_dec | apply br_ndec) <;> intro h <;> try (exfalso; (try dsimp only at h); omega)) | ((first | apply br_seq | apply br_nseq | apply br_not | apply br_intro) <;> intro h) | refine cond_a ?_)
    all_goals (conv => whnf)
    all_goals first
      | (exfalso; omega)
      | exact hK _ ⟨(k + 1, s), [0, 1, 2, 3, 4, 5, 6, 7, 8], [], ⟨by dsimp only; omega, hnx⟩, by dsimp only; omega, ⟨rfl, ⟨rfl, rfl, rfl, congrArg (fun z => some (SV.int .i64 z)) (i64_succ (by omega)), trivial⟩, ⟨gwk rfl, row_str rfl, rfl, rfl, rfl, rfl, rfl, rfl, rfl, trivial⟩⟩⟩
      | trace_state
theorem law_Many (n0 : Int) (h0 : 0 ≤ n0 ∧ n0 ≤ 255) : FC Tryd.prog 1 3 [.int .u8 n0] [(0, some (GB glT))] (isOut (.bool true) [] 1) := by
  have cA := law_awake
  obtain ⟨m, hm, hb⟩ : ∃ m : Nat, m ≤ 3 ∧ IntKind.i64.wrap (512 + IntKind.i64.wrap (n0.tmod 4)) = ((512 + m : Nat) : Int) := by
    have e : n0.tmod 4 = n0 % 4 := Int.tmod_eq_emod_of_nonneg h0.1
    refine ⟨(n0 % 4).toNat, by omega, ?_⟩
    rw [e, w64_in (n := n0 % 4) (by omega) (by omega), w64_in (by omega) (by omega)]
    omega
  have c0 := lg_New_svs (nmT 512) 512 (nmT_len _) nm_nwE
  have c1 := lg_New_big 513 (by decide)
  have I0 := mn_zero
  generalize lg0 (nmT 512) = s0 at *
  refine fc_of mixed T_ok Tryd.func3 rfl (by kernel_rfl) (by kernel_rfl) (by kernel_rfl) ?_
  repeat' ((conv => whnf); first | ((first | apply br_dec | apply br_ndec) <;> intro h <;> try (exfalso; (try dsimp only at h); omega)) | ((first | apply br_seq | apply br_nseq | apply br_not | apply br_intro) <;> intro h) | refine cond_a ?_)
  all_goals (conv => whnf)
  refine vloop_of (mnS n0) (fun k => k ≤ 512) (fun k => 512 - k) 0 [0, 1] [.slot 3 [.sc (.strs [])]] ⟨rfl, ⟨rfl, rfl, rfl, trivial⟩, ⟨gwk rfl, rfl, trivial⟩⟩ (Nat.zero_le _) ?_
  intro k hk
  by_cases hk2 : k < 512
  · exact mn_round n0 k hk2 _ (fun v hv => hv)
  obtain rfl : k = 512 := by omega
  unfold mnS
  rw [nmC_ge (by decide)]
  repeat' ((conv => whnf); first | (refine vcall_out (l := [0, 1]) c0 ⟨rfl, rfl, rfl, rfl, ⟨rfl, wf_str, trivial⟩, ⟨fit_str rfl, trivial⟩⟩ ?_) | refine vcall_o (l := [0, 10]) (c1) ?_ | ((first | apply br_dec | apply br_ndec) <;> intro h <;> try (exfalso; (try dsimp only at h); omega)) | ((first | apply br_seq | apply br_nseq | apply br_not | apply br_intro) <;> intro h) | refine cond_a ?_)
  all_goals (conv => whnf)
  all_goals first
    | (exfalso; omega)
    | skip
  refine vloop_of (mpS n0) (fun x => x.1 ≤ 512 + m ∧ MnI x.1 x.2) (fun x => 512 + m - x.1) (0, s0) [0, 1, 2, 3, 4, 5, 6, 7, 8] [] ⟨rfl, ⟨rfl, rfl, rfl, rfl, trivial⟩, ⟨gwk rfl, row_str rfl, rfl, rfl, rfl, rfl, rfl, rfl, rfl, trivial⟩⟩ ⟨Nat.zero_le _, I0⟩ ?_
  rintro ⟨k, s⟩ ⟨hk, hs⟩
  dsimp only at hk hs
  by_cases hk2 : k < 512 + m
  · exact mp_round n0 m k s hm hb hk2 hs _ (fun v hv => hv)
  obtain rfl : k = 512 + m := by omega
  have cE := lg_Entries s hs.ok
  have cT := lg_Trial s aEur hs.ok
  rw [mn_tr hs (by omega)] at cT
  unfold mpS
  have hne : s.ne = 512 := by rw [hs.ne]; omega
  repeat' ((conv => whnf); first | (rw [hb]) | refine vcall_o (l := [0, 2, 3, 4, 5, 6, 7, 8]) (cE) ?_ | refine vcall_o (l := [0, 2, 3, 4, 5, 6, 7]) (cT) ?_ | (refine vcall_glob (cA) rfl rfl rfl rfl ?_) | (refine vcallD_glob (cA) rfl rfl rfl rfl ?_) | ((first | apply br_dec | apply br_ndec) <;> intro h <;> try (exfalso; (try dsimp only at h); omega)) | ((first | apply br_seq | apply br_nseq | apply br_not | apply br_intro) <;> intro h) | refine cond_a ?_)
  all_goals (conv => whnf)
  all_goals first
    | (exfalso; omega)
    | (exfalso; exact h rfl)
    | exact ret_out (l := [0]) rfl rfl trivial allRw_nil
    | trace_state
end Go.Proofs.YtjjnbhbendlnhaaDoor

