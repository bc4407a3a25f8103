/- Contracts: numbers and rates are read from their texts. -/
import Derived.Test.YtakaafolanojkaaDoorRateL
import Derived.Test.YtakaafolanojkaaDoorYCalls
import Derived.Test.YtakaafolanojkaaDoorShelf
namespace Go.Proofs.YtakaafolanojkaaDoor
open Go.RowKit Go.Sy
attribute [local irreducible] vcall vloop vcallD retP
set_option maxRecDepth 100000
set_option linter.unusedVariables false
set_option linter.unusedSimpArgs false

theorem glob_of_calls {P : Program} {l : GTab} {f : FuncId} {args : List SV} {vals : List Value} {r : SV} (hbd : bodied P f) (hv : ∀ g vs, Rvs g args vs → vs = vals) (hc : ∀ (g : G) w, g.glob → Holds g [(0, some (GB l))] w → Calls P f vals.toArray w (fun e w' => ∃ v, e = .returned v ∧ (∀ g', Rv g' r v) ∧ Below w.heap.size w w')) : Glob P l f args r := by
  refine Or.inl ⟨hbd, fun g w vs hg hu hH hvs => ?_⟩
  rw [hv g vs hvs]
  refine (hc g w hg hH).mono ?_
  rintro e w' ⟨v, rfl, hr, hb⟩
  refine ⟨v, rfl, r, [], 1, g, ⟨rfl, rfl, rfl⟩, Nat.le_refl _, hu, fun _ _ _ => rfl, hr g, ⟨?_, ?_⟩, allRw_nil, ⟨hb.os, hb.tape, hb.output, hb.size, fun k hk _ => hb.block k hk⟩, ?_⟩
  · intro h q ro b he; obtain ⟨hb, e, _⟩ := he; simp [hget] at e
  · intro h q h' q' b ro' b' β β' _ he; obtain ⟨hb, e, _⟩ := he; simp [hget] at e
  · intro h q b β he; obtain ⟨hb, e, _⟩ := he; simp [hget] at e
/-- A variable of an interface type that is laid. -/
theorem sent_at {l : GTab} {g : G} {w : World} {q t : Nat} (hg : g.glob) (hH : Holds g [(0, some (GB l))] w) (hq : aget l q = some (0, [.ints .i64 [(t : Int)]])) : ∃ u, w.cell? ⟨q, 0, none⟩ = some (.iface t u) := by
  have hb : gblk l q = .cells [.iface t .unk] := by
    unfold gblk; rw [hq]; rfl
  obtain ⟨β, hβ, hB⟩ := hH.blk 0 q true (gblk l q) ⟨GB l, rfl, ⟨(by show (aget l q).isSome = true; rw [hq]; rfl), rfl⟩, rfl⟩
  rw [hb] at hB
  obtain ⟨es, cap, he⟩ := hg q
  rw [he] at hβ
  cases hβ
  obtain ⟨v, hv, hr⟩ := hB.cell 0 0 (.iface t .unk) rfl rfl
  simp only [Rv] at hr
  obtain ⟨u, rfl, _⟩ := hr
  refine ⟨u, ?_⟩
  simpa [Base.addr] using hv
/-- How a decimal number is read. -/
def piR (s : ByteArray) : SV := match Lib.parseIntB 64 s.data.toList with
  | .ok v => .tup [.int .i64 v, .nif]
  | .range => .tup [.int .i64 (Lib.intSat 64 s.data.toList), .iface 82 .unk]
  | _ => .tup [.int .i64 0, .iface 82 .unk]
theorem rvs3 {g : G} {s : ByteArray} {a b : Int} {vs : List Value} (h : Rvs g [.str s, .int .i64 a, .int .i64 b] vs) : vs = [.string s, .int .i64 a, .int .i64 b] := by
  simp only [Rvs, Rv] at h
  obtain ⟨_, _, rfl, rfl, _, _, rfl, rfl, _, _, rfl, rfl, rfl⟩ := h
  rfl
theorem conv_ParseInt (s : ByteArray) (hs : s.size ≤ 100000) : Glob Tryd.prog glT 23 [.str s, .int .i64 10, .int .i64 64] (piR s) := by
  unfold piR
  rcases h : Lib.parseIntB 64 s.data.toList with v | _ | _
  · skip
    refine glob_of_calls (vals := [.string s, .int .i64 10, .int .i64 64]) (bodied_of' Tryd.func23 (by kernel_rfl) (by kernel_rfl)) (fun g vs h => rvs3 h) fun g w hg hH => (Tryd.strconv_ParseInt_10_at64_ok s (by omega) v h w).mono ?_
    rintro e w' ⟨rfl, hw⟩
    refine ⟨_, rfl, fun g => by simp [Rv, Rvs], ?_⟩
    rcases hw with rfl | ⟨t, rfl⟩
    · exact Below.refl _ _
    · exact Lib.bytesWorld_below _ _ _
  · skip
    refine glob_of_calls (vals := [.string s, .int .i64 10, .int .i64 64]) (bodied_of' Tryd.func23 (by kernel_rfl) (by kernel_rfl)) (fun g vs h => rvs3 h) fun g w hg hH => ?_
    obtain ⟨u, hu⟩ := sent_at (t := 98) hg hH (q := 5) rfl
    refine (Tryd.strconv_ParseInt_10_at64_syntax s (by omega) h _ w hu (.inr ⟨_, _, rfl⟩)).mono ?_
    rintro e w' ⟨N, rfl, _, _, hb⟩
    exact ⟨_, rfl, fun g => by simp only [Rv, Rvs]; exact ⟨_, rfl, _, _, rfl, rfl, _, _, rfl, ⟨_, rfl, trivial⟩, rfl⟩, hb⟩
  · skip
    refine glob_of_calls (vals := [.string s, .int .i64 10, .int .i64 64]) (bodied_of' Tryd.func23 (by kernel_rfl) (by kernel_rfl)) (fun g vs h => rvs3 h) fun g w hg hH => ?_
    obtain ⟨u, hu⟩ := sent_at (t := 98) hg hH (q := 6) rfl
    refine (Tryd.strconv_ParseInt_10_at64_range s (by omega) h _ w hu (.inr ⟨_, _, rfl⟩)).mono ?_
    rintro e w' ⟨N, rfl, _, _, hb⟩
    exact ⟨_, rfl, fun g => by simp only [Rv, Rvs]; exact ⟨_, rfl, _, _, rfl, rfl, _, _, rfl, ⟨_, rfl, trivial⟩, rfl⟩, hb⟩
/-- The number of a text, if it is its text. -/
def numO (s : ByteArray) : Option Int := match Lib.parseIntB 64 s.data.toList with
  | .ok v => if decI v = s then some v else none
  | _ => none
def numR (s : ByteArray) : SV := match numO s with
  | some v => .tup [.int .i64 v, .bool true]
  | none => .tup [.int .i64 0, .bool false]
theorem rate_number (s : ByteArray) (hs : s.size ≤ 100000) : Glob Tryd.prog glT 15 [.str s] (numR s) := by
  have c1 := conv_ParseInt s hs
  unfold piR at c1
  unfold numR numO
  rcases h : Lib.parseIntB 64 s.data.toList with v | _ | _
  · skip
    rw [h] at c1
    have hb := Lib.parseIntB_bounds h
    have c2 := conv_FormatInt v (by simp at hb; omega) (by simp at hb; omega)
    by_cases e : decI v = s
    · dsimp only
      rw [if_pos e]
      rw [e] at c2
      refine fc_of mixed T_ok Tryd.func15 rfl (by kernel_rfl) (by kernel_rfl) (by kernel_rfl) ?_
      repeat' ((conv => whnf); first | (refine vcall_glob (c1) rfl rfl rfl rfl ?_) | (refine vcall_glob (c2) rfl rfl rfl rfl ?_) | (refine vcallD_glob (c2) rfl rfl rfl rfl ?_) | (refine br_dec (fun h => ?_) (fun h => ?_) <;> try (exfalso; (try dsimp only at h); omega)) | (refine br_ndec (fun h => ?_) (fun h => ?_) <;> try (exfalso; (try dsimp only at h); omega)) | refine br_seq (fun h => ?_) (fun h => ?_) | refine br_nseq (fun h => ?_) (fun h => ?_) | refine br_not (fun h => ?_) (fun h => ?_) | refine br_intro (fun h => ?_) (fun h => ?_) | refine cond_intro rfl ?_ | (refine cond_intro ⟨rfl, ?_⟩ ?_; (first | omega | (dsimp only; omega) | decide)) | (refine cond_intro ?_ ?_; (first | omega | (dsimp only; omega) | decide | (simp only [Nat.add_zero, Int.toNat_natCast, *]; omega))))
      all_goals (conv => whnf)
      all_goals first
        | exact ret_pure rfl
        | (exfalso; first | contradiction | (simp_all [seq]; done))
        | trace_state
    · dsimp only
      rw [if_neg e]
      generalize decI v = z at *
      refine fc_of mixed T_ok Tryd.func15 rfl (by kernel_rfl) (by kernel_rfl) (by kernel_rfl) ?_
      repeat' ((conv => whnf); first | (refine vcall_glob (c1) rfl rfl rfl rfl ?_) | (refine vcall_glob (c2) rfl rfl rfl rfl ?_) | (refine vcallD_glob (c2) rfl rfl rfl rfl ?_) | (refine br_dec (fun h => ?_) (fun h => ?_) <;> try (exfalso; (try dsimp only at h); omega)) | (refine br_ndec (fun h => ?_) (fun h => ?_) <;> try (exfalso; (try dsimp only at h); omega)) | refine br_seq (fun h => ?_) (fun h => ?_) | refine br_nseq (fun h => ?_) (fun h => ?_) | refine br_not (fun h => ?_) (fun h => ?_) | refine br_intro (fun h => ?_) (fun h => ?_) | refine cond_intro rfl ?_ | (refine cond_intro ⟨rfl, ?_⟩ ?_; (first | omega | (dsimp only; omega) | decide)) | (refine cond_intro ?_ ?_; (first | omega | (dsimp only; omega) | decide | (simp only [Nat.add_zero, Int.toNat_natCast, *]; omega))))
      all_goals (conv => whnf)
      all_goals first
        | exact ret_pure rfl
        | (exfalso; first | contradiction | (simp_all [seq]; done))
        | trace_state
  · skip
    rw [h] at c1
    refine fc_of mixed T_ok Tryd.func15 rfl (by kernel_rfl) (by kernel_rfl) (by kernel_rfl) ?_
    repeat' ((conv => whnf); first | (refine vcall_glob (c1) rfl rfl rfl rfl ?_) | (refine br_dec (fun h => ?_) (fun h => ?_) <;> try (exfalso; (try dsimp only at h); omega)) | (refine br_ndec (fun h => ?_) (fun h => ?_) <;> try (exfalso; (try dsimp only at h); omega)) | refine br_seq (fun h => ?_) (fun h => ?_) | refine br_nseq (fun h => ?_) (fun h => ?_) | refine br_not (fun h => ?_) (fun h => ?_) | refine br_intro (fun h => ?_) (fun h => ?_) | refine cond_intro rfl ?_ | (refine cond_intro ⟨rfl, ?_⟩ ?_; (first | omega | (dsimp only; omega) | decide)) | (refine cond_intro ?_ ?_; (first | omega | (dsimp only; omega) | decide | (simp only [Nat.add_zero, Int.toNat_natCast, *]; omega))))
    all_goals (conv => whnf)
    all_goals first
      | exact ret_pure rfl
      | (exfalso; first | contradiction | (simp_all [seq]; done))
      | trace_state
  · skip
    rw [h] at c1
    refine fc_of mixed T_ok Tryd.func15 rfl (by kernel_rfl) (by kernel_rfl) (by kernel_rfl) ?_
    repeat' ((conv => whnf); first | (refine vcall_glob (c1) rfl rfl rfl rfl ?_) | (refine br_dec (fun h => ?_) (fun h => ?_) <;> try (exfalso; (try dsimp only at h); omega)) | (refine br_ndec (fun h => ?_) (fun h => ?_) <;> try (exfalso; (try dsimp only at h); omega)) | refine br_seq (fun h => ?_) (fun h => ?_) | refine br_nseq (fun h => ?_) (fun h => ?_) | refine br_not (fun h => ?_) (fun h => ?_) | refine br_intro (fun h => ?_) (fun h => ?_) | refine cond_intro rfl ?_ | (refine cond_intro ⟨rfl, ?_⟩ ?_; (first | omega | (dsimp only; omega) | decide)) | (refine cond_intro ?_ ?_; (first | omega | (dsimp only; omega) | decide | (simp only [Nat.add_zero, Int.toNat_natCast, *]; omega))))
    all_goals (conv => whnf)
    all_goals first
      | exact ret_pure rfl
      | (exfalso; first | contradiction | (simp_all [seq]; done))
      | trace_state
/-- Where a text has its first stroke. -/
def cutI (s : ByteArray) : Int := Lib.indexByte s.data.toList 47
theorem idx_lt : ∀ (l : List UInt8) (c : UInt8), Lib.indexByte l c < (l.length : Int)
  | [], c => by simp [Lib.indexByte]
  | b :: l, c => by
    have := idx_lt l c
    simp only [Lib.indexByte, List.length_cons]
    split
    · omega
    · split <;> omega
theorem cutI_bd (s : ByteArray) : -1 ≤ cutI s ∧ cutI s < (s.size : Int) := ⟨Lib.indexByte_ge _ _, idx_lt _ _⟩
theorem lite_Index (s : ByteArray) : Pure Tryd.prog 33 [.str s, .str ⟨#[47]⟩] (.int .i64 (cutI s)) := by
  refine pure_of_calls (vals := [.string s, .string ⟨#[47]⟩]) (v := .int .i64 (cutI s)) (bodied_of' Tryd.func33 (by kernel_rfl) (by kernel_rfl)) ?_ (fun g => by simp [Rv]) fun w => (Tryd.stringslite_Index_one s 47 w).mono ?_
  · intro g vs h
    simp only [Rvs, Rv] at h
    obtain ⟨_, _, rfl, rfl, _, _, rfl, rfl, rfl⟩ := h
    rfl
  · rintro e w' ⟨rfl, rfl⟩
    exact ⟨rfl, Below.refl _ _⟩
theorem lite_Clone (s : ByteArray) (hs : s.size ≤ 100000) : Pure Tryd.prog 24 [.str s] (.str s) := by
  refine pure_of_calls (vals := [.string s]) (v := .string s) (bodied_of' Tryd.func24 (by kernel_rfl) (by kernel_rfl)) ?_ (fun g => by simp [Rv]) fun w => Tryd.stringslite_Clone s w (by omega)
  intro g vs h
  simp only [Rvs, Rv] at h
  obtain ⟨_, _, rfl, rfl, rfl⟩ := h
  rfl
theorem str_Clone (s : ByteArray) (hs : s.size ≤ 100000) : Pure Tryd.prog 16 [.str s] (.str s) := by
  have c := lite_Clone s hs
  refine fc_of mixed T_ok Tryd.func16 rfl (by kernel_rfl) (by kernel_rfl) (by kernel_rfl) ?_
  repeat' ((conv => whnf); first | (refine vcall_pure (c) rfl rfl rfl ?_) | (refine br_dec (fun h => ?_) (fun h => ?_) <;> try (exfalso; (try dsimp only at h); omega)) | (refine br_ndec (fun h => ?_) (fun h => ?_) <;> try (exfalso; (try dsimp only at h); omega)) | refine br_seq (fun h => ?_) (fun h => ?_) | refine br_nseq (fun h => ?_) (fun h => ?_) | refine br_not (fun h => ?_) (fun h => ?_) | refine br_intro (fun h => ?_) (fun h => ?_) | refine cond_intro rfl ?_ | (refine cond_intro ⟨rfl, ?_⟩ ?_; (first | omega | (dsimp only; omega) | decide)) | (refine cond_intro ?_ ?_; (first | omega | (dsimp only; omega) | decide | (simp only [Nat.add_zero, Int.toNat_natCast, *]; omega))))
  all_goals (conv => whnf)
  all_goals exact ret_pure rfl
/-- What stands before the first stroke of a text, and behind it. -/
def cutA (s : ByteArray) : ByteArray := if 0 ≤ cutI s then s.extract 0 (cutI s).toNat else s
def cutB (s : ByteArray) : ByteArray := if 0 ≤ cutI s then s.extract ((cutI s).toNat + 1) s.size else ⟨#[]⟩
def cutR (s : ByteArray) : SV := .tup [.str (cutA s), .str (cutB s), .bool (decide (0 ≤ cutI s))]
theorem cutA_size (s : ByteArray) : (cutA s).size ≤ s.size := by
  unfold cutA
  split
  · rw [ByteArray.size_extract]; omega
  · exact Nat.le_refl _
theorem cutB_size (s : ByteArray) : (cutB s).size ≤ s.size := by
  unfold cutB
  split
  · rw [ByteArray.size_extract]; omega
  · exact Nat.zero_le _
theorem lite_Cut (s : ByteArray) (hs : s.size ≤ 100000) : Pure Tryd.prog 22 [.str s, .str ⟨#[47]⟩] (cutR s) := by
  have c := lite_Index s
  have hb := cutI_bd s
  unfold cutR cutA cutB
  by_cases h : 0 ≤ cutI s
  · rw [if_pos h, if_pos h, decide_eq_true h]
    obtain ⟨k, hk⟩ := Int.eq_ofNat_of_zero_le h
    rw [hk] at c hb h ⊢
    have hw : IntKind.i64.wrap ((k : Int) + ((ByteArray.mk #[47]).size : Nat)) = ((k + 1 : Nat) : Int) := by rw [show ((ByteArray.mk #[47]).size : Nat) = 1 from rfl, w64_in (by omega) (by omega)]; rfl
    refine fc_of mixed T_ok Tryd.func22 rfl (by kernel_rfl) (by kernel_rfl) (by kernel_rfl) ?_
    repeat' ((conv => whnf); first | (refine vcall_pure (c) rfl rfl rfl ?_) | (refine br_dec (fun h => ?_) (fun h => ?_) <;> try (exfalso; (try dsimp only at h); omega)) | (refine br_ndec (fun h => ?_) (fun h => ?_) <;> try (exfalso; (try dsimp only at h); omega)) | refine br_seq (fun h => ?_) (fun h => ?_) | refine br_nseq (fun h => ?_) (fun h => ?_) | refine br_not (fun h => ?_) (fun h => ?_) | refine br_intro (fun h => ?_) (fun h => ?_) | refine cond_intro rfl ?_ | (refine cond_intro ⟨rfl, ?_⟩ ?_; (first | omega | (dsimp only; omega) | decide)) | (refine cond_intro ?_ ?_; (first | omega | (dsimp only; omega) | decide | (simp only [Nat.add_zero, Int.toNat_natCast, *]; omega))))
    all_goals (conv => whnf)
    all_goals (try simp only [hw, Int.toNat_natCast] at *)
    all_goals first
      | exact ret_pure rfl
      | (exfalso; omega)
      | trace_state
  · rw [if_neg h, if_neg h, decide_eq_false h]
    refine fc_of mixed T_ok Tryd.func22 rfl (by kernel_rfl) (by kernel_rfl) (by kernel_rfl) ?_
    repeat' ((conv => whnf); first | (refine vcall_pure (c) rfl rfl rfl ?_) | (refine br_dec (fun h => ?_) (fun h => ?_) <;> try (exfalso; (try dsimp only at h); omega)) | (refine br_ndec (fun h => ?_) (fun h => ?_) <;> try (exfalso; (try dsimp only at h); omega)) | refine br_seq (fun h => ?_) (fun h => ?_) | refine br_nseq (fun h => ?_) (fun h => ?_) | refine br_not (fun h => ?_) (fun h => ?_) | refine br_intro (fun h => ?_) (fun h => ?_) | refine cond_intro rfl ?_ | (refine cond_intro ⟨rfl, ?_⟩ ?_; (first | omega | (dsimp only; omega) | decide)) | (refine cond_intro ?_ ?_; (first | omega | (dsimp only; omega) | decide | (simp only [Nat.add_zero, Int.toNat_natCast, *]; omega))))
    all_goals (conv => whnf)
    all_goals first
      | exact ret_pure rfl
      | (exfalso; omega)
      | trace_state
end Go.Proofs.YtakaafolanojkaaDoor
