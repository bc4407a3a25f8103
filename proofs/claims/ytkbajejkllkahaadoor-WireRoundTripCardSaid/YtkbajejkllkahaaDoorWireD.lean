/- The reference's writers. -/
import Derived.Test.YtkbajejkllkahaaDoorWireB
namespace Go.Proofs.YtkbajejkllkahaaDoor
open Go.RowKit Go.Sy
attribute [local irreducible] vcall vloop vcallD retP
set_option maxRecDepth 100000
set_option linter.unusedVariables false
set_option linter.unusedSimpArgs false

theorem digs_cons : ∀ (k u : Nat), digs (k + 1) u = ((48 + u / 10 ^ k % 10 : Nat) : Int) :: digs k u
  | 0, u => by simp [digs]
  | k + 1, u => by
    have ih := digs_cons k (u / 10)
    show digs (k + 1) (u / 10) ++ [((48 + u % 10 : Nat) : Int)] = _ :: (digs k (u / 10) ++ [((48 + u % 10 : Nat) : Int)])
    rw [ih, Nat.div_div_eq_div_mul, show 10 * 10 ^ k = 10 ^ (k + 1) by rw [Nat.pow_succ, Nat.mul_comm]]
    rfl
theorem bytesOf_one (x : Int) : bytesOf [x] = ⟨#[UInt8.ofNat x.toNat]⟩ := rfl
theorem ref_Num (n w : Int) (hn : -9223372036854775808 ≤ n ∧ n ≤ 9223372036854775807) : Pure Tryd.prog 9 [.int .i64 n, .int .i64 w] (.tup [.str (numS n w), .int .i64 (numE n w)]) := by
  by_cases hb : 1 ≤ w ∧ w ≤ 15 ∧ 0 ≤ n
  case neg =>
    have ho : ¬ numOk n w := fun h => hb ⟨h.1, h.2.1, h.2.2.1⟩
    rw [numS_no ho, numE_no ho]
    refine fc_of mixed T_ok Tryd.func9 rfl (by kernel_rfl) (by kernel_rfl) (by kernel_rfl) ?_
    repeat' ((conv => whnf); first | (refine br_dec (fun h => ?_) (fun h => ?_) <;> try (exfalso; omega)) | (refine br_ndec (fun h => ?_) (fun h => ?_) <;> try (exfalso; omega)) | refine br_seq (fun h => ?_) (fun h => ?_) | refine br_nseq (fun h => ?_) (fun h => ?_) | refine br_not (fun h => ?_) (fun h => ?_) | refine br_intro (fun h => ?_) (fun h => ?_) | refine cond_intro rfl ?_ | (refine cond_intro ⟨rfl, ?_⟩ ?_; (first | omega | (dsimp only; omega) | decide)) | (refine cond_intro ?_ ?_; (first | omega | (dsimp only; omega) | decide | (simp only [Nat.add_zero, Int.toNat_natCast, *]; omega))))
    all_goals (conv => whnf)
    all_goals first
      | exact ret_pure rfl
      | (exfalso; omega)
  obtain ⟨u, rfl⟩ := Int.eq_ofNat_of_zero_le hb.2.2
  obtain ⟨m, rfl⟩ := Int.eq_ofNat_of_zero_le (show 0 ≤ w by omega)
  refine fc_of mixed T_ok Tryd.func9 rfl (by kernel_rfl) (by kernel_rfl) (by kernel_rfl) ?_
  repeat' ((conv => whnf); first | (refine br_dec (fun h => ?_) (fun h => ?_) <;> try (exfalso; omega)) | (refine br_ndec (fun h => ?_) (fun h => ?_) <;> try (exfalso; omega)) | refine br_seq (fun h => ?_) (fun h => ?_) | refine br_nseq (fun h => ?_) (fun h => ?_) | refine br_not (fun h => ?_) (fun h => ?_) | refine br_intro (fun h => ?_) (fun h => ?_) | refine cond_intro rfl ?_ | (refine cond_intro ⟨rfl, ?_⟩ ?_; (first | omega | (dsimp only; omega) | decide)) | (refine cond_intro ?_ ?_; (first | omega | (dsimp only; omega) | decide | (simp only [Nat.add_zero, Int.toNat_natCast, *]; omega))))
  all_goals (conv => whnf)
  refine vloop_of (fun k : Nat => ⟨[(0, .int .i64 ((u / 10 ^ k : Nat) : Int)), (1, .int .i64 m), (6, .str (bytesOf (digs k u))), (7, .int .i64 k)], [], 1⟩) (fun k => k ≤ m) (fun k => m - k) 0 [0] [] ?_ (by omega) ?_
  · exact ⟨rfl, ⟨congrArg (fun z : Nat => some (SV.int .i64 (z : Int))) (show u = u / 10 ^ 0 by simp), rfl, rfl, rfl, trivial⟩, trivial⟩
  intro k hk
  by_cases hkm : k < m
  · have hq : u / 10 ^ k ≤ u := Nat.div_le_self _ _
    have hqs : u / 10 ^ (k + 1) = u / 10 ^ k / 10 := by rw [Nat.pow_succ, ← Nat.div_div_eq_div_mul]
    have hdc := digs_cons k u
    generalize u / 10 ^ k = q at *
    have r1 : Int.tmod (q : Int) 10 = ((q % 10 : Nat) : Int) := by rw [Int.tmod_eq_emod_of_nonneg (by omega)]; omega
    have r2 : IntKind.u8.wrap (IntKind.i64.wrap (48 + Int.tmod (q : Int) 10)) = ((48 + q % 10 : Nat) : Int) := by
      rw [r1, w64_in (by omega) (by omega), u8_in' (by omega) (by omega)]; omega
    have r3 : IntKind.i64.wrap (Int.tdiv (q : Int) 10) = ((u / 10 ^ (k + 1) : Nat) : Int) := by
      rw [Int.tdiv_eq_ediv_of_nonneg (by omega), w64_in (by omega) (by omega), hqs]; omega
    have sz : (bytesOf (digs k u)).size = k := by rw [bytesOf_size, digs_length]
    have es : bytesOf (seg 0 1 [IntKind.u8.wrap (IntKind.i64.wrap (48 + Int.tmod (q : Int) 10))]) ++ bytesOf (digs k u) = bytesOf (digs (k + 1) u) := by
      rw [r2, hdc, append_bytesOf]; rfl
    repeat' ((conv => whnf); first | (refine cond_intro ?_ ?_; (show (bytesOf (seg 0 1 [_])).size + _ ≤ _; rw [sz, bytesOf_size]; show 1 + k ≤ _; omega)) | (refine br_dec (fun h => ?_) (fun h => ?_) <;> try (exfalso; omega)) | (refine br_ndec (fun h => ?_) (fun h => ?_) <;> try (exfalso; omega)) | refine br_seq (fun h => ?_) (fun h => ?_) | refine br_nseq (fun h => ?_) (fun h => ?_) | refine br_not (fun h => ?_) (fun h => ?_) | refine br_intro (fun h => ?_) (fun h => ?_) | refine cond_intro rfl ?_ | (refine cond_intro ⟨rfl, ?_⟩ ?_; (first | omega | (dsimp only; omega) | decide)) | (refine cond_intro ?_ ?_; (first | omega | (dsimp only; omega) | decide | (simp only [Nat.add_zero, Int.toNat_natCast, *]; omega))))
    all_goals (conv => whnf)
    exact ⟨k + 1, [0], [], by omega, by omega, ⟨rfl, ⟨congrArg (fun z => some (SV.int .i64 z)) r3, rfl, congrArg (fun z => some (SV.str z)) es, congrArg (fun z => some (SV.int .i64 z)) (i64_succ (by omega)), trivial⟩, trivial⟩⟩
  · obtain rfl : k = m := by omega
    by_cases hz : u / 10 ^ k = 0
    · have hlt : u < 10 ^ k := by rcases Nat.lt_or_ge u (10 ^ k) with h | h; exact h; exact absurd hz (by have := Nat.div_pos h (Nat.pow_pos (n := k) (by omega : 0 < 10)); omega)
      have ho : numOk (u : Int) (k : Int) := ⟨by omega, by omega, by omega, by simpa using ndig_of_lt hlt (by omega)⟩
      rw [numS_ok ho, numE_ok ho, Int.toNat_natCast, Int.toNat_natCast]
      generalize u / 10 ^ k = q at *
      repeat' ((conv => whnf); first | (refine br_dec (fun h => ?_) (fun h => ?_) <;> try (exfalso; omega)) | (refine br_ndec (fun h => ?_) (fun h => ?_) <;> try (exfalso; omega)) | refine br_seq (fun h => ?_) (fun h => ?_) | refine br_nseq (fun h => ?_) (fun h => ?_) | refine br_not (fun h => ?_) (fun h => ?_) | refine br_intro (fun h => ?_) (fun h => ?_) | refine cond_intro rfl ?_ | (refine cond_intro ⟨rfl, ?_⟩ ?_; (first | omega | (dsimp only; omega) | decide)) | (refine cond_intro ?_ ?_; (first | omega | (dsimp only; omega) | decide | (simp only [Nat.add_zero, Int.toNat_natCast, *]; omega))))
      all_goals (conv => whnf)
      exact ret_pure rfl
    · have ho : ¬ numOk (u : Int) (k : Int) := by
        intro h
        have h1 : ndig u ≤ k := by simpa using h.2.2.2
        have h2 := ndig_lt u
        have h3 : 10 ^ ndig u ≤ 10 ^ k := Nat.pow_le_pow_right (by omega) h1
        exact hz (Nat.div_eq_of_lt (by omega))
      rw [numS_no ho, numE_no ho]
      generalize u / 10 ^ k = q at *
      repeat' ((conv => whnf); first | (refine br_dec (fun h => ?_) (fun h => ?_) <;> try (exfalso; omega)) | (refine br_ndec (fun h => ?_) (fun h => ?_) <;> try (exfalso; omega)) | refine br_seq (fun h => ?_) (fun h => ?_) | refine br_nseq (fun h => ?_) (fun h => ?_) | refine br_not (fun h => ?_) (fun h => ?_) | refine br_intro (fun h => ?_) (fun h => ?_) | refine cond_intro rfl ?_ | (refine cond_intro ⟨rfl, ?_⟩ ?_; (first | omega | (dsimp only; omega) | decide)) | (refine cond_intro ?_ ?_; (first | omega | (dsimp only; omega) | decide | (simp only [Nat.add_zero, Int.toNat_natCast, *]; omega))))
      all_goals (conv => whnf)
      exact ret_pure rfl

theorem suf_at {s : ByteArray} (h : 1 ≤ s.size) : sufB s ⟨#[32]⟩ = decide (byteAt s ((s.size - 1 : Nat) : Int) = 32) := by
  unfold sufB
  have h1 : (⟨#[32]⟩ : ByteArray).size = 1 := rfl
  rw [h1, decide_eq_true h, Bool.true_and]
  unfold seq
  rw [decide_eq_decide]
  have ex := extract_bytes (s := s) (a := s.size - 1) (n := 1) (by omega) [byteAt s ((s.size - 1 : Nat) : Int)] rfl (fun i hi => by cases Nat.lt_one_iff.1 hi; rfl)
  rw [show s.size - 1 + 1 = s.size by omega] at ex
  rw [ex]
  have bd := byteAt_bd s ((s.size - 1 : Nat) : Int)
  generalize byteAt s ((s.size - 1 : Nat) : Int) = x at *
  constructor
  · intro e
    have : (bytesOf [x]).data.toList = [32] := by rw [e]
    simp only [bytesOf, List.map_cons, List.map_nil, List.cons.injEq, and_true] at this
    have h2 := congrArg UInt8.toNat this
    rw [UInt8.toNat_ofNat'] at h2
    have : (32 : UInt8).toNat = 32 := rfl
    omega
  · intro e; subst e; rfl
theorem suf_empty : sufB ⟨#[]⟩ ⟨#[32]⟩ = false := by kernel_rfl
theorem ne_size' {s : ByteArray} (h : ¬ s = ⟨#[]⟩) : 1 ≤ s.size := by
  rcases Nat.eq_zero_or_pos s.size with e | e
  · exact absurd (ByteArray.ext (Array.eq_empty_of_size_eq_zero e)) h
  · exact e
theorem ref_Alpha (s : ByteArray) (w : Int) (hs : s.size ≤ 9223372036854775000) : Pure Tryd.prog 11 [.str s, .int .i64 w] (.tup [.str (alS s w), .int .i64 (alE s w)]) := by
  have c1 := ref06_Printable s hs
  have wl : 1 ≤ s.size → IntKind.i64.wrap ((s.size : Int) - 1) = ((s.size - 1 : Nat) : Int) := fun h => by rw [w64_in (by omega) (by omega)]; omega
  have sa : 1 ≤ s.size → sufB s ⟨#[32]⟩ = decide (byteAt s (IntKind.i64.wrap ((s.size : Int) - 1)) = 32) := fun h => by rw [wl h]; exact suf_at h
  have E4 : (w < 1 ∨ 255 < w) → alE s w = 4 ∧ alS s w = ⟨#[]⟩ := fun h => by
    have e : alE s w = 4 := by unfold alE; rw [if_pos h]
    exact ⟨e, by unfold alS; rw [e]; rfl⟩
  have E3 : ¬ (w < 1 ∨ 255 < w) → w < (s.size : Int) → alE s w = 3 ∧ alS s w = ⟨#[]⟩ := fun h h2 => by
    have e : alE s w = 3 := by unfold alE; rw [if_neg h, if_pos h2]
    exact ⟨e, by unfold alS; rw [e]; rfl⟩
  have E2 : ¬ (w < 1 ∨ 255 < w) → ¬ w < (s.size : Int) → alOk s = false → alE s w = 2 ∧ alS s w = ⟨#[]⟩ := fun h h2 h3 => by
    have e : alE s w = 2 := by unfold alE; rw [if_neg h, if_neg h2, h3]; rfl
    exact ⟨e, by unfold alS; rw [e]; rfl⟩
  have E0 : ¬ (w < 1 ∨ 255 < w) → ¬ w < (s.size : Int) → alOk s = true → alE s w = 0 ∧ alS s w = s ++ bytesOf (List.replicate (w.toNat - s.size) 32) := fun h h2 h3 => by
    have e : alE s w = 0 := by unfold alE; rw [if_neg h, if_neg h2, h3]; rfl
    exact ⟨e, by unfold alS; rw [e]; rfl⟩
  refine fc_of mixed T_ok Tryd.func11 rfl (by kernel_rfl) (by kernel_rfl) (by kernel_rfl) ?_
  repeat' ((conv => whnf); first | (refine vcall_pure (c1) rfl rfl rfl ?_) | (refine vcallD_pure (c1) rfl rfl rfl ?_) | (refine cond_intro (show (0 : Int) ≤ IntKind.i64.wrap ((s.size : Int) - 1) ∧ IntKind.i64.wrap ((s.size : Int) - 1) < _ from ?_) ?_; (rw [wl (ne_size' (by assumption))]; have := ne_size' (by assumption : ¬ s = ⟨#[]⟩); omega)) | (refine br_dec (fun h => ?_) (fun h => ?_) <;> try (exfalso; omega)) | (refine br_ndec (fun h => ?_) (fun h => ?_) <;> try (exfalso; omega)) | refine br_seq (fun h => ?_) (fun h => ?_) | refine br_nseq (fun h => ?_) (fun h => ?_) | refine br_not (fun h => ?_) (fun h => ?_) | refine br_intro (fun h => ?_) (fun h => ?_) | refine cond_intro rfl ?_ | (refine cond_intro ⟨rfl, ?_⟩ ?_; (first | omega | (dsimp only; omega) | decide)) | (refine cond_intro ?_ ?_; (first | omega | (dsimp only; omega) | decide | (simp only [Nat.add_zero, Int.toNat_natCast, *]; omega))))
  all_goals (conv => whnf)
  · rw [(E4 (by omega)).1, (E4 (by omega)).2]; exact ret_pure rfl
  · rw [(E4 (by omega)).1, (E4 (by omega)).2]; exact ret_pure rfl
  · rw [(E3 (by omega) h).1, (E3 (by omega) h).2]; exact ret_pure rfl
  · have k : alOk s = false := by unfold alOk; rw [h]; rfl
    rw [(E2 (by omega) (by omega) k).1, (E2 (by omega) (by omega) k).2]; exact ret_pure rfl
  · rename_i q1 q2
    have k : alOk s = false := by unfold alOk; rw [sa (ne_size' q2), decide_eq_true h]; simp
    rw [(E2 (by omega) (by omega) k).1, (E2 (by omega) (by omega) k).2]; exact ret_pure rfl
  · rename_i q1 q2
    have k : alOk s = true := by unfold alOk; rw [sa (ne_size' q2), decide_eq_false h, q1]; rfl
    rw [(E0 (by omega) (by omega) k).1, (E0 (by omega) (by omega) k).2]
    have e0 : s = s ++ bytesOf (List.replicate 0 32) := by apply ByteArray.ext; simp [bytesOf, ByteArray.data_append]
    refine vloop_of (fun j : Nat => ⟨[(0, .str (s ++ bytesOf (List.replicate j 32))), (1, .int .i64 w)], [], 1⟩) (fun j => s.size + j ≤ w.toNat) (fun j => w.toNat - s.size - j) 0 [0] [] ⟨rfl, ⟨congrArg (fun z => some (SV.str z)) e0, rfl, trivial⟩, trivial⟩ (by omega) ?_
    intro j hj
    have sz : (s ++ bytesOf (List.replicate j 32)).size = s.size + j := by rw [ByteArray.size_append, bytesOf_size, List.length_replicate]
    have es : (s ++ bytesOf (List.replicate j 32)) ++ ⟨#[32]⟩ = s ++ bytesOf (List.replicate (j + 1) 32) := by
      rw [ByteArray.append_assoc, show (⟨#[32]⟩ : ByteArray) = bytesOf [32] from rfl, append_bytesOf, List.replicate_succ']
    by_cases hjw : s.size + j < w.toNat
    · repeat' ((conv => whnf); first | (refine br_dec (fun h => ?_) (fun h => ?_) <;> try (exfalso; rw [sz] at h; omega)) | (refine cond_intro ?_ ?_; (show _ + 1 ≤ _; rw [sz]; omega)) | (refine br_dec (fun h => ?_) (fun h => ?_) <;> try (exfalso; omega)) | (refine br_ndec (fun h => ?_) (fun h => ?_) <;> try (exfalso; omega)) | refine br_seq (fun h => ?_) (fun h => ?_) | refine br_nseq (fun h => ?_) (fun h => ?_) | refine br_not (fun h => ?_) (fun h => ?_) | refine br_intro (fun h => ?_) (fun h => ?_) | refine cond_intro rfl ?_ | (refine cond_intro ⟨rfl, ?_⟩ ?_; (first | omega | (dsimp only; omega) | decide)) | (refine cond_intro ?_ ?_; (first | omega | (dsimp only; omega) | decide | (simp only [Nat.add_zero, Int.toNat_natCast, *]; omega))))
      all_goals (conv => whnf)
      exact ⟨j + 1, [0], [], by omega, by omega, ⟨rfl, ⟨congrArg (fun z => some (SV.str z)) es, rfl, trivial⟩, trivial⟩⟩
    · repeat' ((conv => whnf); first | (refine br_dec (fun h => ?_) (fun h => ?_) <;> try (exfalso; rw [sz] at h; omega)) | (refine br_dec (fun h => ?_) (fun h => ?_) <;> try (exfalso; omega)) | (refine br_ndec (fun h => ?_) (fun h => ?_) <;> try (exfalso; omega)) | refine br_seq (fun h => ?_) (fun h => ?_) | refine br_nseq (fun h => ?_) (fun h => ?_) | refine br_not (fun h => ?_) (fun h => ?_) | refine br_intro (fun h => ?_) (fun h => ?_) | refine cond_intro rfl ?_ | (refine cond_intro ⟨rfl, ?_⟩ ?_; (first | omega | (dsimp only; omega) | decide)) | (refine cond_intro ?_ ?_; (first | omega | (dsimp only; omega) | decide | (simp only [Nat.add_zero, Int.toNat_natCast, *]; omega))))
      all_goals (conv => whnf)
      rw [show w.toNat - s.size = j by omega]
      exact ret_pure rfl
  · rename_i q1
    have k : alOk s = true := by unfold alOk; rw [q1, h, suf_empty]; rfl
    rw [(E0 (by omega) (by omega) k).1, (E0 (by omega) (by omega) k).2]
    have e0 : s = s ++ bytesOf (List.replicate 0 32) := by apply ByteArray.ext; simp [bytesOf, ByteArray.data_append]
    clear h
    refine vloop_of (fun j : Nat => ⟨[(0, .str (s ++ bytesOf (List.replicate j 32))), (1, .int .i64 w)], [], 1⟩) (fun j => s.size + j ≤ w.toNat) (fun j => w.toNat - s.size - j) 0 [0] [] ⟨rfl, ⟨congrArg (fun z => some (SV.str z)) e0, rfl, trivial⟩, trivial⟩ (by omega) ?_
    intro j hj
    have sz : (s ++ bytesOf (List.replicate j 32)).size = s.size + j := by rw [ByteArray.size_append, bytesOf_size, List.length_replicate]
    have es : (s ++ bytesOf (List.replicate j 32)) ++ ⟨#[32]⟩ = s ++ bytesOf (List.replicate (j + 1) 32) := by
      rw [ByteArray.append_assoc, show (⟨#[32]⟩ : ByteArray) = bytesOf [32] from rfl, append_bytesOf, List.replicate_succ']
    by_cases hjw : s.size + j < w.toNat
    · repeat' ((conv => whnf); first | (refine br_dec (fun h => ?_) (fun h => ?_) <;> try (exfalso; rw [sz] at h; omega)) | (refine cond_intro ?_ ?_; (show _ + 1 ≤ _; rw [sz]; omega)) | (refine br_dec (fun h => ?_) (fun h => ?_) <;> try (exfalso; omega)) | (refine br_ndec (fun h => ?_) (fun h => ?_) <;> try (exfalso; omega)) | refine br_seq (fun h => ?_) (fun h => ?_) | refine br_nseq (fun h => ?_) (fun h => ?_) | refine br_not (fun h => ?_) (fun h => ?_) | refine br_intro (fun h => ?_) (fun h => ?_) | refine cond_intro rfl ?_ | (refine cond_intro ⟨rfl, ?_⟩ ?_; (first | omega | (dsimp only; omega) | decide)) | (refine cond_intro ?_ ?_; (first | omega | (dsimp only; omega) | decide | (simp only [Nat.add_zero, Int.toNat_natCast, *]; omega))))
      all_goals (conv => whnf)
      exact ⟨j + 1, [0], [], by omega, by omega, ⟨rfl, ⟨congrArg (fun z => some (SV.str z)) es, rfl, trivial⟩, trivial⟩⟩
    · repeat' ((conv => whnf); first | (refine br_dec (fun h => ?_) (fun h => ?_) <;> try (exfalso; rw [sz] at h; omega)) | (refine br_dec (fun h => ?_) (fun h => ?_) <;> try (exfalso; omega)) | (refine br_ndec (fun h => ?_) (fun h => ?_) <;> try (exfalso; omega)) | refine br_seq (fun h => ?_) (fun h => ?_) | refine br_nseq (fun h => ?_) (fun h => ?_) | refine br_not (fun h => ?_) (fun h => ?_) | refine br_intro (fun h => ?_) (fun h => ?_) | refine cond_intro rfl ?_ | (refine cond_intro ⟨rfl, ?_⟩ ?_; (first | omega | (dsimp only; omega) | decide)) | (refine cond_intro ?_ ?_; (first | omega | (dsimp only; omega) | decide | (simp only [Nat.add_zero, Int.toNat_natCast, *]; omega))))
      all_goals (conv => whnf)
      rw [show w.toNat - s.size = j by omega]
      exact ret_pure rfl

theorem ref_Var (s : ByteArray) (d : Int) (hs : s.size ≤ 9223372036854775000) : Pure Tryd.prog 13 [.str s, .int .i64 d] (.tup [.str (varS s d), .int .i64 (varE s d)]) := by
  have c := ref_Num (s.size : Int) d (by omega)
  by_cases h0 : varE s d = 0
  · have hd : d = 2 ∨ d = 3 := by
      unfold varE at h0
      by_cases h : d ≠ 2 ∧ d ≠ 3
      · rw [if_pos h] at h0; omega
      · omega
    have hl : ¬ ((d = 2 ∧ 99 < s.size) ∨ 255 < s.size) := by
      intro h
      unfold varE at h0
      rw [if_neg (by omega), if_pos h] at h0; omega
    have ho : numOk (s.size : Int) d := ⟨by omega, by omega, by omega, by
      rw [Int.toNat_natCast]
      refine ndig_of_lt ?_ (by omega)
      rcases hd with rfl | rfl
      · show s.size < 10 ^ 2; omega
      · show s.size < 10 ^ 3; omega⟩
    rw [numS_ok ho, numE_ok ho, Int.toNat_natCast] at c
    have hS : varS s d = bytesOf (digs d.toNat s.size) ++ s := by unfold varS; rw [if_pos h0]
    have sz : (bytesOf (digs d.toNat s.size)).size = d.toNat := by rw [bytesOf_size, digs_length]
    rw [h0, hS]
    refine fc_of mixed T_ok Tryd.func13 rfl (by kernel_rfl) (by kernel_rfl) (by kernel_rfl) ?_
    repeat' ((conv => whnf); first | (refine vcall_pure (c) rfl rfl rfl ?_) | (refine vcallD_pure (c) rfl rfl rfl ?_) | (refine cond_intro ?_ ?_; (rw [sz]; omega)) | (refine br_dec (fun h => ?_) (fun h => ?_) <;> try (exfalso; omega)) | (refine br_ndec (fun h => ?_) (fun h => ?_) <;> try (exfalso; omega)) | refine br_seq (fun h => ?_) (fun h => ?_) | refine br_nseq (fun h => ?_) (fun h => ?_) | refine br_not (fun h => ?_) (fun h => ?_) | refine br_intro (fun h => ?_) (fun h => ?_) | refine cond_intro rfl ?_ | (refine cond_intro ⟨rfl, ?_⟩ ?_; (first | omega | (dsimp only; omega) | decide)) | (refine cond_intro ?_ ?_; (first | omega | (dsimp only; omega) | decide | (simp only [Nat.add_zero, Int.toNat_natCast, *]; omega))))
    all_goals (conv => whnf)
    all_goals first
      | exact ret_pure rfl
      | (exfalso; omega)
  · have hS : varS s d = ⟨#[]⟩ := by unfold varS; rw [if_neg h0]
    rw [hS]
    by_cases h : d ≠ 2 ∧ d ≠ 3
    · have e : varE s d = 4 := by unfold varE; rw [if_pos h]
      rw [e]
      refine fc_of mixed T_ok Tryd.func13 rfl (by kernel_rfl) (by kernel_rfl) (by kernel_rfl) ?_
      repeat' ((conv => whnf); first | (refine vcall_pure (c) rfl rfl rfl ?_) | (refine vcallD_pure (c) rfl rfl rfl ?_) | (refine br_dec (fun h => ?_) (fun h => ?_) <;> try (exfalso; omega)) | (refine br_ndec (fun h => ?_) (fun h => ?_) <;> try (exfalso; omega)) | refine br_seq (fun h => ?_) (fun h => ?_) | refine br_nseq (fun h => ?_) (fun h => ?_) | refine br_not (fun h => ?_) (fun h => ?_) | refine br_intro (fun h => ?_) (fun h => ?_) | refine cond_intro rfl ?_ | (refine cond_intro ⟨rfl, ?_⟩ ?_; (first | omega | (dsimp only; omega) | decide)) | (refine cond_intro ?_ ?_; (first | omega | (dsimp only; omega) | decide | (simp only [Nat.add_zero, Int.toNat_natCast, *]; omega))))
      all_goals (conv => whnf)
      all_goals first
        | exact ret_pure rfl
        | (exfalso; omega)
    · have h2 : (d = 2 ∧ 99 < s.size) ∨ 255 < s.size := by
        by_cases h2 : (d = 2 ∧ 99 < s.size) ∨ 255 < s.size
        · exact h2
        · exact absurd (by unfold varE; rw [if_neg h, if_neg h2]) h0
      have e : varE s d = 3 := by unfold varE; rw [if_neg h, if_pos h2]
      rw [e]
      refine fc_of mixed T_ok Tryd.func13 rfl (by kernel_rfl) (by kernel_rfl) (by kernel_rfl) ?_
      repeat' ((conv => whnf); first | (refine br_dec (fun h => ?_) (fun h => ?_) <;> try (exfalso; omega)) | (refine br_ndec (fun h => ?_) (fun h => ?_) <;> try (exfalso; omega)) | refine br_seq (fun h => ?_) (fun h => ?_) | refine br_nseq (fun h => ?_) (fun h => ?_) | refine br_not (fun h => ?_) (fun h => ?_) | refine br_intro (fun h => ?_) (fun h => ?_) | refine cond_intro rfl ?_ | (refine cond_intro ⟨rfl, ?_⟩ ?_; (first | omega | (dsimp only; omega) | decide)) | (refine cond_intro ?_ ?_; (first | omega | (dsimp only; omega) | decide | (simp only [Nat.add_zero, Int.toNat_natCast, *]; omega))))
      all_goals (conv => whnf)
      all_goals first
        | exact ret_pure rfl
        | (exfalso; omega)

theorem hexT_byte : (List.range 16).map (fun k : Nat => byteAt ⟨#[48, 49, 50, 51, 52, 53, 54, 55, 56, 57, 97, 98, 99, 100, 101, 102]⟩ (k : Int)) = (List.range 16).map (fun k : Nat => hexd (k : Int)) := by kernel_rfl
theorem hexT_k {k : Nat} (h : k < 16) : byteAt ⟨#[48, 49, 50, 51, 52, 53, 54, 55, 56, 57, 97, 98, 99, 100, 101, 102]⟩ (k : Int) = hexd (k : Int) := by
  have e := congrArg (fun l => l[k]?) hexT_byte
  simpa only [List.getElem?_map, List.getElem?_range h, Option.map_some, Option.some.injEq] using e
theorem ref_half (c : Int) : Pure Tryd.prog 41 [.int .u8 c] (.int .i64 (hxI c)) := by
  refine fc_of mixed T_ok Tryd.func41 rfl (by kernel_rfl) (by kernel_rfl) (by kernel_rfl) ?_
  (conv => whnf)
  refine vloop_of (fun k : Nat => ⟨[(0, .int .u8 c), (3, .int .i64 k)], [], 1⟩) (fun k => k ≤ 16 ∧ ∀ j : Nat, j < k → hexd (j : Int) ≠ c) (fun k => 16 - k) 0 [0] [] ⟨rfl, ⟨rfl, rfl, trivial⟩, trivial⟩ ⟨by omega, fun j hj => by omega⟩ ?_
  rintro k ⟨hk, hc⟩
  by_cases hk16 : k < 16
  · have hb := hexT_k hk16
    repeat' ((conv => whnf); first | (refine cond_intro (show (0 : Int) ≤ (k : Int) ∧ (k : Int) < ((16 : Nat) : Int) from ?_) ?_; omega) | (refine br_dec (fun h => ?_) (fun h => ?_) <;> try (exfalso; omega)) | (refine br_ndec (fun h => ?_) (fun h => ?_) <;> try (exfalso; omega)) | refine br_seq (fun h => ?_) (fun h => ?_) | refine br_nseq (fun h => ?_) (fun h => ?_) | refine br_not (fun h => ?_) (fun h => ?_) | refine br_intro (fun h => ?_) (fun h => ?_) | refine cond_intro rfl ?_ | (refine cond_intro ⟨rfl, ?_⟩ ?_; (first | omega | (dsimp only; omega) | decide)) | (refine cond_intro ?_ ?_; (first | omega | (dsimp only; omega) | decide | (simp only [Nat.add_zero, Int.toNat_natCast, *]; omega))))
    all_goals (conv => whnf)
    · have e : hexd (k : Int) = c := hb.symm.trans h
      have e2 : hxI c = (k : Int) := by
        unfold hexd at e
        unfold hxI
        split at e
        · rw [if_pos (by omega)]; omega
        · rw [if_neg (by omega), if_pos (by omega)]; omega
      rw [e2]; exact ret_pure rfl
    · have e : hexd (k : Int) ≠ c := fun x => h (hb.trans x)
      refine ⟨k + 1, [0], [], ⟨by omega, fun j hj => ?_⟩, by omega, ⟨rfl, ⟨rfl, congrArg (fun z => some (SV.int .i64 z)) (i64_succ (by omega)), trivial⟩, trivial⟩⟩
      by_cases ej : j = k
      · subst ej; exact e
      · exact hc j (by omega)
  · have e : hxI c = -1 := by
      unfold hxI
      rw [if_neg (fun h => ?_), if_neg (fun h => ?_)]
      · have := hc (c - 87).toNat (by omega)
        apply this
        unfold hexd
        rw [if_neg (by omega)]; omega
      · have := hc (c - 48).toNat (by omega)
        apply this
        unfold hexd
        rw [if_pos (by omega)]; omega
    rw [e]
    repeat' ((conv => whnf); first | (refine br_dec (fun h => ?_) (fun h => ?_) <;> try (exfalso; omega)) | (refine br_ndec (fun h => ?_) (fun h => ?_) <;> try (exfalso; omega)) | refine br_seq (fun h => ?_) (fun h => ?_) | refine br_nseq (fun h => ?_) (fun h => ?_) | refine br_not (fun h => ?_) (fun h => ?_) | refine br_intro (fun h => ?_) (fun h => ?_) | refine cond_intro rfl ?_ | (refine cond_intro ⟨rfl, ?_⟩ ?_; (first | omega | (dsimp only; omega) | decide)) | (refine cond_intro ?_ ?_; (first | omega | (dsimp only; omega) | decide | (simp only [Nat.add_zero, Int.toNat_natCast, *]; omega))))
    all_goals (conv => whnf)
    exact ret_pure rfl

theorem ref_Unhex (s : ByteArray) (hs : s.size ≤ 100000) : Pure Tryd.prog 15 [.str s] (.tup [.str (uhS s), .int .i64 (uhE s)]) := by
  have hm : Int.tmod (s.size : Int) 2 = ((s.size % 2 : Nat) : Int) := by rw [Int.tmod_eq_emod_of_nonneg (by omega)]; omega
  by_cases ho : s.size % 2 = 0
  case neg =>
    rw [(uhE_odd ho).1, (uhE_odd ho).2]
    refine fc_of mixed T_ok Tryd.func15 rfl (by kernel_rfl) (by kernel_rfl) (by kernel_rfl) ?_
    repeat' ((conv => whnf); first | (refine br_dec (fun h => ?_) (fun h => ?_) <;> try (exfalso; omega)) | (refine br_ndec (fun h => ?_) (fun h => ?_) <;> try (exfalso; omega)) | refine br_seq (fun h => ?_) (fun h => ?_) | refine br_nseq (fun h => ?_) (fun h => ?_) | refine br_not (fun h => ?_) (fun h => ?_) | refine br_intro (fun h => ?_) (fun h => ?_) | refine cond_intro rfl ?_ | (refine cond_intro ⟨rfl, ?_⟩ ?_; (first | omega | (dsimp only; omega) | decide)) | (refine cond_intro ?_ ?_; (first | omega | (dsimp only; omega) | decide | (simp only [Nat.add_zero, Int.toNat_natCast, *]; omega))))
    all_goals (conv => whnf)
    all_goals exact ret_pure rfl
  refine fc_of mixed T_ok Tryd.func15 rfl (by kernel_rfl) (by kernel_rfl) (by kernel_rfl) ?_
  repeat' ((conv => whnf); first | (refine br_dec (fun h => ?_) (fun h => ?_) <;> try (exfalso; omega)) | (refine br_ndec (fun h => ?_) (fun h => ?_) <;> try (exfalso; omega)) | refine br_seq (fun h => ?_) (fun h => ?_) | refine br_nseq (fun h => ?_) (fun h => ?_) | refine br_not (fun h => ?_) (fun h => ?_) | refine br_intro (fun h => ?_) (fun h => ?_) | refine cond_intro rfl ?_ | (refine cond_intro ⟨rfl, ?_⟩ ?_; (first | omega | (dsimp only; omega) | decide)) | (refine cond_intro ?_ ?_; (first | omega | (dsimp only; omega) | decide | (simp only [Nat.add_zero, Int.toNat_natCast, *]; omega))))
  all_goals (conv => whnf)
  refine vloop_of (fun k : Nat => ⟨[(0, .str s), (4, .str (bytesOf (uhL s k))), (5, .int .i64 ((2 * k : Nat) : Int))], [], 1⟩) (fun k => 2 * k ≤ s.size ∧ uhTo s k = true) (fun k => s.size - 2 * k) 0 [0] [] ⟨rfl, ⟨rfl, rfl, rfl, trivial⟩, trivial⟩ ⟨by omega, rfl⟩ ?_
  rintro k ⟨hk, ht⟩
  have w1 : IntKind.i64.wrap (((2 * k : Nat) : Int) + 1) = ((2 * k + 1 : Nat) : Int) := by rw [w64_in (by omega) (by omega)]; omega
  have w2 : IntKind.i64.wrap (((2 * k : Nat) : Int) + 2) = ((2 * (k + 1) : Nat) : Int) := by rw [w64_in (by omega) (by omega)]; omega
  have c0 := ref_half (byteAt s ((2 * k : Nat) : Int))
  have c1 := ref_half (byteAt s (IntKind.i64.wrap (((2 * k : Nat) : Int) + 1)))
  have e0 : hxI (byteAt s ((2 * k : Nat) : Int)) = hiN s k := rfl
  have e1 : hxI (byteAt s (IntKind.i64.wrap (((2 * k : Nat) : Int) + 1))) = loN s k := by rw [w1]; rfl
  rw [e0] at c0
  rw [e1] at c1
  have bd := hn_bd s k
  have hst : uhTo s (k + 1) = (uhTo s k && decide (0 ≤ hiN s k ∧ 0 ≤ loN s k)) := rfl
  have hls : uhL s (k + 1) = uhL s k ++ [hiN s k * 16 + loN s k] := rfl
  have hln := uhL_length s k
  generalize hiN s k = a at *
  generalize loN s k = b at *
  by_cases hkl : 2 * k < s.size
  · have brw : ((2 * k + 1 : Nat) : Int) < (s.size : Int) := by omega
    by_cases hok : 0 ≤ a ∧ 0 ≤ b
    · have cm : IntKind.u8.wrap (IntKind.i64.wrap (IntKind.i64.wrap (a * 16) + b)) = a * 16 + b := by
        rw [w64_in (n := a * 16) (by omega) (by omega), w64_in (by omega) (by omega), u8_in' (by omega) (by omega)]
      have es : bytesOf (uhL s k) ++ bytesOf (seg 0 1 [IntKind.u8.wrap (IntKind.i64.wrap (IntKind.i64.wrap (a * 16) + b))]) = bytesOf (uhL s (k + 1)) := by
        rw [cm, append_bytesOf, hls]; rfl
      repeat' ((conv => whnf); first | (refine vcall_pure (c0) rfl rfl rfl ?_) | (refine vcallD_pure (c0) rfl rfl rfl ?_) | (refine vcall_pure (c1) rfl rfl rfl ?_) | (refine vcallD_pure (c1) rfl rfl rfl ?_) | (refine br_dec (fun h => ?_) (fun h => ?_) <;> try (exfalso; rw [w1] at h; omega)) | (refine cond_intro (show (0 : Int) ≤ IntKind.i64.wrap (((2 * k : Nat) : Int) + 1) ∧ IntKind.i64.wrap (((2 * k : Nat) : Int) + 1) < _ from ?_) ?_; (rw [w1]; omega)) | (refine cond_intro ?_ ?_; (show (bytesOf (uhL s k)).size + (bytesOf (seg 0 1 [_])).size ≤ _; rw [bytesOf_size, bytesOf_size, hln]; show k + 1 ≤ _; omega)) | (refine br_dec (fun h => ?_) (fun h => ?_) <;> try (exfalso; omega)) | (refine br_ndec (fun h => ?_) (fun h => ?_) <;> try (exfalso; omega)) | refine br_seq (fun h => ?_) (fun h => ?_) | refine br_nseq (fun h => ?_) (fun h => ?_) | refine br_not (fun h => ?_) (fun h => ?_) | refine br_intro (fun h => ?_) (fun h => ?_) | refine cond_intro rfl ?_ | (refine cond_intro ⟨rfl, ?_⟩ ?_; (first | omega | (dsimp only; omega) | decide)) | (refine cond_intro ?_ ?_; (first | omega | (dsimp only; omega) | decide | (simp only [Nat.add_zero, Int.toNat_natCast, *]; omega))))
      all_goals (conv => whnf)
      all_goals first
        | exact ⟨k + 1, [0], [], ⟨by omega, by rw [hst, ht, decide_eq_true hok]; rfl⟩, by omega, ⟨rfl, ⟨rfl, congrArg (fun z => some (SV.str z)) es, congrArg (fun z => some (SV.int .i64 z)) w2, trivial⟩, trivial⟩⟩
        | (exfalso; omega)
    · have hbad : uhTo s (s.size / 2) = false := by
        have hx : uhTo s (k + 1) = false := by rw [hst, decide_eq_false hok]; simp
        have : ∀ n, k + 1 ≤ n → uhTo s n = false := by
          intro n hn
          induction n with
          | zero => omega
          | succ n ih =>
            by_cases e : k = n
            · subst e; exact hx
            · show (uhTo s n && _) = false
              rw [ih (by omega)]; rfl
        exact this _ (by omega)
      rw [(uhE_bad hbad).1, (uhE_bad hbad).2]
      repeat' ((conv => whnf); first | (refine vcall_pure (c0) rfl rfl rfl ?_) | (refine vcallD_pure (c0) rfl rfl rfl ?_) | (refine vcall_pure (c1) rfl rfl rfl ?_) | (refine vcallD_pure (c1) rfl rfl rfl ?_) | (refine br_dec (fun h => ?_) (fun h => ?_) <;> try (exfalso; rw [w1] at h; omega)) | (refine cond_intro (show (0 : Int) ≤ IntKind.i64.wrap (((2 * k : Nat) : Int) + 1) ∧ IntKind.i64.wrap (((2 * k : Nat) : Int) + 1) < _ from ?_) ?_; (rw [w1]; omega)) | (refine br_dec (fun h => ?_) (fun h => ?_) <;> try (exfalso; omega)) | (refine br_ndec (fun h => ?_) (fun h => ?_) <;> try (exfalso; omega)) | refine br_seq (fun h => ?_) (fun h => ?_) | refine br_nseq (fun h => ?_) (fun h => ?_) | refine br_not (fun h => ?_) (fun h => ?_) | refine br_intro (fun h => ?_) (fun h => ?_) | refine cond_intro rfl ?_ | (refine cond_intro ⟨rfl, ?_⟩ ?_; (first | omega | (dsimp only; omega) | decide)) | (refine cond_intro ?_ ?_; (first | omega | (dsimp only; omega) | decide | (simp only [Nat.add_zero, Int.toNat_natCast, *]; omega))))
      all_goals (conv => whnf)
      all_goals first
        | exact ret_pure rfl
        | (exfalso; omega)
  · have e : k = s.size / 2 := by omega
    rw [e] at ht
    rw [(uhE_ok ho ht).1, (uhE_ok ho ht).2]
    rw [← e]
    repeat' ((conv => whnf); first | (refine br_dec (fun h => ?_) (fun h => ?_) <;> try (exfalso; rw [w1] at h; omega)) | (refine br_dec (fun h => ?_) (fun h => ?_) <;> try (exfalso; omega)) | (refine br_ndec (fun h => ?_) (fun h => ?_) <;> try (exfalso; omega)) | refine br_seq (fun h => ?_) (fun h => ?_) | refine br_nseq (fun h => ?_) (fun h => ?_) | refine br_not (fun h => ?_) (fun h => ?_) | refine br_intro (fun h => ?_) (fun h => ?_) | refine cond_intro rfl ?_ | (refine cond_intro ⟨rfl, ?_⟩ ?_; (first | omega | (dsimp only; omega) | decide)) | (refine cond_intro ?_ ?_; (first | omega | (dsimp only; omega) | decide | (simp only [Nat.add_zero, Int.toNat_natCast, *]; omega))))
    all_goals (conv => whnf)
    exact ret_pure rfl
end Go.Proofs.YtkbajejkllkahaaDoor
