/- The law WireNumbers. -/
import Derived.Test.YtkbajejkllkahaaDoorWireC6
namespace Go.Proofs.YtkbajejkllkahaaDoor
open Go.RowKit Go.Sy
attribute [local irreducible] vcall vloop vcallD retP
set_option maxRecDepth 100000
set_option linter.unusedVariables false
set_option linter.unusedSimpArgs false

theorem wf_i64 {n : Int} (h : (Lit.int .i64 n).wf = true) : -9223372036854775808 ≤ n ∧ n ≤ 9223372036854775807 := by
  simp only [Lit.wf, Bool.and_eq_true, decide_eq_true_eq] at h
  exact h
theorem wf_u8 {n : Int} (h : (Lit.int .u8 n).wf = true) : 0 ≤ n ∧ n ≤ 255 := by
  simp only [Lit.wf, Bool.and_eq_true, decide_eq_true_eq] at h
  exact h
theorem numS_size (n w : Int) : (numS n w).size ≤ 15 := by
  by_cases h : numOk n w
  · rw [numS_ok h, bytesOf_size, digs_length]
    have := h.2.1
    omega
  · rw [numS_no h]; decide
theorem nu_digs {A B : ByteArray} {w N : Nat} (h1 : 1 ≤ w) (h15 : w ≤ 15) (hN : N < 10 ^ w) (hA : A = bytesOf (digs w N)) : nuE (A ++ B) w = 0 ∧ nuV (A ++ B) w = (N : Int) ∧ (A ++ B).extract (nuC (A ++ B) w).toNat (A ++ B).size = B := by
  have hz : A.size = w := by rw [hA, bytesOf_size, digs_length]
  have hs : (A ++ B).size = w + B.size := by rw [ByteArray.size_append, hz]
  have hx : (A ++ B).extract 0 w = A := extract_left hz
  obtain ⟨d1, d2⟩ := dg_digs hA w (Nat.le_refl _)
  have e1 := dgTo_ext (s := A ++ B) (w := w) (by omega) w (Nat.le_refl _)
  rw [hx] at e1
  have hd : dgTo (A ++ B) w = true := by rw [← e1.1]; exact d1
  have hn : numTo (A ++ B) w = (N : Int) := by
    rw [← e1.2, d2, Nat.sub_self, Nat.pow_zero, Nat.div_one, Nat.mod_eq_of_lt hN]
  rcases nu_cases (A ++ B) w with ⟨a1, a2, a3, _⟩ | ⟨_, _, _, h⟩
  · rw [Int.toNat_natCast] at a2
    refine ⟨a1, a2.trans hn, ?_⟩
    rw [a3, Int.toNat_natCast]
    exact extract_right hz hs
  · rw [Int.toNat_natCast, hd] at h
    rcases h with ⟨_, h⟩ | ⟨_, _, _, h⟩ | ⟨_, _, _, _, h⟩
    · omega
    · omega
    · cases h
theorem wireNumbers_fc (n0 : Int) (hw0 : (Lit.int .i64 n0).wf = true) (n1 : Int) (hw1 : (Lit.int .i64 n1).wf = true) (n2 : Int) (hw2 : (Lit.int .u8 n2).wf = true) :
    FC Tryd.prog 1 4 [.int .i64 n0, .int .i64 n1, .int .u8 n2] [(0, some (GB glT))] (isOut (.bool true) [] 1) := by
  have w0 := wf_i64 hw0
  have w1 := wf_i64 hw1
  have w2 := wf_u8 hw2
  have aw := w_awake
  obtain ⟨w, hw, hwl, hwu⟩ : ∃ w : Nat, IntKind.i64.wrap (IntKind.i64.wrap (n2.tmod 15) + 1) = (w : Int) ∧ 1 ≤ w ∧ w ≤ 15 := by
    have ht : n2.tmod 15 = n2 % 15 := Int.tmod_eq_emod_of_nonneg w2.1
    refine ⟨(n2 % 15 + 1).toNat, ?_, by omega, by omega⟩
    rw [ht, w64_in (n := n2 % 15) (by omega) (by omega), w64_in (by omega) (by omega)]
    omega
  have c0 := wire_Num n0 (IntKind.i64.wrap (IntKind.i64.wrap (n2.tmod 15) + 1)) w0.2
  have c1 := wire_Num n1 (IntKind.i64.wrap (IntKind.i64.wrap (n2.tmod 15) + 1)) w1.2
  by_cases o0 : numOk n0 (IntKind.i64.wrap (IntKind.i64.wrap (n2.tmod 15) + 1))
  · by_cases o1 : numOk n1 (IntKind.i64.wrap (IntKind.i64.wrap (n2.tmod 15) + 1))
    · rw [numS_ok o0, numE_ok o0] at c0
      rw [numS_ok o1, numE_ok o1] at c1
      rw [hw] at o0 o1
      rw [show (IntKind.i64.wrap (IntKind.i64.wrap (n2.tmod 15) + 1)).toNat = w by rw [hw]; rfl] at c0 c1
      obtain ⟨N, rfl⟩ := Int.eq_ofNat_of_zero_le o0.2.2.1
      obtain ⟨M, rfl⟩ := Int.eq_ofNat_of_zero_le o1.2.2.1
      have hN : N < 10 ^ w := Nat.lt_of_lt_of_le (ndig_lt N) (Nat.pow_le_pow_right (by omega) (by have := o0.2.2.2; simpa using this))
      have hM : M < 10 ^ w := Nat.lt_of_lt_of_le (ndig_lt M) (Nat.pow_le_pow_right (by omega) (by have := o1.2.2.2; simpa using this))
      rw [Int.toNat_natCast] at c0 c1
      have hlt : strLt (bytesOf (digs w N)) (bytesOf (digs w M)) = decide ((N : Int) < (M : Int)) := by rw [strLt_digs hN hM, decide_eq_decide]; omega
      obtain ⟨A, hA⟩ : ∃ A, A = bytesOf (digs w N) := ⟨_, rfl⟩
      obtain ⟨B, hB⟩ : ∃ B, B = bytesOf (digs w M) := ⟨_, rfl⟩
      rw [← hA] at c0 hlt
      rw [← hB] at c1 hlt
      have zA : A.size = w := by rw [hA, bytesOf_size, digs_length]
      have zB : B.size = w := by rw [hB, bytesOf_size, digs_length]
      have sA : (A.size : Int) = IntKind.i64.wrap (IntKind.i64.wrap (n2.tmod 15) + 1) := by rw [hw, zA]
      have sB : (B.size : Int) = IntKind.i64.wrap (IntKind.i64.wrap (n2.tmod 15) + 1) := by rw [hw, zB]
      obtain ⟨a1, a2, a3⟩ := nu_digs (B := B) hwl hwu hN hA
      obtain ⟨b1, b2, b3⟩ := nu_digs (B := ⟨#[]⟩) hwl hwu hM hB
      rw [show B ++ ⟨#[]⟩ = B from ByteArray.append_empty] at b1 b2 b3
      rw [← hw] at a1 a2 a3 b1 b2 b3
      have r1 := rd_Num (A ++ B) 0 (IntKind.i64.wrap (IntKind.i64.wrap (n2.tmod 15) + 1)) (by rw [ByteArray.size_append]; omega)
      have r2 := rd_Num B 0 (IntKind.i64.wrap (IntKind.i64.wrap (n2.tmod 15) + 1)) (by omega)
      have r3 := rd_End ⟨#[]⟩ 0
      rw [show nV (A ++ B) 0 (IntKind.i64.wrap (IntKind.i64.wrap (n2.tmod 15) + 1)) = N from a2, show nE (A ++ B) 0 (IntKind.i64.wrap (IntKind.i64.wrap (n2.tmod 15) + 1)) = 0 from a1, show nS (A ++ B) 0 (IntKind.i64.wrap (IntKind.i64.wrap (n2.tmod 15) + 1)) = B from a3] at r1
      rw [show nV B 0 (IntKind.i64.wrap (IntKind.i64.wrap (n2.tmod 15) + 1)) = M from b2, show nE B 0 (IntKind.i64.wrap (IntKind.i64.wrap (n2.tmod 15) + 1)) = 0 from b1, show nS B 0 (IntKind.i64.wrap (IntKind.i64.wrap (n2.tmod 15) + 1)) = ⟨#[]⟩ from b3] at r2
      rw [show endE ⟨#[]⟩ 0 = 0 from rfl] at r3
      refine fc_of mixed T_ok Tryd.func4 rfl (by kernel_rfl) (by kernel_rfl) (by kernel_rfl) ?_
      repeat' ((conv => whnf); first | (refine vcall_glob (c0) rfl rfl rfl rfl ?_) | (refine vcall_glob (c1) rfl rfl rfl rfl ?_) | (refine vcall_out (l :=  [0]) (rd_New (A ++ B) ) ⟨rfl, rfl, rfl, rfl, (by (repeat' (first | exact trivial | exact GB_wf | constructor)); first | done | fail), (by (repeat' (first | exact trivial | exact GB_fits rfl | constructor)); first | done | fail)⟩ ?_) | (refine vcall_out (l :=  [0, 1]) (r1 ) ⟨rfl, rfl, rfl, rfl, (by (repeat' (first | exact trivial | exact GB_wf | constructor)); first | done | fail), (by (repeat' (first | exact trivial | exact GB_fits rfl | constructor)); first | done | fail)⟩ ?_) | (refine vcall_out (l :=  [0, 1]) (r2 ) ⟨rfl, rfl, rfl, rfl, (by (repeat' (first | exact trivial | exact GB_wf | constructor)); first | done | fail), (by (repeat' (first | exact trivial | exact GB_fits rfl | constructor)); first | done | fail)⟩ ?_) | (refine vcall_out (l :=  [0, 1]) (r3 ) ⟨rfl, rfl, rfl, rfl, (by (repeat' (first | exact trivial | exact GB_wf | constructor)); first | done | fail), (by (repeat' (first | exact trivial | exact GB_fits rfl | constructor)); first | done | fail)⟩ ?_) | (refine vcall_glob (aw) rfl rfl rfl rfl ?_) | (refine vcallD_glob (aw) rfl rfl rfl rfl ?_) | (refine br_dec (fun h => ?_) (fun h => ?_) <;> try (exfalso; omega)) | (refine br_ndec (fun h => ?_) (fun h => ?_) <;> try (exfalso; omega)) | refine br_seq (fun h => ?_) (fun h => ?_) | refine br_nseq (fun h => ?_) (fun h => ?_) | refine br_not (fun h => ?_) (fun h => ?_) | refine br_intro (fun h => ?_) (fun h => ?_) | refine cond_intro rfl ?_ | (refine cond_intro ⟨rfl, ?_⟩ ?_; (first | omega | (dsimp only; omega) | decide)) | (refine cond_intro ?_ ?_; (first | omega | (dsimp only; omega) | decide | (simp only [Nat.add_zero, Int.toNat_natCast, *]; omega))))
      all_goals (conv => whnf)
      all_goals first
        | exact ret_pure rfl
        | (exfalso; omega)
        | (refine absurd sA ?_; assumption)
        | (refine absurd sB ?_; assumption)
        | (refine absurd hlt ?_; assumption)
    · rw [numS_no o1, numE_no o1] at c1
      rw [numE_ok o0] at c0
      have hn0 := o0.2.2.1
      refine fc_of mixed T_ok Tryd.func4 rfl (by kernel_rfl) (by kernel_rfl) (by kernel_rfl) ?_
      repeat' ((conv => whnf); first | (refine vcall_glob (c0) rfl rfl rfl rfl ?_) | (refine vcall_glob (c1) rfl rfl rfl rfl ?_) | (refine vcall_glob (aw) rfl rfl rfl rfl ?_) | (refine vcallD_glob (aw) rfl rfl rfl rfl ?_) | (refine br_dec (fun h => ?_) (fun h => ?_) <;> try (exfalso; omega)) | (refine br_ndec (fun h => ?_) (fun h => ?_) <;> try (exfalso; omega)) | refine br_seq (fun h => ?_) (fun h => ?_) | refine br_nseq (fun h => ?_) (fun h => ?_) | refine br_not (fun h => ?_) (fun h => ?_) | refine br_intro (fun h => ?_) (fun h => ?_) | refine cond_intro rfl ?_ | (refine cond_intro ⟨rfl, ?_⟩ ?_; (first | omega | (dsimp only; omega) | decide)) | (refine cond_intro ?_ ?_; (first | omega | (dsimp only; omega) | decide | (simp only [Nat.add_zero, Int.toNat_natCast, *]; omega))))
      all_goals (conv => whnf)
      all_goals first
        | exact ret_pure rfl
        | (exfalso; omega)
  · rw [numE_no o0] at c0
    by_cases hn : n1 < 0
    · have o1 : ¬ numOk n1 (IntKind.i64.wrap (IntKind.i64.wrap (n2.tmod 15) + 1)) := fun h => by have := h.2.2.1; omega
      rw [numS_no o1, numE_no o1] at c1
      refine fc_of mixed T_ok Tryd.func4 rfl (by kernel_rfl) (by kernel_rfl) (by kernel_rfl) ?_
      repeat' ((conv => whnf); first | (refine vcall_glob (c0) rfl rfl rfl rfl ?_) | (refine vcall_glob (c1) rfl rfl rfl rfl ?_) | (refine vcall_glob (aw) rfl rfl rfl rfl ?_) | (refine vcallD_glob (aw) rfl rfl rfl rfl ?_) | (refine br_dec (fun h => ?_) (fun h => ?_) <;> try (exfalso; omega)) | (refine br_ndec (fun h => ?_) (fun h => ?_) <;> try (exfalso; omega)) | refine br_seq (fun h => ?_) (fun h => ?_) | refine br_nseq (fun h => ?_) (fun h => ?_) | refine br_not (fun h => ?_) (fun h => ?_) | refine br_intro (fun h => ?_) (fun h => ?_) | refine cond_intro rfl ?_ | (refine cond_intro ⟨rfl, ?_⟩ ?_; (first | omega | (dsimp only; omega) | decide)) | (refine cond_intro ?_ ?_; (first | omega | (dsimp only; omega) | decide | (simp only [Nat.add_zero, Int.toNat_natCast, *]; omega))))
      all_goals (conv => whnf)
      all_goals exact ret_pure rfl
    · refine fc_of mixed T_ok Tryd.func4 rfl (by kernel_rfl) (by kernel_rfl) (by kernel_rfl) ?_
      repeat' ((conv => whnf); first | (refine vcall_glob (c0) rfl rfl rfl rfl ?_) | (refine vcall_glob (c1) rfl rfl rfl rfl ?_) | (refine vcall_glob (aw) rfl rfl rfl rfl ?_) | (refine vcallD_glob (aw) rfl rfl rfl rfl ?_) | (refine br_dec (fun h => ?_) (fun h => ?_) <;> try (exfalso; omega)) | (refine br_ndec (fun h => ?_) (fun h => ?_) <;> try (exfalso; omega)) | refine br_seq (fun h => ?_) (fun h => ?_) | refine br_nseq (fun h => ?_) (fun h => ?_) | refine br_not (fun h => ?_) (fun h => ?_) | refine br_intro (fun h => ?_) (fun h => ?_) | refine cond_intro rfl ?_ | (refine cond_intro ⟨rfl, ?_⟩ ?_; (first | omega | (dsimp only; omega) | decide)) | (refine cond_intro ?_ ?_; (first | omega | (dsimp only; omega) | decide | (simp only [Nat.add_zero, Int.toNat_natCast, *]; omega))))
      all_goals (conv => whnf)
      all_goals first
        | exact ret_pure rfl
        | (exfalso; omega)
end Go.Proofs.YtkbajejkllkahaaDoor
