/- The law on written fields. -/
import Derived.Test.YtkbajejkllkahaaDoorWireD
import Derived.Test.YtkbajejkllkahaaDoorWireN
namespace Go.Proofs.YtkbajejkllkahaaDoor
open Go.RowKit Go.Sy
attribute [local irreducible] vcall vloop vcallD retP
set_option maxRecDepth 100000
set_option linter.unusedVariables false
set_option linter.unusedSimpArgs false

theorem hexT_one {a : Nat} (h : a < 16) : (⟨#[48, 49, 50, 51, 52, 53, 54, 55, 56, 57, 97, 98, 99, 100, 101, 102]⟩ : ByteArray).extract a (a + 1) = bytesOf [hexd (a : Int)] := by
  have := extract_bytes (s := ⟨#[48, 49, 50, 51, 52, 53, 54, 55, 56, 57, 97, 98, 99, 100, 101, 102]⟩) (a := a) (n := 1) (by show a + 1 ≤ 16; omega) [hexd (a : Int)] rfl (fun i hi => by cases Nat.lt_one_iff.1 hi; exact hexT_k h)
  exact this
theorem ref_Hex (s : ByteArray) (hs : s.size ≤ 1000) : Pure Tryd.prog 17 [.str s] (.str (bytesOf (hexL s s.size))) := by
  refine fc_of mixed T_ok Tryd.func17 rfl (by kernel_rfl) (by kernel_rfl) (by kernel_rfl) ?_
  (conv => whnf)
  refine vloop_of (fun k : Nat => ⟨[(0, .str s), (3, .str (bytesOf (hexL s k))), (4, .int .i64 k)], [], 1⟩) (fun k => k ≤ s.size) (fun k => s.size - k) 0 [0] [] ⟨rfl, ⟨rfl, rfl, rfl, trivial⟩, trivial⟩ (by omega) ?_
  intro k hk
  by_cases hkl : k < s.size
  · have bd := byteAt_bd s (k : Int)
    have hl := hexL_length s k
    have hls : hexL s (k + 1) = hexL s k ++ [hexd (byteAt s (k : Int) / 16), hexd (byteAt s (k : Int) % 16)] := rfl
    obtain ⟨n, hn⟩ := Int.eq_ofNat_of_zero_le bd.1
    have q1 : IntKind.u8.wrap (Int.tdiv (byteAt s (k : Int)) 16) = ((n / 16 : Nat) : Int) := by rw [hn, Int.tdiv_eq_ediv_of_nonneg (by omega), u8_in' (by omega) (by omega)]; omega
    have q2 : Int.tmod (byteAt s (k : Int)) 16 = ((n % 16 : Nat) : Int) := by rw [hn, Int.tmod_eq_emod_of_nonneg (by omega)]; omega
    have q3 : IntKind.u8.wrap (IntKind.u8.wrap (Int.tdiv (byteAt s (k : Int)) 16) + 1) = ((n / 16 + 1 : Nat) : Int) := by rw [q1, u8_in' (by omega) (by omega)]; omega
    have q4 : IntKind.u8.wrap (Int.tmod (byteAt s (k : Int)) 16 + 1) = ((n % 16 + 1 : Nat) : Int) := by rw [q2, u8_in' (by omega) (by omega)]; omega
    have z1 : (⟨#[48, 49, 50, 51, 52, 53, 54, 55, 56, 57, 97, 98, 99, 100, 101, 102]⟩ : ByteArray).extract (IntKind.u8.wrap (Int.tdiv (byteAt s (k : Int)) 16)).toNat (IntKind.u8.wrap (IntKind.u8.wrap (Int.tdiv (byteAt s (k : Int)) 16) + 1)).toNat = bytesOf [hexd ((n / 16 : Nat) : Int)] := by rw [q3, q1, Int.toNat_natCast, Int.toNat_natCast]; exact hexT_one (by omega)
    have z2 : (⟨#[48, 49, 50, 51, 52, 53, 54, 55, 56, 57, 97, 98, 99, 100, 101, 102]⟩ : ByteArray).extract (Int.tmod (byteAt s (k : Int)) 16).toNat (IntKind.u8.wrap (Int.tmod (byteAt s (k : Int)) 16 + 1)).toNat = bytesOf [hexd ((n % 16 : Nat) : Int)] := by rw [q4, q2, Int.toNat_natCast, Int.toNat_natCast]; exact hexT_one (by omega)
    rw [hn] at hls
    have es : bytesOf (hexL s k) ++ ((⟨#[48, 49, 50, 51, 52, 53, 54, 55, 56, 57, 97, 98, 99, 100, 101, 102]⟩ : ByteArray).extract (IntKind.u8.wrap (Int.tdiv (byteAt s (k : Int)) 16)).toNat (IntKind.u8.wrap (IntKind.u8.wrap (Int.tdiv (byteAt s (k : Int)) 16) + 1)).toNat ++ (⟨#[48, 49, 50, 51, 52, 53, 54, 55, 56, 57, 97, 98, 99, 100, 101, 102]⟩ : ByteArray).extract (Int.tmod (byteAt s (k : Int)) 16).toNat (IntKind.u8.wrap (Int.tmod (byteAt s (k : Int)) 16 + 1)).toNat) = bytesOf (hexL s (k + 1)) := by
      rw [z1, z2, append_bytesOf, append_bytesOf, hls]
      rfl
    repeat' ((conv => whnf); first | (refine br_dec (fun h => ?_) (fun h => ?_) <;> try (exfalso; omega)) | (refine br_ndec (fun h => ?_) (fun h => ?_) <;> try (exfalso; omega)) | refine br_seq (fun h => ?_) (fun h => ?_) | refine br_nseq (fun h => ?_) (fun h => ?_) | refine br_not (fun h => ?_) (fun h => ?_) | refine br_intro (fun h => ?_) (fun h => ?_) | refine cond_intro rfl ?_ | (refine cond_intro ⟨rfl, ?_⟩ ?_; (first | omega | (dsimp only; omega) | decide)) | (refine cond_intro ?_ ?_; (first | omega | (dsimp only; omega) | decide | (simp only [Nat.add_zero, Int.toNat_natCast, *]; omega))) | (refine cond_intro ?_ ?_; (rw [q3, q1]; show _ ∧ _ ∧ _ ≤ ((16 : Nat) : Int); omega)) | (refine cond_intro ?_ ?_; (rw [q4, q2]; show _ ∧ _ ∧ _ ≤ ((16 : Nat) : Int); omega)) | (refine cond_intro ?_ ?_; (rw [z1, z2, bytesOf_size, bytesOf_size]; show 1 + 1 ≤ _; omega)) | (refine cond_intro ?_ ?_; (rw [z1, z2, append_bytesOf, bytesOf_size, bytesOf_size, hl]; show 2 * k + 2 ≤ _; omega)))
    all_goals (conv => whnf)
    exact ⟨k + 1, [0], [], by omega, by omega, ⟨rfl, ⟨rfl, congrArg (fun z => some (SV.str z)) es, congrArg (fun z => some (SV.int .i64 z)) (i64_succ (by omega)), trivial⟩, trivial⟩⟩
  · obtain rfl : k = s.size := by omega
    repeat' ((conv => whnf); first | (refine br_dec (fun h => ?_) (fun h => ?_) <;> try (exfalso; omega)) | (refine br_ndec (fun h => ?_) (fun h => ?_) <;> try (exfalso; omega)) | refine br_seq (fun h => ?_) (fun h => ?_) | refine br_nseq (fun h => ?_) (fun h => ?_) | refine br_not (fun h => ?_) (fun h => ?_) | refine br_intro (fun h => ?_) (fun h => ?_) | refine cond_intro rfl ?_ | (refine cond_intro ⟨rfl, ?_⟩ ?_; (first | omega | (dsimp only; omega) | decide)) | (refine cond_intro ?_ ?_; (first | omega | (dsimp only; omega) | decide | (simp only [Nat.add_zero, Int.toNat_natCast, *]; omega))))
    all_goals (conv => whnf)
    exact ret_pure rfl

theorem wireWrites_fc (s0 : ByteArray) (hs0 : s0.size ≤ maxLen) (n1 : Int) (hw1 : (Lit.int .i64 n1).wf = true) (n2 : Int) (hw2 : (Lit.int .i64 n2).wf = true) :
    FC Tryd.prog 1 3 [.str s0, .int .i64 n1, .int .i64 n2] [(0, some (GB glT))] (isOut (.bool true) [] 1) := by
  have aw := w_awake
  have b1 := wf_i64 hw1
  by_cases h1000 : 1000 < s0.size
  · refine fc_of mixed T_ok Tryd.func3 rfl (by kernel_rfl) (by kernel_rfl) (by kernel_rfl) ?_
    repeat' ((conv => whnf); first | (refine vcall_glob (aw) rfl rfl rfl rfl ?_) | (refine vcallD_glob (aw) rfl rfl rfl rfl ?_) | (refine br_dec (fun h => ?_) (fun h => ?_) <;> try (exfalso; omega)) | (refine br_ndec (fun h => ?_) (fun h => ?_) <;> try (exfalso; omega)) | refine br_seq (fun h => ?_) (fun h => ?_) | refine br_nseq (fun h => ?_) (fun h => ?_) | refine br_not (fun h => ?_) (fun h => ?_) | refine br_intro (fun h => ?_) (fun h => ?_) | refine cond_intro rfl ?_ | (refine cond_intro ⟨rfl, ?_⟩ ?_; (first | omega | (dsimp only; omega) | decide)) | (refine cond_intro ?_ ?_; (first | omega | (dsimp only; omega) | decide | (simp only [Nat.add_zero, Int.toNat_natCast, *]; omega))))
    all_goals (conv => whnf)
    all_goals first
      | exact ret_pure rfl
      | (exfalso; omega)
  have a1 := wire_Num n1 n2 b1.2
  have a2 := ref_Num n1 n2 b1
  have c1 := wire_AlphaN s0 n2 (by omega)
  have c2 := ref_Alpha s0 n2 (by omega)
  have d1 := wire_Var s0 n2 (by omega)
  have d2 := ref_Var s0 n2 (by omega)
  have e1 := wire_Unhex s0 (by omega)
  have e2 := ref_Unhex s0 (by omega)
  have f1 := wire_Hex s0 (by omega)
  have f2 := ref_Hex s0 (by omega)
  generalize numS n1 n2 = v1 at *
  generalize numE n1 n2 = v2 at *
  generalize alS s0 n2 = v3 at *
  generalize alE s0 n2 = v4 at *
  generalize varS s0 n2 = v5 at *
  generalize varE s0 n2 = v6 at *
  generalize uhS s0 = v7 at *
  generalize uhE s0 = v8 at *
  generalize bytesOf (hexL s0 s0.size) = v9 at *
  refine fc_of mixed T_ok Tryd.func3 rfl (by kernel_rfl) (by kernel_rfl) (by kernel_rfl) ?_
  repeat' ((conv => whnf); first | (refine vcall_glob (aw) rfl rfl rfl rfl ?_) | (refine vcallD_glob (aw) rfl rfl rfl rfl ?_) | (refine vcall_glob (a1) rfl rfl rfl rfl ?_) | (refine vcallD_glob (a1) rfl rfl rfl rfl ?_) | (refine vcall_pure (a2) rfl rfl rfl ?_) | (refine vcallD_pure (a2) rfl rfl rfl ?_) | (refine vcall_pure (c1) rfl rfl rfl ?_) | (refine vcallD_pure (c1) rfl rfl rfl ?_) | (refine vcall_pure (c2) rfl rfl rfl ?_) | (refine vcallD_pure (c2) rfl rfl rfl ?_) | (refine vcall_glob (d1) rfl rfl rfl rfl ?_) | (refine vcallD_glob (d1) rfl rfl rfl rfl ?_) | (refine vcall_pure (d2) rfl rfl rfl ?_) | (refine vcallD_pure (d2) rfl rfl rfl ?_) | (refine vcall_pure (e1) rfl rfl rfl ?_) | (refine vcallD_pure (e1) rfl rfl rfl ?_) | (refine vcall_pure (e2) rfl rfl rfl ?_) | (refine vcallD_pure (e2) rfl rfl rfl ?_) | (refine vcall_pure (f1) rfl rfl rfl ?_) | (refine vcallD_pure (f1) rfl rfl rfl ?_) | (refine vcall_pure (f2) rfl rfl rfl ?_) | (refine vcallD_pure (f2) rfl rfl rfl ?_) | (refine br_dec (fun h => ?_) (fun h => ?_) <;> try (exfalso; omega)) | (refine br_ndec (fun h => ?_) (fun h => ?_) <;> try (exfalso; omega)) | refine br_seq (fun h => ?_) (fun h => ?_) | refine br_nseq (fun h => ?_) (fun h => ?_) | refine br_not (fun h => ?_) (fun h => ?_) | refine br_intro (fun h => ?_) (fun h => ?_) | refine cond_intro rfl ?_ | (refine cond_intro ⟨rfl, ?_⟩ ?_; (first | omega | (dsimp only; omega) | decide)) | (refine cond_intro ?_ ?_; (first | omega | (dsimp only; omega) | decide | (simp only [Nat.add_zero, Int.toNat_natCast, *]; omega))))
  all_goals (conv => whnf)
  all_goals first
    | exact ret_pure rfl
    | (exfalso; exact h rfl)
    | (exfalso; omega)
end Go.Proofs.YtkbajejkllkahaaDoor
