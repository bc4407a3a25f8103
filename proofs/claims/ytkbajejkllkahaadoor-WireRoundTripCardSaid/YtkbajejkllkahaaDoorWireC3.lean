/- Contracts of package wire: texts filled up, hexadecimal digits. -/
import Derived.Test.YtkbajejkllkahaaDoorWireC2
namespace Go.Proofs.YtkbajejkllkahaaDoor
open Go.RowKit Go.Sy
attribute [local irreducible] vcall vloop vcallD retP
set_option maxRecDepth 100000
set_option linter.unusedVariables false
set_option linter.unusedSimpArgs false

/-- Whether a string ends with another. -/
def sufB (s p : ByteArray) : Bool := decide (p.size ≤ s.size) && seq (s.extract (s.size - p.size) s.size) p
theorem sl_HasSuffix (s p : ByteArray) (hs : s.size ≤ 9223372036854775807) : Pure Tryd.prog 54 [.str s, .str p] (.bool (sufB s p)) := by
  refine fc_of mixed T_ok Tryd.func54 rfl (by kernel_rfl) (by kernel_rfl) (by kernel_rfl) ?_
  by_cases hp : p.size ≤ s.size
  · have w : IntKind.i64.wrap ((s.size : Int) - (p.size : Int)) = ((s.size - p.size : Nat) : Int) := by rw [w64_in (by omega) (by omega)]; omega
    repeat' ((conv => whnf); first | (refine cond_intro (show 0 ≤ IntKind.i64.wrap ((s.size : Int) - (p.size : Int)) ∧ IntKind.i64.wrap ((s.size : Int) - (p.size : Int)) ≤ (s.size : Int) ∧ (s.size : Int) ≤ (s.size : Int) from ?_) ?_; (rw [w]; omega)) | (refine br_dec (fun h => ?_) (fun h => ?_) <;> try (exfalso; omega)) | (refine br_ndec (fun h => ?_) (fun h => ?_) <;> try (exfalso; omega)) | refine br_seq (fun h => ?_) (fun h => ?_) | refine br_nseq (fun h => ?_) (fun h => ?_) | refine br_not (fun h => ?_) (fun h => ?_) | refine br_intro (fun h => ?_) (fun h => ?_) | refine cond_intro rfl ?_ | (refine cond_intro ⟨rfl, ?_⟩ ?_; (first | omega | (dsimp only; omega) | decide)) | (refine cond_intro ?_ ?_; (first | omega | (dsimp only; omega) | decide | (simp only [Nat.add_zero, Int.toNat_natCast, *]; omega))))
    all_goals (conv => whnf)
    · refine ret_pure (congrArg SV.bool ?_)
      unfold sufB
      rw [decide_eq_true hp, w, Int.toNat_natCast]; rfl
    all_goals (exfalso; omega)
  · repeat' ((conv => whnf); first | (refine br_dec (fun h => ?_) (fun h => ?_) <;> try (exfalso; omega)) | (refine br_ndec (fun h => ?_) (fun h => ?_) <;> try (exfalso; omega)) | refine br_seq (fun h => ?_) (fun h => ?_) | refine br_nseq (fun h => ?_) (fun h => ?_) | refine br_not (fun h => ?_) (fun h => ?_) | refine br_intro (fun h => ?_) (fun h => ?_) | refine cond_intro rfl ?_ | (refine cond_intro ⟨rfl, ?_⟩ ?_; (first | omega | (dsimp only; omega) | decide)) | (refine cond_intro ?_ ?_; (first | omega | (dsimp only; omega) | decide | (simp only [Nat.add_zero, Int.toNat_natCast, *]; omega))))
    all_goals (conv => whnf)
    all_goals first
      | (exfalso; omega)
      | (refine ret_pure (congrArg SV.bool ?_); unfold sufB; rw [decide_eq_false hp]; rfl)
theorem str_HasSuffix (s p : ByteArray) (hs : s.size ≤ 9223372036854775807) : Pure Tryd.prog 37 [.str s, .str p] (.bool (sufB s p)) := by
  have c := sl_HasSuffix s p hs
  refine fc_of mixed T_ok Tryd.func37 rfl (by kernel_rfl) (by kernel_rfl) (by kernel_rfl) ?_
  repeat' ((conv => whnf); first | (refine vcall_pure (c) rfl rfl rfl ?_) | (refine br_dec (fun h => ?_) (fun h => ?_) <;> try (exfalso; omega)) | (refine br_ndec (fun h => ?_) (fun h => ?_) <;> try (exfalso; omega)) | refine br_seq (fun h => ?_) (fun h => ?_) | refine br_nseq (fun h => ?_) (fun h => ?_) | refine br_not (fun h => ?_) (fun h => ?_) | refine br_intro (fun h => ?_) (fun h => ?_) | refine cond_intro rfl ?_ | (refine cond_intro ⟨rfl, ?_⟩ ?_; (first | omega | (dsimp only; omega) | decide)) | (refine cond_intro ?_ ?_; (first | omega | (dsimp only; omega) | decide | (simp only [Nat.add_zero, Int.toNat_natCast, *]; omega))))
  all_goals (conv => whnf)
  all_goals exact ret_pure rfl

/-- A text filled up with blanks. -/
def alOk (s : ByteArray) : Bool := prB s && !sufB s ⟨#[32]⟩
def alE (s : ByteArray) (w : Int) : Int := if w < 1 ∨ 255 < w then 4 else if w < (s.size : Int) then 3 else if alOk s = true then 0 else 2
def alS (s : ByteArray) (w : Int) : ByteArray := if alE s w = 0 then s ++ bytesOf (List.replicate (w.toNat - s.size) 32) else ⟨#[]⟩
theorem wire_Alpha (s : ByteArray) (w : Int) (hs : s.size ≤ 9223372036854775000) (hr : w ≤ (s.size : Int) + 128) : Pure Tryd.prog 10 [.str s, .int .i64 w] (.tup [.str (alS s w), .int .i64 (alE s w)]) := by
  have c1 := wire_isPrintable s hs
  have c2 := str_HasSuffix s ⟨#[32]⟩ (by omega)
  by_cases h1 : w < 1 ∨ 255 < w
  · have hE : alE s w = 4 := by unfold alE; rw [if_pos h1]
    have hS : alS s w = ⟨#[]⟩ := by unfold alS; rw [hE]; rfl
    rw [hE, hS]
    refine fc_of mixed T_ok Tryd.func10 rfl (by kernel_rfl) (by kernel_rfl) (by kernel_rfl) ?_
    repeat' ((conv => whnf); first | (refine br_dec (fun h => ?_) (fun h => ?_) <;> try (exfalso; omega)) | (refine br_ndec (fun h => ?_) (fun h => ?_) <;> try (exfalso; omega)) | refine br_seq (fun h => ?_) (fun h => ?_) | refine br_nseq (fun h => ?_) (fun h => ?_) | refine br_not (fun h => ?_) (fun h => ?_) | refine br_intro (fun h => ?_) (fun h => ?_) | refine cond_intro rfl ?_ | (refine cond_intro ⟨rfl, ?_⟩ ?_; (first | omega | (dsimp only; omega) | decide)) | (refine cond_intro ?_ ?_; (first | omega | (dsimp only; omega) | decide | (simp only [Nat.add_zero, Int.toNat_natCast, *]; omega))))
    all_goals (conv => whnf)
    all_goals first
      | exact ret_pure rfl
      | (exfalso; omega)
  · by_cases h2 : w < (s.size : Int)
    · have hE : alE s w = 3 := by unfold alE; rw [if_neg h1, if_pos h2]
      have hS : alS s w = ⟨#[]⟩ := by unfold alS; rw [hE]; rfl
      rw [hE, hS]
      refine fc_of mixed T_ok Tryd.func10 rfl (by kernel_rfl) (by kernel_rfl) (by kernel_rfl) ?_
      repeat' ((conv => whnf); first | (refine br_dec (fun h => ?_) (fun h => ?_) <;> try (exfalso; omega)) | (refine br_ndec (fun h => ?_) (fun h => ?_) <;> try (exfalso; omega)) | refine br_seq (fun h => ?_) (fun h => ?_) | refine br_nseq (fun h => ?_) (fun h => ?_) | refine br_not (fun h => ?_) (fun h => ?_) | refine br_intro (fun h => ?_) (fun h => ?_) | refine cond_intro rfl ?_ | (refine cond_intro ⟨rfl, ?_⟩ ?_; (first | omega | (dsimp only; omega) | decide)) | (refine cond_intro ?_ ?_; (first | omega | (dsimp only; omega) | decide | (simp only [Nat.add_zero, Int.toNat_natCast, *]; omega))))
      all_goals (conv => whnf)
      all_goals first
        | exact ret_pure rfl
        | (exfalso; omega)
    · cases e1 : prB s with
      | false =>
        have hE : alE s w = 2 := by unfold alE alOk; rw [if_neg h1, if_neg h2, e1]; rfl
        have hS : alS s w = ⟨#[]⟩ := by unfold alS; rw [hE]; rfl
        rw [hE, hS]
        rw [e1] at c1
        refine fc_of mixed T_ok Tryd.func10 rfl (by kernel_rfl) (by kernel_rfl) (by kernel_rfl) ?_
        repeat' ((conv => whnf); first | (refine vcall_pure (c1) rfl rfl rfl ?_) | (refine vcallD_pure (c1) rfl rfl rfl ?_) | (refine br_dec (fun h => ?_) (fun h => ?_) <;> try (exfalso; omega)) | (refine br_ndec (fun h => ?_) (fun h => ?_) <;> try (exfalso; omega)) | refine br_seq (fun h => ?_) (fun h => ?_) | refine br_nseq (fun h => ?_) (fun h => ?_) | refine br_not (fun h => ?_) (fun h => ?_) | refine br_intro (fun h => ?_) (fun h => ?_) | refine cond_intro rfl ?_ | (refine cond_intro ⟨rfl, ?_⟩ ?_; (first | omega | (dsimp only; omega) | decide)) | (refine cond_intro ?_ ?_; (first | omega | (dsimp only; omega) | decide | (simp only [Nat.add_zero, Int.toNat_natCast, *]; omega))))
        all_goals (conv => whnf)
        all_goals first
          | exact ret_pure rfl
          | (exfalso; omega)
      | true =>
        rw [e1] at c1
        cases e2 : sufB s ⟨#[32]⟩ with
        | true =>
          have hE : alE s w = 2 := by unfold alE alOk; rw [if_neg h1, if_neg h2, e1, e2]; rfl
          have hS : alS s w = ⟨#[]⟩ := by unfold alS; rw [hE]; rfl
          rw [hE, hS]
          rw [e2] at c2
          refine fc_of mixed T_ok Tryd.func10 rfl (by kernel_rfl) (by kernel_rfl) (by kernel_rfl) ?_
          repeat' ((conv => whnf); first | (refine vcall_pure (c1) rfl rfl rfl ?_) | (refine vcallD_pure (c1) rfl rfl rfl ?_) | (refine vcall_pure (c2) rfl rfl rfl ?_) | (refine vcallD_pure (c2) rfl rfl rfl ?_) | (refine br_dec (fun h => ?_) (fun h => ?_) <;> try (exfalso; omega)) | (refine br_ndec (fun h => ?_) (fun h => ?_) <;> try (exfalso; omega)) | refine br_seq (fun h => ?_) (fun h => ?_) | refine br_nseq (fun h => ?_) (fun h => ?_) | refine br_not (fun h => ?_) (fun h => ?_) | refine br_intro (fun h => ?_) (fun h => ?_) | refine cond_intro rfl ?_ | (refine cond_intro ⟨rfl, ?_⟩ ?_; (first | omega | (dsimp only; omega) | decide)) | (refine cond_intro ?_ ?_; (first | omega | (dsimp only; omega) | decide | (simp only [Nat.add_zero, Int.toNat_natCast, *]; omega))))
          all_goals (conv => whnf)
          all_goals first
            | exact ret_pure rfl
            | (exfalso; omega)
        | false =>
          have hE : alE s w = 0 := by unfold alE alOk; rw [if_neg h1, if_neg h2, e1, e2]; rfl
          have hS : alS s w = s ++ bytesOf (List.replicate (w.toNat - s.size) 32) := by unfold alS; rw [hE]; rfl
          rw [hE, hS]
          rw [e2] at c2
          have c3 := str_Repeat32 (w.toNat - s.size) (by omega)
          have wc : ((w.toNat - s.size : Nat) : Int) = IntKind.i64.wrap (w - (s.size : Int)) := by rw [w64_in (by omega) (by omega)]; omega
          rw [wc] at c3
          refine fc_of mixed T_ok Tryd.func10 rfl (by kernel_rfl) (by kernel_rfl) (by kernel_rfl) ?_
          repeat' ((conv => whnf); first | (refine vcall_pure (c1) rfl rfl rfl ?_) | (refine vcallD_pure (c1) rfl rfl rfl ?_) | (refine vcall_pure (c2) rfl rfl rfl ?_) | (refine vcallD_pure (c2) rfl rfl rfl ?_) | (refine vcall_pure (c3) rfl rfl rfl ?_) | (refine vcallD_pure (c3) rfl rfl rfl ?_) | (refine cond_intro ?_ ?_; (rw [bytesOf_size, List.length_replicate]; omega)) | (refine br_dec (fun h => ?_) (fun h => ?_) <;> try (exfalso; omega)) | (refine br_ndec (fun h => ?_) (fun h => ?_) <;> try (exfalso; omega)) | refine br_seq (fun h => ?_) (fun h => ?_) | refine br_nseq (fun h => ?_) (fun h => ?_) | refine br_not (fun h => ?_) (fun h => ?_) | refine br_intro (fun h => ?_) (fun h => ?_) | refine cond_intro rfl ?_ | (refine cond_intro ⟨rfl, ?_⟩ ?_; (first | omega | (dsimp only; omega) | decide)) | (refine cond_intro ?_ ?_; (first | omega | (dsimp only; omega) | decide | (simp only [Nat.add_zero, Int.toNat_natCast, *]; omega))))
          all_goals (conv => whnf)
          all_goals first
            | exact ret_pure rfl
            | (exfalso; omega)

/-- Hexadecimal digits. -/
def hexd (x : Int) : Int := if x < 10 then 48 + x else 87 + x
def hexL (s : ByteArray) : Nat → List Int
  | 0 => []
  | k + 1 => hexL s k ++ [hexd (byteAt s (k : Int) / 16), hexd (byteAt s (k : Int) % 16)]
theorem hexL_length (s : ByteArray) : ∀ k, (hexL s k).length = 2 * k
  | 0 => rfl
  | k + 1 => by simp only [hexL, List.length_append, hexL_length s k, List.length_cons, List.length_nil]; omega
theorem byte_bd (s : ByteArray) (i : Int) : 0 ≤ byteAt s i ∧ byteAt s i ≤ 255 := by
  unfold byteAt
  have := (s.data.toList.getD i.toNat 0).toNat_lt
  omega
theorem iand_15 {x : Int} (h0 : 0 ≤ x) (h : x ≤ 255) : iand .u8 x 15 = x % 16 := by
  obtain ⟨n, rfl⟩ := Int.eq_ofNat_of_zero_le h0
  have h1 : (BitVec.ofInt 8 (n : Int) &&& BitVec.ofInt 8 15).toNat = n % 16 := by
    rw [BitVec.toNat_and, BitVec.toNat_ofInt, BitVec.toNat_ofInt]
    rw [show ((n : Int) % ((2 ^ 8 : Nat) : Int)).toNat = n by omega, show ((15 : Int) % ((2 ^ 8 : Nat) : Int)).toNat = 2 ^ 4 - 1 by decide, Nat.and_two_pow_sub_one_eq_mod]
  show IntKind.u8.wrap (((BitVec.ofInt 8 (n : Int) &&& BitVec.ofInt 8 15).toNat : Nat) : Int) = _
  rw [h1, u8_in' (by omega) (by omega)]
  omega
theorem ishr_4 {x : Int} : ishr .u8 x 4 = x / 16 := ishr_lit (k := .u8) 4 (by decide)
def hexT : ByteArray := ⟨#[48, 49, 50, 51, 52, 53, 54, 55, 56, 57, 97, 98, 99, 100, 101, 102]⟩
theorem hexT_at {x : Int} (h0 : 0 ≤ x) (h : x < 16) : byteAt hexT x = hexd x := by
  obtain ⟨n, rfl⟩ := Int.eq_ofNat_of_zero_le h0
  have hn : n < 16 := by omega
  have : ∀ n : Nat, n < 16 → byteAt hexT (n : Int) = hexd (n : Int) := by decide
  exact this n hn
theorem wire_Hex (s : ByteArray) (hs : s.size ≤ 1000) : Pure Tryd.prog 16 [.str s] (.str (bytesOf (hexL s s.size))) := by
  refine fc_of mixed T_ok Tryd.func16 rfl (by kernel_rfl) (by kernel_rfl) (by kernel_rfl) ?_
  have e0 : IntKind.i64.wrap (2 * (s.size : Int)) = ((2 * s.size : Nat) : Int) := by rw [w64_in (by omega) (by omega)]; omega
  repeat' ((conv => whnf); first | (refine br_dec (fun h => ?_) (fun h => ?_) <;> try (exfalso; omega)) | (refine br_ndec (fun h => ?_) (fun h => ?_) <;> try (exfalso; omega)) | refine br_seq (fun h => ?_) (fun h => ?_) | refine br_nseq (fun h => ?_) (fun h => ?_) | refine br_not (fun h => ?_) (fun h => ?_) | refine br_intro (fun h => ?_) (fun h => ?_) | refine cond_intro rfl ?_ | (refine cond_intro ⟨rfl, ?_⟩ ?_; (first | omega | (dsimp only; omega) | decide)) | (refine cond_intro ?_ ?_; (first | omega | (dsimp only; omega) | decide | (simp only [Nat.add_zero, Int.toNat_natCast, *]; omega))))
  all_goals (conv => whnf)
  refine vloop_of (fun k : Nat => ⟨[(0, .str s), (3, .sl 1 0 0 (2 * k)), (10, .int .i64 s.size), (11, .int .i64 k)], [(1, some (.one false (.cols (2 * k) [.sc (.ints .u8 (hexL s k))])))], 2⟩) (fun k => k ≤ s.size) (fun k => s.size - k) 0 [0, 1] [] ⟨rfl, ⟨rfl, rfl, rfl, rfl, trivial⟩, ⟨rfl, trivial⟩⟩ (by omega) ?_
  intro k hk
  have b0 := byte_bd s (k : Int)
  have a15 := iand_15 b0.1 b0.2
  have s4 := ishr_4 (x := byteAt s (k : Int))
  repeat' ((conv => whnf); first | (refine cond_intro (show 0 ≤ ishr .u8 (byteAt s (k : Int)) 4 ∧ ishr .u8 (byteAt s (k : Int)) 4 < ((16 : Nat) : Int) from ?_) ?_; (rw [s4]; omega)) | (refine cond_intro (show 0 ≤ iand .u8 (byteAt s (k : Int)) 15 ∧ iand .u8 (byteAt s (k : Int)) 15 < ((16 : Nat) : Int) from ?_) ?_; (rw [a15]; omega)) | (refine br_dec (fun h => ?_) (fun h => ?_) <;> try (exfalso; omega)) | (refine br_ndec (fun h => ?_) (fun h => ?_) <;> try (exfalso; omega)) | refine br_seq (fun h => ?_) (fun h => ?_) | refine br_nseq (fun h => ?_) (fun h => ?_) | refine br_not (fun h => ?_) (fun h => ?_) | refine br_intro (fun h => ?_) (fun h => ?_) | refine cond_intro rfl ?_ | (refine cond_intro ⟨rfl, ?_⟩ ?_; (first | omega | (dsimp only; omega) | decide)) | (refine cond_intro ?_ ?_; (first | omega | (dsimp only; omega) | decide | (simp only [Nat.add_zero, Int.toNat_natCast, *]; omega))))
  all_goals (conv => whnf)
  · refine ⟨k + 1, [0, 3], [], by omega, by omega, ⟨rfl, ⟨rfl, rfl, rfl, congrArg (fun z => some (SV.int .i64 z)) (i64_succ (by omega)), trivial⟩, ⟨?_, trivial⟩⟩⟩
    have t1 := hexT_at (x := byteAt s (k : Int) / 16) (by omega) (by omega)
    have t2 := hexT_at (x := byteAt s (k : Int) % 16) (by omega) (by omega)
    rw [← s4] at t1
    rw [← a15] at t2
    show some (HB.one false (Blk.cols (2 * k + 2) [BCol.sc (.ints .u8 (hexL s k ++ [byteAt hexT (ishr .u8 (byteAt s (k : Int)) 4), byteAt hexT (iand .u8 (byteAt s (k : Int)) 15)]))])) = some (HB.one false (Blk.cols (2 * (k + 1)) [BCol.sc (.ints .u8 (hexL s (k + 1)))]))
    rw [t1, t2, s4, a15]
    rfl
  · have e : k = s.size := by omega
    subst e
    refine ret_pure ?_
    rw [show seg 0 (2 * s.size) (hexL s s.size) = hexL s s.size by
      unfold seg; rw [List.drop_zero, List.take_of_length_le (by rw [hexL_length]; exact Nat.le_refl _)]]
    rfl
end Go.Proofs.YtkbajejkllkahaaDoor
