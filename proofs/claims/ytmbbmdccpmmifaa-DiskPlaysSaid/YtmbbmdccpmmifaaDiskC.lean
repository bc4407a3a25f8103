/- Contracts of package disk. -/
import Derived.Test.YtmbbmdccpmmifaaTab
namespace Go.Proofs.Ytmbbmdccpmmifaa
open Go.RowKit Go.Sy
attribute [local irreducible] vcall vloop vcallD retP
set_option maxRecDepth 100000
set_option linter.unusedVariables false

/-- The first k of n Bools. -/
def bpre (p : Nat → Bool) (n k : Nat) : List Bool := (List.range n).map (fun i => decide (i < k) && p i)
theorem bpre_set (p : Nat → Bool) (n k : Nat) (h : k < n) : (bpre p n k).set k (p k) = bpre p n (k + 1) := by
  apply List.ext_getElem?
  intro i
  simp only [bpre, List.getElem?_set, List.getElem?_map, List.length_map, List.length_range]
  by_cases e : k = i
  · subst e; simp [h]
  · rw [if_neg e]
    rcases Nat.lt_or_ge i n with h1 | h1
    · rw [List.getElem?_range h1]
      simp only [Option.map_some, Option.some.injEq]
      by_cases h2 : i < k
      · simp [h2, show i < k + 1 by omega]
      · simp [h2, show ¬ i < k + 1 by omega]
    · rw [List.getElem?_eq_none (by simpa using h1)]; rfl
theorem bpre_zero (p : Nat → Bool) (n : Nat) : bpre p n 0 = List.replicate n false := by
  apply List.ext_getElem (by simp [bpre])
  intro i h1 h2
  simp [bpre]

def bitB (b : Int) (i : Nat) : Bool := decide (iand .u8 (ishr .u8 b (i : Int)) 1 = 1)
attribute [irreducible] bitB
theorem bitB_eq (b : Int) (i : Nat) : bitB b i = decide (iand .u8 (ishr .u8 b (i : Int)) 1 = 1) := by unfold bitB; rfl

theorem i64_succ {k : Nat} (h : k < 9223372036854775806) : IntKind.i64.wrap ((k : Int) + 1) = ((k + 1 : Nat) : Int) := by rw [w64_in (by omega) (by omega)]; rfl

theorem disk_bitsOfByte (b : Int) : Pure Try.prog 39 [.int .u8 b] (.arr 8 [.bools (bpre (bitB b) 8 8)]) := by
  refine fc_of mixed T_ok Try.func39 rfl (by kernel_rfl) (by kernel_rfl) (by kernel_rfl) ?_
  (conv => whnf)
  refine vloop_of (fun k : Nat => ⟨[(0, .int .u8 b), (2, .ptr 1 0 0 0), (3, .ptr 2 0 0 0), (5, .int .i64 k)], [(1, some (.one false (.cols 8 [.sc (.bools (List.replicate 8 false))]))), (2, some (.one false (.cols 8 [.sc (.bools (bpre (bitB b) 8 k))])))], 3⟩) (fun k => k ≤ 8) (fun k => 8 - k) 0 [0, 1, 2] [] ⟨rfl, ⟨rfl, rfl, rfl, rfl, trivial⟩, ⟨rfl, rfl, trivial⟩⟩ (by omega) ?_
  intro k hk
  repeat' ((conv => whnf); first | (refine br_dec (fun h => ?_) (fun h => ?_) <;> try (exfalso; omega)) | (refine br_ndec (fun h => ?_) (fun h => ?_) <;> try (exfalso; omega)) | refine br_seq (fun h => ?_) (fun h => ?_) | refine br_nseq (fun h => ?_) (fun h => ?_) | refine br_not (fun h => ?_) (fun h => ?_) | refine br_intro (fun h => ?_) (fun h => ?_) | (refine cond_intro ?_ ?_; (first | omega | (dsimp only; omega) | decide | (simp only [Nat.add_zero, Int.toNat_natCast, *]; omega))))
  all_goals (conv => whnf)
  · skip
    refine ⟨k + 1, [0, 1, 2], [], by omega, by omega, ⟨rfl, ⟨rfl, rfl, rfl, ?_, trivial⟩, ⟨rfl, ?_, trivial⟩⟩⟩
    · exact congrArg (fun z => some (SV.int .i64 z)) (i64_succ (by omega))
    · have e := bpre_set (bitB b) 8 k (by omega)
      rw [bitB_eq] at e
      exact congrArg (fun z => some (HB.one false (.cols 8 [.sc (.bools z)]))) e
  · have e : k = 8 := by omega
    subst e
    exact ret_pure rfl

def bitM (m : Int) (k : Nat) : Bool := bitB (IntKind.u8.wrap (ishr .u64 m ((8 * (k / 8) : Nat) : Int))) (k % 8)
theorem bpre_get (p : Nat → Bool) (n k i : Nat) (h : i < n) : (bpre p n k)[i]? = some (decide (i < k) && p i) := by
  simp only [bpre, List.getElem?_map, List.getElem?_range h, Option.map_some]
theorem bpre_len (p : Nat → Bool) (n k : Nat) : (bpre p n k).length = n := by simp [bpre]

theorem copy_bits (m : Int) (j : Nat) (h : j < 8) (x : Nat) (hx : x = 8) : splice (8 * j) x (bpre (bitM m) 64 (8 * j)) (seg 0 8 (bpre (bitB (IntKind.u8.wrap (ishr .u64 m ((8 * j : Nat) : Int)))) 8 8)) = bpre (bitM m) 64 (8 * (j + 1)) := by
  subst hx
  apply List.ext_getElem?
  intro i
  have e1 : (List.take (8 * j) (bpre (bitM m) 64 (8 * j))).length = 8 * j := by simp [bpre_len]; omega
  have e2 : (List.take 8 (seg 0 8 (bpre (bitB (IntKind.u8.wrap (ishr .u64 m ((8 * j : Nat) : Int)))) 8 8))).length = 8 := by simp [seg, bpre_len]
  simp only [splice]
  rcases Nat.lt_or_ge i (8 * j) with h1 | h1
  · rw [List.append_assoc, List.getElem?_append_left (by omega), List.getElem?_take, if_pos h1, bpre_get _ _ _ _ (by omega), bpre_get _ _ _ _ (by omega)]
    simp [h1, show i < 8 * (j + 1) by omega]
  · rcases Nat.lt_or_ge i (8 * j + 8) with h2 | h2
    · rw [List.append_assoc, List.getElem?_append_right (by omega), e1, List.getElem?_append_left (by omega), List.getElem?_take, if_pos (by omega)]
      simp only [seg, List.drop_zero]
      rw [List.getElem?_take, if_pos (by omega), bpre_get _ _ _ _ (by omega), bpre_get _ _ _ _ (by omega)]
      have h3 : i / 8 = j := by omega
      have h4 : i % 8 = i - 8 * j := by omega
      simp only [bitM, h3, h4, show i - 8 * j < 8 by omega, show i < 8 * (j + 1) by omega]
    · rw [List.getElem?_append_right (by rw [List.length_append]; omega), List.length_append, e1, e2, List.getElem?_drop]
      rw [show 8 * j + 8 + (i - (8 * j + 8)) = i from by omega]
      rcases Nat.lt_or_ge i 64 with h5 | h5
      · rw [bpre_get _ _ _ _ h5, bpre_get _ _ _ _ h5]
        simp [show ¬ i < 8 * j by omega, show ¬ i < 8 * (j + 1) by omega]
      · rw [List.getElem?_eq_none (by rw [bpre_len]; exact h5), List.getElem?_eq_none (by rw [bpre_len]; exact h5)]

theorem disk_bitsOf (m : Int) : Pure Try.prog 36 [.int .u64 m] (.arr 64 [.bools (bpre (bitM m) 64 64)]) := by
  refine fc_of mixed T_ok Try.func36 rfl (by kernel_rfl) (by kernel_rfl) (by kernel_rfl) ?_
  (conv => whnf)
  refine vloop_of (fun j : Nat => ⟨[(0, .int .u64 m), (2, .ptr 1 0 0 0), (3, .ptr 2 0 0 0), (4, .int .i64 (8 * j : Nat))], [(1, some (.one false (.cols 64 [.sc (.bools (List.replicate 64 false))]))), (2, some (.one false (.cols 64 [.sc (.bools (bpre (bitM m) 64 (8 * j)))])))], 3⟩) (fun j => j ≤ 8) (fun j => 8 - j) 0 [0, 1, 2] [] ⟨rfl, ⟨rfl, rfl, rfl, rfl, trivial⟩, ⟨rfl, rfl, trivial⟩⟩ (by omega) ?_
  intro j hj
  repeat' ((conv => whnf); first | (refine vcall_pure (disk_bitsOfByte _) rfl rfl rfl ?_) | (refine br_dec (fun h => ?_) (fun h => ?_) <;> try (exfalso; omega)) | (refine br_ndec (fun h => ?_) (fun h => ?_) <;> try (exfalso; omega)) | refine br_seq (fun h => ?_) (fun h => ?_) | refine br_nseq (fun h => ?_) (fun h => ?_) | refine br_not (fun h => ?_) (fun h => ?_) | refine br_intro (fun h => ?_) (fun h => ?_) | (refine cond_intro ?_ ?_; (first | omega | (dsimp only; omega) | decide | (simp only [Nat.add_zero, Int.toNat_natCast, *]; omega))))
  all_goals (conv => whnf)
  · refine ⟨j + 1, [0, 1, 2], [], by omega, by omega, ⟨rfl, ⟨rfl, rfl, rfl, ?_, trivial⟩, ⟨rfl, ?_, trivial⟩⟩⟩
    · refine congrArg (fun z => some (SV.int .i64 z)) ?_
      rw [w64_in (by omega) (by omega)]; omega
    · refine congrArg (fun z => some (HB.one false (.cols 64 [.sc (.bools z)]))) ?_
      refine copy_bits m j (by omega) _ ?_
      dsimp only; omega
  · have e : j = 8 := by omega
    subst e
    exact ret_pure rfl
end Go.Proofs.Ytmbbmdccpmmifaa
