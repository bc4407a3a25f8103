/- Hexadecimal digits read back, by the program and by the reference. -/
import Derived.Test.YtkbajejkllkahaaDoorWireA
namespace Go.Proofs.YtkbajejkllkahaaDoor
open Go.RowKit Go.Sy
attribute [local irreducible] vcall vloop vcallD retP
set_option maxRecDepth 100000
set_option linter.unusedVariables false
set_option linter.unusedSimpArgs false

def hiN (s : ByteArray) (k : Nat) : Int := hxI (byteAt s ((2 * k : Nat) : Int))
def loN (s : ByteArray) (k : Nat) : Int := hxI (byteAt s ((2 * k + 1 : Nat) : Int))
/-- The first k pairs are digits. -/
def uhTo (s : ByteArray) : Nat → Bool
  | 0 => true
  | k + 1 => uhTo s k && decide (0 ≤ hiN s k ∧ 0 ≤ loN s k)
def uhL (s : ByteArray) : Nat → List Int
  | 0 => []
  | k + 1 => uhL s k ++ [hiN s k * 16 + loN s k]
theorem uhL_length (s : ByteArray) : ∀ k, (uhL s k).length = k
  | 0 => rfl
  | k + 1 => by simp [uhL, uhL_length s k]
def uhE (s : ByteArray) : Int := if s.size % 2 ≠ 0 then 2 else if uhTo s (s.size / 2) = true then 0 else 2
def uhS (s : ByteArray) : ByteArray := if uhE s = 0 then bytesOf (uhL s (s.size / 2)) else ⟨#[]⟩
theorem uhTo_false {s : ByteArray} {k n : Nat} (h : k < n) (hc : ¬ (0 ≤ hiN s k ∧ 0 ≤ loN s k)) : uhTo s n = false := by
  induction n with
  | zero => omega
  | succ n ih =>
    simp only [uhTo]
    by_cases e : k = n
    · subst e; rw [decide_eq_false hc]; simp
    · rw [ih (by omega)]; rfl
theorem comb_all : ((List.range 256).map fun k : Nat => IntKind.u8.wrap (ior .i64 (ishl .i64 ((k / 16 : Nat) : Int) 4) ((k % 16 : Nat) : Int))) = (List.range 256).map fun k : Nat => (k : Int) := by kernel_rfl
theorem comb {h l : Int} (h0 : 0 ≤ h) (h1 : h ≤ 15) (l0 : 0 ≤ l) (l1 : l ≤ 15) : IntKind.u8.wrap (ior .i64 (ishl .i64 h 4) l) = h * 16 + l := by
  obtain ⟨a, rfl⟩ := Int.eq_ofNat_of_zero_le h0
  obtain ⟨b, rfl⟩ := Int.eq_ofNat_of_zero_le l0
  have hc : a * 16 + b < 256 := by omega
  have e := congrArg (fun l => l[a * 16 + b]?) comb_all
  simp only [List.getElem?_map, List.getElem?_range hc, Option.map_some, Option.some.injEq] at e
  rw [show (a * 16 + b) / 16 = a by omega, show (a * 16 + b) % 16 = b by omega] at e
  rw [e]; omega
theorem uhE_odd {s : ByteArray} (h : s.size % 2 ≠ 0) : uhE s = 2 ∧ uhS s = ⟨#[]⟩ := by
  have e : uhE s = 2 := by unfold uhE; rw [if_pos h]
  exact ⟨e, by unfold uhS; rw [e]; rfl⟩
theorem uhE_bad {s : ByteArray} (h : uhTo s (s.size / 2) = false) : uhE s = 2 ∧ uhS s = ⟨#[]⟩ := by
  have e : uhE s = 2 := by unfold uhE; split; rfl; rw [h]; rfl
  exact ⟨e, by unfold uhS; rw [e]; rfl⟩
theorem uhE_ok {s : ByteArray} (h0 : s.size % 2 = 0) (h : uhTo s (s.size / 2) = true) : uhE s = 0 ∧ uhS s = bytesOf (uhL s (s.size / 2)) := by
  have e : uhE s = 0 := by unfold uhE; rw [if_neg (by omega), if_pos h]
  exact ⟨e, by unfold uhS; rw [if_pos e]⟩
theorem hn_bd (s : ByteArray) (k : Nat) : (-1 ≤ hiN s k ∧ hiN s k ≤ 15) ∧ (-1 ≤ loN s k ∧ loN s k ≤ 15) := ⟨hx_bd _, hx_bd _⟩
attribute [local irreducible] hxI

theorem wire_Unhex (s : ByteArray) (hs : s.size ≤ 100000) : Pure Tryd.prog 14 [.str s] (.tup [.str (uhS s), .int .i64 (uhE s)]) := by
  have hm : Int.tmod (s.size : Int) 2 = ((s.size % 2 : Nat) : Int) := by rw [Int.tmod_eq_emod_of_nonneg (by omega)]; omega
  have hd : IntKind.i64.wrap (Int.tdiv (s.size : Int) 2) = ((s.size / 2 : Nat) : Int) := by rw [Int.tdiv_eq_ediv_of_nonneg (by omega), w64_in (by omega) (by omega)]; omega
  by_cases ho : s.size % 2 = 0
  case neg =>
    rw [(uhE_odd ho).1, (uhE_odd ho).2]
    refine fc_of mixed T_ok Tryd.func14 rfl (by kernel_rfl) (by kernel_rfl) (by kernel_rfl) ?_
    repeat' ((conv => whnf); first | (refine br_dec (fun h => ?_) (fun h => ?_) <;> try (exfalso; omega)) | (refine br_ndec (fun h => ?_) (fun h => ?_) <;> try (exfalso; omega)) | refine br_seq (fun h => ?_) (fun h => ?_) | refine br_nseq (fun h => ?_) (fun h => ?_) | refine br_not (fun h => ?_) (fun h => ?_) | refine br_intro (fun h => ?_) (fun h => ?_) | refine cond_intro rfl ?_ | (refine cond_intro ⟨rfl, ?_⟩ ?_; (first | omega | (dsimp only; omega) | decide)) | (refine cond_intro ?_ ?_; (first | omega | (dsimp only; omega) | decide | (simp only [Nat.add_zero, Int.toNat_natCast, *]; omega))))
    all_goals (conv => whnf)
    all_goals exact ret_pure rfl
  refine fc_of mixed T_ok Tryd.func14 rfl (by kernel_rfl) (by kernel_rfl) (by kernel_rfl) ?_
  repeat' ((conv => whnf); first | (refine cond_intro (show (0 : Int) ≤ 0 ∧ 0 ≤ IntKind.i64.wrap (Int.tdiv (s.size : Int) 2) ∧ IntKind.i64.wrap (Int.tdiv (s.size : Int) 2) * _ ≤ _ from ?_) ?_; (rw [hd]; omega)) | (refine br_dec (fun h => ?_) (fun h => ?_) <;> try (exfalso; omega)) | (refine br_ndec (fun h => ?_) (fun h => ?_) <;> try (exfalso; omega)) | refine br_seq (fun h => ?_) (fun h => ?_) | refine br_nseq (fun h => ?_) (fun h => ?_) | refine br_not (fun h => ?_) (fun h => ?_) | refine br_intro (fun h => ?_) (fun h => ?_) | refine cond_intro rfl ?_ | (refine cond_intro ⟨rfl, ?_⟩ ?_; (first | omega | (dsimp only; omega) | decide)) | (refine cond_intro ?_ ?_; (first | omega | (dsimp only; omega) | decide | (simp only [Nat.add_zero, Int.toNat_natCast, *]; omega))))
  all_goals (conv => whnf)
  refine vloop_of (fun k : Nat => ⟨[(0, .str s), (4, .sl 1 0 0 k), (5, .int .i64 ((2 * k : Nat) : Int))], [(1, some (.one false (.cols k [.sc (.ints .u8 (uhL s k))])))], 2⟩) (fun k => 2 * k ≤ s.size ∧ uhTo s k = true) (fun k => s.size - 2 * k) 0 [0, 1] [] ⟨rfl, ⟨rfl, rfl, rfl, trivial⟩, ⟨rfl, trivial⟩⟩ ⟨by omega, rfl⟩ ?_
  rintro k ⟨hk, ht⟩
  have w1 : IntKind.i64.wrap (((2 * k : Nat) : Int) + 1) = ((2 * k + 1 : Nat) : Int) := by rw [w64_in (by omega) (by omega)]; omega
  have w2 : IntKind.i64.wrap (((2 * k : Nat) : Int) + 2) = ((2 * (k + 1) : Nat) : Int) := by rw [w64_in (by omega) (by omega)]; omega
  have c0 := str_IndexHex (byteAt s ((2 * k : Nat) : Int)) (byteAt_bd _ _).1 (byteAt_bd _ _).2
  have c1 := str_IndexHex (byteAt s (IntKind.i64.wrap (((2 * k : Nat) : Int) + 1))) (byteAt_bd _ _).1 (byteAt_bd _ _).2
  have e0 : hxI (byteAt s ((2 * k : Nat) : Int)) = hiN s k := rfl
  have e1 : hxI (byteAt s (IntKind.i64.wrap (((2 * k : Nat) : Int) + 1))) = loN s k := by rw [w1]; rfl
  rw [e0] at c0
  rw [e1] at c1
  have bd := hn_bd s k
  have hst : uhTo s (k + 1) = (uhTo s k && decide (0 ≤ hiN s k ∧ 0 ≤ loN s k)) := rfl
  have hls : uhL s (k + 1) = uhL s k ++ [hiN s k * 16 + loN s k] := rfl
  have hln := uhL_length s k
  generalize hiN s k = a at *
  generalize loN s k = b at *
  by_cases hkl : 2 * k < s.size
  · by_cases hok : 0 ≤ a ∧ 0 ≤ b
    · have cm := comb hok.1 bd.1.2 hok.2 bd.2.2
      repeat' ((conv => whnf); first | (refine vcall_pure (c0) rfl rfl rfl ?_) | (refine vcallD_pure (c0) rfl rfl rfl ?_) | (refine vcall_pure (c1) rfl rfl rfl ?_) | (refine vcallD_pure (c1) rfl rfl rfl ?_) | (refine cond_intro (show (0 : Int) ≤ IntKind.i64.wrap (((2 * k : Nat) : Int) + 1) ∧ IntKind.i64.wrap (((2 * k : Nat) : Int) + 1) < _ from ?_) ?_; (rw [w1]; omega)) | (refine br_dec (fun h => ?_) (fun h => ?_) <;> try (exfalso; omega)) | (refine br_ndec (fun h => ?_) (fun h => ?_) <;> try (exfalso; omega)) | refine br_seq (fun h => ?_) (fun h => ?_) | refine br_nseq (fun h => ?_) (fun h => ?_) | refine br_not (fun h => ?_) (fun h => ?_) | refine br_intro (fun h => ?_) (fun h => ?_) | refine cond_intro rfl ?_ | (refine cond_intro ⟨rfl, ?_⟩ ?_; (first | omega | (dsimp only; omega) | decide)) | (refine cond_intro ?_ ?_; (first | omega | (dsimp only; omega) | decide | (simp only [Nat.add_zero, Int.toNat_natCast, *]; omega))))
      all_goals (conv => whnf)
      all_goals refine ⟨k + 1, [0, 3], [], ⟨by omega, by rw [hst, ht, decide_eq_true hok]; rfl⟩, by omega, ⟨rfl, ⟨rfl, rfl, congrArg (fun z => some (SV.int .i64 z)) w2, trivial⟩, ⟨?_, trivial⟩⟩⟩
      all_goals (rw [hls, ← cm]; rfl)
    · have hbad : uhTo s (s.size / 2) = false := by
        have hx : uhTo s (k + 1) = false := by rw [hst, decide_eq_false hok]; simp
        have : ∀ n, k + 1 ≤ n → uhTo s n = false := by
          intro n hn
          induction n with
          | zero => omega
          | succ n ih =>
            by_cases e : k = n
            · subst e; exact hx
            · show (uhTo s n && _) = false
              rw [ih (by omega)]; rfl
        exact this _ (by omega)
      rw [(uhE_bad hbad).1, (uhE_bad hbad).2]
      repeat' ((conv => whnf); first | (refine vcall_pure (c0) rfl rfl rfl ?_) | (refine vcallD_pure (c0) rfl rfl rfl ?_) | (refine vcall_pure (c1) rfl rfl rfl ?_) | (refine vcallD_pure (c1) rfl rfl rfl ?_) | (refine cond_intro (show (0 : Int) ≤ IntKind.i64.wrap (((2 * k : Nat) : Int) + 1) ∧ IntKind.i64.wrap (((2 * k : Nat) : Int) + 1) < _ from ?_) ?_; (rw [w1]; omega)) | (refine br_dec (fun h => ?_) (fun h => ?_) <;> try (exfalso; omega)) | (refine br_ndec (fun h => ?_) (fun h => ?_) <;> try (exfalso; omega)) | refine br_seq (fun h => ?_) (fun h => ?_) | refine br_nseq (fun h => ?_) (fun h => ?_) | refine br_not (fun h => ?_) (fun h => ?_) | refine br_intro (fun h => ?_) (fun h => ?_) | refine cond_intro rfl ?_ | (refine cond_intro ⟨rfl, ?_⟩ ?_; (first | omega | (dsimp only; omega) | decide)) | (refine cond_intro ?_ ?_; (first | omega | (dsimp only; omega) | decide | (simp only [Nat.add_zero, Int.toNat_natCast, *]; omega))))
      all_goals (conv => whnf)
      all_goals first
        | exact ret_pure rfl
        | (exfalso; omega)
  · have e : k = s.size / 2 := by omega
    rw [e] at ht
    rw [(uhE_ok ho ht).1, (uhE_ok ho ht).2]
    rw [← e]
    repeat' ((conv => whnf); first | (refine vcall_pure (c0) rfl rfl rfl ?_) | (refine vcallD_pure (c0) rfl rfl rfl ?_) | (refine br_dec (fun h => ?_) (fun h => ?_) <;> try (exfalso; omega)) | (refine br_ndec (fun h => ?_) (fun h => ?_) <;> try (exfalso; omega)) | refine br_seq (fun h => ?_) (fun h => ?_) | refine br_nseq (fun h => ?_) (fun h => ?_) | refine br_not (fun h => ?_) (fun h => ?_) | refine br_intro (fun h => ?_) (fun h => ?_) | refine cond_intro rfl ?_ | (refine cond_intro ⟨rfl, ?_⟩ ?_; (first | omega | (dsimp only; omega) | decide)) | (refine cond_intro ?_ ?_; (first | omega | (dsimp only; omega) | decide | (simp only [Nat.add_zero, Int.toNat_natCast, *]; omega))))
    all_goals (conv => whnf)
    refine ret_pure ?_
    show SV.tup [.str (bytesOf (seg 0 k (uhL s k))), .int .i64 0] = _
    unfold seg
    rw [List.drop_zero, List.take_of_length_le (by omega)]
end Go.Proofs.YtkbajejkllkahaaDoor
