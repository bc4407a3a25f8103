/- Contracts of package rate, and of the reference's: texts; the law's examples. -/
import Derived.Test.YtakaafolanojkaaDoorRateC3
namespace Go.Proofs.YtakaafolanojkaaDoor
open Go.RowKit Go.Sy
attribute [local irreducible] vcall vloop vcallD retP
set_option maxRecDepth 100000
set_option linter.unusedVariables false
set_option linter.unusedSimpArgs false

theorem curB_3 {s : ByteArray} (h : curB s = true) : s.size = 3 := by
  rcases Nat.decEq s.size 3 with e | e
  · rw [curB_size e] at h; cases h
  · exact e

/-- The text of a rate. -/
def rtxt (f t : ByteArray) (n d : Int) : ByteArray := if rchk f t n d = 0 then f ++ ⟨#[47]⟩ ++ t ++ ⟨#[32]⟩ ++ decI n ++ ⟨#[47]⟩ ++ decI d else ⟨#[]⟩
attribute [irreducible] rtxt

theorem rate_Format (f t : ByteArray) (n d : Int) : Glob Tryd.prog glT 8 [.agg [.str f, .str t, .int .i64 n, .int .i64 d]] (.str (rtxt f t n d)) := by
  have c1 := rate_Check f t n d
  refine fc_of mixed T_ok Tryd.func8 rfl (by kernel_rfl) (by kernel_rfl) (by kernel_rfl) ?_
  by_cases e1 : rchk f t n d = 0
  · obtain ⟨k1, k2, _, b1, b2, b3, b4⟩ := rchk_ok e1
    have s1 := curB_3 k1
    have s2 := curB_3 k2
    have z1 := decI_size n (by omega) (by omega)
    have z2 := decI_size d (by omega) (by omega)
    have f1 := conv_FormatInt n (by omega) (by omega)
    have f2 := conv_FormatInt d (by omega) (by omega)
    rw [e1] at c1
    have he : rtxt f t n d = f ++ ⟨#[47]⟩ ++ t ++ ⟨#[32]⟩ ++ decI n ++ ⟨#[47]⟩ ++ decI d := by unfold rtxt; rw [if_pos e1]
    rw [he]
    repeat' ((conv => whnf); first | (refine vcall_glob (c1) rfl rfl rfl rfl ?_) | (refine vcallD_glob (f1) rfl rfl rfl rfl ?_) | (refine vcallD_glob (f2) rfl rfl rfl rfl ?_) | (refine cond_intro ?_ ?_; (simp only [ByteArray.size_append, s1, s2, show ∀ x : UInt8, (ByteArray.mk #[x]).size = 1 from fun _ => rfl]; omega)) | (refine br_dec (fun h => ?_) (fun h => ?_) <;> try (exfalso; (try dsimp only at h); omega)) | (refine br_ndec (fun h => ?_) (fun h => ?_) <;> try (exfalso; (try dsimp only at h); omega)) | refine br_seq (fun h => ?_) (fun h => ?_) | refine br_nseq (fun h => ?_) (fun h => ?_) | refine br_not (fun h => ?_) (fun h => ?_) | refine br_intro (fun h => ?_) (fun h => ?_) | refine cond_intro rfl ?_ | (refine cond_intro ⟨rfl, ?_⟩ ?_; (first | omega | (dsimp only; omega) | decide)) | (refine cond_intro ?_ ?_; (first | omega | (dsimp only; omega) | decide | (simp only [Nat.add_zero, Int.toNat_natCast, *]; omega))))
    all_goals (conv => whnf)
    all_goals exact ret_pure rfl
  · have he : rtxt f t n d = ⟨#[]⟩ := by unfold rtxt; rw [if_neg e1]
    rw [he]
    repeat' ((conv => whnf); first | (refine vcall_glob (c1) rfl rfl rfl rfl ?_) | (refine br_dec (fun h => ?_) (fun h => ?_) <;> try (exfalso; (try dsimp only at h); omega)) | (refine br_ndec (fun h => ?_) (fun h => ?_) <;> try (exfalso; (try dsimp only at h); omega)) | refine br_seq (fun h => ?_) (fun h => ?_) | refine br_nseq (fun h => ?_) (fun h => ?_) | refine br_not (fun h => ?_) (fun h => ?_) | refine br_intro (fun h => ?_) (fun h => ?_) | refine cond_intro rfl ?_ | (refine cond_intro ⟨rfl, ?_⟩ ?_; (first | omega | (dsimp only; omega) | decide)) | (refine cond_intro ?_ ?_; (first | omega | (dsimp only; omega) | decide | (simp only [Nat.add_zero, Int.toNat_natCast, *]; omega))))
    all_goals (conv => whnf)
    all_goals exact ret_pure rfl
def usd : ByteArray := ⟨#[85, 83, 68]⟩
def eur : ByteArray := ⟨#[69, 85, 82]⟩
def gbp : ByteArray := ⟨#[71, 66, 80]⟩
def jpy : ByteArray := ⟨#[74, 80, 89]⟩

theorem decI_small {n : Nat} (h : n < 10) : decI (n : Int) = bytesOf [((48 + n : Nat) : Int)] := by
  unfold decI dec
  rw [if_neg (by omega), Int.toNat_natCast, (dec_small n (by omega)).1 h]

theorem law_awake : Glob Tryd.prog glT 5 [] (.bool true) := by
  have c1 := rate_Convert 1000 usd usd jpy 3021 20 1 (by omega) (by omega)
  rw [cvT_ok (show cvE 1000 usd usd jpy 3021 20 1 = 0 from by kernel_rfl), show sclA 1000 3021 20 1 = 151050 from by kernel_rfl] at c1
  have c2 := rate_Cross usd eur 9 10 eur gbp 5 6
  rw [show crE usd eur 9 10 eur gbp 5 6 = 0 from by kernel_rfl, rT_ok, show pA 9 10 5 6 * pC 9 10 5 6 = 3 from by kernel_rfl, show pB 9 10 5 6 * pD 9 10 5 6 = 4 from by kernel_rfl] at c2
  have c3 := rate_Format usd gbp 3 4
  have he : rtxt usd gbp 3 4 = ⟨#[85, 83, 68, 47, 71, 66, 80, 32, 51, 47, 52]⟩ := by
    unfold rtxt
    rw [if_pos (by kernel_rfl), show (3 : Int) = ((3 : Nat) : Int) from rfl, show (4 : Int) = ((4 : Nat) : Int) from rfl, decI_small (by omega), decI_small (by omega)]
    rfl
  rw [he] at c3
  refine fc_of mixed T_ok Tryd.func5 rfl (by kernel_rfl) (by kernel_rfl) (by kernel_rfl) ?_
  repeat' ((conv => whnf); first | (refine vcall_glob (c1) rfl rfl rfl rfl ?_) | (refine vcall_glob (c2) rfl rfl rfl rfl ?_) | (refine vcall_glob (c3) rfl rfl rfl rfl ?_) | (refine br_dec (fun h => ?_) (fun h => ?_) <;> try (exfalso; (try dsimp only at h); omega)) | (refine br_ndec (fun h => ?_) (fun h => ?_) <;> try (exfalso; (try dsimp only at h); omega)) | refine br_seq (fun h => ?_) (fun h => ?_) | refine br_nseq (fun h => ?_) (fun h => ?_) | refine br_not (fun h => ?_) (fun h => ?_) | refine br_intro (fun h => ?_) (fun h => ?_) | refine cond_intro rfl ?_ | (refine cond_intro ⟨rfl, ?_⟩ ?_; (first | omega | (dsimp only; omega) | decide)) | (refine cond_intro ?_ ?_; (first | omega | (dsimp only; omega) | decide | (simp only [Nat.add_zero, Int.toNat_natCast, *]; omega))))
  all_goals (conv => whnf)
  all_goals exact ret_pure rfl
end Go.Proofs.YtakaafolanojkaaDoor
