/- Contracts of package wire for all widths; hexadecimal digits read back; the reference's writers. -/
import Derived.Test.YtkbajejkllkahaaDoorWireC9
import Derived.Test.YtkbajejkllkahaaDoorYCalls
import Derived.Test.YtkbajejkllkahaaDoorShelf
namespace Go.Proofs.YtkbajejkllkahaaDoor
open Go.RowKit Go.Sy
attribute [local irreducible] vcall vloop vcallD retP
set_option maxRecDepth 100000
set_option linter.unusedVariables false
set_option linter.unusedSimpArgs false

theorem repeatL_one (c : UInt8) : ∀ n, Lib.repeatL [c] n = List.replicate n c
  | 0 => rfl
  | n + 1 => by rw [Lib.repeatL, repeatL_one c n]; rfl
theorem str_RepeatN (n : Nat) (hn : n ≤ 100000) : Pure Tryd.prog 38 [.str ⟨#[32]⟩, .int .i64 n] (.str (bytesOf (List.replicate n 32))) := by
  refine pure_of_calls (vals := [.string ⟨#[32]⟩, .int .i64 n]) (v := .string (bytesOf (List.replicate n 32))) (bodied_of' Tryd.func38 (by kernel_rfl) (by kernel_rfl)) ?_ ?_ ?_
  · intro g vs h
    simpa [Rvs, Rv] using h
  · intro g; simp [Rv]
  · intro w
    have h := Tryd.strings_Repeat ⟨#[32]⟩ n w (by omega) (by show 1 * n ≤ _; omega)
    have e : (⟨(Lib.repeatL [32] n).toArray⟩ : ByteArray) = bytesOf (List.replicate n 32) := by
      rw [repeatL_one]
      unfold bytesOf
      rw [List.map_replicate]
      rfl
    rw [show (Lib.repeatL ((⟨#[32]⟩ : ByteArray).data.toList) n) = Lib.repeatL [32] n from rfl, e] at h
    exact h

theorem wire_AlphaN (s : ByteArray) (w : Int) (hs : s.size ≤ 9223372036854775000) : Pure Tryd.prog 10 [.str s, .int .i64 w] (.tup [.str (alS s w), .int .i64 (alE s w)]) := by
  by_cases hr : w ≤ (s.size : Int) + 128
  · exact wire_Alpha s w hs hr
  have c1 := wire_isPrintable s hs
  have c2 := str_HasSuffix s ⟨#[32]⟩ (by omega)
  by_cases h1 : w < 1 ∨ 255 < w
  · have hE : alE s w = 4 := by unfold alE; rw [if_pos h1]
    have hS : alS s w = ⟨#[]⟩ := by unfold alS; rw [hE]; rfl
    rw [hE, hS]
    refine fc_of mixed T_ok Tryd.func10 rfl (by kernel_rfl) (by kernel_rfl) (by kernel_rfl) ?_
    repeat' ((conv => whnf); first | (refine br_dec (fun h => ?_) (fun h => ?_) <;> try (exfalso; omega)) | (refine br_ndec (fun h => ?_) (fun h => ?_) <;> try (exfalso; omega)) | refine br_seq (fun h => ?_) (fun h => ?_) | refine br_nseq (fun h => ?_) (fun h => ?_) | refine br_not (fun h => ?_) (fun h => ?_) | refine br_intro (fun h => ?_) (fun h => ?_) | refine cond_intro rfl ?_ | (refine cond_intro ⟨rfl, ?_⟩ ?_; (first | omega | (dsimp only; omega) | decide)) | (refine cond_intro ?_ ?_; (first | omega | (dsimp only; omega) | decide | (simp only [Nat.add_zero, Int.toNat_natCast, *]; omega))))
    all_goals (conv => whnf)
    all_goals first
      | exact ret_pure rfl
      | (exfalso; omega)
  · have h2 : ¬ w < (s.size : Int) := by omega
    cases e1 : prB s with
      | false =>
        have hE : alE s w = 2 := by unfold alE alOk; rw [if_neg h1, if_neg h2, e1]; rfl
        have hS : alS s w = ⟨#[]⟩ := by unfold alS; rw [hE]; rfl
        rw [hE, hS]
        rw [e1] at c1
        refine fc_of mixed T_ok Tryd.func10 rfl (by kernel_rfl) (by kernel_rfl) (by kernel_rfl) ?_
        repeat' ((conv => whnf); first | (refine vcall_pure (c1) rfl rfl rfl ?_) | (refine vcallD_pure (c1) rfl rfl rfl ?_) | (refine br_dec (fun h => ?_) (fun h => ?_) <;> try (exfalso; omega)) | (refine br_ndec (fun h => ?_) (fun h => ?_) <;> try (exfalso; omega)) | refine br_seq (fun h => ?_) (fun h => ?_) | refine br_nseq (fun h => ?_) (fun h => ?_) | refine br_not (fun h => ?_) (fun h => ?_) | refine br_intro (fun h => ?_) (fun h => ?_) | refine cond_intro rfl ?_ | (refine cond_intro ⟨rfl, ?_⟩ ?_; (first | omega | (dsimp only; omega) | decide)) | (refine cond_intro ?_ ?_; (first | omega | (dsimp only; omega) | decide | (simp only [Nat.add_zero, Int.toNat_natCast, *]; omega))))
        all_goals (conv => whnf)
        all_goals first
          | exact ret_pure rfl
          | (exfalso; omega)
      | true =>
        rw [e1] at c1
        cases e2 : sufB s ⟨#[32]⟩ with
        | true =>
          have hE : alE s w = 2 := by unfold alE alOk; rw [if_neg h1, if_neg h2, e1, e2]; rfl
          have hS : alS s w = ⟨#[]⟩ := by unfold alS; rw [hE]; rfl
          rw [hE, hS]
          rw [e2] at c2
          refine fc_of mixed T_ok Tryd.func10 rfl (by kernel_rfl) (by kernel_rfl) (by kernel_rfl) ?_
          repeat' ((conv => whnf); first | (refine vcall_pure (c1) rfl rfl rfl ?_) | (refine vcallD_pure (c1) rfl rfl rfl ?_) | (refine vcall_pure (c2) rfl rfl rfl ?_) | (refine vcallD_pure (c2) rfl rfl rfl ?_) | (refine br_dec (fun h => ?_) (fun h => ?_) <;> try (exfalso; omega)) | (refine br_ndec (fun h => ?_) (fun h => ?_) <;> try (exfalso; omega)) | refine br_seq (fun h => ?_) (fun h => ?_) | refine br_nseq (fun h => ?_) (fun h => ?_) | refine br_not (fun h => ?_) (fun h => ?_) | refine br_intro (fun h => ?_) (fun h => ?_) | refine cond_intro rfl ?_ | (refine cond_intro ⟨rfl, ?_⟩ ?_; (first | omega | (dsimp only; omega) | decide)) | (refine cond_intro ?_ ?_; (first | omega | (dsimp only; omega) | decide | (simp only [Nat.add_zero, Int.toNat_natCast, *]; omega))))
          all_goals (conv => whnf)
          all_goals first
            | exact ret_pure rfl
            | (exfalso; omega)
        | false =>
          have hE : alE s w = 0 := by unfold alE alOk; rw [if_neg h1, if_neg h2, e1, e2]; rfl
          have hS : alS s w = s ++ bytesOf (List.replicate (w.toNat - s.size) 32) := by unfold alS; rw [hE]; rfl
          rw [hE, hS]
          rw [e2] at c2
          have c3 := str_RepeatN (w.toNat - s.size) (by omega)
          have wc : ((w.toNat - s.size : Nat) : Int) = IntKind.i64.wrap (w - (s.size : Int)) := by rw [w64_in (by omega) (by omega)]; omega
          rw [wc] at c3
          refine fc_of mixed T_ok Tryd.func10 rfl (by kernel_rfl) (by kernel_rfl) (by kernel_rfl) ?_
          repeat' ((conv => whnf); first | (refine vcall_pure (c1) rfl rfl rfl ?_) | (refine vcallD_pure (c1) rfl rfl rfl ?_) | (refine vcall_pure (c2) rfl rfl rfl ?_) | (refine vcallD_pure (c2) rfl rfl rfl ?_) | (refine vcall_pure (c3) rfl rfl rfl ?_) | (refine vcallD_pure (c3) rfl rfl rfl ?_) | (refine cond_intro ?_ ?_; (rw [bytesOf_size, List.length_replicate]; omega)) | (refine br_dec (fun h => ?_) (fun h => ?_) <;> try (exfalso; omega)) | (refine br_ndec (fun h => ?_) (fun h => ?_) <;> try (exfalso; omega)) | refine br_seq (fun h => ?_) (fun h => ?_) | refine br_nseq (fun h => ?_) (fun h => ?_) | refine br_not (fun h => ?_) (fun h => ?_) | refine br_intro (fun h => ?_) (fun h => ?_) | refine cond_intro rfl ?_ | (refine cond_intro ⟨rfl, ?_⟩ ?_; (first | omega | (dsimp only; omega) | decide)) | (refine cond_intro ?_ ?_; (first | omega | (dsimp only; omega) | decide | (simp only [Nat.add_zero, Int.toNat_natCast, *]; omega))))
          all_goals (conv => whnf)
          all_goals first
            | exact ret_pure rfl
            | (exfalso; omega)

/-- The value of a hexadecimal digit, or -1. -/
def hxI (c : Int) : Int := if 48 ≤ c ∧ c ≤ 57 then c - 48 else if 97 ≤ c ∧ c ≤ 102 then c - 87 else -1
theorem hx_all : ((List.range 256).map fun k => Lib.indexByte [48, 49, 50, 51, 52, 53, 54, 55, 56, 57, 97, 98, 99, 100, 101, 102] (k.toUInt8)) = (List.range 256).map fun k : Nat => hxI (k : Int) := by kernel_rfl
theorem hx_at {c : Int} (h0 : 0 ≤ c) (h1 : c ≤ 255) : Lib.indexByte [48, 49, 50, 51, 52, 53, 54, 55, 56, 57, 97, 98, 99, 100, 101, 102] c.toNat.toUInt8 = hxI c := by
  have h := congrArg (fun l => l[c.toNat]?) hx_all
  have hc : c.toNat < 256 := by omega
  simp only [List.getElem?_map, List.getElem?_range hc, Option.map_some, Option.some.injEq] at h
  rw [h, Int.toNat_of_nonneg h0]
theorem hx_bd (c : Int) : -1 ≤ hxI c ∧ hxI c ≤ 15 := by unfold hxI; split; omega; split <;> omega
theorem str_IndexHex (c : Int) (h0 : 0 ≤ c) (h1 : c ≤ 255) : Pure Tryd.prog 40 [.str ⟨#[48, 49, 50, 51, 52, 53, 54, 55, 56, 57, 97, 98, 99, 100, 101, 102]⟩, .int .u8 c] (.int .i64 (hxI c)) := by
  refine pure_of_calls (vals := [.string ⟨#[48, 49, 50, 51, 52, 53, 54, 55, 56, 57, 97, 98, 99, 100, 101, 102]⟩, .int .u8 c]) (v := .int .i64 (hxI c)) (bodied_of' Tryd.func40 (by kernel_rfl) (by kernel_rfl)) ?_ ?_ ?_
  · intro g vs h
    simpa [Rvs, Rv] using h
  · intro g; simp [Rv]
  · intro w
    have h := Tryd.strings_IndexByte ⟨#[48, 49, 50, 51, 52, 53, 54, 55, 56, 57, 97, 98, 99, 100, 101, 102]⟩ c w
    rw [show (⟨#[48, 49, 50, 51, 52, 53, 54, 55, 56, 57, 97, 98, 99, 100, 101, 102]⟩ : ByteArray).data.toList = [48, 49, 50, 51, 52, 53, 54, 55, 56, 57, 97, 98, 99, 100, 101, 102] from rfl, hx_at h0 h1] at h
    refine h.mono ?_
    rintro e w' ⟨rfl, rfl⟩
    exact ⟨rfl, Below.refl _ _⟩
end Go.Proofs.YtkbajejkllkahaaDoor
