/- The laws of package disk: short, is, write. -/
import Derived.Test.YtmbbmdccpmmifaaDiskL
namespace Go.Proofs.Ytmbbmdccpmmifaa
open Go.RowKit Go.Sy
attribute [local irreducible] vcall vloop vcallD retP
set_option maxRecDepth 100000
set_option linter.unusedVariables false

/-- At most 60 changes, of strings of at most 64 bytes. -/
def shortB (n : Nat) (ct : List ByteArray) : Bool := decide (n ≤ 60 ∧ ∀ i, i < n → (ct.getD i ⟨#[]⟩).size ≤ 64)

theorem shortB_no {n k : Nat} {ct : List ByteArray} (h : k < n) (hk : 60 ≤ k ∨ 64 < (ct.getD k ⟨#[]⟩).size) : shortB n ct = false := by
  unfold shortB
  rw [decide_eq_false_iff_not]
  rintro ⟨h1, h2⟩
  rcases hk with hk | hk
  · omega
  · have := h2 k h; omega

theorem law_short (n : Nat) (cn : List Int) (ct : List ByteArray) (hn : n ≤ maxLen) : FC Try.prog 2 7 [.sl 1 0 0 n] [(1, some (.one true (.cols n [.sc (.ints .u8 cn), .sc (.strs ct)])))] (isOut (.bool (shortB n ct)) [] 2) := by
  unfold maxLen at hn
  refine fc_of mixed T_ok Try.func7 rfl (by kernel_rfl) (by kernel_rfl) (by kernel_rfl) ?_
  (conv => whnf)
  refine vloop_of (fun k : Nat => ⟨[(0, .sl 1 0 0 n), (3, .int .i64 k)], [(1, some (.one true (.cols n [.sc (.ints .u8 cn), .sc (.strs ct)])))], 2⟩) (fun k => k ≤ n ∧ k ≤ 60 ∧ ∀ i, i < k → (ct.getD i ⟨#[]⟩).size ≤ 64) (fun k => n - k) 0 [0, 1] [] ⟨rfl, ⟨rfl, rfl, trivial⟩, ⟨rfl, trivial⟩⟩ ⟨by omega, by omega, fun i hi => by omega⟩ ?_
  rintro k ⟨hk, hk2, hall⟩
  repeat' ((conv => whnf); first | (refine br_dec (fun h => ?_) (fun h => ?_) <;> try (exfalso; omega)) | (refine br_ndec (fun h => ?_) (fun h => ?_) <;> try (exfalso; omega)) | refine br_seq (fun h => ?_) (fun h => ?_) | refine br_nseq (fun h => ?_) (fun h => ?_) | refine br_not (fun h => ?_) (fun h => ?_) | refine br_intro (fun h => ?_) (fun h => ?_) | (refine cond_intro ?_ ?_; (first | omega | (dsimp only; omega) | decide | (simp only [Nat.add_zero, Int.toNat_natCast, *]; omega))))
  all_goals (conv => whnf)
  all_goals first
    | (refine ret_out (l := [0, 1]) rfl ?_ trivial allRw_nil
       rw [shortB_no (k := k) (by omega) (by first | (left; omega) | (right; rename_i h; have h' : (64 : Int) < ((ct.getD k ⟨#[]⟩).size : Int) := h; omega))]; rfl)
    | (refine ⟨k + 1, [0, 1], [], ⟨by omega, by omega, ?_⟩, by omega, ⟨rfl, ⟨rfl, congrArg (fun z => some (SV.int .i64 z)) (i64_succ (by omega)), trivial⟩, ⟨rfl, trivial⟩⟩⟩
       intro i hi
       by_cases e : i = k
       · subst e; rename_i h; have h' : ¬ (64 : Int) < ((ct.getD i ⟨#[]⟩).size : Int) := h; omega
       · exact hall i (by omega))
    | (refine ret_out (l := [0, 1]) rfl ?_ trivial allRw_nil
       have e : k = n := by omega
       subst e
       rw [show shortB k ct = true from by unfold shortB; rw [decide_eq_true_eq]; exact ⟨hk2, hall⟩]; rfl)

theorem law_is (d : Dk) (h0 : d.ok) (hd : d.down = false) (h8 : d.nn = 8) (want : List ByteArray) (hw : want.length = 8) :
    FC Try.prog 5 14 [.ptr 1 0 0 0, .arr 8 [.strs want]] [(1, some (.one true (.cells (dkC 4 d)))), (3, some (.one true (.cols d.nn [.sc (.strs d.now)])))] (isOut (.bool (decide (d.now = want))) [] 5) := by
  have hr : ∀ k : Nat, k < 8 → readD d k = (d.now.getD k ⟨#[]⟩, 0) := by
    intro k hk
    unfold readD
    rw [if_neg (by simp [hd]), if_neg (by omega)]
    simp
  have hl := h0.nl
  refine fc_of mixed T_ok Try.func14 rfl (by kernel_rfl) (by kernel_rfl) (by kernel_rfl) ?_
  (conv => whnf)
  refine vloop_of (fun k : Nat => ⟨[(0, .ptr 1 0 0 0), (3, .ptr 5 0 0 0), (5, .int .i64 k)], [(1, some (.one true (.cells (dkC 4 d)))), (3, some (.one true (.cols d.nn [.sc (.strs d.now)]))), (5, some (.one false (.cols 8 [.sc (.strs want)])))], 6⟩) (fun k => k ≤ 8 ∧ ∀ i, i < k → d.now.getD i ⟨#[]⟩ = want.getD i ⟨#[]⟩) (fun k => 8 - k) 0 [0, 1, 2, 3, 4, 5] [] ⟨rfl, ⟨rfl, rfl, rfl, trivial⟩, ⟨rfl, rfl, rfl, trivial⟩⟩ ⟨by omega, fun i hi => by omega⟩ ?_
  rintro k ⟨hk, hall⟩
  by_cases hlt : k < 8
  · have hrd := disk_Read d k
    rw [hr k hlt] at hrd
    repeat' ((conv => whnf); first | (refine vcall_out (l :=  [0, 1, 2, 3, 4]) (hrd ) ⟨rfl, rfl, rfl, rfl, (by repeat' (first | exact trivial | constructor)), (by repeat' (first | exact trivial | constructor))⟩ ?_) | (refine br_dec (fun h => ?_) (fun h => ?_) <;> try (exfalso; omega)) | (refine br_ndec (fun h => ?_) (fun h => ?_) <;> try (exfalso; omega)) | refine br_seq (fun h => ?_) (fun h => ?_) | refine br_nseq (fun h => ?_) (fun h => ?_) | refine br_not (fun h => ?_) (fun h => ?_) | refine br_intro (fun h => ?_) (fun h => ?_) | (refine cond_intro ?_ ?_; (first | omega | (dsimp only; omega) | decide | (simp only [Nat.add_zero, Int.toNat_natCast, *]; omega))))
    all_goals (conv => whnf)
    · refine ret_out (l := [0, 1, 2, 3, 4]) rfl ?_ trivial allRw_nil
      have hne : d.now.getD k ⟨#[]⟩ ≠ want.getD k ⟨#[]⟩ := h
      rw [show decide (d.now = want) = false from by rw [decide_eq_false_iff_not]; intro e; exact hne (by rw [e])]; rfl
    · refine ⟨k + 1, [0, 1, 2, 3, 4, 5], [], ⟨by omega, ?_⟩, by omega, ⟨rfl, ⟨rfl, rfl, congrArg (fun z => some (SV.int .i64 z)) (i64_succ (by omega)), trivial⟩, ⟨rfl, rfl, rfl, trivial⟩⟩⟩
      intro i hi
      by_cases e : i = k
      · subst e; exact h
      · exact hall i (by omega)
  · repeat' ((conv => whnf); first | (refine br_dec (fun h => ?_) (fun h => ?_) <;> try (exfalso; omega)) | (refine br_ndec (fun h => ?_) (fun h => ?_) <;> try (exfalso; omega)) | refine br_seq (fun h => ?_) (fun h => ?_) | refine br_nseq (fun h => ?_) (fun h => ?_) | refine br_not (fun h => ?_) (fun h => ?_) | refine br_intro (fun h => ?_) (fun h => ?_) | (refine cond_intro ?_ ?_; (first | omega | (dsimp only; omega) | decide | (simp only [Nat.add_zero, Int.toNat_natCast, *]; omega))))
    all_goals (conv => whnf)
    refine ret_out (l := [0, 1, 2, 3, 4]) rfl ?_ trivial allRw_nil
    have e : d.now = want := by
      apply List.ext_getElem (by omega)
      intro i h1 h2
      have := hall i (by omega)
      rw [List.getD, List.getD, List.getElem?_eq_getElem h1, List.getElem?_eq_getElem h2] at this
      exact this
    rw [show decide (d.now = want) = true from by simp [e]]; rfl

/-- The first k changes written. -/
def wr (cn : List Int) (ct : List ByteArray) : Nat → Dk → Dk
  | 0, d => d
  | k + 1, d => putD (wr cn ct k d) ((cn.getD k 0) % 8) (ct.getD k ⟨#[]⟩)

structure Fit (d : Dk) : Prop where
  ok : d.ok
  run : d.down = false
  n8 : d.nn = 8
  s0 : d.steps = 0

theorem wr_np (cn : List Int) (ct : List ByteArray) (d : Dk) : ∀ k, (wr cn ct k d).np = d.np + k
  | 0 => rfl
  | k + 1 => by simp only [wr, putD, wr_np cn ct d k]; omega
theorem wr_fit (cn : List Int) (ct : List ByteArray) {d : Dk} (h : Fit d) : ∀ k, d.np + k ≤ 4096 → Fit (wr cn ct k d)
  | 0, _ => h
  | k + 1, hk => by
    have f := wr_fit cn ct h k (by omega)
    have hn := wr_np cn ct d k
    exact ⟨putD_ok f.ok (by rw [f.n8]; omega) (by omega), f.run, f.n8, f.s0⟩

theorem law_write (d : Dk) (h0 : Fit d) (n : Nat) (cn : List Int) (ct : List ByteArray) (hb : ∀ i, i < n → 0 ≤ cn.getD i 0 ∧ cn.getD i 0 ≤ 255) (hs : ∀ i, i < n → (ct.getD i ⟨#[]⟩).size ≤ 64) (hnp : d.np + n ≤ 4096) (hn : n ≤ 60) :
    FC Try.prog 6 10 [.ptr 1 0 0 0, .arr 8 [.strs d.now], .sl 5 0 0 n] ((5, some (.one true (.cols n [.sc (.ints .u8 cn), .sc (.strs ct)]))) :: dkH 4 d) (isOut (.tup [.arr 8 [.strs (wr cn ct n d).now], .bool true]) (dkH 6 (wr cn ct n d)) 7) := by
  refine fc_of mixed T_ok Try.func10 rfl (by kernel_rfl) (by kernel_rfl) (by kernel_rfl) ?_
  (conv => whnf)
  refine vloop_of (fun k : Nat => ⟨[(0, .ptr 1 0 0 0), (2, .sl 5 0 0 n), (4, .ptr 7 0 0 0), (6, .ptr 8 0 0 0), (8, .int .i64 k)],
    (7, some (.one false (.cols 8 [.sc (.strs (wr cn ct k d).now)]))) :: (8, some (.one false (.cols 8 [.sc (.strs (List.replicate 8 ⟨#[]⟩))]))) :: (5, some (.one true (.cols n [.sc (.ints .u8 cn), .sc (.strs ct)]))) :: dkH 6 (wr cn ct k d), 9⟩) (fun k => k ≤ n) (fun k => n - k) 0 [0, 1, 2, 3, 4, 5, 4, 6, 7] [] ⟨rfl, ⟨rfl, rfl, rfl, rfl, rfl, trivial⟩, ⟨rfl, rfl, rfl, rfl, rfl, rfl, rfl, trivial⟩⟩ (by omega) ?_
  intro k hk
  have f := wr_fit cn ct h0 k (by omega)
  by_cases hlt : k < n
  · have hbk := hb k hlt
    have hm : (cn.getD k 0).tmod 8 = cn.getD k 0 % 8 := Int.tmod_eq_emod_of_nonneg hbk.1
    have hnn := wr_np cn ct d k
    have hw := disk_Write (wr cn ct k d) f.ok (IntKind.i64.wrap ((cn.getD k 0).tmod 8)) (ct.getD k ⟨#[]⟩)
    rw [show writeD (wr cn ct k d) (IntKind.i64.wrap ((cn.getD k 0).tmod 8)) (ct.getD k ⟨#[]⟩) = (wr cn ct (k + 1) d, 0) from by
      rw [w64_in (by omega) (by omega), hm]
      unfold writeD
      have := f.n8
      have := hs k hlt
      rw [if_neg (by simp [f.run]), if_neg (by omega), if_neg (by omega), if_neg (by omega), if_neg (by rw [f.s0]; decide)]
      simp only [countD, putD, wr, f.s0]
      rfl] at hw
    repeat' ((conv => whnf); first | (refine vcallD_out (l :=  [0, 1, 2, 3, 6]) (hw ) ⟨rfl, rfl, rfl, rfl, (by repeat' (first | exact trivial | constructor)), (by repeat' (first | exact trivial | constructor))⟩ ?_) | (refine cond_intro (by rw [hm]; dsimp only; omega) ?_) | (refine br_dec (fun h => ?_) (fun h => ?_) <;> try (exfalso; omega)) | (refine br_ndec (fun h => ?_) (fun h => ?_) <;> try (exfalso; omega)) | refine br_seq (fun h => ?_) (fun h => ?_) | refine br_nseq (fun h => ?_) (fun h => ?_) | refine br_not (fun h => ?_) (fun h => ?_) | refine br_intro (fun h => ?_) (fun h => ?_) | (refine cond_intro ?_ ?_; (first | omega | (dsimp only; omega) | decide | (simp only [Nat.add_zero, Int.toNat_natCast, *]; omega))))
    all_goals (conv => whnf)
    refine ⟨k + 1, [0, 1, 2, 3, 4, 5, 9, 7, 8], [], by omega, by omega, ⟨rfl, ⟨rfl, rfl, rfl, rfl, congrArg (fun z => some (SV.int .i64 z)) (i64_succ (by omega)), trivial⟩, ⟨?_, rfl, rfl, rfl, rfl, rfl, rfl, trivial⟩⟩⟩
    refine congrArg (fun z => some (HB.one false (.cols 8 [.sc (.strs z)]))) ?_
    show (wr cn ct k d).now.set ((cn.getD k 0).tmod 8).toNat (ct.getD k ⟨#[]⟩) = (wr cn ct (k + 1) d).now
    rw [hm]; rfl
  · have e : k = n := by omega
    subst e
    repeat' ((conv => whnf); first | (refine br_dec (fun h => ?_) (fun h => ?_) <;> try (exfalso; omega)) | (refine br_ndec (fun h => ?_) (fun h => ?_) <;> try (exfalso; omega)) | refine br_seq (fun h => ?_) (fun h => ?_) | refine br_nseq (fun h => ?_) (fun h => ?_) | refine br_not (fun h => ?_) (fun h => ?_) | refine br_intro (fun h => ?_) (fun h => ?_) | (refine cond_intro ?_ ?_; (first | omega | (dsimp only; omega) | decide | (simp only [Nat.add_zero, Int.toNat_natCast, *]; omega))))
    all_goals (conv => whnf)
    exact ret_out (l := [0, 1, 2, 3, 4, 5, 6]) rfl rfl ⟨rfl, rfl, rfl, rfl, trivial⟩ (dkH_rw _ _)
end Go.Proofs.Ytmbbmdccpmmifaa
