/- Contracts of package route: the parties in ascending order; the law's own functions. -/
import Derived.Test.YtkmbnniikncaiaaRtC6
import Derived.Test.YtkmbnniikncaiaaYPlain
import Derived.Test.YtkmbnniikncaiaaSortP
import Derived.Test.YtkmbnniikncaiaaLay
import Derived.Test.YtkmbnniikncaiaaYLaw
namespace Go.Proofs.Ytkmbnniikncaiaa
open Go.RowKit Go.Sy
attribute [local irreducible] vcall vloop vcallD retP
set_option maxRecDepth 100000
set_option linter.unusedVariables false
set_option linter.unusedSimpArgs false

theorem str_Sort (n : Nat) (l : List ByteArray) (hn : n < 4611686018427387904) : FC Try.prog 2 27 [.sl 1 0 0 n] [(1, some (.one false (.cols n [.sc (.strs l)])))] (isOut (.tup []) [(1, some (.one false (.cols n [.sc (.strs (sortS l))])))] 2) :=
  fc_sortS ⟨fun blk off cap ss W hH hblk hsz => AnyM.slices_Sort_string Try.sortS blk off cap ss W hH hblk hsz, fun p cap W => AnyM.slices_Sort_string_none Try.sortS p cap W⟩ (bodied_of Try.func27 (by kernel_rfl) (by kernel_rfl)) n l hn

theorem rt_PartiesN : FC Try.prog 1 13 [.nptr] [] (isOut .nsl [] 1) := by
  refine fc_of mixed T_ok Try.func13 rfl (by kernel_rfl) (by kernel_rfl) (by kernel_rfl) ?_
  repeat' ((conv => whnf); first | (refine br_dec (fun h => ?_) (fun h => ?_) <;> try (exfalso; (try dsimp only at h); omega)) | (refine br_ndec (fun h => ?_) (fun h => ?_) <;> try (exfalso; (try dsimp only at h); omega)) | refine br_seq (fun h => ?_) (fun h => ?_) | refine br_nseq (fun h => ?_) (fun h => ?_) | refine br_not (fun h => ?_) (fun h => ?_) | refine br_intro (fun h => ?_) (fun h => ?_) | refine cond_intro rfl ?_ | (refine cond_intro ⟨rfl, ?_⟩ ?_; (first | omega | (dsimp only; omega) | decide)) | (refine cond_intro ?_ ?_; (first | omega | (dsimp only; omega) | decide | (simp only [Nat.add_zero, Int.toNat_natCast, *]; omega))))
  all_goals (conv => whnf)
  all_goals exact ret_out (l := [0]) rfl rfl trivial allRw_nil
/-- The keys of the rows that were visited, in the order of the visits. -/
def kyL (ks : List ByteArray) (sn : List Nat) : List ByteArray := sn.reverse.map (fun i => ks.getD i ⟨#[]⟩)
theorem kyL_cons (ks : List ByteArray) (i : Nat) (sn : List Nat) : kyL ks (i :: sn) = kyL ks sn ++ [ks.getD i ⟨#[]⟩] := by simp [kyL]
theorem rt_Parties (r : Rt) (hn : r.n ≤ 100000) (hk : r.ks.length = r.n) : FC Try.prog 5 13 [.ptr 1 0 0 0] (ctR r) (isOut (.sl 5 0 0 r.n) [(5, some (.one false (.cols r.n [.sc (.strs (sortS r.ks))])))] 6) := by
  refine fc_of mixed T_ok Try.func13 rfl (by kernel_rfl) (by kernel_rfl) (by kernel_rfl) ?_
  repeat' ((conv => whnf); first | (refine br_dec (fun h => ?_) (fun h => ?_) <;> try (exfalso; (try dsimp only at h); omega)) | (refine br_ndec (fun h => ?_) (fun h => ?_) <;> try (exfalso; (try dsimp only at h); omega)) | refine br_seq (fun h => ?_) (fun h => ?_) | refine br_nseq (fun h => ?_) (fun h => ?_) | refine br_not (fun h => ?_) (fun h => ?_) | refine br_intro (fun h => ?_) (fun h => ?_) | refine cond_intro rfl ?_ | (refine cond_intro ⟨rfl, ?_⟩ ?_; (first | omega | (dsimp only; omega) | decide)) | (refine cond_intro ?_ ?_; (first | omega | (dsimp only; omega) | decide | (simp only [Nat.add_zero, Int.toNat_natCast, *]; omega))))
  all_goals (conv => whnf)
  refine vloop_of (fun sn : List Nat => ⟨[(11, .ptr 5 0 0 0), (3, .sl 6 0 0 sn.length)], (5, some (.one false (.obj (.iter 4 0 r.bs r.ck sn)))) :: (6, some (.one false (.cols sn.length [.sc (.strs (kyL r.ks sn))]))) :: ctR r, 7⟩) (fun sn => sn.Nodup ∧ ∀ i ∈ sn, i < r.n) (fun sn => r.n - sn.length) [] [0, 1, 2, 3, 4, 5, 6] [.slot 3 [.sc (.strs [])]] ⟨rfl, ⟨rfl, rfl, trivial⟩, ⟨rfl, rfl, rfl, rfl, trivial⟩⟩ ⟨List.nodup_nil, by simp⟩ ?_
  rintro sn ⟨hd, hl⟩
  have hsz : sn.length ≤ r.n := nodup_len _ sn hd hl
  have cs := str_Sort sn.length (kyL r.ks sn) (by omega)
  repeat' ((conv => whnf); first | (refine ⟨⟨rfl, rfl⟩, fun i hi hni => ?_, fun hall => ?_⟩) | (refine vcall_out (l :=  [0, 6]) (cs ) ⟨rfl, rfl, rfl, rfl, (by (repeat' (first | exact trivial | exact GB_wf | constructor)); first | done | fail), (by (repeat' (first | exact trivial | exact GB_fits rfl | constructor)); first | done | fail)⟩ ?_) | (refine br_dec (fun h => ?_) (fun h => ?_) <;> try (exfalso; (try dsimp only at h); omega)) | (refine br_ndec (fun h => ?_) (fun h => ?_) <;> try (exfalso; (try dsimp only at h); omega)) | refine br_seq (fun h => ?_) (fun h => ?_) | refine br_nseq (fun h => ?_) (fun h => ?_) | refine br_not (fun h => ?_) (fun h => ?_) | refine br_intro (fun h => ?_) (fun h => ?_) | refine cond_intro rfl ?_ | (refine cond_intro ⟨rfl, ?_⟩ ?_; (first | omega | (dsimp only; omega) | decide)) | (refine cond_intro ?_ ?_; (first | omega | (dsimp only; omega) | decide | (simp only [Nat.add_zero, Int.toNat_natCast, *]; omega))))
  all_goals (conv => whnf)
  · have hlt := nodup_cons_lt hd hl hi hni
    refine ⟨i :: sn, [0, 1, 2, 3, 4, 5, 8], [], ⟨List.nodup_cons.2 ⟨hni, hd⟩, fun x hx => ?_⟩, by simp only [List.length_cons]; omega, ?_⟩
    · rcases List.mem_cons.1 hx with rfl | hx
      · exact hi
      · exact hl x hx
    · rw [kyL_cons]
      exact ⟨rfl, ⟨rfl, rfl, trivial⟩, ⟨rfl, rfl, rfl, rfl, trivial⟩⟩
  · have hp := perm_range hd hl hall
    have e1 : sn.length = r.n := by rw [hp.length_eq]; simp
    have e2 : sortS r.ks = sortS (kyL r.ks sn) := by
      refine sortS_congr ?_
      have h1 := (((List.reverse_perm sn).trans hp).map (fun i => r.ks.getD i ⟨#[]⟩))
      rw [← hk, map_range_getD] at h1
      exact h1.symm
    rw [e2, ← e1]
    exact ret_out (l := [0, 1, 2, 3, 4, 6]) rfl rfl ⟨rfl, trivial⟩ (allRw_cons allRw_nil)

theorem ref13_SameTexts (n m : Nat) (l k : List ByteArray) (hl : l.length = n) (hk : k.length = m) (hn : n ≤ 100000) : FC Try.prog 3 15 [.sl 1 0 0 n, .sl 2 0 0 m] [(1, some (.one true (.cols n [.sc (.strs l)]))), (2, some (.one true (.cols m [.sc (.strs k)])))] (isOut (.bool (decide (l = k))) [] 3) := by
  refine fc_of mixed T_ok Try.func15 rfl (by kernel_rfl) (by kernel_rfl) (by kernel_rfl) ?_
  repeat' ((conv => whnf); first | (refine br_dec (fun h => ?_) (fun h => ?_) <;> try (exfalso; (try dsimp only at h); omega)) | (refine br_ndec (fun h => ?_) (fun h => ?_) <;> try (exfalso; (try dsimp only at h); omega)) | refine br_seq (fun h => ?_) (fun h => ?_) | refine br_nseq (fun h => ?_) (fun h => ?_) | refine br_not (fun h => ?_) (fun h => ?_) | refine br_intro (fun h => ?_) (fun h => ?_) | refine cond_intro rfl ?_ | (refine cond_intro ⟨rfl, ?_⟩ ?_; (first | omega | (dsimp only; omega) | decide)) | (refine cond_intro ?_ ?_; (first | omega | (dsimp only; omega) | decide | (simp only [Nat.add_zero, Int.toNat_natCast, *]; omega))))
  all_goals (conv => whnf)
  · have e : decide (l = k) = false := decide_eq_false (fun e => by subst e; omega)
    rw [e]; exact ret_out (l := [0, 1, 2]) rfl rfl trivial allRw_nil
  · refine vloop_of (fun i : Nat => ⟨[(0, .sl 1 0 0 n), (1, .sl 2 0 0 m), (5, .int .i64 i)], [(1, some (.one true (.cols n [.sc (.strs l)]))), (2, some (.one true (.cols m [.sc (.strs k)])))], 3⟩) (fun i => i ≤ n ∧ l.take i = k.take i) (fun i => n - i) 0 [0, 1, 2] [] ⟨rfl, ⟨rfl, rfl, rfl, trivial⟩, ⟨rfl, rfl, trivial⟩⟩ ⟨by omega, rfl⟩ ?_
    rintro i ⟨hi, ht⟩
    repeat' ((conv => whnf); first | (refine br_dec (fun h => ?_) (fun h => ?_) <;> try (exfalso; (try dsimp only at h); omega)) | (refine br_ndec (fun h => ?_) (fun h => ?_) <;> try (exfalso; (try dsimp only at h); omega)) | refine br_seq (fun h => ?_) (fun h => ?_) | refine br_nseq (fun h => ?_) (fun h => ?_) | refine br_not (fun h => ?_) (fun h => ?_) | refine br_intro (fun h => ?_) (fun h => ?_) | refine cond_intro rfl ?_ | (refine cond_intro ⟨rfl, ?_⟩ ?_; (first | omega | (dsimp only; omega) | decide)) | (refine cond_intro ?_ ?_; (first | omega | (dsimp only; omega) | decide | (simp only [Nat.add_zero, Int.toNat_natCast, *]; omega))))
    all_goals (conv => whnf)
    · have hne : l.getD (i + 0) ⟨#[]⟩ ≠ k.getD (i + 0) ⟨#[]⟩ := h
      have e : decide (l = k) = false := decide_eq_false (fun e => hne (by rw [e]))
      rw [e]; exact ret_out (l := [0, 1, 2]) rfl rfl trivial allRw_nil
    · have he : l.getD (i + 0) ⟨#[]⟩ = k.getD (i + 0) ⟨#[]⟩ := h
      refine ⟨i + 1, [0, 1, 2], [], ⟨by omega, ?_⟩, by omega, ⟨rfl, ⟨rfl, rfl, congrArg (fun z => some (SV.int .i64 z)) (i64_succ (by omega)), trivial⟩, ⟨rfl, rfl, trivial⟩⟩⟩
      have h1 : i < l.length := by omega
      have h2 : i < k.length := by omega
      rw [List.take_succ_eq_append_getElem h1, List.take_succ_eq_append_getElem h2, ht]
      simp only [Nat.add_zero, List.getD, List.getElem?_eq_getElem h1, List.getElem?_eq_getElem h2, Option.getD_some] at he
      rw [he]
    · have e : decide (l = k) = true := decide_eq_true (by
        have : i = n := by omega
        subst this
        rw [List.take_of_length_le (by omega), List.take_of_length_le (by omega)] at ht
        exact ht)
      rw [e]; exact ret_out (l := [0, 1, 2]) rfl rfl trivial allRw_nil
end Go.Proofs.Ytkmbnniikncaiaa
