/- Contracts of package account: the sums, and what is looked up. -/
import Derived.Test.YthnmooholhellaaDoorAccC
namespace Go.Proofs.YthnmooholhellaaDoor
open Go.RowKit Go.Sy
attribute [local irreducible] vcall vloop vcallD retP
set_option maxRecDepth 100000
set_option linter.unusedVariables false
set_option linter.unusedSimpArgs false

theorem nodup_len : ∀ (n : Nat) (sn : List Nat), sn.Nodup → (∀ i ∈ sn, i < n) → sn.length ≤ n
  | 0, sn, _, h => by cases sn with | nil => simp | cons x r => exact absurd (h x (by simp)) (by omega)
  | n + 1, sn, hd, h => by
    by_cases hm : n ∈ sn
    · have := nodup_len n (sn.erase n) (hd.erase n) (fun i hi => by
        have h1 := h i (List.mem_of_mem_erase hi)
        have h2 : i ≠ n := fun e => by subst e; exact (hd.not_mem_erase) hi
        omega)
      rw [List.length_erase_of_mem hm] at this
      omega
    · have := nodup_len n sn hd (fun i hi => by
        have h1 := h i hi
        have h2 : i ≠ n := fun e => by subst e; exact hm hi
        omega)
      omega
theorem nodup_cons_lt {n i : Nat} {sn : List Nat} (hd : sn.Nodup) (h : ∀ i ∈ sn, i < n) (hi : i < n) (hn : ¬ i ∈ sn) : sn.length < n := by
  have := nodup_len n (i :: sn) (List.nodup_cons.2 ⟨hn, hd⟩) (fun x hx => by rcases List.mem_cons.1 hx with rfl | hx; exact hi; exact h x hx)
  simp only [List.length_cons] at this
  omega

def Acc.held (a : Acc) : Int := IntKind.i64.wrap a.vs.sum
def Acc.avail (a : Acc) : Int := IntKind.i64.wrap (IntKind.i64.wrap (a.bal + a.lim) - a.held)

theorem acc_Held (a : Acc) (hv : a.vs.length = a.n) : FC Tryd.prog 3 15 [.ptr 1 0 0 0] (accR a) (isOut (.int .i64 a.held) [] 3) := by
  refine fc_of mixed T_ok Tryd.func15 rfl (by kernel_rfl) (by kernel_rfl) (by kernel_rfl) ?_
  repeat' ((conv => whnf); first | (refine br_dec (fun h => ?_) (fun h => ?_) <;> try (exfalso; omega)) | (refine br_ndec (fun h => ?_) (fun h => ?_) <;> try (exfalso; omega)) | refine br_seq (fun h => ?_) (fun h => ?_) | refine br_nseq (fun h => ?_) (fun h => ?_) | refine br_not (fun h => ?_) (fun h => ?_) | refine br_intro (fun h => ?_) (fun h => ?_) | refine cond_intro rfl ?_ | (refine cond_intro ⟨rfl, ?_⟩ ?_; (first | omega | (dsimp only; omega) | decide)) | (refine cond_intro ?_ ?_; (first | omega | (dsimp only; omega) | decide | (simp only [Nat.add_zero, Int.toNat_natCast, *]; omega))))
  all_goals (conv => whnf)
  refine vloop_of (fun sn : List Nat => ⟨[(12, .ptr 3 0 0 0), (3, .int .i64 (IntKind.i64.wrap (sumAt a.vs sn)))], (3, some (.one false (.obj (.iter 2 0 a.bs a.ck sn)))) :: accR a, 4⟩) (fun sn => sn.Nodup ∧ ∀ i ∈ sn, i < a.n) (fun sn => a.n - sn.length) [] [0, 1, 2, 3] [] ⟨rfl, ⟨rfl, rfl, trivial⟩, ⟨rfl, rfl, rfl, trivial⟩⟩ ⟨List.nodup_nil, by simp⟩ ?_
  rintro sn ⟨hd, hl⟩
  repeat' ((conv => whnf); first | (refine ⟨⟨rfl, rfl⟩, fun i hi hni => ?_, fun hall => ?_⟩) | (refine br_dec (fun h => ?_) (fun h => ?_) <;> try (exfalso; omega)) | (refine br_ndec (fun h => ?_) (fun h => ?_) <;> try (exfalso; omega)) | refine br_seq (fun h => ?_) (fun h => ?_) | refine br_nseq (fun h => ?_) (fun h => ?_) | refine br_not (fun h => ?_) (fun h => ?_) | refine br_intro (fun h => ?_) (fun h => ?_) | refine cond_intro rfl ?_ | (refine cond_intro ⟨rfl, ?_⟩ ?_; (first | omega | (dsimp only; omega) | decide)) | (refine cond_intro ?_ ?_; (first | omega | (dsimp only; omega) | decide | (simp only [Nat.add_zero, Int.toNat_natCast, *]; omega))))
  all_goals (conv => whnf)
  · have := nodup_cons_lt hd hl hi hni
    refine ⟨i :: sn, [0, 1, 2, 3], [], ⟨List.nodup_cons.2 ⟨hni, hd⟩, fun x hx => ?_⟩, by simp only [List.length_cons]; omega, ⟨rfl, ⟨rfl, ?_, trivial⟩, ⟨rfl, rfl, rfl, trivial⟩⟩⟩
    · rcases List.mem_cons.1 hx with rfl | hx
      · exact hi
      · exact hl x hx
    · refine congrArg (fun z => some (SV.int .i64 z)) ?_
      show IntKind.i64.wrap (IntKind.i64.wrap (sumAt a.vs sn) + a.vs.getD i 0) = _
      rw [wrap_add]
      unfold sumAt
      rw [List.map_cons, List.sum_cons, Int.add_comm]
  · have e : a.held = IntKind.i64.wrap (sumAt a.vs sn) := by unfold Acc.held; rw [sumAt_all hv hd hl hall]
    rw [e]
    exact ret_out (l := [0, 1, 2]) rfl rfl trivial allRw_nil

theorem acc_Balance (a : Acc) : FC Tryd.prog 3 16 [.ptr 1 0 0 0] (accR a) (isOut (.int .i64 a.bal) [] 3) := by
  refine fc_of mixed T_ok Tryd.func16 rfl (by kernel_rfl) (by kernel_rfl) (by kernel_rfl) ?_
  repeat' ((conv => whnf); first | (refine br_dec (fun h => ?_) (fun h => ?_) <;> try (exfalso; omega)) | (refine br_ndec (fun h => ?_) (fun h => ?_) <;> try (exfalso; omega)) | refine br_seq (fun h => ?_) (fun h => ?_) | refine br_nseq (fun h => ?_) (fun h => ?_) | refine br_not (fun h => ?_) (fun h => ?_) | refine br_intro (fun h => ?_) (fun h => ?_) | refine cond_intro rfl ?_ | (refine cond_intro ⟨rfl, ?_⟩ ?_; (first | omega | (dsimp only; omega) | decide)) | (refine cond_intro ?_ ?_; (first | omega | (dsimp only; omega) | decide | (simp only [Nat.add_zero, Int.toNat_natCast, *]; omega))))
  all_goals (conv => whnf)
  all_goals exact ret_out (l := [0, 1, 2]) rfl rfl trivial allRw_nil
theorem acc_Available (a : Acc) (hv : a.vs.length = a.n) : FC Tryd.prog 3 20 [.ptr 1 0 0 0] (accR a) (isOut (.int .i64 a.avail) [] 3) := by
  have c := acc_Held a hv
  refine fc_of mixed T_ok Tryd.func20 rfl (by kernel_rfl) (by kernel_rfl) (by kernel_rfl) ?_
  repeat' ((conv => whnf); first | (refine vcall_out (l :=  [0, 1, 2]) (c ) ⟨rfl, rfl, rfl, rfl, (by (repeat' (first | exact trivial | exact GB_wf | constructor)); first | done | fail), (by (repeat' (first | exact trivial | exact GB_fits rfl | constructor)); first | done | fail)⟩ ?_) | (refine vcallD_out (l :=  [0, 1, 2]) (c ) ⟨rfl, rfl, rfl, rfl, (by (repeat' (first | exact trivial | exact GB_wf | constructor)); first | done | fail), (by (repeat' (first | exact trivial | exact GB_fits rfl | constructor)); first | done | fail)⟩ ?_) | (refine br_dec (fun h => ?_) (fun h => ?_) <;> try (exfalso; omega)) | (refine br_ndec (fun h => ?_) (fun h => ?_) <;> try (exfalso; omega)) | refine br_seq (fun h => ?_) (fun h => ?_) | refine br_nseq (fun h => ?_) (fun h => ?_) | refine br_not (fun h => ?_) (fun h => ?_) | refine br_intro (fun h => ?_) (fun h => ?_) | refine cond_intro rfl ?_ | (refine cond_intro ⟨rfl, ?_⟩ ?_; (first | omega | (dsimp only; omega) | decide)) | (refine cond_intro ?_ ?_; (first | omega | (dsimp only; omega) | decide | (simp only [Nat.add_zero, Int.toNat_natCast, *]; omega))))
  all_goals (conv => whnf)
  all_goals exact ret_out (l := [0, 1, 2]) rfl rfl trivial allRw_nil
theorem acc_Open (a : Acc) (id : ByteArray) : FC Tryd.prog 3 14 [.ptr 1 0 0 0, .str id] (accR a) (isOut (.tup [.int .i64 (a.get id), .bool (a.has id)]) [] 3) := by
  refine fc_of mixed T_ok Tryd.func14 rfl (by kernel_rfl) (by kernel_rfl) (by kernel_rfl) ?_
  repeat' ((conv => whnf); first | (refine br_dec (fun h => ?_) (fun h => ?_) <;> try (exfalso; omega)) | (refine br_ndec (fun h => ?_) (fun h => ?_) <;> try (exfalso; omega)) | refine br_seq (fun h => ?_) (fun h => ?_) | refine br_nseq (fun h => ?_) (fun h => ?_) | refine br_not (fun h => ?_) (fun h => ?_) | refine br_intro (fun h => ?_) (fun h => ?_) | refine cond_intro rfl ?_ | (refine cond_intro ⟨rfl, ?_⟩ ?_; (first | omega | (dsimp only; omega) | decide)) | (refine cond_intro ?_ ?_; (first | omega | (dsimp only; omega) | decide | (simp only [Nat.add_zero, Int.toNat_natCast, *]; omega))))
  all_goals (conv => whnf)
  all_goals exact ret_out (l := [0, 1, 2]) rfl rfl trivial allRw_nil

theorem keys_fc (n : Nat) (ks : List ByteArray) (vs : List Int) (bs : List Nat) (ck : Nat) : FC Tryd.prog 2 37 [.map 1 0] [] (isOut (.fn 52 [.ptr 2 0 0 0]) [(2, some (.one false (.cells [.map 1 0])))] 3) := by
  refine fc_of mixed T_ok Tryd.func37 rfl (by kernel_rfl) (by kernel_rfl) (by kernel_rfl) ?_
  repeat' ((conv => whnf); first | (refine br_dec (fun h => ?_) (fun h => ?_) <;> try (exfalso; omega)) | (refine br_ndec (fun h => ?_) (fun h => ?_) <;> try (exfalso; omega)) | refine br_seq (fun h => ?_) (fun h => ?_) | refine br_nseq (fun h => ?_) (fun h => ?_) | refine br_not (fun h => ?_) (fun h => ?_) | refine br_intro (fun h => ?_) (fun h => ?_) | refine cond_intro rfl ?_ | (refine cond_intro ⟨rfl, ?_⟩ ?_; (first | omega | (dsimp only; omega) | decide)) | (refine cond_intro ?_ ?_; (first | omega | (dsimp only; omega) | decide | (simp only [Nat.add_zero, Int.toNat_natCast, *]; omega))))
  all_goals (conv => whnf)
  all_goals exact ret_out (l := [0, 1, 2]) rfl rfl ⟨rfl, trivial⟩ (allRw_cons allRw_nil)
theorem bodied_of {P : Program} {f : FuncId} {fn : Func} (h : P.funcs[f]? = some fn) (hb : fn.body.isSome = true) (hn : (fn.name == "runtime.NumGoroutine") = false) : bodied P f := by
  obtain ⟨c, hc⟩ := Option.isSome_iff_exists.1 hb
  exact ⟨fn, c, h, hc, hn⟩
theorem sorted_fc {n : Nat} {ks : List ByteArray} (vs : List Int) (bs : List Nat) (ck : Nat) (hn : n ≤ 100000) (hz : ∀ s ∈ ks, s.size ≤ 9223372036854775807) (hnd : ks.Nodup) :
    FC Tryd.prog 3 36 [.fn 52 [.ptr 2 0 0 0]] [(1, some (.one true (.obj (.map false false n [.strs ks] [.sc (.ints .i64 vs)] bs ck)))), (2, some (.one true (.cells [.map 1 0])))] (isOut (.sl 3 0 0 n) [(3, some (.one false (.cols n [.sc (.strs (sortS ks))])))] 4) :=
  fc_sorted (ρ := Tryd.keys37_ren) (ρ' := Tryd.sorted_ren) rfl rfl rfl { Tryd.keys37 with } Tryd.sorted
    (fun m => ⟨fun blk off cap ss W hH hblk hsz => callsIn_wide.2 (AnyM.slices_Sort_string Tryd.sortS blk off cap ss W hH hblk hsz), fun p cap W => callsIn_wide.2 (AnyM.slices_Sort_string_none Tryd.sortS p cap W)⟩)
    (bodied_of Tryd.func36 (by kernel_rfl) (by kernel_rfl)) (enters_of Tryd.func51 (by kernel_rfl) rfl) (enters_of Tryd.func52 (by kernel_rfl) rfl) Tryd.underlying9 hn hz hnd

theorem acc_Holds (a : Acc) (hn : a.n ≤ 100000) (hz : ∀ s ∈ a.ks, s.size ≤ 9223372036854775807) (hnd : a.ks.Nodup) : FC Tryd.prog 3 18 [.ptr 1 0 0 0] (accR a) (isOut (.sl 3 0 0 a.n) [(3, some (.one false (.cols a.n [.sc (.strs (sortS a.ks))])))] 4) := by
  have c1 := keys_fc a.n a.ks a.vs a.bs a.ck
  have c2 := sorted_fc a.vs a.bs a.ck hn hz hnd
  refine fc_of mixed T_ok Tryd.func18 rfl (by kernel_rfl) (by kernel_rfl) (by kernel_rfl) ?_
  repeat' ((conv => whnf); first | (refine vcall_out (l :=  [0, 2]) (c1 ) ⟨rfl, rfl, rfl, rfl, (by (repeat' (first | exact trivial | exact GB_wf | constructor)); first | done | fail), (by (repeat' (first | exact trivial | exact GB_fits rfl | constructor)); first | done | fail)⟩ ?_) | (refine vcall_out (l :=  [0, 2, 3]) (c2 ) ⟨rfl, rfl, rfl, rfl, (by (repeat' (first | exact trivial | exact GB_wf | constructor)); first | done | fail), (by (repeat' (first | exact trivial | exact GB_fits rfl | constructor)); first | done | fail)⟩ ?_) | (refine br_dec (fun h => ?_) (fun h => ?_) <;> try (exfalso; omega)) | (refine br_ndec (fun h => ?_) (fun h => ?_) <;> try (exfalso; omega)) | refine br_seq (fun h => ?_) (fun h => ?_) | refine br_nseq (fun h => ?_) (fun h => ?_) | refine br_not (fun h => ?_) (fun h => ?_) | refine br_intro (fun h => ?_) (fun h => ?_) | refine cond_intro rfl ?_ | (refine cond_intro ⟨rfl, ?_⟩ ?_; (first | omega | (dsimp only; omega) | decide)) | (refine cond_intro ?_ ?_; (first | omega | (dsimp only; omega) | decide | (simp only [Nat.add_zero, Int.toNat_natCast, *]; omega))))
  all_goals (conv => whnf)
  all_goals exact ret_out (l := [0, 1, 2, 4]) rfl rfl ⟨rfl, trivial⟩ (allRw_cons allRw_nil)
end Go.Proofs.YthnmooholhellaaDoor
