/- Contracts of package account: identifications, amounts, the holds. -/
import Derived.Test.YthnmooholhellaaDoorMoneyC2
import Derived.Test.YthnmooholhellaaDoorYKeys
import Derived.Test.YthnmooholhellaaDoorLay
namespace Go.Proofs.YthnmooholhellaaDoor
open Go.RowKit Go.Sy
attribute [local irreducible] vcall vloop vcallD retP
set_option maxRecDepth 100000
set_option linter.unusedVariables false
set_option linter.unusedSimpArgs false

def idC (c : Int) : Prop := (97 ≤ c ∧ c ≤ 122) ∨ (65 ≤ c ∧ c ≤ 90) ∨ (48 ≤ c ∧ c ≤ 57) ∨ c = 95 ∨ c = 45
instance (c : Int) : Decidable (idC c) := by unfold idC; infer_instance
/-- An identification. -/
def idB (s : ByteArray) : Bool := decide (∀ k, k < s.size → idC (byteAt s (k : Int))) && decide (1 ≤ s.size) && decide (s.size ≤ 16)
theorem idB_no {s : ByteArray} {k : Nat} (h : k < s.size) (hc : ¬ idC (byteAt s (k : Int))) : idB s = false := by
  unfold idB
  rw [decide_eq_false (fun hh => hc (hh k h))]
  rfl
theorem idB_all {s : ByteArray} (h : ∀ k, k < s.size → idC (byteAt s (k : Int))) : idB s = (decide (1 ≤ s.size) && decide (s.size ≤ 16)) := by
  unfold idB
  rw [decide_eq_true h]
  rfl
theorem idB_size {s : ByteArray} (h : idB s = true) : s.size ≤ 16 := by
  unfold idB at h
  simp at h
  exact h.2
attribute [irreducible] idB

theorem to_succ {s : ByteArray} {k : Nat} (h : ∀ i, i < k → idC (byteAt s (i : Int))) (hk : idC (byteAt s (k : Int))) : ∀ i, i < k + 1 → idC (byteAt s (i : Int)) := by
  intro i hi
  by_cases e : i = k
  · subst e; exact hk
  · exact h i (by omega)

theorem i64_succ' {k : Nat} (h : k < 9223372036854775807) : IntKind.i64.wrap ((k : Int) + 1) = ((k + 1 : Nat) : Int) := by rw [w64_in (by omega) (by omega)]; rfl

theorem ne_size {s : ByteArray} (h : ¬ s = ⟨#[]⟩) : 1 ≤ s.size := by
  rcases Nat.eq_zero_or_pos s.size with e | e
  · exact absurd (ByteArray.ext (Array.eq_empty_of_size_eq_zero e)) h
  · exact e

theorem acc_isId (s : ByteArray) (hs : s.size ≤ 9223372036854775807) : Pure Tryd.prog 34 [.str s] (.bool (idB s)) := by
  refine fc_of mixed T_ok Tryd.func34 rfl (by kernel_rfl) (by kernel_rfl) (by kernel_rfl) ?_
  (conv => whnf)
  refine vloop_of (fun k : Nat => ⟨[(0, .str s), (6, .str s), (7, .int .i64 s.size), (8, .int .i64 k)], [], 1⟩) (fun k => k ≤ s.size ∧ ∀ i, i < k → idC (byteAt s (i : Int))) (fun k => s.size - k) 0 [0] [] ⟨rfl, ⟨rfl, rfl, rfl, rfl, trivial⟩, trivial⟩ ⟨by omega, fun i hi => by omega⟩ ?_
  rintro k ⟨hk, hc⟩
  repeat' ((conv => whnf); first | (refine br_dec (fun h => ?_) (fun h => ?_) <;> try (exfalso; omega)) | (refine br_ndec (fun h => ?_) (fun h => ?_) <;> try (exfalso; omega)) | refine br_seq (fun h => ?_) (fun h => ?_) | refine br_nseq (fun h => ?_) (fun h => ?_) | refine br_not (fun h => ?_) (fun h => ?_) | refine br_intro (fun h => ?_) (fun h => ?_) | refine cond_intro rfl ?_ | (refine cond_intro ⟨rfl, ?_⟩ ?_; (first | omega | (dsimp only; omega) | decide)) | (refine cond_intro ?_ ?_; (first | omega | (dsimp only; omega) | decide | (simp only [Nat.add_zero, Int.toNat_natCast, *]; omega))))
  all_goals (conv => whnf)
  all_goals first
    | exact ret_pure (by rw [idB_no (k := k) (by omega) (by unfold idC; omega)]; rfl)
    | exact ⟨k + 1, [0], [], ⟨by omega, to_succ hc (by unfold idC; omega)⟩, by omega, ⟨rfl, ⟨rfl, rfl, rfl, congrArg (fun z => some (SV.int .i64 z)) (i64_succ' (by omega)), trivial⟩, trivial⟩⟩
    | skip
  · have hne := ne_size h
    have e : k = s.size := by omega
    subst e
    refine ret_pure ?_
    rw [idB_all hc, decide_eq_true hne]
    show _ = SV.bool (true && decide (s.size ≤ 16))
    rw [Bool.true_and]
    exact congrArg SV.bool (decide_eq_decide.2 (by omega))
  · have e : k = s.size := by omega
    rw [e] at hc
    refine ret_pure ?_
    rw [idB_all hc, h]
    rfl

/-- An amount. -/
def amB (n : Int) : Bool := decide (1 ≤ n) && decide (n ≤ 999999999999)
theorem amB_iff {n : Int} : amB n = true ↔ 1 ≤ n ∧ n ≤ 999999999999 := by unfold amB; simp
theorem amB_no {n : Int} : amB n = false ↔ ¬ (1 ≤ n ∧ n ≤ 999999999999) := by rw [← amB_iff]; simp
attribute [irreducible] amB
theorem acc_isAmount (n : Int) : Pure Tryd.prog 33 [.int .i64 n] (.bool (amB n)) := by
  refine fc_of mixed T_ok Tryd.func33 rfl (by kernel_rfl) (by kernel_rfl) (by kernel_rfl) ?_
  repeat' ((conv => whnf); first | (refine br_dec (fun h => ?_) (fun h => ?_) <;> try (exfalso; omega)) | (refine br_ndec (fun h => ?_) (fun h => ?_) <;> try (exfalso; omega)) | refine br_seq (fun h => ?_) (fun h => ?_) | refine br_nseq (fun h => ?_) (fun h => ?_) | refine br_not (fun h => ?_) (fun h => ?_) | refine br_intro (fun h => ?_) (fun h => ?_) | refine cond_intro rfl ?_ | (refine cond_intro ⟨rfl, ?_⟩ ?_; (first | omega | (dsimp only; omega) | decide)) | (refine cond_intro ?_ ?_; (first | omega | (dsimp only; omega) | decide | (simp only [Nat.add_zero, Int.toNat_natCast, *]; omega))))
  all_goals (conv => whnf)
  · refine ret_pure (congrArg SV.bool ?_)
    by_cases hh : n ≤ 999999999999
    · rw [amB_iff.2 ⟨h, hh⟩]; exact decide_eq_true hh
    · rw [amB_no.2 (fun x => hh x.2)]; exact decide_eq_false hh
  · refine ret_pure (congrArg SV.bool ?_)
    rw [amB_no.2 (fun x => h x.1)]

/-- An account: the balance, the limit, the holds as the map has them. -/
structure Acc where
  bal : Int
  lim : Int
  n : Nat
  ks : List ByteArray
  vs : List Int
  bs : List Nat
  ck : Nat
def Acc.B (a : Acc) : Blk := .cells [.int .i64 a.bal, .int .i64 a.lim, .map 2 0]
def Acc.M (a : Acc) : Blk := .obj (.map false false a.n [.strs a.ks] [.sc (.ints .i64 a.vs)] a.bs a.ck)
abbrev accH (a : Acc) : Heap := [(1, some (.one false (.cells [.int .i64 a.bal, .int .i64 a.lim, .map 2 0]))), (2, some (.one false (.obj (.map false false a.n [.strs a.ks] [.sc (.ints .i64 a.vs)] a.bs a.ck))))]
abbrev accR (a : Acc) : Heap := [(1, some (.one true (.cells [.int .i64 a.bal, .int .i64 a.lim, .map 2 0]))), (2, some (.one true (.obj (.map false false a.n [.strs a.ks] [.sc (.ints .i64 a.vs)] a.bs a.ck))))]
def Acc.ix (a : Acc) (id : ByteArray) : Nat := sidx a.ks id
def Acc.has (a : Acc) (id : ByteArray) : Bool := decide (sidx a.ks id < a.n)
abbrev Acc.get (a : Acc) (id : ByteArray) : Int := a.vs.getD (sidx a.ks id) 0
def Acc.newE (a : Acc) (id : ByteArray) : Int := if idB id = false then 5 else if sidx a.ks id < a.n then 7 else if 64 ≤ a.n then 12 else 0

theorem acc_checkNew (a : Acc) (id : ByteArray) (hs : id.size ≤ 9223372036854775807) : FC Tryd.prog 3 38 [.ptr 1 0 0 0, .str id] (accR a) (isOut (.int .i64 (a.newE id)) [] 3) := by
  refine fc_of mixed T_ok Tryd.func38 rfl (by kernel_rfl) (by kernel_rfl) (by kernel_rfl) ?_
  repeat' ((conv => whnf); first | (refine vcall_pure (acc_isId _ hs) rfl rfl rfl ?_) | (refine br_dec (fun h => ?_) (fun h => ?_) <;> try (exfalso; omega)) | (refine br_ndec (fun h => ?_) (fun h => ?_) <;> try (exfalso; omega)) | refine br_seq (fun h => ?_) (fun h => ?_) | refine br_nseq (fun h => ?_) (fun h => ?_) | refine br_not (fun h => ?_) (fun h => ?_) | refine br_intro (fun h => ?_) (fun h => ?_) | refine cond_intro rfl ?_ | (refine cond_intro ⟨rfl, ?_⟩ ?_; (first | omega | (dsimp only; omega) | decide)) | (refine cond_intro ?_ ?_; (first | omega | (dsimp only; omega) | decide | (simp only [Nat.add_zero, Int.toNat_natCast, *]; omega))))
  all_goals (conv => whnf)
  · have e : a.newE id = 5 := by unfold Acc.newE; rw [if_pos h]
    rw [e]; exact ret_out (l := [0, 1, 2]) rfl rfl trivial allRw_nil
  · have e : a.newE id = 7 := by unfold Acc.newE; rw [if_neg (by simp_all), if_pos (by assumption)]
    rw [e]; exact ret_out (l := [0, 1, 2]) rfl rfl trivial allRw_nil
  · have e : a.newE id = 12 := by unfold Acc.newE; rw [if_neg (by simp_all), if_neg (by assumption), if_pos (by omega)]
    rw [e]; exact ret_out (l := [0, 1, 2]) rfl rfl trivial allRw_nil
  · have e : a.newE id = 0 := by unfold Acc.newE; rw [if_neg (by simp_all), if_neg (by assumption), if_neg (by omega)]
    rw [e]; exact ret_out (l := [0, 1, 2]) rfl rfl trivial allRw_nil

def Acc.del (a : Acc) (id : ByteArray) : Acc := ⟨a.bal, a.lim, if sidx a.ks id < a.n then a.n - 1 else a.n, a.ks.eraseIdx (sidx a.ks id), a.vs.eraseIdx (sidx a.ks id), a.bs.eraseIdx (sidx a.ks id), a.ck⟩
def Acc.put (a : Acc) (id : ByteArray) (m : Int) : Acc := ⟨a.bal, a.lim, if sidx a.ks id < a.n then a.n else a.n + 1, putL (sidx a.ks id) id a.ks, putL (sidx a.ks id) m a.vs, if sidx a.ks id < a.n then a.bs else a.bs ++ [a.ck], if sidx a.ks id < a.n then a.ck else a.ck + 1⟩
def Acc.set (a : Acc) (id : ByteArray) (m : Int) : Acc := if m = 0 then a.del id else a.put id m
theorem acc_set (a : Acc) (id : ByteArray) (m : Int) : FC Tryd.prog 3 35 [.ptr 1 0 0 0, .str id, .int .i64 m] (accH a) (isOut (.tup []) (accH (a.set id m)) 3) := by
  refine fc_of mixed T_ok Tryd.func35 rfl (by kernel_rfl) (by kernel_rfl) (by kernel_rfl) ?_
  repeat' ((conv => whnf); first | (refine br_dec (fun h => ?_) (fun h => ?_) <;> try (exfalso; omega)) | (refine br_ndec (fun h => ?_) (fun h => ?_) <;> try (exfalso; omega)) | refine br_seq (fun h => ?_) (fun h => ?_) | refine br_nseq (fun h => ?_) (fun h => ?_) | refine br_not (fun h => ?_) (fun h => ?_) | refine br_intro (fun h => ?_) (fun h => ?_) | refine cond_intro rfl ?_ | (refine cond_intro ⟨rfl, ?_⟩ ?_; (first | omega | (dsimp only; omega) | decide)) | (refine cond_intro ?_ ?_; (first | omega | (dsimp only; omega) | decide | (simp only [Nat.add_zero, Int.toNat_natCast, *]; omega))))
  all_goals (conv => whnf)
  · have e : a.set id m = a.del id := by unfold Acc.set; rw [if_pos h]
    rw [e]; exact ret_out (l := [0, 1, 2]) rfl rfl ⟨rfl, rfl, trivial⟩ (allRw_cons (allRw_cons allRw_nil))
  · have e : a.set id m = a.put id m := by unfold Acc.set; rw [if_neg h]
    rw [e]; exact ret_out (l := [0, 1, 2]) rfl rfl ⟨rfl, rfl, trivial⟩ (allRw_cons (allRw_cons allRw_nil))
attribute [irreducible] Acc.newE

/-- The sum of some rows. -/
def sumAt (vs : List Int) (sn : List Nat) : Int := (sn.map (fun i => vs.getD i 0)).sum
theorem perm_range {n : Nat} {sn : List Nat} (hd : sn.Nodup) (hl : ∀ i ∈ sn, i < n) (ha : ∀ i, i < n → i ∈ sn) : sn.Perm (List.range n) := by
  refine (List.perm_ext_iff_of_nodup hd List.nodup_range).2 fun i => ?_
  rw [List.mem_range]
  exact ⟨hl i, ha i⟩
theorem map_range_getD {α : Type} (l : List α) (d : α) : (List.range l.length).map (fun i => l.getD i d) = l := by
  refine List.ext_getElem (by simp) ?_
  intro i h1 h2
  simp [List.getD, h2]
theorem perm_sum {l m : List Int} (h : l.Perm m) : l.sum = m.sum := by
  induction h with
  | nil => rfl
  | cons x _ ih => simp [ih]
  | swap x y l => simp; omega
  | trans _ _ a b => exact a.trans b
theorem sumAt_all {vs : List Int} {n : Nat} {sn : List Nat} (hn : vs.length = n) (hd : sn.Nodup) (hl : ∀ i ∈ sn, i < n) (ha : ∀ i, i < n → i ∈ sn) : sumAt vs sn = vs.sum := by
  subst hn
  unfold sumAt
  have := perm_sum ((perm_range hd hl ha).map (fun i => vs.getD i 0))
  rw [this, map_range_getD]
theorem wrap_i64 (n : Int) : IntKind.i64.wrap n = (n + 9223372036854775808) % 18446744073709551616 - 9223372036854775808 := by
  simp only [IntKind.wrap, IntKind.signed, IntKind.bits, Bool.true_and, decide_eq_true_eq, Int.reducePow, Nat.reduceSub, ge_iff_le]
  split <;> omega
theorem wrap_add (x y : Int) : IntKind.i64.wrap (IntKind.i64.wrap x + y) = IntKind.i64.wrap (x + y) := by
  rw [wrap_i64, wrap_i64, wrap_i64]
  omega
theorem wrap_sub (x y : Int) : IntKind.i64.wrap (x - IntKind.i64.wrap y) = IntKind.i64.wrap (x - y) := by
  rw [wrap_i64, wrap_i64, wrap_i64]
  omega
end Go.Proofs.YthnmooholhellaaDoor
