/- Several texts in one: XSidx, XLgP, XNum, XMoneyC, XBitsP, XFmtC, XBitsC, XMoneyC3, XFmtC2, XFmtC3, XBitsM, XWireP, XWireC, XWireC2, XWireC3, XWireC4, XWireC5, XWireC6, XWireC7, XJrP, XLgQ, XLgA, XBld, XBldC, XLgB, XLgC, XJrC, XLgD, XLgE, XLgF, XLgG. -/
import Derived.Test.YtjjnbhbendlnhaaDoorYLib
import Derived.Test.YtjjnbhbendlnhaaDoorYPlain
import Derived.Test.YtjjnbhbendlnhaaDoorTab
import Derived.Test.YtjjnbhbendlnhaaDoorYBag
import Derived.Test.YtjjnbhbendlnhaaDoorYNil
import Derived.WalkKit
import Derived.Lib.Builder
import Derived.Lib.AppendStr
import Derived.Lib.UnsafeStr
import Derived.Lib.Strings
import Derived.Lib.Slices
import Derived.Lib.Walk
import Derived.Shelf.RegionOpenPlain
import Derived.Test.YtjjnbhbendlnhaaDoorYCalls
import Derived.Test.YtjjnbhbendlnhaaDoorYOwn
import Derived.Test.YtjjnbhbendlnhaaDoorYMem
/- Plain facts on the first place of a text in a list. No program in sight. -/
namespace Go.Sy
open Go.RowKit

theorem sidx_le (l : List ByteArray) (s : ByteArray) : sidx l s ≤ l.length := by
  induction l with
  | nil => simp [sidx]
  | cons x l ih =>
    simp only [sidx, seq]
    by_cases h : x = s
    · rw [decide_eq_true h]; simp
    · rw [decide_eq_false h]; simp; exact ih
theorem sidx_lt {l : List ByteArray} {s : ByteArray} : sidx l s < l.length ↔ s ∈ l := by
  induction l with
  | nil => simp [sidx]
  | cons x l ih =>
    simp only [sidx, seq]
    by_cases h : x = s
    · rw [decide_eq_true h]; simp [h]
    · rw [decide_eq_false h]
      have : ¬ s = x := fun e => h e.symm
      simp [this, ih]
theorem sidx_get {l : List ByteArray} {s : ByteArray} (h : sidx l s < l.length) : l[sidx l s]? = some s := by
  induction l with
  | nil => simp [sidx] at h
  | cons x l ih =>
    simp only [sidx, seq] at h ⊢
    by_cases e : x = s
    · rw [decide_eq_true e]; simp [e]
    · rw [decide_eq_false e] at h ⊢
      simp only [cond_false, List.length_cons, List.getElem?_cons_succ] at h ⊢
      exact ih (by omega)
theorem sidx_of_get {l : List ByteArray} (hd : l.Nodup) {i : Nat} {s : ByteArray} (h : l[i]? = some s) : sidx l s = i := by
  have hi : i < l.length := (List.getElem?_eq_some_iff.1 h).1
  have hm : s ∈ l := List.mem_iff_getElem?.2 ⟨i, h⟩
  have h2 := sidx_get (sidx_lt.2 hm)
  have h3 := sidx_lt.2 hm
  obtain ⟨_, e1⟩ := List.getElem?_eq_some_iff.1 h
  obtain ⟨_, e2⟩ := List.getElem?_eq_some_iff.1 h2
  exact (List.getElem_inj hd).1 (e2.trans e1.symm)
theorem put_key {l : List ByteArray} {s : ByteArray} : putL (sidx l s) s l = if sidx l s < l.length then l else l ++ [s] := by
  unfold putL
  split
  · rename_i h
    have := sidx_get h
    refine List.ext_getElem? fun i => ?_
    rw [List.getElem?_set]
    by_cases e : sidx l s = i
    · subst e; rw [if_pos rfl, if_pos h, this]
    · rw [if_neg e]
  · rfl

end Go.Sy

/- Plain facts of the ledger: postings, sums by account and currency, what a map of sums holds. No program in sight. -/
namespace Go.Proofs.YtjjnbhbendlnhaaDoor
open Go.RowKit Go.Sy
set_option linter.unusedVariables false
set_option linter.unusedSimpArgs false

/-- A posting: account, amount, currency. -/
structure Lp where
  a : ByteArray
  n : Int
  c : ByteArray
abbrev lp0 : Lp := ⟨⟨#[]⟩, 0, ⟨#[]⟩⟩
def poB (n : Nat) (l : List Lp) : Blk := .cols n [.sc (.strs (l.map Lp.a)), .sc (.ints .i64 (l.map Lp.n)), .sc (.strs (l.map Lp.c))]
theorem lp_a (l : List Lp) (k : Nat) : (l.map Lp.a).getD k ⟨#[]⟩ = (l.getD k lp0).a := by
  rw [List.getD, List.getD, List.getElem?_map]; cases l[k]? <;> rfl
theorem lp_n (l : List Lp) (k : Nat) : (l.map Lp.n).getD k 0 = (l.getD k lp0).n := by
  rw [List.getD, List.getD, List.getElem?_map]; cases l[k]? <;> rfl
theorem lp_c (l : List Lp) (k : Nat) : (l.map Lp.c).getD k ⟨#[]⟩ = (l.getD k lp0).c := by
  rw [List.getD, List.getD, List.getElem?_map]; cases l[k]? <;> rfl
theorem lg_seq {a b : ByteArray} : seq a b = true ↔ a = b := by unfold seq; exact decide_eq_true_iff
/-- The place of the first row of an account in a currency, or the number of rows. -/
abbrev lgI (R : List Lp) (a c : ByteArray) : Nat := sidx2 (R.map Lp.a) (R.map Lp.c) a c
theorem lgI_cons (x : Lp) (R : List Lp) (a c : ByteArray) : lgI (x :: R) a c = if x.a = a ∧ x.c = c then 0 else lgI R a c + 1 := by
  show (bif seq x.a a && seq x.c c then 0 else lgI R a c + 1) = _
  by_cases h : x.a = a ∧ x.c = c
  · rw [if_pos h, show (seq x.a a && seq x.c c) = true from by rw [Bool.and_eq_true, lg_seq, lg_seq]; exact h]; rfl
  · rw [if_neg h, show (seq x.a a && seq x.c c) = false from by
      cases e : (seq x.a a && seq x.c c) with
      | false => rfl
      | true => rw [Bool.and_eq_true, lg_seq, lg_seq] at e; exact absurd e h]; rfl
theorem lgI_le (a c : ByteArray) : ∀ R : List Lp, lgI R a c ≤ R.length
  | [] => Nat.le_refl _
  | x :: R => by
    have := lgI_le a c R
    rw [lgI_cons, List.length_cons]
    split <;> omega
/-- The amount of an account in a currency. -/
def lgV (R : List Lp) (a c : ByteArray) : Int := (R.getD (lgI R a c) lp0).n
theorem lgV_nil (a c : ByteArray) : lgV [] a c = 0 := rfl
theorem lgV_cons (x : Lp) (R : List Lp) (a c : ByteArray) : lgV (x :: R) a c = if x.a = a ∧ x.c = c then x.n else lgV R a c := by
  unfold lgV
  rw [lgI_cons]
  split
  · rfl
  · rw [List.getD_cons_succ]
/-- An amount is added to a row, or to a new one. -/
def lgAdd (R : List Lp) (x : Lp) : List Lp := putL (lgI R x.a x.c) ⟨x.a, lgV R x.a x.c + x.n, x.c⟩ R
theorem lgAdd_nil (x : Lp) : lgAdd [] x = [x] := by
  unfold lgAdd putL
  rw [lgV_nil, Int.zero_add]
  rfl
theorem lgAdd_cons (y : Lp) (R : List Lp) (x : Lp) : lgAdd (y :: R) x = if y.a = x.a ∧ y.c = x.c then ⟨x.a, y.n + x.n, x.c⟩ :: R else y :: lgAdd R x := by
  unfold lgAdd
  rw [lgI_cons, lgV_cons]
  split
  · unfold putL
    rw [if_pos (by simp)]; rfl
  · rw [putL_succ]
theorem lgV_add (x : Lp) (a c : ByteArray) : ∀ R : List Lp, lgV (lgAdd R x) a c = lgV R a c + if x.a = a ∧ x.c = c then x.n else 0
  | [] => by rw [lgAdd_nil, lgV_cons, lgV_nil, Int.zero_add]
  | y :: R => by
    have ih := lgV_add x a c R
    rw [lgAdd_cons, lgV_cons]
    by_cases h : y.a = x.a ∧ y.c = x.c
    · rw [if_pos h, lgV_cons]
      obtain ⟨h1, h2⟩ := h
      rw [h1, h2]
      split
      · rfl
      · rw [Int.add_zero]
    · rw [if_neg h, lgV_cons]
      by_cases h2 : y.a = a ∧ y.c = c
      · rw [if_pos h2, if_pos h2]
        obtain ⟨e1, e2⟩ := h2
        rw [if_neg (fun k => h ⟨e1.trans k.1.symm, e2.trans k.2.symm⟩), Int.add_zero]
      · rw [if_neg h2, if_neg h2, ih]
theorem lgAdd_len (R : List Lp) (x : Lp) : (lgAdd R x).length = if lgI R x.a x.c < R.length then R.length else R.length + 1 := putL_len _ _ _
/-- All rows are of different accounts or currencies. -/
def lgD (R : List Lp) : Prop := R.Pairwise (fun x y => ¬ (x.a = y.a ∧ x.c = y.c))
theorem lgAdd_key {x z : Lp} : ∀ {R : List Lp}, z ∈ lgAdd R x → (z.a = x.a ∧ z.c = x.c) ∨ ∃ y ∈ R, z.a = y.a ∧ z.c = y.c
  | [], h => by
    rw [lgAdd_nil, List.mem_singleton] at h
    subst h
    exact .inl ⟨rfl, rfl⟩
  | y :: R, h => by
    rw [lgAdd_cons] at h
    split at h
    · rcases List.mem_cons.1 h with rfl | h
      · exact .inl ⟨rfl, rfl⟩
      · exact .inr ⟨z, by simp [h], rfl, rfl⟩
    · rcases List.mem_cons.1 h with rfl | h
      · exact .inr ⟨z, by simp, rfl, rfl⟩
      · rcases lgAdd_key h with h | ⟨w, hw, h⟩
        · exact .inl h
        · exact .inr ⟨w, by simp [hw], h⟩
theorem lgD_add {x : Lp} : ∀ {R : List Lp}, lgD R → lgD (lgAdd R x)
  | [], _ => by rw [lgAdd_nil]; exact List.pairwise_singleton _ _
  | y :: R, h => by
    obtain ⟨h1, h2⟩ := List.pairwise_cons.1 h
    rw [lgAdd_cons]
    split
    · rename_i hk
      refine List.pairwise_cons.2 ⟨fun z hz k => h1 z hz ⟨hk.1.trans k.1, hk.2.trans k.2⟩, h2⟩
    · rename_i hk
      refine List.pairwise_cons.2 ⟨fun z hz k => ?_, lgD_add h2⟩
      rcases lgAdd_key hz with ⟨e1, e2⟩ | ⟨w, hw, e1, e2⟩
      · exact hk ⟨k.1.trans e1, k.2.trans e2⟩
      · exact h1 w hw ⟨k.1.trans e1, k.2.trans e2⟩
/-- The sum of the postings of an account in a currency. -/
def lgS : List Lp → ByteArray → ByteArray → Int
  | [], _, _ => 0
  | x :: L, a, c => (if x.a = a ∧ x.c = c then x.n else 0) + lgS L a c
theorem lgS_append (A B : List Lp) (a c : ByteArray) : lgS (A ++ B) a c = lgS A a c + lgS B a c := by
  induction A with
  | nil => simp [lgS]
  | cons x A ih => simp only [List.cons_append, lgS, ih, Int.add_assoc]
theorem lgS_perm {A B : List Lp} (h : A.Perm B) (a c : ByteArray) : lgS A a c = lgS B a c := by
  induction h with
  | nil => rfl
  | cons x _ ih => simp only [lgS, ih]
  | swap x y l => simp only [lgS]; omega
  | trans _ _ ih1 ih2 => exact ih1.trans ih2
theorem lgS_no {L : List Lp} {a c : ByteArray} (h : ∀ x ∈ L, ¬ (x.a = a ∧ x.c = c)) : lgS L a c = 0 := by
  induction L with
  | nil => rfl
  | cons x L ih =>
    simp only [lgS]
    rw [if_neg (h x (by simp)), ih (fun y hy => h y (by simp [hy]))]; rfl
theorem lgS_dist {a c : ByteArray} : ∀ {R : List Lp}, lgD R → lgS R a c = lgV R a c
  | [], _ => rfl
  | y :: R, h => by
    obtain ⟨h1, h2⟩ := List.pairwise_cons.1 h
    rw [lgV_cons]
    simp only [lgS]
    by_cases hk : y.a = a ∧ y.c = c
    · rw [if_pos hk, if_pos hk, lgS_no (fun x hx k => h1 x hx ⟨hk.1.trans k.1.symm, hk.2.trans k.2.symm⟩), Int.add_zero]
    · rw [if_neg hk, if_neg hk, lgS_dist h2, Int.zero_add]
theorem lg_take {L : List Lp} {k : Nat} (hk : k < L.length) : L.take (k + 1) = L.take k ++ [L.getD k lp0] := by
  rw [List.take_succ_eq_append_getElem hk, List.getD, List.getElem?_eq_getElem hk]; rfl
/-- The sums of the first postings. -/
def chR (L : List Lp) : Nat → List Lp
  | 0 => []
  | k + 1 => lgAdd (chR L k) (L.getD k lp0)
theorem chR_dist (L : List Lp) : ∀ k, lgD (chR L k)
  | 0 => List.Pairwise.nil
  | k + 1 => lgD_add (chR_dist L k)
theorem chR_len (L : List Lp) : ∀ k, (chR L k).length ≤ k
  | 0 => Nat.le_refl _
  | k + 1 => by
    have := chR_len L k
    simp only [chR]
    rw [lgAdd_len]
    split <;> omega
theorem chR_val {L : List Lp} (a c : ByteArray) : ∀ k, k ≤ L.length → lgV (chR L k) a c = lgS (L.take k) a c
  | 0, _ => by simp [chR, lgS, lgV_nil]
  | k + 1, h => by
    simp only [chR]
    rw [lgV_add, chR_val a c k (by omega), lg_take (by omega), lgS_append]
    simp [lgS]
/-- The rows that were visited are added. -/
def vsR (B C : List Lp) : List Nat → List Lp
  | [] => B
  | i :: sn => lgAdd (vsR B C sn) (C.getD i lp0)
theorem vsR_dist {B C : List Lp} (h : lgD B) : ∀ sn, lgD (vsR B C sn)
  | [] => h
  | i :: sn => lgD_add (vsR_dist h sn)
theorem vsR_len (B C : List Lp) : ∀ sn, (vsR B C sn).length ≤ B.length + sn.length
  | [] => Nat.le_refl _
  | i :: sn => by
    have := vsR_len B C sn
    simp only [vsR]
    rw [lgAdd_len, List.length_cons]
    split <;> omega
theorem vsR_val (B C : List Lp) (a c : ByteArray) : ∀ sn, lgV (vsR B C sn) a c = lgV B a c + lgS (sn.map (fun i => C.getD i lp0)) a c
  | [] => by simp [vsR, lgS]
  | i :: sn => by
    simp only [vsR, List.map_cons, lgS]
    rw [lgV_add, vsR_val B C a c sn]
    omega
theorem vsR_all {B C : List Lp} (hC : lgD C) {sn : List Nat} (hd : sn.Nodup) (hl : ∀ i ∈ sn, i < C.length) (ha : ∀ i, i < C.length → i ∈ sn) (a c : ByteArray) : lgV (vsR B C sn) a c = lgV B a c + lgV C a c := by
  rw [vsR_val, ← lgS_dist hC]
  congr 1
  have hp := (perm_range hd hl ha).map (fun i => C.getD i lp0)
  rw [map_range_getD] at hp
  exact lgS_perm hp a c
theorem lgV_row {R : List Lp} (h : lgD R) {i : Nat} (hi : i < R.length) : lgV R (R.getD i lp0).a (R.getD i lp0).c = (R.getD i lp0).n := by
  induction R generalizing i with
  | nil => simp at hi
  | cons y R ih =>
    obtain ⟨h1, h2⟩ := List.pairwise_cons.1 h
    rw [lgV_cons]
    cases i with
    | zero => rw [if_pos ⟨rfl, rfl⟩]; rfl
    | succ i =>
      rw [List.getD_cons_succ]
      have hi' : i < R.length := by simpa using hi
      rw [if_neg (fun k => h1 _ (by rw [List.getD, List.getElem?_eq_getElem hi']; exact List.getElem_mem hi') k)]
      exact ih h2 hi'

/-- The sum of the postings of a currency. -/
def lgC : List Lp → ByteArray → Int
  | [], _ => 0
  | x :: L, c => (if x.c = c then x.n else 0) + lgC L c
theorem lgC_append (A B : List Lp) (c : ByteArray) : lgC (A ++ B) c = lgC A c + lgC B c := by
  induction A with
  | nil => simp [lgC]
  | cons x A ih => simp only [List.cons_append, lgC, ih, Int.add_assoc]
theorem lgC_no {L : List Lp} {c : ByteArray} (h : ∀ x ∈ L, x.c ≠ c) : lgC L c = 0 := by
  induction L with
  | nil => rfl
  | cons x L ih =>
    simp only [lgC]
    rw [if_neg (h x (by simp)), ih (fun y hy => h y (by simp [hy]))]; rfl
theorem lgC_step {L : List Lp} {k : Nat} (hk : k < L.length) (c : ByteArray) : lgC (L.take (k + 1)) c = lgC (L.take k) c + if (L.getD k lp0).c = c then (L.getD k lp0).n else 0 := by
  rw [lg_take hk, lgC_append]; simp [lgC]
/-- All sums are zero. -/
def lgBal (L : List Lp) : Bool := L.all (fun x => decide (lgC L x.c = 0))
theorem lgBal_iff {L : List Lp} : lgBal L = true ↔ ∀ c, lgC L c = 0 := by
  unfold lgBal
  rw [List.all_eq_true]
  constructor
  · intro h c
    by_cases hc : ∃ x ∈ L, x.c = c
    · obtain ⟨x, hx, rfl⟩ := hc
      exact of_decide_eq_true (h x hx)
    · exact lgC_no fun x hx e => hc ⟨x, hx, e⟩
  · exact fun h x _ => decide_eq_true (h _)
/-- What a map of sums by currency holds. -/
structure LgM (L : List Lp) (k n : Nat) (C : List ByteArray) (W : List Int) : Prop where
  c : C.length = n
  w : W.length = n
  nd : C.Nodup
  all : ∀ c, (if sidx C c < n then W.getD (sidx C c) 0 else 0) = lgC (L.take k) c
theorem lgM_zero (L : List Lp) : LgM L 0 0 [] [] := ⟨rfl, rfl, List.nodup_nil, fun c => by simp [lgC]⟩
theorem lg_putNew {α : Type} {l : List α} {n : Nat} (h : l.length = n) (x : α) : putL n x l = l ++ [x] := by unfold putL; rw [if_neg (by omega)]
theorem lg_putLt {α : Type} {l : List α} {i : Nat} (h : i < l.length) (x : α) : putL i x l = l.set i x := by unfold putL; rw [if_pos h]
theorem lgM_step {L : List Lp} {k n : Nat} {C : List ByteArray} {W : List Int} (hI : LgM L k n C W) (hk : k < L.length) (v : Int) (hv : v = lgC (L.take k) (L.getD k lp0).c + (L.getD k lp0).n) :
    LgM L (k + 1) (if sidx C (L.getD k lp0).c < n then n else n + 1) (putL (sidx C (L.getD k lp0).c) (L.getD k lp0).c C) (putL (sidx C (L.getD k lp0).c) v W) := by
  generalize hx : L.getD k lp0 = x at *
  obtain ⟨hc, hw, hnd, hall⟩ := hI
  have hle := Go.Sy.sidx_le C x.c
  by_cases h : sidx C x.c < n
  · have e1 : putL (sidx C x.c) x.c C = C := by rw [put_key, if_pos (by omega)]
    rw [if_pos h, e1, lg_putLt (by omega)]
    refine ⟨hc, by simp [hw], hnd, fun c => ?_⟩
    rw [lgC_step hk, hx]
    by_cases ec : x.c = c
    · subst ec
      rw [if_pos h, if_pos rfl, List.getD, List.getElem?_set_self (by omega)]
      exact hv
    · rw [if_neg ec, Int.add_zero, ← hall c]
      by_cases h2 : sidx C c < n
      · rw [if_pos h2, if_pos h2]
        have hne : sidx C x.c ≠ sidx C c := by
          intro e
          have g1 := sidx_get (l := C) (s := x.c) (by omega)
          have g2 := sidx_get (l := C) (s := c) (by omega)
          rw [e, g2] at g1
          exact ec (Option.some.inj g1).symm
        rw [List.getD, List.getD, List.getElem?_set_ne hne]
      · rw [if_neg h2, if_neg h2]
  · have hn : sidx C x.c = n := by omega
    rw [if_neg h, hn]
    have e1 := lg_putNew hc x.c
    have e2 := lg_putNew hw v
    rw [e1, e2]
    have hni : x.c ∉ C := fun hm => h (by rw [← hc]; exact sidx_lt.2 hm)
    have hnd' : (C ++ [x.c]).Nodup := List.nodup_append.2 ⟨hnd, by simp, fun a ha b hb e => by simp at hb; subst hb; subst e; exact hni ha⟩
    refine ⟨by simp [hc], by simp [hw], hnd', fun c => ?_⟩
    rw [lgC_step hk, hx, ← hall c]
    by_cases ec : x.c = c
    · subst ec
      have e3 : sidx (C ++ [x.c]) x.c = n := sidx_of_get hnd' (by rw [List.getElem?_append_right (by omega)]; simp [hc])
      rw [e3, if_pos (by omega), if_neg h, if_pos rfl, List.getD, List.getElem?_append_right (by omega)]
      simp only [hw, Nat.sub_self, List.getElem?_cons_zero, Option.getD_some]
      have := hall x.c
      rw [if_neg h] at this
      omega
    · rw [if_neg ec, Int.add_zero]
      by_cases h2 : sidx C c < n
      · have e3 : sidx (C ++ [x.c]) c = sidx C c := sidx_of_get hnd' (by rw [List.getElem?_append_left (by omega)]; exact sidx_get (by omega))
        rw [e3, if_pos (by omega), if_pos h2, List.getD, List.getD, List.getElem?_append_left (by omega)]
      · have hnm : c ∉ C ++ [x.c] := by
          intro hm
          rcases List.mem_append.1 hm with hm | hm
          · exact h2 (by rw [← hc]; exact sidx_lt.2 hm)
          · simp at hm; exact ec hm.symm
        rw [if_neg h2, if_neg]
        intro h3
        exact hnm (sidx_lt.1 (by rw [List.length_append, hc]; simpa using h3))
theorem lgM_row {L : List Lp} {k n : Nat} {C : List ByteArray} {W : List Int} (hI : LgM L k n C W) {i : Nat} (hi : i < n) : W.getD i 0 = lgC (L.take k) (C.getD i ⟨#[]⟩) := by
  have e : sidx C (C.getD i ⟨#[]⟩) = i := sidx_of_get hI.nd (by rw [List.getD, List.getElem?_eq_getElem (by have := hI.c; omega)]; rfl)
  have := hI.all (C.getD i ⟨#[]⟩)
  rw [e, if_pos hi] at this
  exact this
theorem lgM_nz {L : List Lp} {n : Nat} {C : List ByteArray} {W : List Int} (hI : LgM L L.length n C W) {i : Nat} (hi : i < n) (h : W.getD i 0 ≠ 0) : lgBal L = false := by
  cases hb : lgBal L with
  | false => rfl
  | true =>
    have := lgM_row hI hi
    rw [List.take_length, lgBal_iff.1 hb] at this
    exact absurd this h
theorem lgM_z {L : List Lp} {n : Nat} {C : List ByteArray} {W : List Int} (hI : LgM L L.length n C W) (h : ∀ i, i < n → W.getD i 0 = 0) : lgBal L = true := by
  rw [lgBal_iff]
  intro c
  have := hI.all c
  rw [List.take_length] at this
  rw [← this]
  split
  · rename_i h1; exact h _ h1
  · rfl
/-- Bounds of sums. -/
def lgBd (L : List Lp) : Prop := ∀ x ∈ L, -4503599627370496 ≤ x.n ∧ x.n ≤ 4503599627370496
theorem lgC_bd {L : List Lp} (h : lgBd L) (c : ByteArray) : -4503599627370496 * (L.length : Int) ≤ lgC L c ∧ lgC L c ≤ 4503599627370496 * (L.length : Int) := by
  induction L with
  | nil => simp [lgC]
  | cons x L ih =>
    have i1 := ih (fun y hy => h y (by simp [hy]))
    have i2 := h x (by simp)
    simp only [lgC, List.length_cons]
    split <;> omega
theorem lgS_bd {L : List Lp} (h : lgBd L) (a c : ByteArray) : -4503599627370496 * (L.length : Int) ≤ lgS L a c ∧ lgS L a c ≤ 4503599627370496 * (L.length : Int) := by
  induction L with
  | nil => simp [lgS]
  | cons x L ih =>
    have i1 := ih (fun y hy => h y (by simp [hy]))
    have i2 := h x (by simp)
    simp only [lgS, List.length_cons]
    split <;> omega
theorem lgBd_take {L : List Lp} (h : lgBd L) (k : Nat) : lgBd (L.take k) := fun x hx => h x (List.mem_of_mem_take hx)
end Go.Proofs.YtjjnbhbendlnhaaDoor

/- Plain facts on numbers: decimal digits, lengths in bits, division. No program in sight. -/
namespace Go.Sy
open Go.RowKit

theorem u32_in' {n : Int} (h : 0 ≤ n) (h' : n ≤ 4294967295) : IntKind.u32.wrap n = n := IntWalk.u32_in n ⟨h, h'⟩
theorem u64_in' {n : Int} (h : 0 ≤ n) (h' : n ≤ 18446744073709551615) : IntKind.u64.wrap n = n := IntWalk.u64_in n ⟨h, h'⟩
theorem u8_in' {n : Int} (h : 0 ≤ n) (h' : n ≤ 255) : IntKind.u8.wrap n = n := IntWalk.u8_in n ⟨h, h'⟩
theorem ishr_lit {k : IntKind} {x : Int} (n : Nat) (h : n ≤ k.bits) : ishr k x (n : Int) = x / 2 ^ n := by
  unfold ishr
  rw [Int.toNat_natCast, Nat.min_eq_left h, Int.fdiv_eq_ediv_of_nonneg]
  exact Int.pow_nonneg (by omega)
theorem ishr_lit8 {x : Int} : ishr .u64 x 8 = x / 256 := ishr_lit (k := .u64) 8 (by decide)
theorem ishr_lit16 {x : Int} : ishr .u64 x 16 = x / 65536 := ishr_lit (k := .u64) 16 (by decide)
theorem ishr_lit32 {x : Int} : ishr .u64 x 32 = x / 4294967296 := ishr_lit (k := .u64) 32 (by decide)
theorem ishr_lit18 {x : Int} : ishr .i64 x 18 = x / 262144 := ishr_lit (k := .i64) 18 (by decide)
theorem sz_lt {s : ByteArray} {x : Int} {n : Nat} (h : s.size = n) (k : x < (n : Int)) : x < (s.size : Int) := by rw [h]; exact k
theorem sz_le {s : ByteArray} {x : Int} {n : Nat} (h : s.size = n) (k : x ≤ (n : Int)) : x ≤ (s.size : Int) := by rw [h]; exact k

/-- The last n decimal digits of a number, as bytes. -/
def digs : Nat → Nat → List Int
  | 0, _ => []
  | n + 1, u => digs n (u / 10) ++ [((48 + u % 10 : Nat) : Int)]

theorem digs_length : ∀ n u, (digs n u).length = n
  | 0, _ => rfl
  | n + 1, u => by simp [digs, digs_length n]

theorem digs_get : ∀ (n u i : Nat), i < n → (digs n u)[i]? = some ((48 + u / 10 ^ (n - 1 - i) % 10 : Nat) : Int)
  | 0, _, i, h => by omega
  | n + 1, u, i, h => by
    simp only [digs]
    by_cases e : i < n
    · rw [List.getElem?_append_left (by rw [digs_length]; exact e), digs_get n (u / 10) i e, Nat.div_div_eq_div_mul, show 10 * 10 ^ (n - 1 - i) = 10 ^ (n + 1 - 1 - i) from by rw [← Nat.pow_succ']; congr 1; omega]
    · have e' : i = n := by omega
      subst e'
      rw [List.getElem?_append_right (by rw [digs_length]; exact Nat.le_refl _), digs_length]
      simp

/-- The number of decimal digits. -/
def ndig (u : Nat) : Nat := if u < 10 then 1 else ndig (u / 10) + 1
termination_by u
decreasing_by omega

theorem ndig_pos (u : Nat) : 0 < ndig u := by rw [ndig]; split <;> omega

theorem ndig_lt (u : Nat) : u < 10 ^ ndig u := by
  induction u using Nat.strongRecOn with
  | _ u ih =>
    rw [ndig]
    split
    · simpa using ‹u < 10›
    · have := ih (u / 10) (by omega)
      rw [Nat.pow_succ]
      omega

theorem ndig_ge (u : Nat) (h : 1 ≤ u) : 10 ^ (ndig u - 1) ≤ u := by
  induction u using Nat.strongRecOn with
  | _ u ih =>
    rw [ndig]
    split
    · simpa using h
    · have := ih (u / 10) (by omega) (by omega)
      have hp := ndig_pos (u / 10)
      rw [show ndig (u / 10) + 1 - 1 = (ndig (u / 10) - 1) + 1 from by omega, Nat.pow_succ]
      omega

theorem ndig_unique {u k : Nat} (h1 : 10 ^ k ≤ u) (h2 : u < 10 ^ (k + 1)) : ndig u = k + 1 := by
  have hu : 1 ≤ u := Nat.le_trans (Nat.one_le_pow _ _ (by omega)) h1
  have a := ndig_lt u
  have b := ndig_ge u hu
  have hp := ndig_pos u
  rcases Nat.lt_trichotomy (ndig u) (k + 1) with h | h | h
  · have : 10 ^ ndig u ≤ 10 ^ k := Nat.pow_le_pow_right (by omega) (by omega)
    omega
  · exact h
  · have : 10 ^ (k + 1) ≤ 10 ^ (ndig u - 1) := Nat.pow_le_pow_right (by omega) (by omega)
    omega

/-- A number from 0 on in decimal. -/
def dec (u : Nat) : ByteArray := bytesOf (digs (ndig u) u)
/-- An integer in decimal. -/
def decI (n : Int) : ByteArray := if n < 0 then bytesOf (45 :: digs (ndig n.natAbs) n.natAbs) else dec n.toNat

/-- The length of a number in bits. -/
def blen (u : Nat) : Nat := if u = 0 then 0 else u.log2 + 1

theorem blen_lt (u : Nat) : u < 2 ^ blen u := by
  unfold blen
  split
  · omega
  · exact Nat.lt_log2_self
theorem blen_ge (u : Nat) (h : 1 ≤ u) : 2 ^ (blen u - 1) ≤ u := by
  unfold blen
  rw [if_neg (by omega), Nat.add_sub_cancel]
  exact Nat.log2_self_le (by omega)
theorem blen_unique {u k : Nat} (h1 : 2 ^ k ≤ u) (h2 : u < 2 ^ (k + 1)) : blen u = k + 1 := by
  have hu : 1 ≤ u := Nat.le_trans (Nat.one_le_pow _ _ (by omega)) h1
  have a := blen_lt u
  have b := blen_ge u hu
  have hp : 0 < blen u := by unfold blen; rw [if_neg (by omega)]; omega
  rcases Nat.lt_trichotomy (blen u) (k + 1) with h | h | h
  · have : 2 ^ blen u ≤ 2 ^ k := Nat.pow_le_pow_right (by omega) (by omega)
    omega
  · exact h
  · have : 2 ^ (k + 1) ≤ 2 ^ (blen u - 1) := Nat.pow_le_pow_right (by omega) (by omega)
    omega
theorem blen_le64 {u : Nat} (h : u < 2 ^ 64) : blen u ≤ 64 := by
  rcases Nat.lt_or_ge 64 (blen u) with h1 | h1
  · have hu : 1 ≤ u := by
      rcases Nat.eq_zero_or_pos u with e | e
      · subst e; simp [blen] at h1
      · exact e
    have a := blen_ge u hu
    have : 2 ^ 64 ≤ 2 ^ (blen u - 1) := Nat.pow_le_pow_right (by omega) (by omega)
    omega
  · exact h1
theorem blen_shift (u k : Nat) (h : 2 ^ k ≤ u) : blen u = k + blen (u / 2 ^ k) := by
  have h1 : 1 ≤ u / 2 ^ k := (Nat.one_le_div_iff (Nat.two_pow_pos k)).2 h
  have a := blen_lt (u / 2 ^ k)
  have b := blen_ge (u / 2 ^ k) h1
  have hp : 0 < blen (u / 2 ^ k) := by unfold blen; rw [if_neg (by omega)]; omega
  have : blen u = (k + blen (u / 2 ^ k) - 1) + 1 := by
    refine blen_unique ?_ ?_
    · rw [show k + blen (u / 2 ^ k) - 1 = (blen (u / 2 ^ k) - 1) + k from by omega, Nat.pow_add]
      exact (Nat.le_div_iff_mul_le (Nat.two_pow_pos k)).1 b
    · rw [show k + blen (u / 2 ^ k) - 1 + 1 = blen (u / 2 ^ k) + k from by omega, Nat.pow_add]
      exact (Nat.div_lt_iff_lt_mul (Nat.two_pow_pos k)).1 a
  omega

/-- How many digits: as the library reckons it. -/
theorem ndig_by_blen : ∀ L, L ≤ 64 → 1 ≤ L → 10 ^ (L * 78913 / 2 ^ 18) ≤ 2 ^ L ∧ 2 ^ L ≤ 10 ^ (L * 78913 / 2 ^ 18 + 1) ∧ (L * 78913 / 2 ^ 18 = 0 ∨ 10 ^ (L * 78913 / 2 ^ 18 - 1) ≤ 2 ^ (L - 1)) := by
  decide +kernel
theorem ndig_lib {u : Nat} (h1 : 1 ≤ u) (h2 : u < 2 ^ 64) : ndig u = blen u * 78913 / 2 ^ 18 + (if 10 ^ (blen u * 78913 / 2 ^ 18) ≤ u then 1 else 0) := by
  have hp : 1 ≤ blen u := by unfold blen; rw [if_neg (by omega)]; omega
  obtain ⟨a, b, c⟩ := ndig_by_blen (blen u) (blen_le64 h2) hp
  have d := blen_lt u
  have e := blen_ge u h1
  generalize blen u * 78913 / 2 ^ 18 = k at *
  split
  · exact ndig_unique ‹_› (Nat.lt_of_lt_of_le d b)
  · rcases c with c | c
    · subst c; rename_i h; simp at h; omega
    · have hk : k ≠ 0 := by intro h; subst h; rename_i h; simp at h; omega
      have := ndig_unique (u := u) (k := k - 1) (Nat.le_trans c e) (by rw [show k - 1 + 1 = k from by omega]; omega)
      omega

/-- A table of bytes. -/
def tabB (s : ByteArray) (n : Nat) (f : Nat → Nat) : Bool := decide (s.size = n) && (List.range n).all (fun i => Nat.beq (s.data.toList.getD i 0).toNat (f i))
theorem tabB_at {s : ByteArray} {n : Nat} {f : Nat → Nat} (h : tabB s n f = true) {i : Nat} (hi : i < n) : byteAt s (i : Int) = (f i : Int) := by
  unfold tabB at h
  simp only [Bool.and_eq_true, List.all_eq_true, List.mem_range] at h
  unfold byteAt
  rw [Int.toNat_natCast, Nat.eq_of_beq_eq_true (h.2 i hi)]
def smF (i : Nat) : Nat := if i % 2 = 0 then 48 + i / 20 else 48 + i / 2 % 10
theorem sm_odd {s : ByteArray} (h : tabB s 200 smF = true) {y : Int} (h0 : 0 ≤ y) (h1 : y < 100) : byteAt s (y * 2 + 1) = 48 + y % 10 := by
  have e : y * 2 + 1 = ((y.toNat * 2 + 1 : Nat) : Int) := by omega
  rw [e, tabB_at h (by omega)]
  unfold smF
  rw [if_neg (by omega)]
  omega
theorem sm_even {s : ByteArray} (h : tabB s 200 smF = true) {y : Int} (h0 : 0 ≤ y) (h1 : y < 100) : byteAt s (y * 2) = 48 + y / 10 := by
  have e : y * 2 = ((y.toNat * 2 : Nat) : Int) := by omega
  rw [e, tabB_at h (by omega)]
  unfold smF
  rw [if_pos (by omega)]
  omega

/-- Digits that are written from behind: m of n digits of U, from place o on. -/
def dtab (l : List Int) (N o n U m : Nat) : List Int := (List.range N).map (fun x => if o + n - m ≤ x ∧ x < o + n then ((48 + U / 10 ^ (o + n - 1 - x) % 10 : Nat) : Int) else l.getD x 0)
theorem dtab_length (l : List Int) (N o n U m : Nat) : (dtab l N o n U m).length = N := by simp [dtab]
theorem dtab_zero {l : List Int} {N o n U : Nat} (h : l.length = N) : dtab l N o n U 0 = l := by
  apply List.ext_getElem?
  intro i
  simp only [dtab, List.getElem?_map]
  by_cases hi : i < N
  · rw [List.getElem?_range hi]
    simp only [Option.map_some]
    rw [if_neg (by omega), List.getD, List.getElem?_eq_getElem (by omega)]
    rfl
  · rw [List.getElem?_eq_none (by simp; omega), List.getElem?_eq_none (by omega)]; rfl
theorem dtab_set {l : List Int} {N o n U m i : Nat} {v : Int} (hm : m < n) (hN : o + n ≤ N) (hi : i = o + n - m - 1) (hv : v = ((48 + U / 10 ^ m % 10 : Nat) : Int)) : (dtab l N o n U m).set i v = dtab l N o n U (m + 1) := by
  subst hi
  apply List.ext_getElem?
  intro x
  rw [List.getElem?_set, dtab_length]
  by_cases e : o + n - m - 1 = x
  · subst e
    rw [if_pos rfl, if_pos (by omega)]
    simp only [dtab, List.getElem?_map]
    rw [List.getElem?_range (by omega)]
    simp only [Option.map_some]
    rw [if_pos (by omega), hv, show o + n - 1 - (o + n - m - 1) = m from by omega]
  · rw [if_neg e]
    simp only [dtab, List.getElem?_map]
    by_cases hx : x < N
    · rw [List.getElem?_range hx]
      simp only [Option.map_some]
      by_cases h2 : o + n - m ≤ x ∧ x < o + n
      · rw [if_pos h2, if_pos (by omega)]
      · rw [if_neg h2, if_neg (by omega)]
    · rw [List.getElem?_eq_none (by simp; omega)]; rfl
theorem dtab_seg {l : List Int} {N o n U : Nat} (hN : o + n ≤ N) : seg o n (dtab l N o n U n) = digs n U := by
  apply List.ext_getElem?
  intro i
  unfold seg
  by_cases hi : i < n
  · rw [List.getElem?_take, if_pos hi, List.getElem?_drop, digs_get _ _ _ hi]
    simp only [dtab, List.getElem?_map]
    rw [List.getElem?_range (by omega)]
    simp only [Option.map_some]
    rw [if_pos (by omega), show o + n - 1 - (o + i) = n - 1 - i from by omega]
  · rw [List.getElem?_take, if_neg hi, List.getElem?_eq_none (by rw [digs_length]; omega)]
theorem pow_step (U m j : Nat) : U / 10 ^ (m + j) = U / 10 ^ m / 10 ^ j := by rw [Nat.pow_add, Nat.div_div_eq_div_mul]
attribute [irreducible] dtab dec decI
theorem seg_head {L : List Int} {n : Nat} {v : Int} (h : 0 < L.length) : seg 0 (1 + n) (L.set 0 v) = v :: seg 1 n L := by
  cases L with
  | nil => simp at h
  | cons x l => simp [seg, Nat.add_comm 1 n]
end Go.Sy

/- Contracts of package money, and of the reference's: currencies. -/
namespace Go.Proofs.YtjjnbhbendlnhaaDoor
open Go.RowKit Go.Sy
attribute [local irreducible] vcall vloop vcallD retP
set_option maxRecDepth 100000
set_option linter.unusedVariables false

theorem i64_succ {k : Nat} (h : k < 9223372036854775806) : IntKind.i64.wrap ((k : Int) + 1) = ((k + 1 : Nat) : Int) := by rw [w64_in (by omega) (by omega)]; rfl

def capAt (s : ByteArray) (i : Nat) : Bool := decide (65 ≤ byteAt s (i : Int)) && decide (byteAt s (i : Int) ≤ 90)
def capsTo (s : ByteArray) : Nat → Bool
  | 0 => true
  | k + 1 => capsTo s k && capAt s k
/-- Three capital letters. -/
def curB (s : ByteArray) : Bool := decide (s.size = 3) && capsTo s s.size
theorem capsTo_false {s : ByteArray} {k n : Nat} (h : k < n) (hc : capAt s k = false) : capsTo s n = false := by
  induction n with
  | zero => omega
  | succ n ih =>
    simp only [capsTo]
    by_cases e : k = n
    · subst e; simp [hc]
    · rw [ih (by omega)]; rfl
theorem curB_false {s : ByteArray} {k : Nat} (h : k < s.size) (hc : byteAt s (k : Int) < 65 ∨ 90 < byteAt s (k : Int)) : curB s = false := by
  have : capAt s k = false := by unfold capAt; simp; omega
  unfold curB
  rw [capsTo_false h this]; simp
theorem curB_size {s : ByteArray} (h : s.size ≠ 3) : curB s = false := by unfold curB; simp [h]
theorem capsTo_step {s : ByteArray} {k : Nat} (h : capsTo s k = true) (h1 : ¬ byteAt s (k : Int) < 65) (h2 : ¬ 90 < byteAt s (k : Int)) : capsTo s (k + 1) = true := by
  simp only [capsTo, h, capAt]; simp; omega
attribute [irreducible] curB
theorem money_isCurrency (s : ByteArray) : Pure Tryd.prog 44 [.str s] (.bool (curB s)) := by
  refine fc_of mixed T_ok Tryd.func44 rfl (by kernel_rfl) (by kernel_rfl) (by kernel_rfl) ?_
  repeat' ((conv => whnf); first | ((first | apply br_dec | apply br_ndec) <;> intro h <;> try (exfalso; (try dsimp only at h); omega)) | ((first | apply br_seq | apply br_nseq | apply br_not | apply br_intro) <;> intro h) | refine cond_a ?_)
  all_goals (conv => whnf)
  · exact ret_pure (by rw [curB_size (by omega)]; rfl)
  · refine vloop_of (fun k : Nat => ⟨[(0, .str s), (8, .int .i64 s.size), (9, .int .i64 k)], [], 1⟩) (fun k => k ≤ s.size ∧ capsTo s k = true) (fun k => s.size - k) 0 [0] [] ⟨rfl, ⟨rfl, rfl, rfl, trivial⟩, trivial⟩ ⟨by omega, rfl⟩ ?_
    rintro k ⟨hk, hc⟩
    repeat' ((conv => whnf); first | ((first | apply br_dec | apply br_ndec) <;> intro h <;> try (exfalso; (try dsimp only at h); omega)) | ((first | apply br_seq | apply br_nseq | apply br_not | apply br_intro) <;> intro h) | refine cond_a ?_)
    all_goals (conv => whnf)
    · exact ret_pure (by rw [curB_false (k := k) (by omega) (by omega)]; rfl)
    · exact ret_pure (by rw [curB_false (k := k) (by omega) (by omega)]; rfl)
    · exact ⟨k + 1, [0], [], ⟨by omega, capsTo_step hc (by omega) (by omega)⟩, by omega, ⟨rfl, ⟨rfl, rfl, congrArg (fun z => some (SV.int .i64 z)) (i64_succ (by omega)), trivial⟩, trivial⟩⟩
    · have e : k = s.size := by omega
      subst e
      refine ret_pure ?_
      have : curB s = true := by unfold curB; rw [hc]; simp; omega
      rw [this]; rfl

end Go.Proofs.YtjjnbhbendlnhaaDoor

/- Plain facts: long multiplication and long division of words. No program in sight. -/
namespace Go.Sy
open Go.RowKit

/-- One digit of a long division. -/
structure KD (u32 u1 Y1 Y0 Q : Nat) : Prop where
  b1 : u1 < 4294967296
  b0 : Y0 < 4294967296
  n1 : 2147483648 ≤ Y1
  n2 : Y1 < 4294967296
  lt : u32 < Y1 * 4294967296 + Y0
  q : Q = (u32 * 4294967296 + u1) / (Y1 * 4294967296 + Y0)

section
variable {u32 u1 Y1 Y0 Q : Nat} (k : KD u32 u1 Y1 Y0 Q)
include k
theorem KD.le : Q ≤ u32 / Y1 := by
  have h1 : Q * (Y1 * 4294967296 + Y0) ≤ u32 * 4294967296 + u1 := by rw [k.q]; exact Nat.div_mul_le_self _ _
  rw [Nat.le_div_iff_mul_le (by have := k.n1; omega)]
  rw [Nat.mul_add, ← Nat.mul_assoc] at h1
  have := k.b1
  have h2 : 0 ≤ Q * Y0 := Nat.zero_le _
  omega
end

end Go.Sy

/- Contracts of the library: numbers in decimal. -/
namespace Go.Proofs.YtjjnbhbendlnhaaDoor
open Go.RowKit Go.Sy
attribute [local irreducible] vcall vloop vcallD retP
set_option maxRecDepth 100000
set_option linter.unusedVariables false
set_option linter.unusedSimpArgs false

theorem l8_at {s : ByteArray} (h : tabB s 256 blen = true) {x : Int} (h0 : 0 ≤ x) (h1 : x < 256) : byteAt s x = (blen x.toNat : Int) := by
  have := tabB_at h (i := x.toNat) (by omega)
  rw [← this, Int.toNat_of_nonneg h0]
theorem blen_small {u : Nat} (h : u < 256) : blen u ≤ 8 := by
  rcases Nat.lt_or_ge 8 (blen u) with h1 | h1
  · have hu : 1 ≤ u := by
      rcases Nat.eq_zero_or_pos u with e | e
      · subst e; simp [blen] at h1
      · exact e
    have a := blen_ge u hu
    have : 2 ^ 8 ≤ 2 ^ (blen u - 1) := Nat.pow_le_pow_right (by omega) (by omega)
    omega
  · exact h1

theorem len_fin {u c : Nat} {x : Int} (hx : x = ((u / 2 ^ c : Nat) : Int)) (h : c = 0 ∨ 2 ^ c ≤ u) : (c : Int) + (blen x.toNat : Int) = (blen u : Int) := by
  subst hx
  rw [Int.toNat_natCast]
  rcases h with rfl | h
  · simp
  · rw [blen_shift u c h]; omega

theorem len_fin' {u c : Nat} {x n : Int} (hn : n = (c : Int)) (hc : c ≤ 56) (hx : x = ((u / 2 ^ c : Nat) : Int)) (h : c = 0 ∨ 2 ^ c ≤ u) (h1 : x < 256) : IntKind.i64.wrap (n + IntKind.i64.wrap (blen x.toNat : Int)) = (blen u : Int) := by
  have hb := blen_small (u := x.toNat) (by omega)
  rw [w64_in (n := (blen x.toNat : Int)) (by omega) (by omega), w64_in (by omega) (by omega), hn]
  exact len_fin hx h

theorem bits_Len64 (u : Nat) (hu : u < 18446744073709551616) : Pure Tryd.prog 67 [.int .u64 u] (.int .i64 (blen u)) := by
  refine fc_of mixed T_ok Tryd.func67 rfl (by kernel_rfl) (by kernel_rfl) (by kernel_rfl) ?_
  repeat' ((conv => whnf); first | (refine cond_intro ⟨by (try simp only [ishr_lit8, ishr_lit16, ishr_lit32, ishr_lit18] at *); (try simp (disch := omega) only [w64_in, u32_in', u64_in', u8_in', ishr_lit8, ishr_lit16, ishr_lit32, ishr_lit18, Int.tmod_eq_emod_of_nonneg, Int.tdiv_eq_ediv_of_nonneg, Int.toNat_natCast, Nat.add_zero]); omega, sz_lt (n := 256) (by kernel_rfl) (by (try simp only [ishr_lit8, ishr_lit16, ishr_lit32, ishr_lit18] at *); (try simp (disch := omega) only [w64_in, u32_in', u64_in', u8_in', ishr_lit8, ishr_lit16, ishr_lit32, ishr_lit18, Int.tmod_eq_emod_of_nonneg, Int.tdiv_eq_ediv_of_nonneg, Int.toNat_natCast, Nat.add_zero]); omega)⟩ ?_) | ((first | apply br_dec | apply br_ndec) <;> intro h <;> try (exfalso; (try dsimp only at h); omega)) | ((first | apply br_seq | apply br_nseq | apply br_not | apply br_intro) <;> intro h) | refine cond_a ?_)
  all_goals (conv => whnf)
  all_goals refine ret_pure ?_
  all_goals simp only [oneOr]
  all_goals (try simp only [ishr_lit8, ishr_lit16, ishr_lit32, ishr_lit18] at *)
  all_goals rw [l8_at (by kernel_rfl) (by (try simp (disch := omega) only [w64_in, u32_in', u64_in', u8_in', ishr_lit8, ishr_lit16, ishr_lit32, ishr_lit18, Int.tmod_eq_emod_of_nonneg, Int.tdiv_eq_ediv_of_nonneg, Int.toNat_natCast, Nat.add_zero]); omega) (by (try simp (disch := omega) only [w64_in, u32_in', u64_in', u8_in', ishr_lit8, ishr_lit16, ishr_lit32, ishr_lit18, Int.tmod_eq_emod_of_nonneg, Int.tdiv_eq_ediv_of_nonneg, Int.toNat_natCast, Nat.add_zero]); omega)]
  all_goals refine congrArg (SV.int .i64) ?_
  · exact len_fin' (c := 56) (by first | rfl | ((try simp (disch := omega) only [w64_in, u32_in', u64_in', u8_in', ishr_lit8, ishr_lit16, ishr_lit32, ishr_lit18, Int.tmod_eq_emod_of_nonneg, Int.tdiv_eq_ediv_of_nonneg, Int.toNat_natCast, Nat.add_zero]); omega)) (by omega) (by (try simp (disch := omega) only [w64_in, u32_in', u64_in', u8_in', ishr_lit8, ishr_lit16, ishr_lit32, ishr_lit18, Int.tmod_eq_emod_of_nonneg, Int.tdiv_eq_ediv_of_nonneg, Int.toNat_natCast, Nat.add_zero]); omega) (by omega) (by (try simp (disch := omega) only [w64_in, u32_in', u64_in', u8_in', ishr_lit8, ishr_lit16, ishr_lit32, ishr_lit18, Int.tmod_eq_emod_of_nonneg, Int.tdiv_eq_ediv_of_nonneg, Int.toNat_natCast, Nat.add_zero]); omega)
  · exact len_fin' (c := 48) (by first | rfl | ((try simp (disch := omega) only [w64_in, u32_in', u64_in', u8_in', ishr_lit8, ishr_lit16, ishr_lit32, ishr_lit18, Int.tmod_eq_emod_of_nonneg, Int.tdiv_eq_ediv_of_nonneg, Int.toNat_natCast, Nat.add_zero]); omega)) (by omega) (by (try simp (disch := omega) only [w64_in, u32_in', u64_in', u8_in', ishr_lit8, ishr_lit16, ishr_lit32, ishr_lit18, Int.tmod_eq_emod_of_nonneg, Int.tdiv_eq_ediv_of_nonneg, Int.toNat_natCast, Nat.add_zero]); omega) (by omega) (by (try simp (disch := omega) only [w64_in, u32_in', u64_in', u8_in', ishr_lit8, ishr_lit16, ishr_lit32, ishr_lit18, Int.tmod_eq_emod_of_nonneg, Int.tdiv_eq_ediv_of_nonneg, Int.toNat_natCast, Nat.add_zero]); omega)
  · exact len_fin' (c := 40) (by first | rfl | ((try simp (disch := omega) only [w64_in, u32_in', u64_in', u8_in', ishr_lit8, ishr_lit16, ishr_lit32, ishr_lit18, Int.tmod_eq_emod_of_nonneg, Int.tdiv_eq_ediv_of_nonneg, Int.toNat_natCast, Nat.add_zero]); omega)) (by omega) (by (try simp (disch := omega) only [w64_in, u32_in', u64_in', u8_in', ishr_lit8, ishr_lit16, ishr_lit32, ishr_lit18, Int.tmod_eq_emod_of_nonneg, Int.tdiv_eq_ediv_of_nonneg, Int.toNat_natCast, Nat.add_zero]); omega) (by omega) (by (try simp (disch := omega) only [w64_in, u32_in', u64_in', u8_in', ishr_lit8, ishr_lit16, ishr_lit32, ishr_lit18, Int.tmod_eq_emod_of_nonneg, Int.tdiv_eq_ediv_of_nonneg, Int.toNat_natCast, Nat.add_zero]); omega)
  · exact len_fin' (c := 32) (by first | rfl | ((try simp (disch := omega) only [w64_in, u32_in', u64_in', u8_in', ishr_lit8, ishr_lit16, ishr_lit32, ishr_lit18, Int.tmod_eq_emod_of_nonneg, Int.tdiv_eq_ediv_of_nonneg, Int.toNat_natCast, Nat.add_zero]); omega)) (by omega) (by (try simp (disch := omega) only [w64_in, u32_in', u64_in', u8_in', ishr_lit8, ishr_lit16, ishr_lit32, ishr_lit18, Int.tmod_eq_emod_of_nonneg, Int.tdiv_eq_ediv_of_nonneg, Int.toNat_natCast, Nat.add_zero]); omega) (by omega) (by (try simp (disch := omega) only [w64_in, u32_in', u64_in', u8_in', ishr_lit8, ishr_lit16, ishr_lit32, ishr_lit18, Int.tmod_eq_emod_of_nonneg, Int.tdiv_eq_ediv_of_nonneg, Int.toNat_natCast, Nat.add_zero]); omega)
  · exact len_fin' (c := 24) (by first | rfl | ((try simp (disch := omega) only [w64_in, u32_in', u64_in', u8_in', ishr_lit8, ishr_lit16, ishr_lit32, ishr_lit18, Int.tmod_eq_emod_of_nonneg, Int.tdiv_eq_ediv_of_nonneg, Int.toNat_natCast, Nat.add_zero]); omega)) (by omega) (by (try simp (disch := omega) only [w64_in, u32_in', u64_in', u8_in', ishr_lit8, ishr_lit16, ishr_lit32, ishr_lit18, Int.tmod_eq_emod_of_nonneg, Int.tdiv_eq_ediv_of_nonneg, Int.toNat_natCast, Nat.add_zero]); omega) (by omega) (by (try simp (disch := omega) only [w64_in, u32_in', u64_in', u8_in', ishr_lit8, ishr_lit16, ishr_lit32, ishr_lit18, Int.tmod_eq_emod_of_nonneg, Int.tdiv_eq_ediv_of_nonneg, Int.toNat_natCast, Nat.add_zero]); omega)
  · exact len_fin' (c := 16) (by first | rfl | ((try simp (disch := omega) only [w64_in, u32_in', u64_in', u8_in', ishr_lit8, ishr_lit16, ishr_lit32, ishr_lit18, Int.tmod_eq_emod_of_nonneg, Int.tdiv_eq_ediv_of_nonneg, Int.toNat_natCast, Nat.add_zero]); omega)) (by omega) (by (try simp (disch := omega) only [w64_in, u32_in', u64_in', u8_in', ishr_lit8, ishr_lit16, ishr_lit32, ishr_lit18, Int.tmod_eq_emod_of_nonneg, Int.tdiv_eq_ediv_of_nonneg, Int.toNat_natCast, Nat.add_zero]); omega) (by omega) (by (try simp (disch := omega) only [w64_in, u32_in', u64_in', u8_in', ishr_lit8, ishr_lit16, ishr_lit32, ishr_lit18, Int.tmod_eq_emod_of_nonneg, Int.tdiv_eq_ediv_of_nonneg, Int.toNat_natCast, Nat.add_zero]); omega)
  · exact len_fin' (c := 8) (by first | rfl | ((try simp (disch := omega) only [w64_in, u32_in', u64_in', u8_in', ishr_lit8, ishr_lit16, ishr_lit32, ishr_lit18, Int.tmod_eq_emod_of_nonneg, Int.tdiv_eq_ediv_of_nonneg, Int.toNat_natCast, Nat.add_zero]); omega)) (by omega) (by (try simp (disch := omega) only [w64_in, u32_in', u64_in', u8_in', ishr_lit8, ishr_lit16, ishr_lit32, ishr_lit18, Int.tmod_eq_emod_of_nonneg, Int.tdiv_eq_ediv_of_nonneg, Int.toNat_natCast, Nat.add_zero]); omega) (by omega) (by (try simp (disch := omega) only [w64_in, u32_in', u64_in', u8_in', ishr_lit8, ishr_lit16, ishr_lit32, ishr_lit18, Int.tmod_eq_emod_of_nonneg, Int.tdiv_eq_ediv_of_nonneg, Int.toNat_natCast, Nat.add_zero]); omega)
  · exact len_fin' (c := 0) (by first | rfl | ((try simp (disch := omega) only [w64_in, u32_in', u64_in', u8_in', ishr_lit8, ishr_lit16, ishr_lit32, ishr_lit18, Int.tmod_eq_emod_of_nonneg, Int.tdiv_eq_ediv_of_nonneg, Int.toNat_natCast, Nat.add_zero]); omega)) (by omega) (by (try simp (disch := omega) only [w64_in, u32_in', u64_in', u8_in', ishr_lit8, ishr_lit16, ishr_lit32, ishr_lit18, Int.tmod_eq_emod_of_nonneg, Int.tdiv_eq_ediv_of_nonneg, Int.toNat_natCast, Nat.add_zero]); omega) (by omega) (by (try simp (disch := omega) only [w64_in, u32_in', u64_in', u8_in', ishr_lit8, ishr_lit16, ishr_lit32, ishr_lit18, Int.tmod_eq_emod_of_nonneg, Int.tdiv_eq_ediv_of_nonneg, Int.toNat_natCast, Nat.add_zero]); omega)

theorem conv_log10Pow2 (n : Nat) (hn : n ≤ 64) : Pure Tryd.prog 68 [.int .i64 n] (.int .i64 (n * 78913 / 262144 : Nat)) := by
  refine fc_of mixed T_ok Tryd.func68 rfl (by kernel_rfl) (by kernel_rfl) (by kernel_rfl) ?_
  repeat' ((conv => whnf); first | ((first | apply br_dec | apply br_ndec) <;> intro h <;> try (exfalso; (try dsimp only at h); omega)) | ((first | apply br_seq | apply br_nseq | apply br_not | apply br_intro) <;> intro h) | refine cond_a ?_)
  all_goals (conv => whnf)
  all_goals refine ret_pure ?_
  all_goals simp only [oneOr]
  all_goals (try simp (disch := omega) only [w64_in, u32_in', u64_in', u8_in', ishr_lit8, ishr_lit16, ishr_lit32, ishr_lit18, Int.tmod_eq_emod_of_nonneg, Int.tdiv_eq_ediv_of_nonneg, Int.toNat_natCast, Nat.add_zero])
  all_goals rfl

theorem conv_bool2 (b : Bool) : Pure Tryd.prog 69 [.bool b] (.int .i64 (if b = true then 1 else 0)) := by
  refine fc_of mixed T_ok Tryd.func69 rfl (by kernel_rfl) (by kernel_rfl) (by kernel_rfl) ?_
  repeat' ((conv => whnf); first | ((first | apply br_dec | apply br_ndec) <;> intro h <;> try (exfalso; (try dsimp only at h); omega)) | ((first | apply br_seq | apply br_nseq | apply br_not | apply br_intro) <;> intro h) | refine cond_a ?_)
  all_goals (conv => whnf)
  all_goals exact ret_pure (by simp [oneOr, h, cv])
end Go.Proofs.YtjjnbhbendlnhaaDoor

/- Contracts of the library: long multiplication and long division. -/
namespace Go.Proofs.YtjjnbhbendlnhaaDoor
open Go.RowKit Go.Sy
attribute [local irreducible] vcall vloop vcallD retP
set_option maxRecDepth 100000
set_option linter.unusedVariables false
set_option linter.unusedSimpArgs false

end Go.Proofs.YtjjnbhbendlnhaaDoor

/- Contracts of package money: checks, scaled amounts. -/
namespace Go.Proofs.YtjjnbhbendlnhaaDoor
open Go.RowKit Go.Sy
attribute [local irreducible] vcall vloop vcallD retP
set_option maxRecDepth 100000
set_option linter.unusedVariables false
set_option linter.unusedSimpArgs false

theorem money_inTotal (n : Int) : Pure Tryd.prog 45 [.int .i64 n] (.bool (decide (-4503599627370496 ≤ n ∧ n ≤ 4503599627370496))) := by
  refine fc_of mixed T_ok Tryd.func45 rfl (by kernel_rfl) (by kernel_rfl) (by kernel_rfl) ?_
  repeat' ((conv => whnf); first | ((first | apply br_dec | apply br_ndec) <;> intro h <;> try (exfalso; (try dsimp only at h); omega)) | ((first | apply br_seq | apply br_nseq | apply br_not | apply br_intro) <;> intro h) | refine cond_a ?_)
  all_goals (conv => whnf)
  · exact ret_pure (congrArg SV.bool (by rw [decide_eq_decide]; omega))
  · exact ret_pure (congrArg SV.bool (by rw [eq_comm, decide_eq_false_iff_not]; omega))
/-- The error of an amount. -/
def mchk (a : Int) (c : ByteArray) : Int := if curB c = false then 11 else if -4503599627370496 ≤ a ∧ a ≤ 4503599627370496 then 0 else 4
theorem mchk_or (a : Int) (c : ByteArray) : (mchk a c = 11 ∨ mchk a c = 4) ∨ (mchk a c = 0 ∧ curB c = true ∧ -4503599627370496 ≤ a ∧ a ≤ 4503599627370496) := by
  unfold mchk
  split
  · exact .inl (.inl rfl)
  · split
    · rename_i h1 h2
      exact .inr ⟨rfl, by cases h : curB c <;> simp_all, h2⟩
    · exact .inl (.inr rfl)
attribute [irreducible] mchk
theorem money_Check (a : Int) (c : ByteArray) : Pure Tryd.prog 32 [.agg [.int .i64 a, .str c]] (.int .i64 (mchk a c)) := by
  refine fc_of mixed T_ok Tryd.func32 rfl (by kernel_rfl) (by kernel_rfl) (by kernel_rfl) ?_
  repeat' ((conv => whnf); first | (refine vcall_pure (money_isCurrency _) rfl rfl rfl ?_) | (refine vcall_pure (money_inTotal _) rfl rfl rfl ?_) | ((first | apply br_dec | apply br_ndec) <;> intro h <;> try (exfalso; (try dsimp only at h); omega)) | ((first | apply br_seq | apply br_nseq | apply br_not | apply br_intro) <;> intro h) | refine cond_a ?_)
  all_goals (conv => whnf)
  all_goals refine ret_pure (congrArg (SV.int .i64) ?_)
  all_goals unfold mchk
  all_goals simp_all
end Go.Proofs.YtjjnbhbendlnhaaDoor

/- Contracts of the library: numbers in decimal. -/
namespace Go.Proofs.YtjjnbhbendlnhaaDoor
open Go.RowKit Go.Sy
attribute [local irreducible] vcall vloop vcallD retP
set_option maxRecDepth 100000
set_option linter.unusedVariables false
set_option linter.unusedSimpArgs false

def pow10L : List Int := [1, 10, 100, 1000, 10000, 100000, 1000000, 10000000, 100000000, 1000000000, 10000000000, 100000000000, 1000000000000, 10000000000000, 100000000000000, 1000000000000000, 10000000000000000, 100000000000000000, 1000000000000000000, 10000000000000000000]
theorem pow10_at : ∀ k, k < 20 → pow10L.getD k 0 = ((10 ^ k : Nat) : Int) := by decide +kernel

theorem conv_numDigits (u : Nat) (h1 : 1 ≤ u) (hu : u < 18446744073709551616) : Glob Tryd.prog glT 54 [.int .u64 u] (.int .i64 (ndig u)) := by
  have c1 := bits_Len64 u hu
  have hb := blen_le64 (u := u) hu
  have c2 := conv_log10Pow2 (blen u) hb
  have hk : blen u * 78913 / 262144 < 20 := by omega
  have hn := ndig_lib h1 hu
  have hp := pow10_at _ hk
  refine fc_of mixed T_ok Tryd.func54 rfl (by kernel_rfl) (by kernel_rfl) (by kernel_rfl) ?_
  generalize blen u * 78913 / 262144 = k at *
  repeat' ((conv => whnf); first | (refine vcall_pure (c1) rfl rfl rfl ?_) | (refine vcall_pure (c2) rfl rfl rfl ?_) | (refine vcall_pure (conv_bool2 _) rfl rfl rfl ?_) | ((first | apply br_dec | apply br_ndec) <;> intro h <;> try (exfalso; (try dsimp only at h); omega)) | ((first | apply br_seq | apply br_nseq | apply br_not | apply br_intro) <;> intro h) | refine cond_a ?_)
  all_goals (conv => whnf)
  all_goals refine ret_pure ?_
  all_goals simp only [oneOr]
  all_goals refine congrArg (SV.int .i64) ?_
  have e : ∀ b : Bool, b = decide ((pow10L.getD k 0) ≤ (u : Int)) → IntKind.i64.wrap ((k : Int) + if b = true then 1 else 0) = (ndig u : Int) := by
    intro b hb
    subst hb
    rw [hn, hp]
    by_cases h : 10 ^ k ≤ u
    · have h' : ((10 ^ k : Nat) : Int) ≤ (u : Int) := Int.ofNat_le.2 h
      rw [if_pos h, decide_eq_true h', if_pos rfl, w64_in (by omega) (by omega)]; rfl
    · have h' : ¬ ((10 ^ k : Nat) : Int) ≤ (u : Int) := fun x => h (Int.ofNat_le.1 x)
      rw [if_neg h, decide_eq_false h', if_neg (by simp), w64_in (by omega) (by omega)]; rfl
  exact e _ rfl

/-- A number below 100 in decimal. -/
theorem dec_small : ∀ n, n < 100 → (n < 10 → digs (ndig n) n = [((48 + n : Nat) : Int)]) ∧ (¬ n < 10 → digs (ndig n) n = [((48 + n / 10 : Nat) : Int), ((48 + n % 10 : Nat) : Int)]) := by
  intro n hn
  constructor
  · intro h
    rw [ndig, if_pos h]; simp [digs]; omega
  · intro h
    rw [ndig, if_neg h, ndig, if_pos (by omega)]; simp [digs]; omega
theorem extract_bytes {s : ByteArray} {a n : Nat} (h : a + n ≤ s.size) (l : List Int) (hl : l.length = n) (hg : ∀ i, i < n → byteAt s ((a + i : Nat) : Int) = l.getD i 0) : s.extract a (a + n) = bytesOf l := by
  have h1 : s.data.toList.length = s.size := by simp
  have : (s.extract a (a + n)).data.toList = (bytesOf l).data.toList := by
    unfold bytesOf
    simp only [ByteArray.data_extract, Array.toList_extract, List.extract_eq_take_drop]
    apply List.ext_getElem?
    intro i
    by_cases hi : i < n
    · rw [List.getElem?_take, if_pos (by omega), List.getElem?_drop, List.getElem?_eq_getElem (by omega)]
      rw [List.getElem?_map, List.getElem?_eq_getElem (by omega)]
      simp only [Option.map_some, Option.some.injEq]
      have hh := hg i hi
      unfold byteAt at hh
      rw [Int.toNat_natCast, List.getD, List.getElem?_eq_getElem (by omega), List.getD, List.getElem?_eq_getElem (by omega)] at hh
      simp only [Option.getD_some] at hh
      rw [← hh, Int.toNat_natCast]
      exact (UInt8.ofNat_toNat).symm
    · rw [List.getElem?_take, if_neg (by omega), List.getElem?_eq_none (by simp; omega)]
  have e2 : ∀ x y : ByteArray, x.data.toList = y.data.toList → x = y := by
    intro x y h; cases x; cases y; simp at h; congr
  exact e2 _ _ this

theorem conv_small (n : Nat) (hn : n < 100) : Pure Tryd.prog 53 [.int .i64 n] (.str (dec n)) := by
  obtain ⟨d1, d2⟩ := dec_small n hn
  refine fc_of mixed T_ok Tryd.func53 rfl (by kernel_rfl) (by kernel_rfl) (by kernel_rfl) ?_
  repeat' ((conv => whnf); first | (refine cond_intro ⟨by (try simp (disch := omega) only [w64_in, u32_in', u64_in', u8_in', ishr_lit8, ishr_lit16, ishr_lit32, ishr_lit18, Int.tmod_eq_emod_of_nonneg, Int.tdiv_eq_ediv_of_nonneg, Int.toNat_natCast, Nat.add_zero]); omega, by (try simp (disch := omega) only [w64_in, u32_in', u64_in', u8_in', ishr_lit8, ishr_lit16, ishr_lit32, ishr_lit18, Int.tmod_eq_emod_of_nonneg, Int.tdiv_eq_ediv_of_nonneg, Int.toNat_natCast, Nat.add_zero]); omega, sz_le (n := 36) (by kernel_rfl) (by (try simp (disch := omega) only [w64_in, u32_in', u64_in', u8_in', ishr_lit8, ishr_lit16, ishr_lit32, ishr_lit18, Int.tmod_eq_emod_of_nonneg, Int.tdiv_eq_ediv_of_nonneg, Int.toNat_natCast, Nat.add_zero]); omega)⟩ ?_) | (refine cond_intro ⟨by (try simp (disch := omega) only [w64_in, u32_in', u64_in', u8_in', ishr_lit8, ishr_lit16, ishr_lit32, ishr_lit18, Int.tmod_eq_emod_of_nonneg, Int.tdiv_eq_ediv_of_nonneg, Int.toNat_natCast, Nat.add_zero]); omega, by (try simp (disch := omega) only [w64_in, u32_in', u64_in', u8_in', ishr_lit8, ishr_lit16, ishr_lit32, ishr_lit18, Int.tmod_eq_emod_of_nonneg, Int.tdiv_eq_ediv_of_nonneg, Int.toNat_natCast, Nat.add_zero]); omega, sz_le (n := 200) (by kernel_rfl) (by (try simp (disch := omega) only [w64_in, u32_in', u64_in', u8_in', ishr_lit8, ishr_lit16, ishr_lit32, ishr_lit18, Int.tmod_eq_emod_of_nonneg, Int.tdiv_eq_ediv_of_nonneg, Int.toNat_natCast, Nat.add_zero]); omega)⟩ ?_) | ((first | apply br_dec | apply br_ndec) <;> intro h <;> try (exfalso; (try dsimp only at h); omega)) | ((first | apply br_seq | apply br_nseq | apply br_not | apply br_intro) <;> intro h) | refine cond_a ?_)
  all_goals (conv => whnf)
  all_goals refine ret_pure ?_
  all_goals simp only [oneOr]
  all_goals refine congrArg SV.str ?_
  all_goals unfold dec
  · rw [d1 (by omega), show (IntKind.i64.wrap ((n : Int) + 1)).toNat = n + 1 from by (try simp (disch := omega) only [w64_in, u32_in', u64_in', u8_in', ishr_lit8, ishr_lit16, ishr_lit32, ishr_lit18, Int.tmod_eq_emod_of_nonneg, Int.tdiv_eq_ediv_of_nonneg, Int.toNat_natCast, Nat.add_zero]); omega]
    refine extract_bytes (n := 1) (by show n + 1 ≤ 36; omega) _ rfl ?_
    intro i hi
    have e : i = 0 := by omega
    subst e
    refine Eq.trans (tabB_at (n := 36) (f := fun i => if i < 10 then 48 + i else 87 + i) (by kernel_rfl) (i := n + 0) (by omega)) ?_
    rw [if_pos (by omega)]; rfl
  · rw [d2 (by omega), show (IntKind.i64.wrap ((n : Int) * 2)).toNat = n * 2 from by (try simp (disch := omega) only [w64_in, u32_in', u64_in', u8_in', ishr_lit8, ishr_lit16, ishr_lit32, ishr_lit18, Int.tmod_eq_emod_of_nonneg, Int.tdiv_eq_ediv_of_nonneg, Int.toNat_natCast, Nat.add_zero]); omega, show (IntKind.i64.wrap (IntKind.i64.wrap ((n : Int) * 2) + 2)).toNat = n * 2 + 2 from by (try simp (disch := omega) only [w64_in, u32_in', u64_in', u8_in', ishr_lit8, ishr_lit16, ishr_lit32, ishr_lit18, Int.tmod_eq_emod_of_nonneg, Int.tdiv_eq_ediv_of_nonneg, Int.toNat_natCast, Nat.add_zero]); omega]
    refine extract_bytes (n := 2) (by show n * 2 + 2 ≤ 200; omega) _ rfl ?_
    intro i hi
    rcases (show i = 0 ∨ i = 1 by omega) with rfl | rfl
    · rw [show ((n * 2 + 0 : Nat) : Int) = (n : Int) * 2 by omega, sm_even (by kernel_rfl) (by omega) (by omega)]; rfl
    · rw [show ((n * 2 + 1 : Nat) : Int) = (n : Int) * 2 + 1 by omega, sm_odd (by kernel_rfl) (by omega) (by omega)]; rfl

set_option maxHeartbeats 2000000 in
/-- Digits into a row of bytes. -/
theorem conv_formatBase10 (l : List Int) (N o n U : Nat) (hl : l.length = N) (hN : o + n ≤ N) (hN2 : N ≤ 1000) (hU : U < 10 ^ n) (hU2 : U < 18446744073709551616) :
    FC Tryd.prog 2 55 [.sl 1 0 o n, .int .u64 U] [(1, some (.one false (.cols N [.sc (.ints .u8 l)])))] (isOut (.tup []) [(1, some (.one false (.cols N [.sc (.ints .u8 (dtab l N o n U n))])))] 2) := by
  refine fc_of mixed T_ok Tryd.func55 rfl (by kernel_rfl) (by kernel_rfl) (by kernel_rfl) ?_
  (conv => whnf)
  refine vloop_of (fun m : Nat => ⟨[(0, .sl 1 0 o n), (1, .int .u64 (U / 10 ^ m : Nat)), (4, .int .i64 (n - m : Nat))], [(1, some (.one false (.cols N [.sc (.ints .u8 (dtab l N o n U m))])))], 2⟩) (fun m => m ≤ n) (fun m => n - m) 0 [0, 1] [] ⟨rfl, ⟨rfl, ?_, rfl, trivial⟩, ⟨?_, trivial⟩⟩ (by omega) ?_
  · simp only [Nat.pow_zero, Nat.div_one]; rfl
  · rw [dtab_zero hl]; rfl
  intro m hm
  have hu : U / 10 ^ m ≤ U := Nat.div_le_self _ _
  have hdm : U / 10 ^ m < 10 ^ (n - m) := by
    rw [Nat.div_lt_iff_lt_mul (Nat.pow_pos (by omega)), ← Nat.pow_add, show n - m + m = n from by omega]; exact hU
  generalize hq : U / 10 ^ m = q at *
  by_cases h8 : 8 ≤ n - m
  · repeat' ((conv => whnf); first | (refine cond_intro ⟨by (try simp (disch := omega) only [w64_in, u32_in', u64_in', u8_in', ishr_lit8, ishr_lit16, ishr_lit32, ishr_lit18, Int.tmod_eq_emod_of_nonneg, Int.tdiv_eq_ediv_of_nonneg, Int.toNat_natCast, Nat.add_zero]); omega, sz_lt (n := 200) (by kernel_rfl) (by (try simp (disch := omega) only [w64_in, u32_in', u64_in', u8_in', ishr_lit8, ishr_lit16, ishr_lit32, ishr_lit18, Int.tmod_eq_emod_of_nonneg, Int.tdiv_eq_ediv_of_nonneg, Int.toNat_natCast, Nat.add_zero]); omega)⟩ ?_) | (refine cond_intro ⟨by (try simp (disch := omega) only [w64_in, u32_in', u64_in', u8_in', ishr_lit8, ishr_lit16, ishr_lit32, ishr_lit18, Int.tmod_eq_emod_of_nonneg, Int.tdiv_eq_ediv_of_nonneg, Int.toNat_natCast, Nat.add_zero]); omega, by (try simp (disch := omega) only [w64_in, u32_in', u64_in', u8_in', ishr_lit8, ishr_lit16, ishr_lit32, ishr_lit18, Int.tmod_eq_emod_of_nonneg, Int.tdiv_eq_ediv_of_nonneg, Int.toNat_natCast, Nat.add_zero]); omega⟩ ?_) | (refine cond_intro (by (try simp (disch := omega) only [w64_in, u32_in', u64_in', u8_in', ishr_lit8, ishr_lit16, ishr_lit32, ishr_lit18, Int.tmod_eq_emod_of_nonneg, Int.tdiv_eq_ediv_of_nonneg, Int.toNat_natCast, Nat.add_zero]); omega) ?_) | ((first | apply br_dec | apply br_ndec) <;> intro h <;> try (exfalso; (try dsimp only at h); omega)) | ((first | apply br_seq | apply br_nseq | apply br_not | apply br_intro) <;> intro h) | refine cond_a ?_)
    all_goals (conv => whnf)
    refine ⟨m + 8, [0, 1], [], by omega, by omega, ⟨rfl, ⟨rfl, ?_, ?_, trivial⟩, ⟨?_, trivial⟩⟩⟩
    · refine congrArg (fun z => some (SV.int .u64 z)) ?_
      (try simp (disch := omega) only [w64_in, u32_in', u64_in', u8_in', ishr_lit8, ishr_lit16, ishr_lit32, ishr_lit18, Int.tmod_eq_emod_of_nonneg, Int.tdiv_eq_ediv_of_nonneg, Int.toNat_natCast, Nat.add_zero])
      simp only [pow_step, hq, Nat.reducePow]; omega
    · refine congrArg (fun z => some (SV.int .i64 z)) ?_
      (try simp (disch := omega) only [w64_in, u32_in', u64_in', u8_in', ishr_lit8, ishr_lit16, ishr_lit32, ishr_lit18, Int.tmod_eq_emod_of_nonneg, Int.tdiv_eq_ediv_of_nonneg, Int.toNat_natCast, Nat.add_zero])
      omega
    · refine congrArg (fun z => some (HB.one false (.cols N [.sc (.ints .u8 z)]))) ?_
      rw [dtab_set (m := m), dtab_set (m := m + 1), dtab_set (m := m + 2), dtab_set (m := m + 3), dtab_set (m := m + 4), dtab_set (m := m + 5), dtab_set (m := m + 6), dtab_set (m := m + 7)]
      all_goals first | omega | ((try simp (disch := omega) only [w64_in, u32_in', u64_in', u8_in', ishr_lit8, ishr_lit16, ishr_lit32, ishr_lit18, Int.tmod_eq_emod_of_nonneg, Int.tdiv_eq_ediv_of_nonneg, Int.toNat_natCast, Nat.add_zero]); omega) | ((try simp (disch := omega) only [w64_in, u32_in', u64_in', u8_in', ishr_lit8, ishr_lit16, ishr_lit32, ishr_lit18, Int.tmod_eq_emod_of_nonneg, Int.tdiv_eq_ediv_of_nonneg, Int.toNat_natCast, Nat.add_zero]); rw [sm_odd (by kernel_rfl) (by omega) (by omega)]; simp only [pow_step, hq, Nat.reducePow]; omega) | ((try simp (disch := omega) only [w64_in, u32_in', u64_in', u8_in', ishr_lit8, ishr_lit16, ishr_lit32, ishr_lit18, Int.tmod_eq_emod_of_nonneg, Int.tdiv_eq_ediv_of_nonneg, Int.toNat_natCast, Nat.add_zero]); rw [sm_even (by kernel_rfl) (by omega) (by omega)]; simp only [pow_step, hq, Nat.reducePow]; omega)
  · have hk : n - m = 0 ∨ n - m = 1 ∨ n - m = 2 ∨ n - m = 3 ∨ n - m = 4 ∨ n - m = 5 ∨ n - m = 6 ∨ n - m = 7 := by omega
    rcases hk with hk | hk | hk | hk | hk | hk | hk | hk
    · obtain rfl : n = m + 0 := by omega
      have hk' : q < 10 ^ 0 := by simpa [hk] using hdm
      repeat' ((conv => whnf); first | (refine cond_intro ⟨by (try simp (disch := omega) only [w64_in, u32_in', u64_in', u8_in', ishr_lit8, ishr_lit16, ishr_lit32, ishr_lit18, Int.tmod_eq_emod_of_nonneg, Int.tdiv_eq_ediv_of_nonneg, Int.toNat_natCast, Nat.add_zero]); omega, sz_lt (n := 200) (by kernel_rfl) (by (try simp (disch := omega) only [w64_in, u32_in', u64_in', u8_in', ishr_lit8, ishr_lit16, ishr_lit32, ishr_lit18, Int.tmod_eq_emod_of_nonneg, Int.tdiv_eq_ediv_of_nonneg, Int.toNat_natCast, Nat.add_zero]); omega)⟩ ?_) | (refine cond_intro ⟨by (try simp (disch := omega) only [w64_in, u32_in', u64_in', u8_in', ishr_lit8, ishr_lit16, ishr_lit32, ishr_lit18, Int.tmod_eq_emod_of_nonneg, Int.tdiv_eq_ediv_of_nonneg, Int.toNat_natCast, Nat.add_zero]); omega, by (try simp (disch := omega) only [w64_in, u32_in', u64_in', u8_in', ishr_lit8, ishr_lit16, ishr_lit32, ishr_lit18, Int.tmod_eq_emod_of_nonneg, Int.tdiv_eq_ediv_of_nonneg, Int.toNat_natCast, Nat.add_zero]); omega⟩ ?_) | (refine cond_intro (by (try simp (disch := omega) only [w64_in, u32_in', u64_in', u8_in', ishr_lit8, ishr_lit16, ishr_lit32, ishr_lit18, Int.tmod_eq_emod_of_nonneg, Int.tdiv_eq_ediv_of_nonneg, Int.toNat_natCast, Nat.add_zero]); omega) ?_) | ((refine br_dec (fun h => ?_) (fun h => ?_)) <;> try (exfalso; revert h; (try simp (disch := omega) only [w64_in, u32_in', u64_in', u8_in', ishr_lit8, ishr_lit16, ishr_lit32, ishr_lit18, Int.tmod_eq_emod_of_nonneg, Int.tdiv_eq_ediv_of_nonneg, Int.toNat_natCast, Nat.add_zero]); omega)) | ((first | apply br_dec | apply br_ndec) <;> intro h <;> try (exfalso; (try dsimp only at h); omega)) | ((first | apply br_seq | apply br_nseq | apply br_not | apply br_intro) <;> intro h) | refine cond_a ?_)
      all_goals (conv => whnf)
      refine ret_out (l := [0, 1]) rfl rfl ⟨?_, trivial⟩ (allRw_cons allRw_nil)
      refine congrArg (fun z => some (HB.one false (.cols N [.sc (.ints .u8 z)]))) ?_
      rfl
    · obtain rfl : n = m + 1 := by omega
      have hk' : q < 10 ^ 1 := by simpa [hk] using hdm
      repeat' ((conv => whnf); first | (refine cond_intro ⟨by (try simp (disch := omega) only [w64_in, u32_in', u64_in', u8_in', ishr_lit8, ishr_lit16, ishr_lit32, ishr_lit18, Int.tmod_eq_emod_of_nonneg, Int.tdiv_eq_ediv_of_nonneg, Int.toNat_natCast, Nat.add_zero]); omega, sz_lt (n := 200) (by kernel_rfl) (by (try simp (disch := omega) only [w64_in, u32_in', u64_in', u8_in', ishr_lit8, ishr_lit16, ishr_lit32, ishr_lit18, Int.tmod_eq_emod_of_nonneg, Int.tdiv_eq_ediv_of_nonneg, Int.toNat_natCast, Nat.add_zero]); omega)⟩ ?_) | (refine cond_intro ⟨by (try simp (disch := omega) only [w64_in, u32_in', u64_in', u8_in', ishr_lit8, ishr_lit16, ishr_lit32, ishr_lit18, Int.tmod_eq_emod_of_nonneg, Int.tdiv_eq_ediv_of_nonneg, Int.toNat_natCast, Nat.add_zero]); omega, by (try simp (disch := omega) only [w64_in, u32_in', u64_in', u8_in', ishr_lit8, ishr_lit16, ishr_lit32, ishr_lit18, Int.tmod_eq_emod_of_nonneg, Int.tdiv_eq_ediv_of_nonneg, Int.toNat_natCast, Nat.add_zero]); omega⟩ ?_) | (refine cond_intro (by (try simp (disch := omega) only [w64_in, u32_in', u64_in', u8_in', ishr_lit8, ishr_lit16, ishr_lit32, ishr_lit18, Int.tmod_eq_emod_of_nonneg, Int.tdiv_eq_ediv_of_nonneg, Int.toNat_natCast, Nat.add_zero]); omega) ?_) | ((refine br_dec (fun h => ?_) (fun h => ?_)) <;> try (exfalso; revert h; (try simp (disch := omega) only [w64_in, u32_in', u64_in', u8_in', ishr_lit8, ishr_lit16, ishr_lit32, ishr_lit18, Int.tmod_eq_emod_of_nonneg, Int.tdiv_eq_ediv_of_nonneg, Int.toNat_natCast, Nat.add_zero]); omega)) | ((first | apply br_dec | apply br_ndec) <;> intro h <;> try (exfalso; (try dsimp only at h); omega)) | ((first | apply br_seq | apply br_nseq | apply br_not | apply br_intro) <;> intro h) | refine cond_a ?_)
      all_goals (conv => whnf)
      refine ret_out (l := [0, 1]) rfl rfl ⟨?_, trivial⟩ (allRw_cons allRw_nil)
      refine congrArg (fun z => some (HB.one false (.cols N [.sc (.ints .u8 z)]))) ?_
      rw [dtab_set (m := m)]
      all_goals first | omega | ((try simp (disch := omega) only [w64_in, u32_in', u64_in', u8_in', ishr_lit8, ishr_lit16, ishr_lit32, ishr_lit18, Int.tmod_eq_emod_of_nonneg, Int.tdiv_eq_ediv_of_nonneg, Int.toNat_natCast, Nat.add_zero]); omega) | ((try simp (disch := omega) only [w64_in, u32_in', u64_in', u8_in', ishr_lit8, ishr_lit16, ishr_lit32, ishr_lit18, Int.tmod_eq_emod_of_nonneg, Int.tdiv_eq_ediv_of_nonneg, Int.toNat_natCast, Nat.add_zero]); rw [sm_odd (by kernel_rfl) (by omega) (by omega)]; simp only [pow_step, hq, Nat.reducePow]; omega) | ((try simp (disch := omega) only [w64_in, u32_in', u64_in', u8_in', ishr_lit8, ishr_lit16, ishr_lit32, ishr_lit18, Int.tmod_eq_emod_of_nonneg, Int.tdiv_eq_ediv_of_nonneg, Int.toNat_natCast, Nat.add_zero]); rw [sm_even (by kernel_rfl) (by omega) (by omega)]; simp only [pow_step, hq, Nat.reducePow]; omega) | ((try simp (disch := omega) only [w64_in, u32_in', u64_in', u8_in', ishr_lit8, ishr_lit16, ishr_lit32, ishr_lit18, Int.tmod_eq_emod_of_nonneg, Int.tdiv_eq_ediv_of_nonneg, Int.toNat_natCast, Nat.add_zero]); simp only [pow_step, hq, Nat.reducePow]; omega)
    · obtain rfl : n = m + 2 := by omega
      have hk' : q < 10 ^ 2 := by simpa [hk] using hdm
      repeat' ((conv => whnf); first | (refine cond_intro ⟨by (try simp (disch := omega) only [w64_in, u32_in', u64_in', u8_in', ishr_lit8, ishr_lit16, ishr_lit32, ishr_lit18, Int.tmod_eq_emod_of_nonneg, Int.tdiv_eq_ediv_of_nonneg, Int.toNat_natCast, Nat.add_zero]); omega, sz_lt (n := 200) (by kernel_rfl) (by (try simp (disch := omega) only [w64_in, u32_in', u64_in', u8_in', ishr_lit8, ishr_lit16, ishr_lit32, ishr_lit18, Int.tmod_eq_emod_of_nonneg, Int.tdiv_eq_ediv_of_nonneg, Int.toNat_natCast, Nat.add_zero]); omega)⟩ ?_) | (refine cond_intro ⟨by (try simp (disch := omega) only [w64_in, u32_in', u64_in', u8_in', ishr_lit8, ishr_lit16, ishr_lit32, ishr_lit18, Int.tmod_eq_emod_of_nonneg, Int.tdiv_eq_ediv_of_nonneg, Int.toNat_natCast, Nat.add_zero]); omega, by (try simp (disch := omega) only [w64_in, u32_in', u64_in', u8_in', ishr_lit8, ishr_lit16, ishr_lit32, ishr_lit18, Int.tmod_eq_emod_of_nonneg, Int.tdiv_eq_ediv_of_nonneg, Int.toNat_natCast, Nat.add_zero]); omega⟩ ?_) | (refine cond_intro (by (try simp (disch := omega) only [w64_in, u32_in', u64_in', u8_in', ishr_lit8, ishr_lit16, ishr_lit32, ishr_lit18, Int.tmod_eq_emod_of_nonneg, Int.tdiv_eq_ediv_of_nonneg, Int.toNat_natCast, Nat.add_zero]); omega) ?_) | ((refine br_dec (fun h => ?_) (fun h => ?_)) <;> try (exfalso; revert h; (try simp (disch := omega) only [w64_in, u32_in', u64_in', u8_in', ishr_lit8, ishr_lit16, ishr_lit32, ishr_lit18, Int.tmod_eq_emod_of_nonneg, Int.tdiv_eq_ediv_of_nonneg, Int.toNat_natCast, Nat.add_zero]); omega)) | ((first | apply br_dec | apply br_ndec) <;> intro h <;> try (exfalso; (try dsimp only at h); omega)) | ((first | apply br_seq | apply br_nseq | apply br_not | apply br_intro) <;> intro h) | refine cond_a ?_)
      all_goals (conv => whnf)
      refine ret_out (l := [0, 1]) rfl rfl ⟨?_, trivial⟩ (allRw_cons allRw_nil)
      refine congrArg (fun z => some (HB.one false (.cols N [.sc (.ints .u8 z)]))) ?_
      rw [dtab_set (m := m), dtab_set (m := m + 1)]
      all_goals first | omega | ((try simp (disch := omega) only [w64_in, u32_in', u64_in', u8_in', ishr_lit8, ishr_lit16, ishr_lit32, ishr_lit18, Int.tmod_eq_emod_of_nonneg, Int.tdiv_eq_ediv_of_nonneg, Int.toNat_natCast, Nat.add_zero]); omega) | ((try simp (disch := omega) only [w64_in, u32_in', u64_in', u8_in', ishr_lit8, ishr_lit16, ishr_lit32, ishr_lit18, Int.tmod_eq_emod_of_nonneg, Int.tdiv_eq_ediv_of_nonneg, Int.toNat_natCast, Nat.add_zero]); rw [sm_odd (by kernel_rfl) (by omega) (by omega)]; simp only [pow_step, hq, Nat.reducePow]; omega) | ((try simp (disch := omega) only [w64_in, u32_in', u64_in', u8_in', ishr_lit8, ishr_lit16, ishr_lit32, ishr_lit18, Int.tmod_eq_emod_of_nonneg, Int.tdiv_eq_ediv_of_nonneg, Int.toNat_natCast, Nat.add_zero]); rw [sm_even (by kernel_rfl) (by omega) (by omega)]; simp only [pow_step, hq, Nat.reducePow]; omega) | ((try simp (disch := omega) only [w64_in, u32_in', u64_in', u8_in', ishr_lit8, ishr_lit16, ishr_lit32, ishr_lit18, Int.tmod_eq_emod_of_nonneg, Int.tdiv_eq_ediv_of_nonneg, Int.toNat_natCast, Nat.add_zero]); simp only [pow_step, hq, Nat.reducePow]; omega)
    · obtain rfl : n = m + 3 := by omega
      have hk' : q < 10 ^ 3 := by simpa [hk] using hdm
      repeat' ((conv => whnf); first | (refine cond_intro ⟨by (try simp (disch := omega) only [w64_in, u32_in', u64_in', u8_in', ishr_lit8, ishr_lit16, ishr_lit32, ishr_lit18, Int.tmod_eq_emod_of_nonneg, Int.tdiv_eq_ediv_of_nonneg, Int.toNat_natCast, Nat.add_zero]); omega, sz_lt (n := 200) (by kernel_rfl) (by (try simp (disch := omega) only [w64_in, u32_in', u64_in', u8_in', ishr_lit8, ishr_lit16, ishr_lit32, ishr_lit18, Int.tmod_eq_emod_of_nonneg, Int.tdiv_eq_ediv_of_nonneg, Int.toNat_natCast, Nat.add_zero]); omega)⟩ ?_) | (refine cond_intro ⟨by (try simp (disch := omega) only [w64_in, u32_in', u64_in', u8_in', ishr_lit8, ishr_lit16, ishr_lit32, ishr_lit18, Int.tmod_eq_emod_of_nonneg, Int.tdiv_eq_ediv_of_nonneg, Int.toNat_natCast, Nat.add_zero]); omega, by (try simp (disch := omega) only [w64_in, u32_in', u64_in', u8_in', ishr_lit8, ishr_lit16, ishr_lit32, ishr_lit18, Int.tmod_eq_emod_of_nonneg, Int.tdiv_eq_ediv_of_nonneg, Int.toNat_natCast, Nat.add_zero]); omega⟩ ?_) | (refine cond_intro (by (try simp (disch := omega) only [w64_in, u32_in', u64_in', u8_in', ishr_lit8, ishr_lit16, ishr_lit32, ishr_lit18, Int.tmod_eq_emod_of_nonneg, Int.tdiv_eq_ediv_of_nonneg, Int.toNat_natCast, Nat.add_zero]); omega) ?_) | ((refine br_dec (fun h => ?_) (fun h => ?_)) <;> try (exfalso; revert h; (try simp (disch := omega) only [w64_in, u32_in', u64_in', u8_in', ishr_lit8, ishr_lit16, ishr_lit32, ishr_lit18, Int.tmod_eq_emod_of_nonneg, Int.tdiv_eq_ediv_of_nonneg, Int.toNat_natCast, Nat.add_zero]); omega)) | ((first | apply br_dec | apply br_ndec) <;> intro h <;> try (exfalso; (try dsimp only at h); omega)) | ((first | apply br_seq | apply br_nseq | apply br_not | apply br_intro) <;> intro h) | refine cond_a ?_)
      all_goals (conv => whnf)
      refine ret_out (l := [0, 1]) rfl rfl ⟨?_, trivial⟩ (allRw_cons allRw_nil)
      refine congrArg (fun z => some (HB.one false (.cols N [.sc (.ints .u8 z)]))) ?_
      rw [dtab_set (m := m), dtab_set (m := m + 1), dtab_set (m := m + 2)]
      all_goals first | omega | ((try simp (disch := omega) only [w64_in, u32_in', u64_in', u8_in', ishr_lit8, ishr_lit16, ishr_lit32, ishr_lit18, Int.tmod_eq_emod_of_nonneg, Int.tdiv_eq_ediv_of_nonneg, Int.toNat_natCast, Nat.add_zero]); omega) | ((try simp (disch := omega) only [w64_in, u32_in', u64_in', u8_in', ishr_lit8, ishr_lit16, ishr_lit32, ishr_lit18, Int.tmod_eq_emod_of_nonneg, Int.tdiv_eq_ediv_of_nonneg, Int.toNat_natCast, Nat.add_zero]); rw [sm_odd (by kernel_rfl) (by omega) (by omega)]; simp only [pow_step, hq, Nat.reducePow]; omega) | ((try simp (disch := omega) only [w64_in, u32_in', u64_in', u8_in', ishr_lit8, ishr_lit16, ishr_lit32, ishr_lit18, Int.tmod_eq_emod_of_nonneg, Int.tdiv_eq_ediv_of_nonneg, Int.toNat_natCast, Nat.add_zero]); rw [sm_even (by kernel_rfl) (by omega) (by omega)]; simp only [pow_step, hq, Nat.reducePow]; omega) | ((try simp (disch := omega) only [w64_in, u32_in', u64_in', u8_in', ishr_lit8, ishr_lit16, ishr_lit32, ishr_lit18, Int.tmod_eq_emod_of_nonneg, Int.tdiv_eq_ediv_of_nonneg, Int.toNat_natCast, Nat.add_zero]); simp only [pow_step, hq, Nat.reducePow]; omega)
    · obtain rfl : n = m + 4 := by omega
      have hk' : q < 10 ^ 4 := by simpa [hk] using hdm
      repeat' ((conv => whnf); first | (refine cond_intro ⟨by (try simp (disch := omega) only [w64_in, u32_in', u64_in', u8_in', ishr_lit8, ishr_lit16, ishr_lit32, ishr_lit18, Int.tmod_eq_emod_of_nonneg, Int.tdiv_eq_ediv_of_nonneg, Int.toNat_natCast, Nat.add_zero]); omega, sz_lt (n := 200) (by kernel_rfl) (by (try simp (disch := omega) only [w64_in, u32_in', u64_in', u8_in', ishr_lit8, ishr_lit16, ishr_lit32, ishr_lit18, Int.tmod_eq_emod_of_nonneg, Int.tdiv_eq_ediv_of_nonneg, Int.toNat_natCast, Nat.add_zero]); omega)⟩ ?_) | (refine cond_intro ⟨by (try simp (disch := omega) only [w64_in, u32_in', u64_in', u8_in', ishr_lit8, ishr_lit16, ishr_lit32, ishr_lit18, Int.tmod_eq_emod_of_nonneg, Int.tdiv_eq_ediv_of_nonneg, Int.toNat_natCast, Nat.add_zero]); omega, by (try simp (disch := omega) only [w64_in, u32_in', u64_in', u8_in', ishr_lit8, ishr_lit16, ishr_lit32, ishr_lit18, Int.tmod_eq_emod_of_nonneg, Int.tdiv_eq_ediv_of_nonneg, Int.toNat_natCast, Nat.add_zero]); omega⟩ ?_) | (refine cond_intro (by (try simp (disch := omega) only [w64_in, u32_in', u64_in', u8_in', ishr_lit8, ishr_lit16, ishr_lit32, ishr_lit18, Int.tmod_eq_emod_of_nonneg, Int.tdiv_eq_ediv_of_nonneg, Int.toNat_natCast, Nat.add_zero]); omega) ?_) | ((refine br_dec (fun h => ?_) (fun h => ?_)) <;> try (exfalso; revert h; (try simp (disch := omega) only [w64_in, u32_in', u64_in', u8_in', ishr_lit8, ishr_lit16, ishr_lit32, ishr_lit18, Int.tmod_eq_emod_of_nonneg, Int.tdiv_eq_ediv_of_nonneg, Int.toNat_natCast, Nat.add_zero]); omega)) | ((first | apply br_dec | apply br_ndec) <;> intro h <;> try (exfalso; (try dsimp only at h); omega)) | ((first | apply br_seq | apply br_nseq | apply br_not | apply br_intro) <;> intro h) | refine cond_a ?_)
      all_goals (conv => whnf)
      refine ret_out (l := [0, 1]) rfl rfl ⟨?_, trivial⟩ (allRw_cons allRw_nil)
      refine congrArg (fun z => some (HB.one false (.cols N [.sc (.ints .u8 z)]))) ?_
      rw [dtab_set (m := m), dtab_set (m := m + 1), dtab_set (m := m + 2), dtab_set (m := m + 3)]
      all_goals first | omega | ((try simp (disch := omega) only [w64_in, u32_in', u64_in', u8_in', ishr_lit8, ishr_lit16, ishr_lit32, ishr_lit18, Int.tmod_eq_emod_of_nonneg, Int.tdiv_eq_ediv_of_nonneg, Int.toNat_natCast, Nat.add_zero]); omega) | ((try simp (disch := omega) only [w64_in, u32_in', u64_in', u8_in', ishr_lit8, ishr_lit16, ishr_lit32, ishr_lit18, Int.tmod_eq_emod_of_nonneg, Int.tdiv_eq_ediv_of_nonneg, Int.toNat_natCast, Nat.add_zero]); rw [sm_odd (by kernel_rfl) (by omega) (by omega)]; simp only [pow_step, hq, Nat.reducePow]; omega) | ((try simp (disch := omega) only [w64_in, u32_in', u64_in', u8_in', ishr_lit8, ishr_lit16, ishr_lit32, ishr_lit18, Int.tmod_eq_emod_of_nonneg, Int.tdiv_eq_ediv_of_nonneg, Int.toNat_natCast, Nat.add_zero]); rw [sm_even (by kernel_rfl) (by omega) (by omega)]; simp only [pow_step, hq, Nat.reducePow]; omega) | ((try simp (disch := omega) only [w64_in, u32_in', u64_in', u8_in', ishr_lit8, ishr_lit16, ishr_lit32, ishr_lit18, Int.tmod_eq_emod_of_nonneg, Int.tdiv_eq_ediv_of_nonneg, Int.toNat_natCast, Nat.add_zero]); simp only [pow_step, hq, Nat.reducePow]; omega)
    · obtain rfl : n = m + 5 := by omega
      have hk' : q < 10 ^ 5 := by simpa [hk] using hdm
      repeat' ((conv => whnf); first | (refine cond_intro ⟨by (try simp (disch := omega) only [w64_in, u32_in', u64_in', u8_in', ishr_lit8, ishr_lit16, ishr_lit32, ishr_lit18, Int.tmod_eq_emod_of_nonneg, Int.tdiv_eq_ediv_of_nonneg, Int.toNat_natCast, Nat.add_zero]); omega, sz_lt (n := 200) (by kernel_rfl) (by (try simp (disch := omega) only [w64_in, u32_in', u64_in', u8_in', ishr_lit8, ishr_lit16, ishr_lit32, ishr_lit18, Int.tmod_eq_emod_of_nonneg, Int.tdiv_eq_ediv_of_nonneg, Int.toNat_natCast, Nat.add_zero]); omega)⟩ ?_) | (refine cond_intro ⟨by (try simp (disch := omega) only [w64_in, u32_in', u64_in', u8_in', ishr_lit8, ishr_lit16, ishr_lit32, ishr_lit18, Int.tmod_eq_emod_of_nonneg, Int.tdiv_eq_ediv_of_nonneg, Int.toNat_natCast, Nat.add_zero]); omega, by (try simp (disch := omega) only [w64_in, u32_in', u64_in', u8_in', ishr_lit8, ishr_lit16, ishr_lit32, ishr_lit18, Int.tmod_eq_emod_of_nonneg, Int.tdiv_eq_ediv_of_nonneg, Int.toNat_natCast, Nat.add_zero]); omega⟩ ?_) | (refine cond_intro (by (try simp (disch := omega) only [w64_in, u32_in', u64_in', u8_in', ishr_lit8, ishr_lit16, ishr_lit32, ishr_lit18, Int.tmod_eq_emod_of_nonneg, Int.tdiv_eq_ediv_of_nonneg, Int.toNat_natCast, Nat.add_zero]); omega) ?_) | ((refine br_dec (fun h => ?_) (fun h => ?_)) <;> try (exfalso; revert h; (try simp (disch := omega) only [w64_in, u32_in', u64_in', u8_in', ishr_lit8, ishr_lit16, ishr_lit32, ishr_lit18, Int.tmod_eq_emod_of_nonneg, Int.tdiv_eq_ediv_of_nonneg, Int.toNat_natCast, Nat.add_zero]); omega)) | ((first | apply br_dec | apply br_ndec) <;> intro h <;> try (exfalso; (try dsimp only at h); omega)) | ((first | apply br_seq | apply br_nseq | apply br_not | apply br_intro) <;> intro h) | refine cond_a ?_)
      all_goals (conv => whnf)
      refine ret_out (l := [0, 1]) rfl rfl ⟨?_, trivial⟩ (allRw_cons allRw_nil)
      refine congrArg (fun z => some (HB.one false (.cols N [.sc (.ints .u8 z)]))) ?_
      rw [dtab_set (m := m), dtab_set (m := m + 1), dtab_set (m := m + 2), dtab_set (m := m + 3), dtab_set (m := m + 4)]
      all_goals first | omega | ((try simp (disch := omega) only [w64_in, u32_in', u64_in', u8_in', ishr_lit8, ishr_lit16, ishr_lit32, ishr_lit18, Int.tmod_eq_emod_of_nonneg, Int.tdiv_eq_ediv_of_nonneg, Int.toNat_natCast, Nat.add_zero]); omega) | ((try simp (disch := omega) only [w64_in, u32_in', u64_in', u8_in', ishr_lit8, ishr_lit16, ishr_lit32, ishr_lit18, Int.tmod_eq_emod_of_nonneg, Int.tdiv_eq_ediv_of_nonneg, Int.toNat_natCast, Nat.add_zero]); rw [sm_odd (by kernel_rfl) (by omega) (by omega)]; simp only [pow_step, hq, Nat.reducePow]; omega) | ((try simp (disch := omega) only [w64_in, u32_in', u64_in', u8_in', ishr_lit8, ishr_lit16, ishr_lit32, ishr_lit18, Int.tmod_eq_emod_of_nonneg, Int.tdiv_eq_ediv_of_nonneg, Int.toNat_natCast, Nat.add_zero]); rw [sm_even (by kernel_rfl) (by omega) (by omega)]; simp only [pow_step, hq, Nat.reducePow]; omega) | ((try simp (disch := omega) only [w64_in, u32_in', u64_in', u8_in', ishr_lit8, ishr_lit16, ishr_lit32, ishr_lit18, Int.tmod_eq_emod_of_nonneg, Int.tdiv_eq_ediv_of_nonneg, Int.toNat_natCast, Nat.add_zero]); simp only [pow_step, hq, Nat.reducePow]; omega)
    · obtain rfl : n = m + 6 := by omega
      have hk' : q < 10 ^ 6 := by simpa [hk] using hdm
      repeat' ((conv => whnf); first | (refine cond_intro ⟨by (try simp (disch := omega) only [w64_in, u32_in', u64_in', u8_in', ishr_lit8, ishr_lit16, ishr_lit32, ishr_lit18, Int.tmod_eq_emod_of_nonneg, Int.tdiv_eq_ediv_of_nonneg, Int.toNat_natCast, Nat.add_zero]); omega, sz_lt (n := 200) (by kernel_rfl) (by (try simp (disch := omega) only [w64_in, u32_in', u64_in', u8_in', ishr_lit8, ishr_lit16, ishr_lit32, ishr_lit18, Int.tmod_eq_emod_of_nonneg, Int.tdiv_eq_ediv_of_nonneg, Int.toNat_natCast, Nat.add_zero]); omega)⟩ ?_) | (refine cond_intro ⟨by (try simp (disch := omega) only [w64_in, u32_in', u64_in', u8_in', ishr_lit8, ishr_lit16, ishr_lit32, ishr_lit18, Int.tmod_eq_emod_of_nonneg, Int.tdiv_eq_ediv_of_nonneg, Int.toNat_natCast, Nat.add_zero]); omega, by (try simp (disch := omega) only [w64_in, u32_in', u64_in', u8_in', ishr_lit8, ishr_lit16, ishr_lit32, ishr_lit18, Int.tmod_eq_emod_of_nonneg, Int.tdiv_eq_ediv_of_nonneg, Int.toNat_natCast, Nat.add_zero]); omega⟩ ?_) | (refine cond_intro (by (try simp (disch := omega) only [w64_in, u32_in', u64_in', u8_in', ishr_lit8, ishr_lit16, ishr_lit32, ishr_lit18, Int.tmod_eq_emod_of_nonneg, Int.tdiv_eq_ediv_of_nonneg, Int.toNat_natCast, Nat.add_zero]); omega) ?_) | ((refine br_dec (fun h => ?_) (fun h => ?_)) <;> try (exfalso; revert h; (try simp (disch := omega) only [w64_in, u32_in', u64_in', u8_in', ishr_lit8, ishr_lit16, ishr_lit32, ishr_lit18, Int.tmod_eq_emod_of_nonneg, Int.tdiv_eq_ediv_of_nonneg, Int.toNat_natCast, Nat.add_zero]); omega)) | ((first | apply br_dec | apply br_ndec) <;> intro h <;> try (exfalso; (try dsimp only at h); omega)) | ((first | apply br_seq | apply br_nseq | apply br_not | apply br_intro) <;> intro h) | refine cond_a ?_)
      all_goals (conv => whnf)
      refine ret_out (l := [0, 1]) rfl rfl ⟨?_, trivial⟩ (allRw_cons allRw_nil)
      refine congrArg (fun z => some (HB.one false (.cols N [.sc (.ints .u8 z)]))) ?_
      rw [dtab_set (m := m), dtab_set (m := m + 1), dtab_set (m := m + 2), dtab_set (m := m + 3), dtab_set (m := m + 4), dtab_set (m := m + 5)]
      all_goals first | omega | ((try simp (disch := omega) only [w64_in, u32_in', u64_in', u8_in', ishr_lit8, ishr_lit16, ishr_lit32, ishr_lit18, Int.tmod_eq_emod_of_nonneg, Int.tdiv_eq_ediv_of_nonneg, Int.toNat_natCast, Nat.add_zero]); omega) | ((try simp (disch := omega) only [w64_in, u32_in', u64_in', u8_in', ishr_lit8, ishr_lit16, ishr_lit32, ishr_lit18, Int.tmod_eq_emod_of_nonneg, Int.tdiv_eq_ediv_of_nonneg, Int.toNat_natCast, Nat.add_zero]); rw [sm_odd (by kernel_rfl) (by omega) (by omega)]; simp only [pow_step, hq, Nat.reducePow]; omega) | ((try simp (disch := omega) only [w64_in, u32_in', u64_in', u8_in', ishr_lit8, ishr_lit16, ishr_lit32, ishr_lit18, Int.tmod_eq_emod_of_nonneg, Int.tdiv_eq_ediv_of_nonneg, Int.toNat_natCast, Nat.add_zero]); rw [sm_even (by kernel_rfl) (by omega) (by omega)]; simp only [pow_step, hq, Nat.reducePow]; omega) | ((try simp (disch := omega) only [w64_in, u32_in', u64_in', u8_in', ishr_lit8, ishr_lit16, ishr_lit32, ishr_lit18, Int.tmod_eq_emod_of_nonneg, Int.tdiv_eq_ediv_of_nonneg, Int.toNat_natCast, Nat.add_zero]); simp only [pow_step, hq, Nat.reducePow]; omega)
    · obtain rfl : n = m + 7 := by omega
      have hk' : q < 10 ^ 7 := by simpa [hk] using hdm
      repeat' ((conv => whnf); first | (refine cond_intro ⟨by (try simp (disch := omega) only [w64_in, u32_in', u64_in', u8_in', ishr_lit8, ishr_lit16, ishr_lit32, ishr_lit18, Int.tmod_eq_emod_of_nonneg, Int.tdiv_eq_ediv_of_nonneg, Int.toNat_natCast, Nat.add_zero]); omega, sz_lt (n := 200) (by kernel_rfl) (by (try simp (disch := omega) only [w64_in, u32_in', u64_in', u8_in', ishr_lit8, ishr_lit16, ishr_lit32, ishr_lit18, Int.tmod_eq_emod_of_nonneg, Int.tdiv_eq_ediv_of_nonneg, Int.toNat_natCast, Nat.add_zero]); omega)⟩ ?_) | (refine cond_intro ⟨by (try simp (disch := omega) only [w64_in, u32_in', u64_in', u8_in', ishr_lit8, ishr_lit16, ishr_lit32, ishr_lit18, Int.tmod_eq_emod_of_nonneg, Int.tdiv_eq_ediv_of_nonneg, Int.toNat_natCast, Nat.add_zero]); omega, by (try simp (disch := omega) only [w64_in, u32_in', u64_in', u8_in', ishr_lit8, ishr_lit16, ishr_lit32, ishr_lit18, Int.tmod_eq_emod_of_nonneg, Int.tdiv_eq_ediv_of_nonneg, Int.toNat_natCast, Nat.add_zero]); omega⟩ ?_) | (refine cond_intro (by (try simp (disch := omega) only [w64_in, u32_in', u64_in', u8_in', ishr_lit8, ishr_lit16, ishr_lit32, ishr_lit18, Int.tmod_eq_emod_of_nonneg, Int.tdiv_eq_ediv_of_nonneg, Int.toNat_natCast, Nat.add_zero]); omega) ?_) | ((refine br_dec (fun h => ?_) (fun h => ?_)) <;> try (exfalso; revert h; (try simp (disch := omega) only [w64_in, u32_in', u64_in', u8_in', ishr_lit8, ishr_lit16, ishr_lit32, ishr_lit18, Int.tmod_eq_emod_of_nonneg, Int.tdiv_eq_ediv_of_nonneg, Int.toNat_natCast, Nat.add_zero]); omega)) | ((first | apply br_dec | apply br_ndec) <;> intro h <;> try (exfalso; (try dsimp only at h); omega)) | ((first | apply br_seq | apply br_nseq | apply br_not | apply br_intro) <;> intro h) | refine cond_a ?_)
      all_goals (conv => whnf)
      refine ret_out (l := [0, 1]) rfl rfl ⟨?_, trivial⟩ (allRw_cons allRw_nil)
      refine congrArg (fun z => some (HB.one false (.cols N [.sc (.ints .u8 z)]))) ?_
      rw [dtab_set (m := m), dtab_set (m := m + 1), dtab_set (m := m + 2), dtab_set (m := m + 3), dtab_set (m := m + 4), dtab_set (m := m + 5), dtab_set (m := m + 6)]
      all_goals first | omega | ((try simp (disch := omega) only [w64_in, u32_in', u64_in', u8_in', ishr_lit8, ishr_lit16, ishr_lit32, ishr_lit18, Int.tmod_eq_emod_of_nonneg, Int.tdiv_eq_ediv_of_nonneg, Int.toNat_natCast, Nat.add_zero]); omega) | ((try simp (disch := omega) only [w64_in, u32_in', u64_in', u8_in', ishr_lit8, ishr_lit16, ishr_lit32, ishr_lit18, Int.tmod_eq_emod_of_nonneg, Int.tdiv_eq_ediv_of_nonneg, Int.toNat_natCast, Nat.add_zero]); rw [sm_odd (by kernel_rfl) (by omega) (by omega)]; simp only [pow_step, hq, Nat.reducePow]; omega) | ((try simp (disch := omega) only [w64_in, u32_in', u64_in', u8_in', ishr_lit8, ishr_lit16, ishr_lit32, ishr_lit18, Int.tmod_eq_emod_of_nonneg, Int.tdiv_eq_ediv_of_nonneg, Int.toNat_natCast, Nat.add_zero]); rw [sm_even (by kernel_rfl) (by omega) (by omega)]; simp only [pow_step, hq, Nat.reducePow]; omega) | ((try simp (disch := omega) only [w64_in, u32_in', u64_in', u8_in', ishr_lit8, ishr_lit16, ishr_lit32, ishr_lit18, Int.tmod_eq_emod_of_nonneg, Int.tdiv_eq_ediv_of_nonneg, Int.toNat_natCast, Nat.add_zero]); simp only [pow_step, hq, Nat.reducePow]; omega)
end Go.Proofs.YtjjnbhbendlnhaaDoor

/- Contracts of the library: FormatInt. -/
namespace Go.Proofs.YtjjnbhbendlnhaaDoor
open Go.RowKit Go.Sy
attribute [local irreducible] vcall vloop vcallD retP
set_option maxRecDepth 100000
set_option linter.unusedVariables false
set_option linter.unusedSimpArgs false

theorem ndig_le {u : Nat} (h : u < 18446744073709551616) : ndig u ≤ 20 := by
  rcases Nat.lt_or_ge 20 (ndig u) with h1 | h1
  · have hu : 1 ≤ u := by
      rcases Nat.eq_zero_or_pos u with e | e
      · subst e; rw [ndig, if_pos (by omega)] at h1; omega
      · exact e
    have a := ndig_ge u hu
    have : 10 ^ 20 ≤ 10 ^ (ndig u - 1) := Nat.pow_le_pow_right (by omega) (by omega)
    omega
  · exact h1

theorem iconv_FormatInt (i : Int) (h1 : -9223372036854775808 ≤ i) (h2 : i ≤ 9223372036854775807) : Glob Tryd.prog glT 48 [.int .i64 i, .int .i64 10] (.str (decI i)) := by
  refine fc_of mixed T_ok Tryd.func48 rfl (by kernel_rfl) (by kernel_rfl) (by kernel_rfl) ?_
  by_cases hs : 0 ≤ i ∧ i < 100
  · have c := conv_small i.toNat (by omega)
    rw [Int.toNat_of_nonneg hs.1] at c
    repeat' ((conv => whnf); first | (refine vcall_pure (c) rfl rfl rfl ?_) | ((first | apply br_dec | apply br_ndec) <;> intro h <;> try (exfalso; (try dsimp only at h); omega)) | ((first | apply br_seq | apply br_nseq | apply br_not | apply br_intro) <;> intro h) | refine cond_a ?_)
    all_goals (conv => whnf)
    all_goals refine ret_pure ?_
    unfold decI
    rw [if_neg (by omega)]; rfl
  · by_cases hi : i < 0
    · have e : IntKind.u64.wrap (0 - IntKind.u64.wrap i) = (i.natAbs : Int) := by
        simp only [IntKind.wrap, IntKind.bits, IntKind.signed]; simp; omega
      have hb : i.natAbs < 18446744073709551616 := by omega
      have hn := ndig_le hb
      have hp := ndig_pos i.natAbs
      have c2 := conv_numDigits i.natAbs (by omega) hb
      rw [← e] at c2
      have en : (IntKind.i64.wrap (1 + (ndig i.natAbs : Int))).toNat = 1 + ndig i.natAbs := by (try simp (disch := omega) only [w64_in, u32_in', u64_in', u8_in', ishr_lit8, ishr_lit16, ishr_lit32, ishr_lit18, Int.tmod_eq_emod_of_nonneg, Int.tdiv_eq_ediv_of_nonneg, Int.toNat_natCast, Nat.add_zero]); omega
      have en' : (IntKind.i64.wrap (1 + (ndig i.natAbs : Int))).toNat - Int.toNat 1 = ndig i.natAbs := by rw [en]; simp
      have c3 := conv_formatBase10 (List.replicate 24 0) 24 (Int.toNat 1) ((IntKind.i64.wrap (1 + (ndig i.natAbs : Int))).toNat - Int.toNat 1) i.natAbs rfl (by rw [en']; show 1 + _ ≤ 24; omega) (by omega) (by rw [en']; exact ndig_lt _) hb
      rw [← e] at c3
      repeat' ((conv => whnf); first | (refine vcall_glob (c2) rfl rfl rfl rfl ?_) | refine vcall_o (l := [0, 1]) (c3) ?_ | (refine cond_intro ⟨by (try simp (disch := omega) only [w64_in, u32_in', u64_in', u8_in', ishr_lit8, ishr_lit16, ishr_lit32, ishr_lit18, Int.tmod_eq_emod_of_nonneg, Int.tdiv_eq_ediv_of_nonneg, Int.toNat_natCast, Nat.add_zero]); omega, by (try simp (disch := omega) only [w64_in, u32_in', u64_in', u8_in', ishr_lit8, ishr_lit16, ishr_lit32, ishr_lit18, Int.tmod_eq_emod_of_nonneg, Int.tdiv_eq_ediv_of_nonneg, Int.toNat_natCast, Nat.add_zero]); omega, by (try simp (disch := omega) only [w64_in, u32_in', u64_in', u8_in', ishr_lit8, ishr_lit16, ishr_lit32, ishr_lit18, Int.tmod_eq_emod_of_nonneg, Int.tdiv_eq_ediv_of_nonneg, Int.toNat_natCast, Nat.add_zero]); omega⟩ ?_) | (refine cond_intro (by (try simp (disch := omega) only [w64_in, u32_in', u64_in', u8_in', ishr_lit8, ishr_lit16, ishr_lit32, ishr_lit18, Int.tmod_eq_emod_of_nonneg, Int.tdiv_eq_ediv_of_nonneg, Int.toNat_natCast, Nat.add_zero]); omega) ?_) | ((first | apply br_dec | apply br_ndec) <;> intro h <;> try (exfalso; (try dsimp only at h); omega)) | ((first | apply br_seq | apply br_nseq | apply br_not | apply br_intro) <;> intro h) | refine cond_a ?_)
      all_goals (conv => whnf)
      all_goals refine ret_pure ?_
      unfold decI
      rw [if_pos hi]
      refine congrArg SV.str (congrArg bytesOf ?_)
      rw [en', en]
      refine Eq.trans (seg_head (n := ndig i.natAbs) (by rw [dtab_length]; omega)) ?_
      rw [show Int.toNat 1 = 1 from rfl, dtab_seg (by omega)]
    · have e : IntKind.u64.wrap i = (i.toNat : Int) := by (try simp (disch := omega) only [w64_in, u32_in', u64_in', u8_in', ishr_lit8, ishr_lit16, ishr_lit32, ishr_lit18, Int.tmod_eq_emod_of_nonneg, Int.tdiv_eq_ediv_of_nonneg, Int.toNat_natCast, Nat.add_zero]); omega
      have hb : i.toNat < 18446744073709551616 := by omega
      have hn := ndig_le hb
      have hp := ndig_pos i.toNat
      have c2 := conv_numDigits i.toNat (by omega) hb
      rw [← e] at c2
      have en : (IntKind.i64.wrap (1 + (ndig i.toNat : Int))).toNat = 1 + ndig i.toNat := by (try simp (disch := omega) only [w64_in, u32_in', u64_in', u8_in', ishr_lit8, ishr_lit16, ishr_lit32, ishr_lit18, Int.tmod_eq_emod_of_nonneg, Int.tdiv_eq_ediv_of_nonneg, Int.toNat_natCast, Nat.add_zero]); omega
      have en' : (IntKind.i64.wrap (1 + (ndig i.toNat : Int))).toNat - Int.toNat 1 = ndig i.toNat := by rw [en]; simp
      have c3 := conv_formatBase10 (List.replicate 24 0) 24 (Int.toNat 1) ((IntKind.i64.wrap (1 + (ndig i.toNat : Int))).toNat - Int.toNat 1) i.toNat rfl (by rw [en']; show 1 + _ ≤ 24; omega) (by omega) (by rw [en']; exact ndig_lt _) hb
      rw [← e] at c3
      repeat' ((conv => whnf); first | (refine vcall_glob (c2) rfl rfl rfl rfl ?_) | refine vcall_o (l := [0, 1]) (c3) ?_ | (refine cond_intro ⟨by (try simp (disch := omega) only [w64_in, u32_in', u64_in', u8_in', ishr_lit8, ishr_lit16, ishr_lit32, ishr_lit18, Int.tmod_eq_emod_of_nonneg, Int.tdiv_eq_ediv_of_nonneg, Int.toNat_natCast, Nat.add_zero]); omega, by (try simp (disch := omega) only [w64_in, u32_in', u64_in', u8_in', ishr_lit8, ishr_lit16, ishr_lit32, ishr_lit18, Int.tmod_eq_emod_of_nonneg, Int.tdiv_eq_ediv_of_nonneg, Int.toNat_natCast, Nat.add_zero]); omega, by (try simp (disch := omega) only [w64_in, u32_in', u64_in', u8_in', ishr_lit8, ishr_lit16, ishr_lit32, ishr_lit18, Int.tmod_eq_emod_of_nonneg, Int.tdiv_eq_ediv_of_nonneg, Int.toNat_natCast, Nat.add_zero]); omega⟩ ?_) | (refine cond_intro (by (try simp (disch := omega) only [w64_in, u32_in', u64_in', u8_in', ishr_lit8, ishr_lit16, ishr_lit32, ishr_lit18, Int.tmod_eq_emod_of_nonneg, Int.tdiv_eq_ediv_of_nonneg, Int.toNat_natCast, Nat.add_zero]); omega) ?_) | ((first | apply br_dec | apply br_ndec) <;> intro h <;> try (exfalso; (try dsimp only at h); omega)) | ((first | apply br_seq | apply br_nseq | apply br_not | apply br_intro) <;> intro h) | refine cond_a ?_)
      all_goals (conv => whnf)
      all_goals refine ret_pure ?_
      unfold decI dec
      rw [if_neg hi]
      refine congrArg SV.str (congrArg bytesOf ?_)
      rw [en', show Int.toNat 1 = 1 from rfl, dtab_seg (by omega)]

theorem conv_FormatInt (i : Int) (h1 : -9223372036854775808 ≤ i) (h2 : i ≤ 9223372036854775807) : Glob Tryd.prog glT 39 [.int .i64 i, .int .i64 10] (.str (decI i)) := by
  have c := iconv_FormatInt i h1 h2
  refine fc_of mixed T_ok Tryd.func39 rfl (by kernel_rfl) (by kernel_rfl) (by kernel_rfl) ?_
  repeat' ((conv => whnf); first | (refine vcall_glob (c) rfl rfl rfl rfl ?_) | ((first | apply br_dec | apply br_ndec) <;> intro h <;> try (exfalso; (try dsimp only at h); omega)) | ((first | apply br_seq | apply br_nseq | apply br_not | apply br_intro) <;> intro h) | refine cond_a ?_)
  all_goals (conv => whnf)
  all_goals exact ret_pure rfl

theorem decI_size (i : Int) (h1 : -9223372036854775808 ≤ i) (h2 : i ≤ 9223372036854775807) : (decI i).size ≤ 21 := by
  have h3 := ndig_le (u := i.natAbs) (by omega)
  have h4 := ndig_le (u := i.toNat) (by omega)
  unfold decI dec
  split
  · simp [bytesOf, ByteArray.size, digs_length]; omega
  · simp [bytesOf, ByteArray.size, digs_length]; omega
end Go.Proofs.YtjjnbhbendlnhaaDoor

/- Contracts of the library: long multiplication. -/
namespace Go.Proofs.YtjjnbhbendlnhaaDoor
open Go.RowKit Go.Sy
attribute [local irreducible] vcall vloop vcallD retP
set_option maxRecDepth 100000
set_option linter.unusedVariables false
set_option linter.unusedSimpArgs false

end Go.Proofs.YtjjnbhbendlnhaaDoor

/- Plain facts on digits and strings. No program in sight. -/
namespace Go.Sy
open Go.RowKit

theorem bytesOf_size (l : List Int) : (bytesOf l).size = l.length := by simp [bytesOf, ByteArray.size]
/-- A row of digits, and its value. -/
def dgAt (s : ByteArray) (i : Nat) : Prop := 48 ≤ byteAt s (i : Int) ∧ byteAt s (i : Int) ≤ 57
instance (s : ByteArray) (i : Nat) : Decidable (dgAt s i) := by unfold dgAt; infer_instance
theorem toList_eq (s : ByteArray) : s.toList = s.data.toList := by
  simpa using ByteArray.toList_eq s
end Go.Sy

/- Contracts of package wire and of the library: numbers with leading zeros. -/
namespace Go.Proofs.YtjjnbhbendlnhaaDoor
open Go.RowKit Go.Sy
attribute [local irreducible] vcall vloop vcallD retP
set_option maxRecDepth 100000
set_option linter.unusedVariables false
set_option linter.unusedSimpArgs false

end Go.Proofs.YtjjnbhbendlnhaaDoor

/- Contracts of package wire: numbers with leading zeros, texts. -/
namespace Go.Proofs.YtjjnbhbendlnhaaDoor
open Go.RowKit Go.Sy
attribute [local irreducible] vcall vloop vcallD retP
set_option maxRecDepth 100000
set_option linter.unusedVariables false
set_option linter.unusedSimpArgs false

def numOk (n w : Int) : Prop := 1 ≤ w ∧ w ≤ 15 ∧ 0 ≤ n ∧ ndig n.toNat ≤ w.toNat
instance (n w : Int) : Decidable (numOk n w) := by unfold numOk; infer_instance
def numS (n w : Int) : ByteArray := if numOk n w then bytesOf (digs w.toNat n.toNat) else ⟨#[]⟩
attribute [irreducible] numS
/-- Printable bytes. -/
def prAt (s : ByteArray) (i : Nat) : Prop := 32 ≤ byteAt s (i : Int) ∧ byteAt s (i : Int) ≤ 126
instance (s : ByteArray) (i : Nat) : Decidable (prAt s i) := by unfold prAt; infer_instance
end Go.Proofs.YtjjnbhbendlnhaaDoor

/- Contracts of package wire: texts filled up, hexadecimal digits. -/
namespace Go.Proofs.YtjjnbhbendlnhaaDoor
open Go.RowKit Go.Sy
attribute [local irreducible] vcall vloop vcallD retP
set_option maxRecDepth 100000
set_option linter.unusedVariables false
set_option linter.unusedSimpArgs false

theorem byte_bd (s : ByteArray) (i : Int) : 0 ≤ byteAt s i ∧ byteAt s i ≤ 255 := by
  unfold byteAt
  have := (s.data.toList.getD i.toNat 0).toNat_lt
  omega
end Go.Proofs.YtjjnbhbendlnhaaDoor

/- Contracts of package wire: readers. -/
namespace Go.Proofs.YtjjnbhbendlnhaaDoor
open Go.RowKit Go.Sy
attribute [local irreducible] vcall vloop vcallD retP
set_option maxRecDepth 100000
set_option linter.unusedVariables false
set_option linter.unusedSimpArgs false

end Go.Proofs.YtjjnbhbendlnhaaDoor

/- Contracts of package wire: the methods of readers. -/
namespace Go.Proofs.YtjjnbhbendlnhaaDoor
open Go.RowKit Go.Sy
attribute [local irreducible] vcall vloop vcallD retP
set_option maxRecDepth 100000
set_option linter.unusedVariables false
set_option linter.unusedSimpArgs false

end Go.Proofs.YtjjnbhbendlnhaaDoor

/- Contracts of package wire: texts of variable length, bytes taken. -/
namespace Go.Proofs.YtjjnbhbendlnhaaDoor
open Go.RowKit Go.Sy
attribute [local irreducible] vcall vloop vcallD retP
set_option maxRecDepth 100000
set_option linter.unusedVariables false
set_option linter.unusedSimpArgs false

end Go.Proofs.YtjjnbhbendlnhaaDoor

/- Contracts of package wire: texts of a width, bytes taken. -/
namespace Go.Proofs.YtjjnbhbendlnhaaDoor
open Go.RowKit Go.Sy
attribute [local irreducible] vcall vloop vcallD retP
set_option maxRecDepth 100000
set_option linter.unusedVariables false
set_option linter.unusedSimpArgs false

end Go.Proofs.YtjjnbhbendlnhaaDoor

/- Plain facts of the journal: hashes, blocks, streams. No program in sight. -/
namespace Go.Proofs.YtjjnbhbendlnhaaDoor
open Go.RowKit Go.Sy
set_option maxRecDepth 100000
set_option linter.unusedVariables false
set_option linter.unusedSimpArgs false

/-- The hash of the first k bytes, from a value on. -/
def fnvK (h : Int) (s : ByteArray) : Nat → Int
  | 0 => h
  | k + 1 => IntKind.u64.wrap (ixor .u64 (fnvK h s k) (byteAt s (k : Int)) * 1099511628211)
theorem u64_wr (x : Int) : 0 ≤ IntKind.u64.wrap x ∧ IntKind.u64.wrap x < 18446744073709551616 := by
  have : IntKind.u64.wrap x = x % 18446744073709551616 := by simp [IntKind.wrap, IntKind.bits, IntKind.signed]
  omega
theorem fnvK_bd {h : Int} (hh : 0 ≤ h ∧ h < 18446744073709551616) (s : ByteArray) : ∀ k, 0 ≤ fnvK h s k ∧ fnvK h s k < 18446744073709551616
  | 0 => hh
  | k + 1 => u64_wr _
/-- The bytes of a number, the highest first. -/
def beL (p : Int) : Nat → List Int
  | 0 => []
  | k + 1 => beL p k ++ [IntKind.u8.wrap (ishr .u64 p ((56 - 8 * k : Nat) : Int))]
theorem beL_length (p : Int) : ∀ k, (beL p k).length = k
  | 0 => rfl
  | k + 1 => by simp [beL, beL_length p k]
def be8S (p : Int) : ByteArray := bytesOf (beL p 8)
theorem be8S_size (p : Int) : (be8S p).size = 8 := by unfold be8S; rw [bytesOf_size, beL_length]
/-- The first k of eight bytes, zeros behind. -/
def beZ (p : Int) (k : Nat) : List Int := beL p k ++ List.replicate (8 - k) 0
theorem beZ_set (p : Int) (k : Nat) (h : k < 8) : (beZ p k).set k (IntKind.u8.wrap (ishr .u64 p ((56 - 8 * k : Nat) : Int))) = beZ p (k + 1) := by
  unfold beZ
  rw [show 8 - k = (8 - (k + 1)) + 1 from by omega, List.replicate_succ, List.set_append_right _ _ (by rw [beL_length]; exact Nat.le_refl _), beL_length, Nat.sub_self]
  simp [beL]
theorem beZ_all (p : Int) : beZ p 8 = beL p 8 := by unfold beZ; simp
/-- The hash of a chain that is extended. -/
def chI (p : Int) (s : ByteArray) : Int := fnvK (fnvK 14695981039346656037 (be8S p) 8) s s.size
theorem chI_bd (p : Int) (s : ByteArray) : 0 ≤ chI p s ∧ chI p s < 18446744073709551616 := fnvK_bd (fnvK_bd (by omega) _ _) _ _
attribute [irreducible] chI
def dotS : ByteArray := ⟨#[46]⟩
def plusS : ByteArray := ⟨#[43]⟩
/-- The rest of a stream behind k blocks, and the body of the next one. -/
def rsT (s : ByteArray) (k : Nat) : ByteArray := s.extract (45 * k) s.size
def bodyN (r : ByteArray) : ByteArray := (if r.size ≤ 45 then dotS else plusS) ++ numS (min r.size 45 : Nat) 2 ++ r.extract 0 (min r.size 45)
def hK (p : Int) (s : ByteArray) : Nat → Int
  | 0 => p
  | k + 1 => chI (hK p s k) (bodyN (rsT s k))
end Go.Proofs.YtjjnbhbendlnhaaDoor

/- The ledger, plainly: its state, what a call answers, and what always holds. No program in sight. -/
namespace Go.Proofs.YtjjnbhbendlnhaaDoor
open Go.RowKit Go.Sy
set_option linter.unusedVariables false
set_option linter.unusedSimpArgs false

/-- Bytes of names. -/
def labC (c : Int) : Bool := decide ((97 ≤ c ∧ c ≤ 122) ∨ (65 ≤ c ∧ c ≤ 90) ∨ (48 ≤ c ∧ c ≤ 57) ∨ c = 95 ∨ c = 45 ∨ c = 58)
def labB (s : ByteArray) : Bool := decide (1 ≤ s.size ∧ s.size ≤ 40) && (List.range s.size).all (fun i => labC (byteAt s (i : Int)))
/-- An entry. -/
structure Le where
  id : ByteArray
  date : Int
  ps : List Lp
  np : Nat
abbrev le0 : Le := ⟨⟨#[]⟩, 0, [], 0⟩
theorem le_id (l : List Le) (k : Nat) : (l.map Le.id).getD k ⟨#[]⟩ = (l.getD k le0).id := by
  rw [List.getD, List.getD, List.getElem?_map]; cases l[k]? <;> rfl
theorem le_date (l : List Le) (k : Nat) : (l.map Le.date).getD k 0 = (l.getD k le0).date := by
  rw [List.getD, List.getD, List.getElem?_map]; cases l[k]? <;> rfl
theorem le_np (l : List Le) (k : Nat) : (l.map Le.np).getD k 0 = (l.getD k le0).np := by
  rw [List.getD, List.getD, List.getElem?_map]; cases l[k]? <;> rfl
/-- The text of an entry, up to some posting. -/
def poT (p : Lp) : ByteArray := ⟨#[124]⟩ ++ p.a ++ ⟨#[47]⟩ ++ decI p.n ++ ⟨#[47]⟩ ++ p.c
def leT (e : Le) : Nat → ByteArray
  | 0 => e.id ++ ⟨#[124]⟩ ++ decI e.date
  | k + 1 => leT e k ++ poT (e.ps.getD k lp0)
/-- A ledger. -/
structure Lg where
  na : Nat
  acc : List ByteArray
  ne : Nat
  ent : List Le
  ns : Nat
  st : List ByteArray
  bal : ByteArray → ByteArray → Int
  dig : Int
abbrev Lg.ids (s : Lg) : List ByteArray := s.ent.map Le.id
/-- Whether a text is in a list. -/
abbrev inL (a : ByteArray) (l : List ByteArray) : Prop := sidx l a < l.length
theorem in_iff {a : ByteArray} {l : List ByteArray} : inL a l ↔ a ∈ l := sidx_lt
/-- The first error of postings. -/
def poE (acc : List ByteArray) : List Lp → Int
  | [] => 0
  | p :: L => if inL p.a acc then (if mchk p.n p.c = 0 then poE acc L else mchk p.n p.c) else 6
def rngB (bal : ByteArray → ByteArray → Int) (L : List Lp) : Bool := (chR L L.length).all (fun x => decide (-4503599627370496 ≤ bal x.a x.c + x.n ∧ bal x.a x.c + x.n ≤ 4503599627370496))
/-- What Post answers. -/
def lgE (s : Lg) (e : Le) : Int :=
  if labB e.id = false then 5 else if e.date < 0 ∨ 99999 < e.date then 14 else if inL e.id s.ids then 7 else if e.np < 1 ∨ 16 < e.np then 4
  else if poE s.acc e.ps ≠ 0 then poE s.acc e.ps else if lgBal e.ps = false then 26 else if rngB s.bal e.ps = false then 4 else if 512 ≤ s.ne then 12 else 0
/-- The ledger with an entry more. -/
def lgP (s : Lg) (e : Le) : Lg := { s with ne := s.ne + 1, ent := s.ent ++ [e], bal := fun a c => s.bal a c + lgS e.ps a c, dig := chI s.dig (leT e e.np) }
def negP (L : List Lp) : List Lp := L.map (fun p => ⟨p.a, -p.n, p.c⟩)
/-- The reversal of an entry. -/
def revL (s : Lg) (id b : ByteArray) (d : Int) : Le := ⟨b, d, negP (s.ent.getD (sidx s.ids id) le0).ps, (s.ent.getD (sidx s.ids id) le0).np⟩
def lgRE (s : Lg) (id b : ByteArray) (d : Int) : Int := if inL id s.ids then (if inL id s.st then 8 else lgE s (revL s id b d)) else 6
/-- What holds of an accepted entry. -/
structure EntOk (acc : List ByteArray) (e : Le) : Prop where
  id : labB e.id = true
  d : 0 ≤ e.date ∧ e.date ≤ 99999
  n : e.ps.length = e.np
  n1 : 1 ≤ e.np
  n16 : e.np ≤ 16
  ps : poE acc e.ps = 0
  b : lgBal e.ps = true
def allP (L : List Le) : List Lp := L.flatMap Le.ps
structure LgOk (s : Lg) : Prop where
  na : s.acc.length = s.na
  n512 : s.na ≤ 512
  nd : s.acc.Nodup
  lab : ∀ a ∈ s.acc, labB a = true
  ne : s.ent.length = s.ne
  e512 : s.ne ≤ 512
  ids : s.ids.Nodup
  ent : ∀ e ∈ s.ent, EntOk s.acc e
  ns : s.st.length = s.ns
  n2 : s.ns ≤ 2 * s.ne
  st : ∀ x ∈ s.st, x ∈ s.ids
  bal : ∀ a c, s.bal a c = lgS (allP s.ent) a c
  rng : ∀ a c, -4503599627370496 ≤ s.bal a c ∧ s.bal a c ≤ 4503599627370496
  dig : 0 ≤ s.dig ∧ s.dig < 18446744073709551616

theorem lab_size {s : ByteArray} (h : labB s = true) : 1 ≤ s.size ∧ s.size ≤ 40 := by
  unfold labB at h
  rw [Bool.and_eq_true] at h
  exact of_decide_eq_true h.1
theorem poE_zero {acc : List ByteArray} : ∀ {L : List Lp}, poE acc L = 0 ↔ ∀ p ∈ L, p.a ∈ acc ∧ mchk p.n p.c = 0
  | [] => by simp [poE]
  | p :: L => by
    have ih := poE_zero (acc := acc) (L := L)
    simp only [poE, List.mem_cons, forall_eq_or_imp]
    by_cases h1 : inL p.a acc
    · rw [if_pos h1]
      by_cases h2 : mchk p.n p.c = 0
      · rw [if_pos h2, ih]; exact ⟨fun h => ⟨⟨in_iff.1 h1, h2⟩, h⟩, fun h => h.2⟩
      · rw [if_neg h2]; exact ⟨fun h => absurd h h2, fun h => absurd h.1.2 h2⟩
    · rw [if_neg h1]; exact ⟨fun h => absurd h (by decide), fun h => absurd (in_iff.2 h.1.1) h1⟩
theorem mchk_zero {a : Int} {c : ByteArray} (h : mchk a c = 0) : curB c = true ∧ -4503599627370496 ≤ a ∧ a ≤ 4503599627370496 := by
  rcases mchk_or a c with (h' | h') | h'
  · omega
  · omega
  · exact h'.2
theorem poE_bd {acc : List ByteArray} {L : List Lp} (h : poE acc L = 0) : lgBd L := fun x hx => (mchk_zero (poE_zero.1 h x hx).2).2
/-- What Post needs. -/
theorem lgE_zero {s : Lg} {e : Le} (hn : e.ps.length = e.np) (h : lgE s e = 0) : EntOk s.acc e ∧ e.id ∉ s.ids ∧ rngB s.bal e.ps = true ∧ s.ne < 512 := by
  unfold lgE at h
  split at h
  · cases h
  rename_i h1
  split at h
  · cases h
  rename_i h2
  split at h
  · cases h
  rename_i h3
  split at h
  · cases h
  rename_i h4
  split at h
  · rename_i h5; exact absurd h h5
  rename_i h5
  split at h
  · cases h
  rename_i h6
  split at h
  · cases h
  rename_i h7
  split at h
  · cases h
  rename_i h8
  exact ⟨⟨by simpa using h1, by omega, hn, by omega, by omega, Classical.not_not.1 h5, by simpa using h6⟩, fun h => h3 (in_iff.2 h), by simpa using h7, by omega⟩
theorem lgE_ok {s : Lg} {e : Le} (h : EntOk s.acc e) (h1 : e.id ∉ s.ids) (h2 : rngB s.bal e.ps = true) (h3 : s.ne < 512) : lgE s e = 0 := by
  obtain ⟨k1, k2, k3, k4, k5, k6, k7⟩ := h
  unfold lgE
  rw [if_neg (by rw [k1]; decide), if_neg (by omega), if_neg (fun h => h1 (in_iff.1 h)), if_neg (by omega), if_neg (fun h => h k6), if_neg (by rw [k7]; decide), if_neg (by rw [h2]; decide), if_neg (by omega)]
theorem lgV_out {R : List Lp} {a c : ByteArray} (h : R.length ≤ lgI R a c) : lgV R a c = 0 := by
  unfold lgV
  rw [List.getD, List.getElem?_eq_none h]; rfl
theorem lgI_key {a c : ByteArray} : ∀ {R : List Lp}, lgI R a c < R.length → (R.getD (lgI R a c) lp0).a = a ∧ (R.getD (lgI R a c) lp0).c = c
  | [], h => absurd h (Nat.not_lt_zero _)
  | x :: R, h => by
    rw [lgI_cons] at h ⊢
    split
    · rename_i hk; exact hk
    · rename_i hk
      rw [if_neg hk] at h
      rw [List.getD_cons_succ]
      exact lgI_key (by simpa using h)
theorem rng_all {bal : ByteArray → ByteArray → Int} {L : List Lp} (h : rngB bal L = true) (hb : ∀ a c, -4503599627370496 ≤ bal a c ∧ bal a c ≤ 4503599627370496) (a c : ByteArray) : -4503599627370496 ≤ bal a c + lgS L a c ∧ bal a c + lgS L a c ≤ 4503599627370496 := by
  have hv : lgV (chR L L.length) a c = lgS L a c := by rw [chR_val a c L.length (Nat.le_refl _), List.take_length]
  rcases Nat.lt_or_ge (lgI (chR L L.length) a c) (chR L L.length).length with hi | hi
  · obtain ⟨e1, e2⟩ := lgI_key hi
    unfold rngB at h
    rw [List.all_eq_true] at h
    have hm : (chR L L.length).getD (lgI (chR L L.length) a c) lp0 ∈ chR L L.length := by rw [List.getD, List.getElem?_eq_getElem hi]; exact List.getElem_mem hi
    have := of_decide_eq_true (h _ hm)
    rw [e1, e2] at this
    unfold lgV at hv
    rw [hv] at this
    exact this
  · rw [lgV_out hi] at hv
    rw [← hv, Int.add_zero]
    exact hb a c
theorem rng_of {bal : ByteArray → ByteArray → Int} {L : List Lp} (h : ∀ a c, -4503599627370496 ≤ bal a c + lgS L a c ∧ bal a c + lgS L a c ≤ 4503599627370496) : rngB bal L = true := by
  unfold rngB
  rw [List.all_eq_true]
  intro x hx
  obtain ⟨i, hi, rfl⟩ := List.getElem_of_mem hx
  have e := lgV_row (chR_dist L L.length) hi
  rw [List.getD, List.getElem?_eq_getElem hi] at e
  dsimp only [Option.getD_some] at e
  rw [chR_val _ _ _ (Nat.le_refl _), List.take_length] at e
  have := h (chR L L.length)[i].a (chR L L.length)[i].c
  rw [e] at this
  exact decide_eq_true this
theorem allP_app (A : List Le) (e : Le) : allP (A ++ [e]) = allP A ++ e.ps := by unfold allP; rw [List.flatMap_append]; simp
theorem lgOk_post {s : Lg} {e : Le} (h : LgOk s) (hn : e.ps.length = e.np) (h0 : lgE s e = 0) : LgOk (lgP s e) := by
  obtain ⟨k1, k2, k3, k4⟩ := lgE_zero hn h0
  refine ⟨h.na, h.n512, h.nd, h.lab, ?_, ?_, ?_, ?_, h.ns, ?_, ?_, ?_, ?_, chI_bd _ _⟩
  · show (s.ent ++ [e]).length = s.ne + 1
    rw [List.length_append, h.ne]; rfl
  · show s.ne + 1 ≤ 512; omega
  · show ((s.ent ++ [e]).map Le.id).Nodup
    rw [List.map_append]
    exact List.nodup_append.2 ⟨h.ids, by simp, fun a ha b hb e' => by simp at hb; subst hb; subst e'; exact k2 ha⟩
  · intro x hx
    rcases List.mem_append.1 (show x ∈ s.ent ++ [e] from hx) with hx | hx
    · exact h.ent x hx
    · rw [List.mem_singleton.1 hx]; exact k1
  · show s.ns ≤ 2 * (s.ne + 1)
    have := h.n2; omega
  · intro x hx
    show x ∈ (s.ent ++ [e]).map Le.id
    rw [List.map_append]
    exact List.mem_append_left _ (h.st x hx)
  · intro a c
    show s.bal a c + lgS e.ps a c = lgS (allP (s.ent ++ [e])) a c
    rw [allP_app, lgS_append, h.bal]
  · exact rng_all k3 h.rng
theorem negP_len (L : List Lp) : (negP L).length = L.length := by unfold negP; simp
theorem rev_at {s : Lg} (h : LgOk s) {id : ByteArray} (hi : id ∈ s.ids) : s.ent.getD (sidx s.ids id) le0 ∈ s.ent ∧ (s.ent.getD (sidx s.ids id) le0).id = id := by
  have hlt := sidx_lt.2 hi
  have h2 := sidx_get hlt
  have hl : sidx s.ids id < s.ent.length := by simpa using hlt
  refine ⟨by rw [List.getD, List.getElem?_eq_getElem hl]; exact List.getElem_mem hl, ?_⟩
  rw [← le_id, List.getD, h2]; rfl
theorem lgOk_rev {s : Lg} (h : LgOk s) {id b : ByteArray} {d : Int} (h0 : lgRE s id b d = 0) : LgOk { lgP s (revL s id b d) with ns := s.ns + 2, st := s.st ++ [id, b] } := by
  unfold lgRE at h0
  split at h0
  · rename_i hi
    split at h0
    · cases h0
    rename_i hs
    have hi := in_iff.1 hi
    obtain ⟨hm, _⟩ := rev_at h hi
    have hn : (revL s id b d).ps.length = (revL s id b d).np := by
      show (negP _).length = _
      rw [negP_len]; exact (h.ent _ hm).n
    have p := lgOk_post h hn h0
    refine ⟨p.na, p.n512, p.nd, p.lab, p.ne, p.e512, p.ids, p.ent, ?_, ?_, ?_, p.bal, p.rng, p.dig⟩
    · show (s.st ++ [id, b]).length = s.ns + 2
      rw [List.length_append, h.ns]; rfl
    · show s.ns + 2 ≤ 2 * (s.ne + 1)
      have := h.n2; omega
    · intro x hx
      show x ∈ (s.ent ++ [revL s id b d]).map Le.id
      rw [List.map_append]
      rcases List.mem_append.1 (show x ∈ s.st ++ [id, b] from hx) with hx | hx
      · exact List.mem_append_left _ (h.st x hx)
      · simp only [List.mem_cons, List.not_mem_nil, or_false] at hx
        rcases hx with rfl | rfl
        · exact List.mem_append_left _ hi
        · exact List.mem_append_right _ (by simp [revL])
  · cases h0
attribute [irreducible] labB
end Go.Proofs.YtjjnbhbendlnhaaDoor

/- Contracts of package ledger: names, changes, balance of postings. -/
namespace Go.Proofs.YtjjnbhbendlnhaaDoor
open Go.RowKit Go.Sy
attribute [local irreducible] vcall vloop vcallD retP
set_option maxRecDepth 100000
set_option linter.unusedVariables false
set_option linter.unusedSimpArgs false

theorem labB_no {s : ByteArray} {k : Nat} (h : k < s.size) (hc : ¬ ((97 ≤ byteAt s (k : Int) ∧ byteAt s (k : Int) ≤ 122) ∨ (65 ≤ byteAt s (k : Int) ∧ byteAt s (k : Int) ≤ 90) ∨ (48 ≤ byteAt s (k : Int) ∧ byteAt s (k : Int) ≤ 57) ∨ byteAt s (k : Int) = 95 ∨ byteAt s (k : Int) = 45 ∨ byteAt s (k : Int) = 58)) : labB s = false := by
  cases e : labB s with
  | false => rfl
  | true =>
    unfold labB at e
    rw [Bool.and_eq_true, List.all_eq_true] at e
    exact absurd (of_decide_eq_true (e.2 k (by simpa using h))) hc
theorem labB_size {s : ByteArray} (h : s.size < 1 ∨ 40 < s.size) : labB s = false := by
  cases e : labB s with
  | false => rfl
  | true => have := lab_size e; omega
/-- The first bytes are of names. -/
def labTo (s : ByteArray) (k : Nat) : Prop := ∀ i, i < k → labC (byteAt s (i : Int)) = true
theorem labTo_succ {s : ByteArray} {k : Nat} (h : labTo s k) (hc : (97 ≤ byteAt s (k : Int) ∧ byteAt s (k : Int) ≤ 122) ∨ (65 ≤ byteAt s (k : Int) ∧ byteAt s (k : Int) ≤ 90) ∨ (48 ≤ byteAt s (k : Int) ∧ byteAt s (k : Int) ≤ 57) ∨ byteAt s (k : Int) = 95 ∨ byteAt s (k : Int) = 45 ∨ byteAt s (k : Int) = 58) : labTo s (k + 1) := by
  intro i hi
  by_cases e : i = k
  · subst e; unfold labC; exact decide_eq_true hc
  · exact h i (by omega)
theorem labB_all {s : ByteArray} (h1 : 1 ≤ s.size) (h2 : s.size ≤ 40) (h : labTo s s.size) : labB s = true := by
  unfold labB
  rw [decide_eq_true ⟨h1, h2⟩, Bool.true_and, List.all_eq_true]
  exact fun i hi => h i (by simpa using hi)

theorem lg_isLabel (s : ByteArray) : Pure Tryd.prog 21 [.str s] (.bool (labB s)) := by
  by_cases h : s.size < 1 ∨ 40 < s.size
  · rw [labB_size h]
    refine fc_of mixed T_ok Tryd.func21 rfl (by kernel_rfl) (by kernel_rfl) (by kernel_rfl) ?_
    repeat' ((conv => whnf); first | ((first | apply br_dec | apply br_ndec) <;> intro h <;> try (exfalso; (try dsimp only at h); omega)) | ((first | apply br_seq | apply br_nseq | apply br_not | apply br_intro) <;> intro h) | refine cond_a ?_)
    all_goals (conv => whnf)
    all_goals first
      | exact ret_pure rfl
      | (exfalso; omega)
  refine fc_of mixed T_ok Tryd.func21 rfl (by kernel_rfl) (by kernel_rfl) (by kernel_rfl) ?_
  repeat' ((conv => whnf); first | ((first | apply br_dec | apply br_ndec) <;> intro h <;> try (exfalso; (try dsimp only at h); omega)) | ((first | apply br_seq | apply br_nseq | apply br_not | apply br_intro) <;> intro h) | refine cond_a ?_)
  all_goals (conv => whnf)
  all_goals first
    | (exfalso; omega)
    | skip
  refine vloop_of (fun k : Nat => ⟨[(0, .str s), (3, .int .i64 k)], [], 1⟩) (fun k => k ≤ s.size ∧ labTo s k) (fun k => s.size - k) 0 [0] [] ⟨rfl, ⟨rfl, rfl, trivial⟩, trivial⟩ ⟨by omega, fun i hi => by omega⟩ ?_
  rintro k ⟨hk, hc⟩
  repeat' ((conv => whnf); first | ((first | apply br_dec | apply br_ndec) <;> intro h <;> try (exfalso; (try dsimp only at h); omega)) | ((first | apply br_seq | apply br_nseq | apply br_not | apply br_intro) <;> intro h) | refine cond_a ?_)
  all_goals (conv => whnf)
  all_goals first
    | exact ret_pure (by rw [labB_no (k := k) (by omega) (by omega)]; rfl)
    | exact ⟨k + 1, [0], [], ⟨by omega, labTo_succ hc (by omega)⟩, by omega, ⟨rfl, ⟨rfl, congrArg (fun z => some (SV.int .i64 z)) (i64_succ (by omega)), trivial⟩, trivial⟩⟩
    | skip
  have e : k = s.size := by omega
  subst e
  exact ret_pure (by rw [labB_all (by omega) (by omega) hc]; rfl)

/-- Amounts by account and currency, as a map. -/
abbrev RL (n : Nat) (R : List Lp) : Blk := .obj (.map true false n [.strs (R.map Lp.a), .strs (R.map Lp.c)] [.sc (.ints .i64 (R.map Lp.n))] (List.range n) n)
theorem lg_putMap {α β : Type} (f : α → β) (i : Nat) (x : α) (l : List α) : (putL i x l).map f = putL i (f x) (l.map f) := by
  unfold putL
  by_cases h : i < l.length
  · rw [if_pos h, if_pos (by simpa using h), List.map_set]
  · rw [if_neg h, if_neg (by simpa using h)]; simp
theorem lgStamp {ix r : Nat} (h : ix ≤ r) : 0 ≤ (((if ix < r then (List.range r).getD ix 0 else r : Nat)) : Int) ∧ (((if ix < r then (List.range r).getD ix 0 else r : Nat)) : Int).toNat ∈ (if ix < r then List.range r else List.range r ++ [r]) := by
  refine ⟨Int.natCast_nonneg _, ?_⟩
  rw [Int.toNat_natCast]
  by_cases e : ix < r
  · rw [if_pos e, if_pos e]
    simp [List.getD, e]
  · rw [if_neg e, if_neg e]; simp
theorem lg_idx {i r : Nat} (h : i < r) : (List.range r).idxOf i = i := by
  have hl : (List.range r).idxOf i < (List.range r).length := List.idxOf_lt_length_of_mem (by simpa using h)
  have h2 := List.getElem_idxOf hl
  rwa [List.getElem_range] at h2
theorem rl_val (R : List Lp) (a c : ByteArray) : (R.map Lp.n).getD (sidx2 (R.map Lp.a) (R.map Lp.c) a c) 0 = lgV R a c := lp_n R _
/-- A row of the map is put. -/
theorem rlUpd {R : List Lp} {r : Nat} (hR : R.length = r) {a c : ByteArray} {v m : Int} (hv : v = lgV R a c + m) {ix : Nat} (hix : sidx2 (R.map Lp.a) (R.map Lp.c) a c = ix) :
    (some (HB.one false (.obj (.map true false (if ix < r then r else r + 1) [.strs (putL ix a (R.map Lp.a)), .strs (putL ix c (R.map Lp.c))] [.sc (.ints .i64 (putL ((if ix < r then List.range r else List.range r ++ [r]).idxOf (((if ix < r then (List.range r).getD ix 0 else r : Nat)) : Int).toNat) v (putL ix ((R.map Lp.n).getD ix 0) (R.map Lp.n))))] (if ix < r then List.range r else List.range r ++ [r]) (if ix < r then r else r + 1)))) : Option HB)
      = some (.one false (RL (lgAdd R ⟨a, m, c⟩).length (lgAdd R ⟨a, m, c⟩))) := by
  subst hv
  have hl : ix ≤ r := by rw [← hix, ← hR]; exact lgI_le a c R
  have e : lgAdd R ⟨a, m, c⟩ = putL ix ⟨a, lgV R a c + m, c⟩ R := by unfold lgAdd lgI; rw [hix]
  rw [e, putL_len, hR]
  have h1 : (if ix < r then List.range r else List.range r ++ [r]) = List.range (if ix < r then r else r + 1) := by
    split
    · rfl
    · exact List.range_succ.symm
  have h2 : (List.range (if ix < r then r else r + 1)).idxOf (((if ix < r then (List.range r).getD ix 0 else r : Nat)) : Int).toNat = ix := by
    rw [Int.toNat_natCast]
    by_cases hx : ix < r
    · rw [if_pos hx, if_pos hx, show (List.range r).getD ix 0 = ix by simp [List.getD, hx], lg_idx hx]
    · have : ix = r := by omega
      rw [if_neg hx, if_neg hx, lg_idx (by omega), this]
  have h3 : putL ix (lgV R a c + m) (putL ix ((R.map Lp.n).getD ix 0) (R.map Lp.n)) = putL ix (lgV R a c + m) (R.map Lp.n) := by
    have hn : (R.map Lp.n).length = r := by rw [List.length_map, hR]
    by_cases hx : ix < r
    · rw [lg_putLt (i := ix) (l := R.map Lp.n) (by omega), lg_putLt (by rw [List.length_set]; omega), lg_putLt (i := ix) (l := R.map Lp.n) (by omega), List.set_set]
    · have : ix = r := by omega
      subst this
      rw [lg_putNew hn, lg_putNew hn, lg_putLt (by simp [hn]), List.set_append_right _ _ (by omega)]
      simp [hn]
  rw [h1, h2, h3]
  unfold RL
  rw [lg_putMap, lg_putMap, lg_putMap]
theorem lp_eta (L : List Lp) (k : Nat) : L.getD k lp0 = ⟨(L.map Lp.a).getD k ⟨#[]⟩, (L.map Lp.n).getD k 0, (L.map Lp.c).getD k ⟨#[]⟩⟩ := by
  rw [lp_a, lp_n, lp_c]
theorem lg_bd {L : List Lp} (hb : lgBd L) (k : Nat) : -4503599627370496 ≤ (L.getD k lp0).n ∧ (L.getD k lp0).n ≤ 4503599627370496 := by
  rcases Nat.lt_or_ge k L.length with h | h
  · rw [List.getD, List.getElem?_eq_getElem h]; exact hb _ (List.getElem_mem h)
  · rw [List.getD, List.getElem?_eq_none h]; exact ⟨by decide, by decide⟩
theorem lg_changes (L : List Lp) (n : Nat) (hn : L.length = n) (h16 : n ≤ 16) (hb : lgBd L) : FC Tryd.prog 2 23 [.sl 1 0 0 n] [(1, some (.one true (poB n L)))] (isOut (.map 2 0) [(2, some (.one false (RL (chR L n).length (chR L n))))] 3) := by
  unfold poB
  refine fc_of mixed T_ok Tryd.func23 rfl (by kernel_rfl) (by kernel_rfl) (by kernel_rfl) ?_
  repeat' ((conv => whnf); first | ((first | apply br_dec | apply br_ndec) <;> intro h <;> try (exfalso; (try dsimp only at h); omega)) | ((first | apply br_seq | apply br_nseq | apply br_not | apply br_intro) <;> intro h) | refine cond_a ?_)
  all_goals (conv => whnf)
  refine vloop_of (fun k : Nat => ⟨[(3, .map 2 0), (7, .sl 1 0 0 n), (8, .int .i64 n), (9, .int .i64 k)], [(1, some (.one true (poB n L))), (2, some (.one false (RL (chR L k).length (chR L k))))], 3⟩) (fun k => k ≤ n) (fun k => n - k) 0 [0, 1, 2] [] ⟨rfl, ⟨rfl, rfl, rfl, rfl, trivial⟩, ⟨rfl, rfl, trivial⟩⟩ (Nat.zero_le _) ?_
  intro k hk
  unfold poB
  by_cases hk2 : k < n
  · have hv0 := lgS_bd (lgBd_take hb k) ((L.map Lp.a).getD k ⟨#[]⟩) ((L.map Lp.c).getD k ⟨#[]⟩)
    rw [← chR_val _ _ k (by omega), List.length_take] at hv0
    have hb1 := lg_bd hb k
    rw [← lp_n] at hb1
    have hst : chR L (k + 1) = lgAdd (chR L k) ⟨(L.map Lp.a).getD k ⟨#[]⟩, (L.map Lp.n).getD k 0, (L.map Lp.c).getD k ⟨#[]⟩⟩ := by rw [← lp_eta]; rfl
    have hl := lgI_le ((L.map Lp.a).getD k ⟨#[]⟩) ((L.map Lp.c).getD k ⟨#[]⟩) (chR L k)
    have hrow := rlUpd (R := chR L k) rfl (a := (L.map Lp.a).getD k ⟨#[]⟩) (c := (L.map Lp.c).getD k ⟨#[]⟩) (m := (L.map Lp.n).getD k 0) (v := IntKind.i64.wrap (((chR L k).map Lp.n).getD (sidx2 ((chR L k).map Lp.a) ((chR L k).map Lp.c) ((L.map Lp.a).getD k ⟨#[]⟩) ((L.map Lp.c).getD k ⟨#[]⟩)) 0 + (L.map Lp.n).getD k 0)) (by rw [rl_val]; exact w64_in (by omega) (by omega)) rfl
    rw [← hst] at hrow
    repeat' ((conv => whnf); first | (refine ⟨lgStamp hl, ?_⟩) | ((first | apply br_dec | apply br_ndec) <;> intro h <;> try (exfalso; (try dsimp only at h); omega)) | ((first | apply br_seq | apply br_nseq | apply br_not | apply br_intro) <;> intro h) | refine cond_a ?_)
    all_goals (conv => whnf)
    all_goals first
      | exact ⟨k + 1, [0, 1, 2], [], hk2, (show n - (k + 1) < n - k by omega), ⟨rfl, ⟨rfl, rfl, rfl, congrArg (fun z => some (SV.int .i64 z)) (i64_succ (by omega)), trivial⟩, ⟨rfl, hrow, trivial⟩⟩⟩
      | (exfalso; omega)
  have ek : k = n := by omega
  subst ek
  repeat' ((conv => whnf); first | ((first | apply br_dec | apply br_ndec) <;> intro h <;> try (exfalso; (try dsimp only at h); omega)) | ((first | apply br_seq | apply br_nseq | apply br_not | apply br_intro) <;> intro h) | refine cond_a ?_)
  all_goals (conv => whnf)
  all_goals first
    | exact ret_out (l := [0, 1, 2]) rfl rfl ⟨rfl, trivial⟩ (allRw_cons allRw_nil)
    | (exfalso; omega)

theorem lg_bal_val {L : List Lp} {k n : Nat} {C : List ByteArray} {W : List Int} (hI : LgM L k n C W) (c : ByteArray) : W.getD (sidx C c) 0 = lgC (L.take k) c := by
  rw [← hI.all c]
  split
  · rfl
  · rename_i h
    rw [List.getD, List.getElem?_eq_none (by have := hI.w; omega)]; rfl
theorem lg_stamps (i m : Nat) : (if i < m then List.range m else List.range m ++ [m]) = List.range (if i < m then m else m + 1) := by
  split
  · rfl
  · exact List.range_succ.symm
theorem lg_balanced (L : List Lp) (n : Nat) (hn : L.length = n) (h16 : n ≤ 16) (hb : lgBd L) : FC Tryd.prog 2 33 [.sl 1 0 0 n] [(1, some (.one true (poB n L)))] (isOut (.bool (lgBal L)) [] 2) := by
  unfold poB
  refine fc_of mixed T_ok Tryd.func33 rfl (by kernel_rfl) (by kernel_rfl) (by kernel_rfl) ?_
  repeat' ((conv => whnf); first | ((first | apply br_dec | apply br_ndec) <;> intro h <;> try (exfalso; (try dsimp only at h); omega)) | ((first | apply br_seq | apply br_nseq | apply br_not | apply br_intro) <;> intro h) | refine cond_a ?_)
  all_goals (conv => whnf)
  refine vloop_of (fun x : Nat × Nat × List ByteArray × List Int => ⟨[(3, .map 2 0), (9, .sl 1 0 0 n), (10, .int .i64 n), (11, .int .i64 x.1)], [(1, some (.one true (poB n L))), (2, some (.one false (.obj (.map false false x.2.1 [.strs x.2.2.1] [.sc (.ints .i64 x.2.2.2)] (List.range x.2.1) x.2.1))))], 3⟩) (fun x => x.1 ≤ n ∧ x.2.1 ≤ x.1 ∧ LgM L x.1 x.2.1 x.2.2.1 x.2.2.2) (fun x => n - x.1) (0, 0, [], []) [0, 1, 2] [] ⟨rfl, ⟨rfl, rfl, rfl, rfl, trivial⟩, ⟨rfl, rfl, trivial⟩⟩ ⟨Nat.zero_le _, Nat.le_refl _, lgM_zero L⟩ ?_
  rintro ⟨k, m, C, W⟩ ⟨hk, hm, hI⟩
  dsimp only at hk hm hI ⊢
  unfold poB
  by_cases hk2 : k < n
  · have hv0 := lgC_bd (lgBd_take hb k) ((L.map Lp.c).getD k ⟨#[]⟩)
    rw [List.length_take, Nat.min_eq_left (by omega)] at hv0
    have hb1 := lg_bd hb k
    have hw := lg_bal_val hI ((L.map Lp.c).getD k ⟨#[]⟩)
    have hvv : IntKind.i64.wrap (W.getD (sidx C ((L.map Lp.c).getD k ⟨#[]⟩)) 0 + (L.map Lp.n).getD k 0) = lgC (L.take k) (L.getD k lp0).c + (L.getD k lp0).n := by
      rw [hw, lp_n, ← lp_c]; exact w64_in (by omega) (by omega)
    have hI2 := lgM_step hI (by omega) _ hvv
    have hc0 := lp_c L k
    rw [← hc0] at hI2
    have hst := lg_stamps (sidx C ((L.map Lp.c).getD k ⟨#[]⟩)) m
    repeat' ((conv => whnf); first | ((first | apply br_dec | apply br_ndec) <;> intro h <;> try (exfalso; (try dsimp only at h); omega)) | ((first | apply br_seq | apply br_nseq | apply br_not | apply br_intro) <;> intro h) | refine cond_a ?_)
    all_goals (conv => whnf)
    all_goals try (exfalso; omega)
    refine ⟨(k + 1, (if sidx C ((L.map Lp.c).getD k ⟨#[]⟩) < m then m else m + 1), putL (sidx C ((L.map Lp.c).getD k ⟨#[]⟩)) ((L.map Lp.c).getD k ⟨#[]⟩) C, putL (sidx C ((L.map Lp.c).getD k ⟨#[]⟩)) (IntKind.i64.wrap (W.getD (sidx C ((L.map Lp.c).getD k ⟨#[]⟩)) 0 + (L.map Lp.n).getD k 0)) W), [0, 1, 2], [], ⟨hk2, (by dsimp only; split <;> omega), hI2⟩, (show n - (k + 1) < n - k by omega), ⟨rfl, ⟨rfl, rfl, rfl, congrArg (fun z => some (SV.int .i64 z)) (i64_succ (by omega)), trivial⟩, ⟨rfl, ?_, trivial⟩⟩⟩
    dsimp only
    rw [← hst]
    rfl
  have ek : k = n := by omega
  subst ek
  have hI2 : LgM L L.length m C W := by rw [hn]; exact hI
  repeat' ((conv => whnf); first | ((first | apply br_dec | apply br_ndec) <;> intro h <;> try (exfalso; (try dsimp only at h); omega)) | ((first | apply br_seq | apply br_nseq | apply br_not | apply br_intro) <;> intro h) | refine cond_a ?_)
  all_goals (conv => whnf)
  all_goals first
    | (exfalso; omega)
    | skip
  refine vloop_of (fun sn : List Nat => ⟨[(3, .map 2 0), (26, .ptr 3 0 0 0)], [(2, some (.one false (.obj (.map false false m [.strs C] [.sc (.ints .i64 W)] (List.range m) m)))), (3, some (.one false (.obj (.iter 2 0 (List.range m) m sn))))], 4⟩) (fun sn => sn.Nodup ∧ (∀ i ∈ sn, i < m) ∧ ∀ i ∈ sn, W.getD i 0 = 0) (fun sn => m - sn.length) [] [0, 1, 2, 3] [] ⟨rfl, ⟨rfl, rfl, trivial⟩, ⟨rfl, rfl, trivial⟩⟩ ⟨List.nodup_nil, by simp, by simp⟩ ?_
  rintro sn ⟨hd, hl, hz⟩
  repeat' ((conv => whnf); first | (refine ⟨⟨rfl, rfl⟩, fun x hx hnx => ?_, fun hall => ?_⟩) | ((first | apply br_dec | apply br_ndec) <;> intro h <;> try (exfalso; (try dsimp only at h); omega)) | ((first | apply br_seq | apply br_nseq | apply br_not | apply br_intro) <;> intro h) | refine cond_a ?_)
  all_goals (conv => whnf)
  · refine ret_out (l := [0, 1]) rfl ?_ trivial allRw_nil
    rw [lgM_nz hI2 hx h]; rfl
  · have := nodup_cons_lt hd hl hx hnx
    refine ⟨x :: sn, [0, 1, 2, 3], [], ⟨List.nodup_cons.2 ⟨hnx, hd⟩, fun y hy => ?_, fun y hy => ?_⟩, by simp only [List.length_cons]; omega, ⟨rfl, ⟨rfl, rfl, trivial⟩, ⟨rfl, rfl, trivial⟩⟩⟩
    · rcases List.mem_cons.1 hy with rfl | hy
      · exact hx
      · exact hl y hy
    · rcases List.mem_cons.1 hy with rfl | hy
      · exact h
      · exact hz y hy
  · refine ret_out (l := [0, 1]) rfl ?_ trivial allRw_nil
    rw [lgM_z hI2 (fun i hi => hz i (hall i hi))]; rfl
end Go.Proofs.YtjjnbhbendlnhaaDoor

/- The builder of strings: its row of bytes, by the kit's own walk. -/
namespace Go.Proofs.YtjjnbhbendlnhaaDoor
open Go.RowKit Go.Sy Go.Proofs
set_option linter.unusedVariables false
set_option linter.unusedSimpArgs false

/-- A row of bytes that a builder holds: nil, or a block of its own. -/
def RowIs (w : World) (e : TypeId) (v : Value) (s : ByteArray) : Prop :=
  (v = .slice none 0 0 ∧ s = ⟨#[]⟩) ∨ ∃ g cap cur, v = .slice (some ⟨g, 0, none⟩) s.size cap ∧ w.heap[g]? = some (.cells cur e (0, 0)) ∧ cur.size = cap ∧ s.size ≤ cap ∧ cap ≤ maxLen ∧ cur.toList.take s.size = Lib.strCells s
/-- A row behind an append. -/
def RowNew (w w' : World) (e : TypeId) (v v' : Value) (s : ByteArray) : Prop :=
  ∃ g cap cur, v' = .slice (some ⟨g, 0, none⟩) s.size cap ∧ w'.heap[g]? = some (.cells cur e (0, 0)) ∧ cur.size = cap ∧ s.size ≤ cap ∧ cap ≤ maxLen ∧ cur.toList.take s.size = Lib.strCells s ∧ (w.heap.size ≤ g ∨ v.ownBlock = some g)

theorem strCells_append (a b : ByteArray) : Lib.strCells (a ++ b) = Lib.strCells a ++ Lib.strCells b := by
  rw [Lib.strCells_eq, Lib.strCells_eq, Lib.strCells_eq, ← Lib.byteCells_append]; simp

theorem app_any {P : Program} (w : World) (t u ty e : TypeId) (i : TypeInfo) (ht : P.underlying t = some (.slice e)) (hu : P.underlying u = some .string) (hi : P.info? e = some i) (hz : i.zero = some (.int .u8 0)) (hsize : i.size = 1) (hby : i.bytes = 1)
    (v : Value) (s0 s : ByteArray) (hv : RowIs w e v s0) (h0 : 0 < s.size) (hb : s0.size + s.size ≤ 1000000000) :
    ∃ v' w', (Builtin.append_ #[t, u] ty #[v, .string s]).run P w = .ok v' w' ∧ RowNew w w' e v v' (s0 ++ s) ∧ w.grownBy w' v.ownBlock := by
  have hsz : (s0 ++ s).size = s0.size + s.size := by simp
  have hcl : ∀ x : ByteArray, (Lib.strCells x).length = x.size := Lib.strCells_length
  have mx : maxLen = maxLen := rfl
  have grown : ∀ (W : World) (xs : List Value) (n old : Nat), W.heap.size = w.heap.size → xs = Lib.strCells (s0 ++ s) → n = s0.size + s.size → ∀ cur : Array Value, cur = xs.toArray ++ Builtin.zeroCells (Value.int .u8 0).cells (grownCap w n old e - n) →
      cur.size = grownCap w n old e ∧ (s0 ++ s).size ≤ grownCap w n old e ∧ grownCap w n old e ≤ maxLen ∧ cur.toList.take (s0 ++ s).size = Lib.strCells (s0 ++ s) := by
    intro W xs n old _ hxs hn cur hcur
    have hge := grownCap_ge w n old e
    have hcm : grownCap w n old e ≤ maxLen := grownCap_le_maxLen w n old e (by unfold maxLen; omega)
    have hz1 : (Value.int IntKind.u8 0).cells.size = 1 := rfl
    refine ⟨?_, by omega, hcm, ?_⟩
    · rw [hcur, hxs]
      simp only [Array.size_append, List.size_toArray, size_zeroCells, hz1, hcl, hsz]
      omega
    · rw [hcur, hxs]
      simp only [Array.toList_append]
      rw [← hcl (s0 ++ s)]
      exact List.take_left
  rcases hv with ⟨rfl, rfl⟩ | ⟨g, cap, cur, rfl, hg, hcs, hnc, hcm, htake⟩
  · have hr := run_append_nil_string (P := P) w t u ty e i (.int .u8 0) ht hu hi hz s (by omega) (by omega) (by rw [hby]; omega)
    have e1 : (s.data.map fun b => Value.int .u8 b.toNat) = (Lib.strCells s).toArray := by
      apply Array.ext'
      simp [Lib.strCells]
    rw [e1] at hr
    have hs : (⟨#[]⟩ : ByteArray) ++ s = s := by apply ByteArray.ext; simp
    obtain ⟨k1, k2, k3, k4⟩ := grown w (Lib.strCells s) s.size 0 rfl (by rw [hs]) (by show s.size = 0 + s.size; omega) _ rfl
    rw [hs] at k2 k4
    refine ⟨_, _, hr, ⟨w.heap.size, _, _, by rw [hs], heap_alloc_new w.drew _, k1, by rw [hs]; exact k2, k3, by rw [hs]; exact k4, .inl (Nat.le_refl _)⟩, ⟨rfl, rfl, rfl, by simp, fun k hk _ => heap_alloc_old w.drew _ hk⟩⟩
  · by_cases hroom : s0.size + s.size ≤ cap
    · have hr := Lib.run_append_room_string (P := P) w t u ty e i ht hu hi hsize g s0.size cap cur hg s hroom (by omega)
      refine ⟨_, _, hr, ⟨g, cap, _, by rw [hsz], setRow_heap w g cur _ e _ hg, ?_, by rw [hsz]; exact hroom, hcm, ?_, .inr rfl⟩, ⟨rfl, rfl, rfl, by simp, fun k _ hk => setRow_other w g k _ (fun e => hk (by simp [Value.ownBlock, e]))⟩⟩
      · simp only [List.size_toArray, List.length_append, List.length_take, List.length_drop, Array.length_toList, hcl]
        omega
      · rw [htake, ← strCells_append, ← hcl (s0 ++ s)]
        exact List.take_left
    · have holds : ∀ j u, (Lib.strCells s0)[j]? = some u → w.cell? ((⟨g, 0, none⟩ : Addr).add j) = some u := by
        intro j u hj
        rw [← htake, List.getElem?_take] at hj
        split at hj
        · have ea : ((⟨g, 0, none⟩ : Addr).add j) = ⟨g, j, none⟩ := by
            unfold Addr.add
            split
            · rename_i e; subst e; rfl
            · simp
          rw [ea, Lib.cell_of_heap hg]
          simpa using hj
        · cases hj
      have hr := Lib.run_append_grow_string (P := P) w t u ty e i (.int .u8 0) ht hu hi hz ⟨g, 0, none⟩ s0.size cap (Lib.strCells s0) (by rw [hsize, hcl]; simp) holds s (by omega) (by omega) (by rw [hby]; exact growslice_fits (by omega) (by omega))
      obtain ⟨k1, k2, k3, k4⟩ := grown w (Lib.strCells (s0 ++ s)) (s0.size + s.size) cap rfl rfl rfl _ rfl
      have e2 : (Lib.strCells s0).toArray ++ (Lib.strCells s).toArray = (Lib.strCells (s0 ++ s)).toArray := by rw [strCells_append]; simp
      rw [e2] at hr
      exact ⟨_, _, hr, ⟨w.heap.size, _, _, by rw [hsz], heap_alloc_new w.drew _, k1, k2, k3, k4, .inl (Nat.le_refl _)⟩, ⟨rfl, rfl, rfl, by simp, fun k hk _ => heap_alloc_old w.drew _ hk⟩⟩
theorem wpList_bld {P : Program} {ops : Array Oper} {rest : List Oper} {o : Oper} {a : Act} {Q : Exit → Act → World → Prop} {w : World} (hgd : o.guard = none) (sl x : Operand) (t u : TypeId)
    (ho : o.op = .call { callee := .builtin .append, args := #[sl, x], argTypes := #[t, u] })
    (e : TypeId) (i : TypeInfo) (ht : P.underlying t = some (.slice e)) (hu : P.underlying u = some .string) (hi : P.info? e = some i) (hz : i.zero = some (.int .u8 0))
    (hsize : i.size = 1) (hby : i.bytes = 1)
    (v : Value) (s0 s : ByteArray) (hs : a.eval sl = v) (hv : RowIs w e v s0) (hx : a.eval x = .string s) (h0 : 0 < s.size) (hb : s0.size + s.size ≤ 1000000000)
    (h : ∀ v' w', RowNew w w' e v v' (s0 ++ s) → w.grownBy w' v.ownBlock → wpList P ops Q rest (a.put o.dst v') w') : wpList P ops Q (o :: rest) a w := by
  refine wpList_plain hgd fun K hK => ?_
  obtain ⟨v', w', hr, h2, h3⟩ := app_any (P := P) w t u o.type e i ht hu hi hz hsize hby v s0 s hv h0 hb
  unfold Oper.wp execOp
  simp only [ho, resolve, invoke, builtin, Sem.run_bind, Sem.run_pure, Result.andThen_ok, List.map_toArray, List.map_cons, List.map_nil, hs, hx, hr]
  exact hK _ _ (h v' w' h2 h3)

set_option maxRecDepth 100000
/-- What is asked of the program's types. -/
theorem b_info : (Tryd.prog.info? 81).map (·.size) = some 2 := by kernel_rfl
theorem b_lies : liesAt Tryd.prog Tryd.prog.depth 81 (2 / Tryd.prog.cellsOf 81) 0 81 1 = true := by kernel_rfl
theorem b_ptr : Tryd.prog.underlying 79 = some (.pointer 81) := by kernel_rfl
theorem b_uns : Tryd.prog.underlying 97 = some .unsafePointer := by kernel_rfl
theorem b_sl : Tryd.prog.underlying 23 = some (.slice 5) := by kernel_rfl
theorem b_str : Tryd.prog.underlying 9 = some .string := by kernel_rfl
theorem b_u8 : (Tryd.prog.info? 5).map (fun i => (i.zero, i.size, i.bytes)) = some (some (.int .u8 0), 1, 1) := by kernel_rfl

set_option maxHeartbeats 1000000 in
theorem k_copyCheck_used (b : Nat) (w : World) (h0 : w.cell? ⟨b, 0, none⟩ = some (.pointer (some ⟨b, 0, none⟩))) :
    Calls Tryd.prog 46 #[.pointer (some ⟨b, 0, none⟩)] w fun e w' => e = .returned (.tuple #[]) ∧ w' = w := by
  obtain ⟨j, hj, _⟩ := Option.map_eq_some_iff.1 b_info
  go_enter Tryd.func46, Tryd.ntmps46
  go_wp2
  rw [Lib.run_neq_ptr_same w _ b_ptr hj]
  go_wp2
  go_end0
  exact ⟨rfl, rfl⟩
set_option maxHeartbeats 1000000 in
theorem k_copyCheck_fresh (b : Nat) (w : World) (h0 : w.cell? ⟨b, 0, none⟩ = some (.pointer none)) (hsh : w.shape? b = some (81, 2)) (hfz : w.frozen? ⟨b, 0, none⟩ = false) :
    Calls Tryd.prog 46 #[.pointer (some ⟨b, 0, none⟩)] w fun e w' => e = .returned (.tuple #[]) ∧ w' = w.setCell ⟨b, 0, none⟩ (.pointer (some ⟨b, 0, none⟩)) := by
  obtain ⟨j, hj, hjs⟩ := Option.map_eq_some_iff.1 b_info
  go_enter Tryd.func46, Tryd.ntmps46
  go_wp2
  rw [Lib.run_to_unsafe w ⟨b, 0, none⟩ b_ptr b_uns hj (by rw [hjs]; decide) hsh (Nat.zero_lt_succ 1)]
  simp only [Result.andThen]
  rw [Oper.upon_value]
  go_wp2
  rw [run_callFunc_extern Tryd.func52 (by kernel_rfl) (by kernel_rfl) (by kernel_rfl) (e := Extern.AbiNoEscape.same) (by kernel_rfl)]
  rw [Lib.run_noEscape]
  simp only [Result.andThen]
  rw [Oper.upon_value]
  go_wp2
  rw [Lib.run_from_unsafe w ⟨b, 0, none⟩ b_uns b_ptr hj hsh b_lies]
  simp only [Result.andThen]
  rw [Oper.upon_value]
  go_wp2
  go_end0
  exact ⟨rfl, rfl⟩
/-- The blocks that a world has kept. -/
def KeepB (B : Nat → Prop) (w w' : World) : Prop := w'.os = w.os ∧ w'.tape = w.tape ∧ w'.output = w.output ∧ w.heap.size ≤ w'.heap.size ∧ ∀ k, k < w.heap.size → ¬ B k → w'.heap[k]? = w.heap[k]?

set_option maxHeartbeats 2000000 in
theorem k_WriteString (b : Nat) (p v : Value) (s0 s : ByteArray) (w : World) (hb : w.heap[b]? = some (.cells #[p, v] 81 (0, 0))) (hp : p = .pointer none ∨ p = .pointer (some ⟨b, 0, none⟩)) (hv : RowIs w 5 v s0) (hne : v.ownBlock ≠ some b) (h0 : 0 < s.size) (hsz : s0.size + s.size ≤ 1000000000) :
    Calls Tryd.prog 37 #[.pointer (some ⟨b, 0, none⟩), .string s] w fun e w' => e = .returned (.tuple #[.int .i64 s.size, .nilIface]) ∧ ∃ v', w'.heap[b]? = some (.cells #[.pointer (some ⟨b, 0, none⟩), v'] 81 (0, 0)) ∧ RowNew w w' 5 v v' (s0 ++ s) ∧ KeepB (fun k => k = b ∨ v.ownBlock = some k) w w' := by
  obtain ⟨i0, hi, hi3⟩ := Option.map_eq_some_iff.1 b_u8
  simp only [Prod.mk.injEq] at hi3
  obtain ⟨hz0, hz1, hz2⟩ := hi3
  have hlt : b < w.heap.size := by
    rcases Nat.lt_or_ge b w.heap.size with h' | h'
    · exact h'
    · simp [Array.getElem?_eq_none h'] at hb
  have cc : Calls Tryd.prog 46 #[.pointer (some ⟨b, 0, none⟩)] w fun e w' => e = .returned (.tuple #[]) ∧ w'.heap[b]? = some (.cells #[.pointer (some ⟨b, 0, none⟩), v] 81 (0, 0)) ∧ w'.heap.size = w.heap.size ∧ w'.os = w.os ∧ w'.tape = w.tape ∧ w'.output = w.output ∧ ∀ k, k ≠ b → w'.heap[k]? = w.heap[k]? := by
    rcases hp with rfl | rfl
    · refine (k_copyCheck_fresh b w (by rw [Lib.cell_of_heap hb]; rfl) (by simp [World.shape?, hb]) (Lib.frozen_of_heap hb 0)).mono ?_
      rintro e w' ⟨rfl, rfl⟩
      refine ⟨rfl, ?_, by simp [World.setCell], rfl, rfl, rfl, fun k hk => ?_⟩
      · simp [World.setCell, Array.getElem?_modify, hb]
      · simp [World.setCell, Array.getElem?_modify, Ne.symm hk]
    · refine (k_copyCheck_used b w (by rw [Lib.cell_of_heap hb]; rfl)).mono ?_
      rintro e w' ⟨rfl, rfl⟩
      exact ⟨rfl, hb, rfl, rfl, rfl, rfl, fun _ _ => rfl⟩
  go_enter Tryd.func37, Tryd.ntmps37
  go_wp2_with (go_at_call 46; refine cc.mono ?_)
  rintro e w1 ⟨rfl, hb1, hs1, ho1, ht1, hu1, hk1⟩
  have c0 : w1.cell? ⟨b, 0, none⟩ = some (.pointer (some ⟨b, 0, none⟩)) := by rw [Lib.cell_of_heap hb1]; rfl
  have c1 : w1.cell? ⟨b, 1, none⟩ = some v := by rw [Lib.cell_of_heap hb1]; rfl
  have hv1 : RowIs w1 5 v s0 := by
    rcases hv with h | ⟨g, cap, cur, rfl, hg, h⟩
    · exact .inl h
    · refine .inr ⟨g, cap, cur, rfl, ?_, h⟩
      rw [hk1 g (fun e => hne (by rw [e]; rfl))]
      exact hg
  go_wp2_with (at_builtin; refine wpList_bld rfl _ _ 23 9 rfl 5 i0 b_sl b_str hi hz0 hz1 hz2 v s0 s rfl hv1 rfl h0 hsz ?_)
  intro v' w2 hrow hgrow
  have hb2 : w2.heap[b]? = some (.cells #[.pointer (some ⟨b, 0, none⟩), v] 81 (0, 0)) := by
    rw [hgrow.block b (by omega) (fun e => hne e.symm)]
    exact hb1
  have d0 : w2.cell? ⟨b, 0, none⟩ = some (.pointer (some ⟨b, 0, none⟩)) := by rw [Lib.cell_of_heap hb2]; rfl
  have d1 : w2.cell? ⟨b, 1, none⟩ = some v := by rw [Lib.cell_of_heap hb2]; rfl
  have f1 : w2.frozen? ⟨b, 1, none⟩ = false := Lib.frozen_of_heap hb2 1
  obtain ⟨g, cap, cur, rfl, r2, r3, r4, r5, r6, r7⟩ := hrow
  have hgb : g ≠ b := by
    rcases r7 with r7 | r7
    · omega
    · exact fun e => hne (by rw [r7, e])
  go_wp2
  go_ret2
  refine ⟨rfl, _, ?_, ⟨g, cap, cur, rfl, ?_, r3, r4, r5, r6, by rw [← hs1]; exact r7⟩, ?_⟩
  · simp [World.setCell, Array.getElem?_modify, hb2]
  · simp [World.setCell, Array.getElem?_modify, Ne.symm hgb, r2]
  · refine ⟨?_, ?_, ?_, ?_, fun k hk hn => ?_⟩
    · show w2.os = w.os; rw [hgrow.os, ho1]
    · show w2.tape = w.tape; rw [hgrow.tape, ht1]
    · show w2.output = w.output; rw [hgrow.output, hu1]
    · have := hgrow.size; simp [World.setCell]; omega
    · have k1 : k ≠ b := fun e => hn (.inl e)
      have k2 : some k ≠ v.ownBlock := fun e => hn (.inr e.symm)
      have : ∀ x, (w2.setCell ⟨b, 1, none⟩ x).heap[k]? = w2.heap[k]? := fun x => by simp [World.setCell, Array.getElem?_modify, Ne.symm k1]
      rw [this, hgrow.block k (by omega) k2, hk1 k k1]
theorem b_p8 : Tryd.prog.underlying 92 = some (.pointer 5) := by kernel_rfl
theorem b_c8 : Tryd.prog.cellsOf 5 = 1 := by kernel_rfl
set_option maxHeartbeats 2000000 in
theorem k_String (b g cap : Nat) (p : Value) (cur : Array Value) (s : ByteArray) (w : World) (hb : w.heap[b]? = some (.cells #[p, .slice (some ⟨g, 0, none⟩) s.size cap] 81 (0, 0))) (hg : w.heap[g]? = some (.cells cur 5 (0, 0))) (hcs : cur.size = cap) (hnc : s.size ≤ cap) (hcm : cap ≤ maxLen) (htake : cur.toList.take s.size = Lib.strCells s) (h0 : 0 < s.size) :
    Calls Tryd.prog 40 #[.pointer (some ⟨b, 0, none⟩)] w fun e w' => e = .returned (.string s) ∧ KeepB (fun k => k = g) w w' := by
  have hl0 : s.data.toList ≠ [] := by
    intro e
    have h1 : s.data.toList.length = s.size := by simp
    rw [e] at h1
    simp at h1
    omega
  have hll : s.data.toList.length = s.size := by simp
  have c1 : w.drew.cell? ⟨b, 1, none⟩ = some (.slice (some ⟨g, 0, none⟩) s.size cap) := by
    have : w.drew.heap[b]? = some (.cells #[p, .slice (some ⟨g, 0, none⟩) s.size cap] 81 (0, 0)) := hb
    rw [Lib.cell_of_heap this]; rfl
  have hg' : w.drew.heap[g]? = some (.cells cur 5 (0, 0)) := hg
  have hSD : (Builtin.unsafeSliceData_ #[23] 92 #[.slice (some ⟨g, 0, none⟩) s.size cap]).run Tryd.prog w.drew = .ok (.pointer (some ⟨g, 0, none⟩)) w.drew :=
    Lib.run_unsafeSliceData_row _ _ _ _ _ _ (by omega)
  have hUS : (Builtin.unsafeString_ #[92, 3] 9 #[.pointer (some ⟨g, 0, none⟩), .int .i64 s.size]).run Tryd.prog w.drew = .ok (.string s) (w.drew.freeze ⟨g, 0, none⟩ s.size) := by
    have := Lib.run_unsafeString_row (P := Tryd.prog) w.drew 92 3 9 5 b_p8 b_c8 g cur.size (by simp [World.shape?, hg']) s.data.toList hl0 (by omega) (by unfold maxLen at hcm; omega) (by
      intro j x hx
      have ea : ((⟨g, 0, none⟩ : Addr).add j) = ⟨g, j, none⟩ := by
        unfold Addr.add
        split
        · rename_i e; subst e; rfl
        · simp
      rw [ea, Lib.cell_of_heap hg']
      have h1 : (Lib.strCells s)[j]? = some (.int .u8 x.toNat) := by rw [Lib.strCells_eq]; simp only [Lib.byteCells, List.getElem?_map, hx]; rfl
      rw [← htake, List.getElem?_take] at h1
      split at h1
      · simpa using h1
      · cases h1)
    rw [hll] at this
    exact this
  have hkeep : KeepB (fun k => k = g) w (w.drew.freeze ⟨g, 0, none⟩ s.size) := by
    unfold World.freeze
    split
    · exact ⟨rfl, rfl, rfl, Nat.le_refl _, fun _ _ _ => rfl⟩
    · refine ⟨rfl, rfl, rfl, by simp, fun k hk hn => ?_⟩
      simp only [Array.getElem?_modify]
      rw [if_neg (fun e => hn e.symm)]
      rfl
  have mixed : Tryd.prog.follows .mixedOrders = true := by kernel_rfl
  go_enter Tryd.func40, Tryd.ntmps40
  go_wp2
  go_region_o
  all_goals (go_wp2; go_ret; exact ⟨rfl, hkeep⟩)
end Go.Proofs.YtjjnbhbendlnhaaDoor

/- The builder of strings: contracts of the layer. -/
namespace Go.Proofs.YtjjnbhbendlnhaaDoor
open Go.RowKit Go.Sy Go.Proofs
set_option linter.unusedVariables false
set_option linter.unusedSimpArgs false

def bldB (h n : Nat) : Option HB := some (.one false (.obj (.bld 81 h 0 n)))
def bld0B : Option HB := some (.one false (.obj (.bld0 81)))
def browB (s : ByteArray) : Option HB := some (.one false (.obj (.brow 5 s)))

theorem two_ent {h1 h2 h q : Nat} {ro : Bool} {b1 b2 b : Blk} (he : Ent [(h1, some (.one false b1)), (h2, some (.one false b2))] h q ro b) : (h = h1 ∧ q = 0 ∧ ro = false ∧ b = b1) ∨ (h ≠ h1 ∧ h = h2 ∧ q = 0 ∧ ro = false ∧ b = b2) := by
  rcases ent_cons.1 he with ⟨e, hb, k1, k2, k3⟩ | ⟨e, he⟩
  · cases k1
    exact .inl ⟨e.symm, k2.1, k3.symm, k2.2⟩
  · rcases ent_cons.1 he with ⟨e', hb, k1, k2, k3⟩ | ⟨_, he⟩
    · cases k1
      exact .inr ⟨fun x => e x.symm, e'.symm, k2.1, k3.symm, k2.2⟩
    · obtain ⟨hb, k, _⟩ := he; simp [hget] at k
theorem holds_two {g : G} {w : World} {h1 h2 : Nat} {b1 b2 : Blk} {β1 β2 : Base} (e1 : g h1 0 = some β1) (B1 : BlkAt g β1 false b1 w) (e2 : g h2 0 = some β2) (B2 : BlkAt g β2 false b2 w) (hd : β1.blk ≠ β2.blk) : Holds g [(h1, some (.one false b1)), (h2, some (.one false b2))] w := by
  refine ⟨?_, ?_⟩
  · intro h q ro b he
    rcases two_ent he with ⟨rfl, rfl, rfl, rfl⟩ | ⟨_, rfl, rfl, rfl, rfl⟩
    · exact ⟨_, e1, B1⟩
    · exact ⟨_, e2, B2⟩
  · intro h q h' q' b ro' b' β β' hne he he' hg hg' hc hc'
    rcases two_ent he with ⟨rfl, rfl, _, rfl⟩ | ⟨hx, rfl, rfl, _, rfl⟩
    · rcases two_ent he' with ⟨rfl, rfl, _, rfl⟩ | ⟨_, rfl, rfl, _, rfl⟩
      · exact absurd ⟨rfl, rfl⟩ hne
      · rw [e1] at hg; cases hg
        rw [e2] at hg'; cases hg'
        exact hd
    · rcases two_ent he' with ⟨rfl, rfl, _, rfl⟩ | ⟨_, rfl, rfl, _, rfl⟩
      · rw [e2] at hg; cases hg
        rw [e1] at hg'; cases hg'
        exact hd.symm
      · exact absurd ⟨rfl, rfl⟩ hne

theorem bld_out {g : G} {w w' : World} {n r cap m : Nat} {H : Heap} {β : Base} {cur : Array Value} {s : ByteArray} {Bk : Nat → Prop} (hg1 : g 1 0 = some β) (hcap : 0 < β.cap) (hoff : β.off = 0) (hes : β.es = 0) (h1n : 1 < n) (hu : g.upto n)
    (hb : w'.heap[β.blk]? = some (.cells #[.pointer (some ⟨β.blk, 0, none⟩), .slice (some ⟨r, 0, none⟩) s.size cap] 81 (0, 0))) (hr : w'.heap[r]? = some (.cells cur 5 (0, 0))) (hcs : cur.size = cap) (hnc : s.size ≤ cap) (hcm : cap ≤ maxLen) (htake : cur.toList.take s.size = Lib.strCells s) (h0 : 0 < s.size)
    (hne : r ≠ β.blk) (hk : KeepB Bk w w') (hBk : ∀ k, Bk k → Wset g H k) (hW : Wset g H β.blk) (hWr : Wset g H r ∨ w.heap.size ≤ r) :
    Out g w n H (isOut (.tup [.int .i64 m, .nif]) [(1, bldB n s.size), (n, browB s)] (n + 1)) (.tuple #[.int .i64 m, .nilIface]) w' := by
  obtain ⟨k1, k2, k3, k4, k5⟩ := hk
  have lt : ∀ {k : Nat} {o : Obj}, w'.heap[k]? = some o → k < w'.heap.size := by
    intro k o h
    rcases Nat.lt_or_ge k w'.heap.size with h' | h'
    · exact h'
    · simp [Array.getElem?_eq_none h'] at h
  have g1 : (g.add n ⟨r, 0, 0, cap⟩) 1 0 = some β := by simp only [G.add]; rw [if_neg (by omega)]; exact hg1
  have gn : (g.add n ⟨r, 0, 0, cap⟩) n 0 = some ⟨r, 0, 0, cap⟩ := by simp [G.add]
  refine ⟨_, _, n + 1, g.add n ⟨r, 0, 0, cap⟩, ⟨rfl, rfl, rfl⟩, Nat.le_succ _, ?_, ?_, ?_, ?_, allRw_cons (allRw_cons allRw_nil), ⟨k1, k2, k3, k4, fun k hk hn => k5 k hk (fun hb => hn (hBk k hb))⟩, ?_⟩
  · intro h q hh
    simp only [G.add]
    rw [if_neg (by omega)]
    exact hu h q (by omega)
  · intro h q hh
    simp only [G.add]
    rw [if_neg (by omega)]
  · simp only [Rv, Rvs]
    exact ⟨_, rfl, _, _, rfl, rfl, _, _, rfl, rfl, rfl⟩
  · refine holds_two g1 (objAt hes hcap hoff (lt hb) ?_) gn (objAt rfl (by show 0 < cap; omega) rfl (lt hr) ?_) hne.symm
    · exact ⟨_, gn, hb⟩
    · exact ⟨cur, hr, hcs, hnc, hcm, by rw [htake, Lib.strCells_eq]; rfl⟩
  · intro h q b β' he hg hc
    rcases two_ent he with ⟨rfl, rfl, _, rfl⟩ | ⟨_, rfl, rfl, _, rfl⟩
    · rw [g1] at hg; cases hg; exact .inl hW
    · rw [gn] at hg; cases hg; exact hWr

theorem bld_WS0 (s : ByteArray) (h0 : 0 < s.size) (hs : s.size ≤ 1000000000) : FC Tryd.prog 2 37 [.ptr 1 0 0 0, .str s] [(1, bld0B)] (isOut (.tup [.int .i64 s.size, .nif]) [(1, bldB 2 s.size), (2, browB s)] 3) := by
  refine .inl ⟨bodied_of' Tryd.func37 (by kernel_rfl) (by kernel_rfl), fun g w vs hg hu hH hvs => ?_⟩
  obtain ⟨β, hβ, hB⟩ := hH.blk 1 0 false (.obj (.bld0 81)) ⟨_, rfl, ⟨rfl, rfl⟩, rfl⟩
  obtain ⟨hcap, hoff, hheap⟩ := hB.obj
  have hW : Wset g [(1, bld0B)] β.blk := ⟨1, 0, _, β, ⟨_, rfl, ⟨rfl, rfl⟩, rfl⟩, hβ, hcap, rfl⟩
  have haddr : β.addr 0 0 = ⟨β.blk, 0, none⟩ := by simp [Base.addr, hoff]
  simp only [Rvs, Rv] at hvs
  obtain ⟨v, r1, rfl, ⟨β', e', rfl⟩, v2, r2, rfl, rfl, rfl⟩ := hvs
  rw [hβ] at e'; cases e'
  rw [haddr]
  have hz : (⟨#[]⟩ : ByteArray).size = 0 := rfl
  have hs0 : (⟨#[]⟩ : ByteArray) ++ s = s := by apply ByteArray.ext; simp
  have hlt := hB.lt hcap
  refine (k_WriteString β.blk (.pointer none) (.slice none 0 0) ⟨#[]⟩ s w hheap (.inl rfl) (.inl ⟨rfl, rfl⟩) (by simp [Value.ownBlock]) h0 (by rw [hz]; omega)).mono ?_
  rw [hs0]
  rintro e w' ⟨rfl, v', hb', ⟨r, cap, cur, rfl, hr, hcs, hnc, hcm, htake, hr2⟩, hk⟩
  have hr3 : w.heap.size ≤ r := by
    rcases hr2 with h | h
    · exact h
    · cases h
  refine ⟨_, rfl, bld_out hβ hcap hoff hB.es (by omega) hu hb' hr hcs hnc hcm htake h0 (by omega) hk ?_ hW (.inr hr3)⟩
  rintro k (rfl | h)
  · exact hW
  · cases h
theorem bld_WS (s0 s : ByteArray) (h0 : 0 < s.size) (hs : s0.size + s.size ≤ 1000000000) : FC Tryd.prog 3 37 [.ptr 1 0 0 0, .str s] [(1, bldB 2 s0.size), (2, browB s0)] (isOut (.tup [.int .i64 s.size, .nif]) [(1, bldB 3 (s0 ++ s).size), (3, browB (s0 ++ s))] 4) := by
  refine .inl ⟨bodied_of' Tryd.func37 (by kernel_rfl) (by kernel_rfl), fun g w vs hg hu hH hvs => ?_⟩
  have en1 : Ent [(1, bldB 2 s0.size), (2, browB s0)] 1 0 false (.obj (.bld 81 2 0 s0.size)) := ⟨_, rfl, ⟨rfl, rfl⟩, rfl⟩
  have en2 : Ent [(1, bldB 2 s0.size), (2, browB s0)] 2 0 false (.obj (.brow 5 s0)) := ⟨_, rfl, ⟨rfl, rfl⟩, rfl⟩
  obtain ⟨β, hβ, hB⟩ := hH.blk _ _ _ _ en1
  obtain ⟨β2, hβ2, hB2⟩ := hH.blk _ _ _ _ en2
  obtain ⟨hcap, hoff, β2', e2, hheap⟩ := hB.obj
  rw [hβ2] at e2; cases e2
  obtain ⟨hcap2, hoff2, cur0, hheap2, j1, j2, j3, j4⟩ := hB2.obj
  have hW : Wset g [(1, bldB 2 s0.size), (2, browB s0)] β.blk := ⟨1, 0, _, β, en1, hβ, hcap, rfl⟩
  have hW2 : Wset g [(1, bldB 2 s0.size), (2, browB s0)] β2.blk := ⟨2, 0, _, β2, en2, hβ2, hcap2, rfl⟩
  have hd : β.blk ≠ β2.blk := hH.sep 1 0 2 0 _ _ _ β β2 (by omega) en1 en2 hβ hβ2 hcap hcap2
  have haddr : β.addr 0 0 = ⟨β.blk, 0, none⟩ := by simp [Base.addr, hoff]
  simp only [Rvs, Rv] at hvs
  obtain ⟨v, r1, rfl, ⟨β', e', rfl⟩, v2, r2, rfl, rfl, rfl⟩ := hvs
  rw [hβ] at e'; cases e'
  rw [haddr]
  have hlt := hB.lt hcap
  refine (k_WriteString β.blk _ _ s0 s w hheap (.inr rfl) (.inr ⟨β2.blk, β2.cap, cur0, rfl, hheap2, j1, j2, j3, by rw [j4, Lib.strCells_eq]; rfl⟩) (by simp [Value.ownBlock]; exact fun e => hd e.symm) h0 hs).mono ?_
  rintro e w' ⟨rfl, v', hb', ⟨r, cap, cur, rfl, hr, hcs, hnc, hcm, htake, hr2⟩, hk⟩
  have hr3 : Wset g [(1, bldB 2 s0.size), (2, browB s0)] r ∨ w.heap.size ≤ r := by
    rcases hr2 with h | h
    · exact .inr h
    · simp only [Value.ownBlock, Option.some.injEq] at h
      subst h; exact .inl hW2
  refine ⟨_, rfl, bld_out hβ hcap hoff hB.es (by omega) hu hb' hr hcs hnc hcm htake (by simp; omega) ?_ hk ?_ hW hr3⟩
  · rcases hr2 with h | h
    · omega
    · simp only [Value.ownBlock, Option.some.injEq] at h
      subst h; exact hd.symm
  · rintro k (rfl | h)
    · exact hW
    · simp only [Value.ownBlock, Option.some.injEq] at h
      subst h; exact hW2
theorem bld_String (s : ByteArray) (h0 : 0 < s.size) : FC Tryd.prog 3 40 [.ptr 1 0 0 0] [(1, bldB 2 s.size), (2, browB s)] (isOut (.str s) [] 3) := by
  refine .inl ⟨bodied_of' Tryd.func40 (by kernel_rfl) (by kernel_rfl), fun g w vs hg hu hH hvs => ?_⟩
  have en1 : Ent [(1, bldB 2 s.size), (2, browB s)] 1 0 false (.obj (.bld 81 2 0 s.size)) := ⟨_, rfl, ⟨rfl, rfl⟩, rfl⟩
  have en2 : Ent [(1, bldB 2 s.size), (2, browB s)] 2 0 false (.obj (.brow 5 s)) := ⟨_, rfl, ⟨rfl, rfl⟩, rfl⟩
  obtain ⟨β, hβ, hB⟩ := hH.blk _ _ _ _ en1
  obtain ⟨β2, hβ2, hB2⟩ := hH.blk _ _ _ _ en2
  obtain ⟨hcap, hoff, β2', e2, hheap⟩ := hB.obj
  rw [hβ2] at e2; cases e2
  obtain ⟨hcap2, hoff2, cur0, hheap2, j1, j2, j3, j4⟩ := hB2.obj
  have hW2 : Wset g [(1, bldB 2 s.size), (2, browB s)] β2.blk := ⟨2, 0, _, β2, en2, hβ2, hcap2, rfl⟩
  have haddr : β.addr 0 0 = ⟨β.blk, 0, none⟩ := by simp [Base.addr, hoff]
  simp only [Rvs, Rv] at hvs
  obtain ⟨v, r1, rfl, ⟨β', e', rfl⟩, rfl⟩ := hvs
  rw [hβ] at e'; cases e'
  rw [haddr]
  refine (k_String β.blk β2.blk β2.cap _ cur0 s w hheap hheap2 j1 j2 j3 (by rw [j4, Lib.strCells_eq]; rfl) h0).mono ?_
  rintro e w' ⟨rfl, k1, k2, k3, k4, k5⟩
  refine ⟨_, rfl, .str s, [], 3, g, ⟨rfl, rfl, rfl⟩, Nat.le_refl _, hu, fun _ _ _ => rfl, by simp only [Rv], ⟨?_, ?_⟩, allRw_nil, ⟨k1, k2, k3, k4, fun k hk hn => k5 k hk (fun e => hn (e ▸ hW2))⟩, ?_⟩
  · intro h q ro b he; obtain ⟨hb, e, _⟩ := he; simp [hget] at e
  · intro h q h' q' b ro' b' β β' _ he; obtain ⟨hb, e, _⟩ := he; simp [hget] at e
  · intro h q b β he; obtain ⟨hb, e, _⟩ := he; simp [hget] at e
end Go.Proofs.YtjjnbhbendlnhaaDoor

/- Contracts of package ledger: copies and texts of entries. -/
namespace Go.Proofs.YtjjnbhbendlnhaaDoor
open Go.RowKit Go.Sy
attribute [local irreducible] vcall vloop vcallD retP
set_option maxRecDepth 100000
set_option linter.unusedVariables false
set_option linter.unusedSimpArgs false

theorem lseg_all {α : Type} {l : List α} {n : Nat} (h : l.length = n) : seg 0 n l = l := by
  unfold seg; rw [List.drop_zero, List.take_of_length_le (by omega)]
theorem lp_Clone (L : List Lp) (n : Nat) (hn : L.length = n) (h1 : 1 ≤ n) (h2 : n ≤ 1000000) : FC Tryd.prog 2 34 [.sl 1 0 0 n] [(1, some (.one true (poB n L)))] (isOut (.sl 2 0 0 n) [(2, some (.one false (poB n L)))] 3) := by
  unfold poB
  have k1 : (L.map Lp.a).length = n := by rw [List.length_map, hn]
  have k2 : (L.map Lp.n).length = n := by rw [List.length_map, hn]
  have k3 : (L.map Lp.c).length = n := by rw [List.length_map, hn]
  generalize L.map Lp.a = A at *
  generalize L.map Lp.n = B at *
  generalize L.map Lp.c = C at *
  obtain ⟨m, rfl⟩ : ∃ m, n = m + 1 := ⟨n - 1, by omega⟩
  refine fc_of mixed T_ok Tryd.func34 rfl (by kernel_rfl) (by kernel_rfl) (by kernel_rfl) ?_
  repeat' ((conv => whnf); first | ((first | apply br_dec | apply br_ndec) <;> intro h <;> try (exfalso; (try dsimp only at h); omega)) | ((first | apply br_seq | apply br_nseq | apply br_not | apply br_intro) <;> intro h) | refine cond_a ?_)
  all_goals (conv => whnf)
  all_goals (rw [Nat.zero_add (m + 1), lseg_all k1, lseg_all k2, lseg_all k3]; exact ret_out (l := [0, 1, 3]) rfl rfl ⟨rfl, trivial⟩ (allRw_cons allRw_nil))
theorem lg_copyEntry (id : ByteArray) (d : Int) (L : List Lp) (n : Nat) (hn : L.length = n) (h1 : 1 ≤ n) (h2 : n ≤ 1000000) : FC Tryd.prog 2 24 [.agg [.str id, .int .i64 d, .sl 1 0 0 n]] [(1, some (.one true (poB n L)))] (isOut (.agg [.str id, .int .i64 d, .sl 2 0 0 n]) [(2, some (.one false (poB n L)))] 3) := by
  have c := lp_Clone L n hn h1 h2
  refine fc_of mixed T_ok Tryd.func24 rfl (by kernel_rfl) (by kernel_rfl) (by kernel_rfl) ?_
  repeat' ((conv => whnf); first | refine vcall_o (l := [0, 1]) (c) ?_ | refine vcallD_o (l := [0, 1]) (c) ?_ | ((first | apply br_dec | apply br_ndec) <;> intro h <;> try (exfalso; (try dsimp only at h); omega)) | ((first | apply br_seq | apply br_nseq | apply br_not | apply br_intro) <;> intro h) | refine cond_a ?_)
  all_goals (conv => whnf)
  all_goals exact ret_out (l := [0, 1, 4]) rfl rfl ⟨rfl, trivial⟩ (allRw_cons allRw_nil)

theorem conv_Itoa (i : Int) (h1 : -9223372036854775808 ≤ i) (h2 : i ≤ 9223372036854775807) : Glob Tryd.prog glT 38 [.int .i64 i] (.str (decI i)) := by
  have c := iconv_FormatInt i h1 h2
  have c2 : Glob Tryd.prog glT 47 [.int .i64 i] (.str (decI i)) := by
    refine fc_of mixed T_ok Tryd.func47 rfl (by kernel_rfl) (by kernel_rfl) (by kernel_rfl) ?_
    repeat' ((conv => whnf); first | (refine vcall_glob (c) rfl rfl rfl rfl ?_) | (refine vcallD_glob (c) rfl rfl rfl rfl ?_) | ((first | apply br_dec | apply br_ndec) <;> intro h <;> try (exfalso; (try dsimp only at h); omega)) | ((first | apply br_seq | apply br_nseq | apply br_not | apply br_intro) <;> intro h) | refine cond_a ?_)
    all_goals (conv => whnf)
    exact ret_pure rfl
  refine fc_of mixed T_ok Tryd.func38 rfl (by kernel_rfl) (by kernel_rfl) (by kernel_rfl) ?_
  repeat' ((conv => whnf); first | (refine vcall_glob (c2) rfl rfl rfl rfl ?_) | (refine vcallD_glob (c2) rfl rfl rfl rfl ?_) | ((first | apply br_dec | apply br_ndec) <;> intro h <;> try (exfalso; (try dsimp only at h); omega)) | ((first | apply br_seq | apply br_nseq | apply br_not | apply br_intro) <;> intro h) | refine cond_a ?_)
  all_goals (conv => whnf)
  exact ret_pure rfl
theorem lgz (x : UInt8) : (ByteArray.mk #[x]).size = 1 := rfl
theorem lgz1 : (⟨#[124]⟩ : ByteArray).size = 1 := rfl
theorem lgz2 : (⟨#[47]⟩ : ByteArray).size = 1 := rfl
/-- Sizes that postings may have. -/
def lgSz (L : List Lp) : Prop := ∀ x ∈ L, x.a.size ≤ 40 ∧ x.c.size ≤ 3
theorem lgSz_at {L : List Lp} (h : lgSz L) (k : Nat) : (L.getD k lp0).a.size ≤ 40 ∧ (L.getD k lp0).c.size ≤ 3 := by
  rcases Nat.lt_or_ge k L.length with hk | hk
  · rw [List.getD, List.getElem?_eq_getElem hk]; exact h _ (List.getElem_mem hk)
  · rw [List.getD, List.getElem?_eq_none hk]; exact ⟨by decide, by decide⟩
theorem poT_size {p : Lp} (h1 : p.a.size ≤ 40) (h2 : p.c.size ≤ 3) (h3 : -4503599627370496 ≤ p.n ∧ p.n ≤ 4503599627370496) : (poT p).size ≤ 70 ∧ 0 < (poT p).size := by
  have := decI_size p.n (by omega) (by omega)
  unfold poT
  simp only [ByteArray.size_append, lgz1, lgz2]
  omega
theorem poS_size {a c : ByteArray} {n : Int} (h1 : a.size ≤ 40) (h2 : c.size ≤ 3) (h3 : -4503599627370496 ≤ n ∧ n ≤ 4503599627370496) : ((⟨#[124]⟩ : ByteArray) ++ a ++ ⟨#[47]⟩ ++ decI n ++ ⟨#[47]⟩ ++ c).size ≤ 70 ∧ 0 < ((⟨#[124]⟩ : ByteArray) ++ a ++ ⟨#[47]⟩ ++ decI n ++ ⟨#[47]⟩ ++ c).size := by
  have := decI_size n (by omega) (by omega)
  simp only [ByteArray.size_append, lgz1, lgz2]
  omega
theorem poT_mk (a c : ByteArray) (n : Int) : poT ⟨a, n, c⟩ = (⟨#[124]⟩ : ByteArray) ++ a ++ ⟨#[47]⟩ ++ decI n ++ ⟨#[47]⟩ ++ c := rfl
theorem leT_size {e : Le} (hi : e.id.size ≤ 40) (hd : 0 ≤ e.date ∧ e.date ≤ 99999) (hz : lgSz e.ps) (hb : lgBd e.ps) : ∀ k, (leT e k).size ≤ 70 + 70 * k ∧ 0 < (leT e k).size
  | 0 => by
    have := decI_size e.date (by omega) (by omega)
    simp only [leT, ByteArray.size_append, lgz1]
    omega
  | k + 1 => by
    have ih := leT_size hi hd hz hb k
    have h1 := lgSz_at hz k
    have h2 := poT_size h1.1 h1.2 (lg_bd hb k)
    simp only [leT, ByteArray.size_append]
    omega
attribute [local irreducible] seq ByteArray.extract
set_option maxHeartbeats 1000000 in
theorem lg_entryText (id : ByteArray) (d : Int) (L : List Lp) (n : Nat) (hn : L.length = n) (h16 : n ≤ 16) (hi : id.size ≤ 40) (hd : 0 ≤ d ∧ d ≤ 99999) (hz : lgSz L) (hb : lgBd L) :
    FC Tryd.prog 2 26 [.agg [.str id, .int .i64 d, .sl 1 0 0 n]] [(0, some (GB glT)), (1, some (.one true (poB n L)))] (isOut (.str (leT ⟨id, d, L, n⟩ n)) [] 2) := by
  have c1 := conv_Itoa d (by omega) (by omega)
  have hds := decI_size d (by omega) (by omega)
  have hT := leT_size (e := ⟨id, d, L, n⟩) hi hd hz hb
  have c2 := bld_WS0 (id ++ ⟨#[124]⟩ ++ decI d) (hT 0).2 (Nat.le_trans (hT 0).1 (by decide))
  unfold poB
  refine fc_of mixed T_ok Tryd.func26 rfl (by kernel_rfl) (by kernel_rfl) (by kernel_rfl) ?_
  repeat' ((conv => whnf); first | (refine vcall_glob (c1) rfl rfl rfl rfl ?_) | (refine vcallD_glob (c1) rfl rfl rfl rfl ?_) | refine vcall_o (l := [0, 3]) (c2) ?_ | refine vcallD_o (l := [0, 3]) (c2) ?_ | (refine cond_intro ?_ ?_; (simp only [ByteArray.size_append, lgz, Int.toNat_natCast, Nat.add_zero]; omega)) | ((first | apply br_dec | apply br_ndec) <;> intro h <;> try (exfalso; (try dsimp only at h); omega)) | ((first | apply br_seq | apply br_nseq | apply br_not | apply br_intro) <;> intro h) | refine cond_a ?_)
  all_goals (conv => whnf)
  refine vloop_of (fun k : Nat => ⟨[(1, .ptr 2 0 0 0), (3, .ptr 3 0 0 0), (15, .sl 1 0 0 n), (16, .int .i64 n), (17, .int .i64 k)], [(0, some (GB glT)), (1, some (.one true (poB n L))), (2, some (.one false (.cells [.str id, .int .i64 d, .sl 1 0 0 n]))), (3, bldB 4 (leT ⟨id, d, L, n⟩ k).size), (4, browB (leT ⟨id, d, L, n⟩ k))], 5⟩) (fun k => k ≤ n) (fun k => n - k) 0 [0, 1, 2, 3, 4] [] ⟨rfl, ⟨rfl, rfl, rfl, rfl, rfl, trivial⟩, ⟨gwk rfl, rfl, rfl, rfl, rfl, trivial⟩⟩ (Nat.zero_le _) ?_
  intro k hk
  unfold poB
  have hTk := hT k
  have hTe : leT ⟨id, d, L, n⟩ (k + 1) = leT ⟨id, d, L, n⟩ k ++ poT ⟨(L.map Lp.a).getD k ⟨#[]⟩, (L.map Lp.n).getD k 0, (L.map Lp.c).getD k ⟨#[]⟩⟩ := by rw [← lp_eta]; rfl
  have hTk1 := hT (k + 1)
  by_cases hk2 : k < n
  · have h1 := lgSz_at hz k
    have h2 := lg_bd hb k
    rw [lp_eta] at h1 h2
    dsimp only at h1 h2
    have h3 := poS_size h1.1 h1.2 h2
    rw [poT_mk] at hTe
    have c3 := conv_FormatInt ((L.map Lp.n).getD k 0) (by omega) (by omega)
    have h4 := decI_size ((L.map Lp.n).getD k 0) (by omega) (by omega)
    generalize hT1 : leT ⟨id, d, L, n⟩ (k + 1) = T1 at *
    generalize hT0 : leT ⟨id, d, L, n⟩ k = T at *
    have c4 := bld_WS T _ h3.2 (Nat.le_trans (Nat.add_le_add hTk.1 h3.1) (by omega))
    rw [← hTe] at c4
    repeat' ((conv => whnf); first | (refine vcall_glob (c3) rfl rfl rfl rfl ?_) | (refine vcallD_glob (c3) rfl rfl rfl rfl ?_) | refine vcall_o (l := [0, 3, 4]) (c4) ?_ | refine vcallD_o (l := [0, 3, 4]) (c4) ?_ | (refine cond_intro ?_ ?_; (simp only [ByteArray.size_append, lgz, Int.toNat_natCast, Nat.add_zero]; omega)) | ((first | apply br_dec | apply br_ndec) <;> intro h <;> try (exfalso; (try dsimp only at h); omega)) | ((first | apply br_seq | apply br_nseq | apply br_not | apply br_intro) <;> intro h) | refine cond_a ?_)
    all_goals (conv => whnf)
    all_goals first
      | (subst hT1; exact ⟨k + 1, [0, 1, 2, 3, 6], [], hk2, (show n - (k + 1) < n - k by omega), ⟨rfl, ⟨rfl, rfl, rfl, rfl, congrArg (fun z => some (SV.int .i64 z)) (i64_succ (by omega)), trivial⟩, ⟨gwk rfl, rfl, rfl, rfl, rfl, trivial⟩⟩⟩)
      | (exfalso; omega)
  have ek : k = n := by omega
  subst ek
  have c5 := bld_String (leT ⟨id, d, L, k⟩ k) hTk.2
  generalize leT ⟨id, d, L, k⟩ k = T at *
  repeat' ((conv => whnf); first | refine vcall_o (l := [0, 3, 4]) (c5) ?_ | refine vcallD_o (l := [0, 3, 4]) (c5) ?_ | ((first | apply br_dec | apply br_ndec) <;> intro h <;> try (exfalso; (try dsimp only at h); omega)) | ((first | apply br_seq | apply br_nseq | apply br_not | apply br_intro) <;> intro h) | refine cond_a ?_)
  all_goals (conv => whnf)
  all_goals first
    | exact ret_out (l := [0, 1]) rfl rfl trivial allRw_nil
    | (exfalso; omega)
end Go.Proofs.YtjjnbhbendlnhaaDoor

/- Contracts of package ledger: what check answers. -/
namespace Go.Proofs.YtjjnbhbendlnhaaDoor
open Go.RowKit Go.Sy
attribute [local irreducible] vcall vloop vcallD retP
set_option maxRecDepth 100000
set_option linter.unusedVariables false
set_option linter.unusedSimpArgs false

/-- A ledger's fields. -/
abbrev lgF (a e p t b : Nat) (s : Lg) : List SV := [.map a 0, .sl e 0 0 s.ne, .map p 0, .map t 0, .map b 0, .int .u64 s.dig]
abbrev lgAcc (s : Lg) : Blk := .obj (.map false false s.na [.strs s.acc] [.sc (.bools (List.replicate s.na true))] (List.range s.na) s.na)
abbrev lgPl (s : Lg) : Blk := .obj (.map false false s.ne [.strs (s.ent.map Le.id)] [.sc (.ints .i64 ((List.range s.ne).map Int.ofNat))] (List.range s.ne) s.ne)
theorem lg_tn (k : Nat) : (k : Int).toNat + 0 = k := rfl
theorem lg_rep (n i : Nat) : (List.replicate n true).getD i false = decide (i < n) := by
  rw [List.getD, List.getElem?_replicate]
  split
  · rename_i h; rw [decide_eq_true h]; rfl
  · rename_i h; rw [decide_eq_false h]; rfl
theorem poE_cons (acc : List ByteArray) (p : Lp) (L : List Lp) : poE acc (p :: L) = if inL p.a acc then (if mchk p.n p.c = 0 then poE acc L else mchk p.n p.c) else 6 := rfl
theorem poE_app {acc : List ByteArray} (B : List Lp) : ∀ A : List Lp, poE acc (A ++ B) = if poE acc A = 0 then poE acc B else poE acc A
  | [] => by simp [poE]
  | p :: A => by
    rw [List.cons_append, poE_cons, poE_cons]
    by_cases h : inL p.a acc
    · rw [if_pos h, if_pos h]
      by_cases h2 : mchk p.n p.c = 0
      · rw [if_pos h2, if_pos h2]; exact poE_app B A
      · rw [if_neg h2, if_neg h2, if_neg h2]
    · rw [if_neg h, if_neg h, if_neg (by decide)]
theorem poE_next {acc : List ByteArray} {L : List Lp} {k : Nat} (hk : k < L.length) (h : poE acc (L.take k) = 0) : poE acc (L.take (k + 1)) = if inL (L.getD k lp0).a acc then mchk (L.getD k lp0).n (L.getD k lp0).c else 6 := by
  rw [lg_take hk, poE_app, if_pos h]
  simp only [poE]
  split
  · split
    · rename_i h2; exact h2.symm
    · rfl
  · rfl
theorem poE_stop {acc : List ByteArray} {L : List Lp} (k : Nat) (h : poE acc (L.take k) ≠ 0) : poE acc L = poE acc (L.take k) := by
  have := poE_app (acc := acc) (L.drop k) (L.take k)
  rw [List.take_append_drop, if_neg h] at this
  exact this
/-- A change that a balance bears. -/
def rngK (bal : ByteArray → ByteArray → Int) (x : Lp) : Prop := -4503599627370496 ≤ bal x.a x.c + x.n ∧ bal x.a x.c + x.n ≤ 4503599627370496
theorem rng_no {bal : ByteArray → ByteArray → Int} {L : List Lp} {i : Nat} (hi : i < (chR L L.length).length) (h : ¬ rngK bal ((chR L L.length).getD i lp0)) : rngB bal L = false := by
  cases e : rngB bal L with
  | false => rfl
  | true =>
    unfold rngB at e
    rw [List.all_eq_true] at e
    refine absurd (of_decide_eq_true (e ((chR L L.length).getD i lp0) ?_)) h
    rw [List.getD, List.getElem?_eq_getElem hi]
    exact List.getElem_mem hi
theorem rng_yes {bal : ByteArray → ByteArray → Int} {L : List Lp} (h : ∀ i, i < (chR L L.length).length → rngK bal ((chR L L.length).getD i lp0)) : rngB bal L = true := by
  unfold rngB
  rw [List.all_eq_true]
  intro x hx
  obtain ⟨i, hi, rfl⟩ := List.getElem_of_mem hx
  have := h i hi
  rw [List.getD, List.getElem?_eq_getElem hi] at this
  exact decide_eq_true this
attribute [local irreducible] seq ByteArray.extract poE rngB lgBal lgE
/-- The rows that check looks at. -/
abbrev ckH (s : Lg) (r : Nat) (R : List Lp) (n : Nat) (L : List Lp) : Heap := [(1, some (.one true (.cells (lgF 2 3 4 5 6 s)))), (2, some (.one true (lgAcc s))), (4, some (.one true (lgPl s))), (6, some (.one true (RL r R))), (8, some (.one true (poB n L)))]
theorem lg_check (s : Lg) (id : ByteArray) (d : Int) (L : List Lp) (n : Nat) (r : Nat) (R : List Lp) (hs : LgOk s) (hr : R.length = r) (hRv : ∀ a c, lgV R a c = s.bal a c) (hn : L.length = n) :
    FC Tryd.prog 9 22 [.ptr 1 0 0 0, .agg [.str id, .int .i64 d, .sl 8 0 0 n]] (ckH s r R n L) (isOut (.int .i64 (lgE s ⟨id, d, L, n⟩)) [] 9) := by
  have c1 := lg_isLabel id
  have hne := hs.ne
  have hna := hs.na
  have hidl : (s.ent.map Le.id).length = s.ne := by rw [List.length_map, hne]
  unfold ckH lgF lgAcc lgPl poB
  by_cases g1 : labB id = false
  · have he : lgE s ⟨id, d, L, n⟩ = 5 := by unfold lgE; rw [if_pos g1]
    rw [he]
    rw [g1] at c1
    refine fc_of mixed T_ok Tryd.func22 rfl (by kernel_rfl) (by kernel_rfl) (by kernel_rfl) ?_
    repeat' ((conv => whnf); first | (refine vcall_pure (c1) rfl rfl rfl ?_) | (refine vcallD_pure (c1) rfl rfl rfl ?_) | ((first | apply br_dec | apply br_ndec) <;> intro h <;> try (exfalso; (try dsimp only at h); omega)) | ((first | apply br_seq | apply br_nseq | apply br_not | apply br_intro) <;> intro h) | refine cond_a ?_)
    all_goals (conv => whnf)
    all_goals first
      | exact ret_out (l := [0, 1, 2, 3, 4, 5, 6, 7, 8]) rfl rfl trivial allRw_nil
      | (exfalso; omega)
  have g1' : labB id = true := by simpa using g1
  rw [g1'] at c1
  by_cases g2 : d < 0 ∨ 99999 < d
  · have he : lgE s ⟨id, d, L, n⟩ = 14 := by unfold lgE; rw [if_neg g1, if_pos g2]
    rw [he]
    refine fc_of mixed T_ok Tryd.func22 rfl (by kernel_rfl) (by kernel_rfl) (by kernel_rfl) ?_
    repeat' ((conv => whnf); first | (refine vcall_pure (c1) rfl rfl rfl ?_) | (refine vcallD_pure (c1) rfl rfl rfl ?_) | ((first | apply br_dec | apply br_ndec) <;> intro h <;> try (exfalso; (try dsimp only at h); omega)) | ((first | apply br_seq | apply br_nseq | apply br_not | apply br_intro) <;> intro h) | refine cond_a ?_)
    all_goals (conv => whnf)
    all_goals first
      | exact ret_out (l := [0, 1, 2, 3, 4, 5, 6, 7, 8]) rfl rfl trivial allRw_nil
      | (exfalso; omega)
  by_cases g3 : inL id s.ids
  · have he : lgE s ⟨id, d, L, n⟩ = 7 := by unfold lgE; rw [if_neg g1, if_neg g2, if_pos g3]
    rw [he]
    have g3' : sidx (s.ent.map Le.id) id < s.ne := by rw [← hidl]; exact g3
    refine fc_of mixed T_ok Tryd.func22 rfl (by kernel_rfl) (by kernel_rfl) (by kernel_rfl) ?_
    repeat' ((conv => whnf); first | (refine vcall_pure (c1) rfl rfl rfl ?_) | (refine vcallD_pure (c1) rfl rfl rfl ?_) | ((first | apply br_dec | apply br_ndec) <;> intro h <;> try (exfalso; (try dsimp only at h); omega)) | ((first | apply br_seq | apply br_nseq | apply br_not | apply br_intro) <;> intro h) | refine cond_a ?_)
    all_goals (conv => whnf)
    all_goals first
      | exact ret_out (l := [0, 1, 2, 3, 4, 5, 6, 7, 8]) rfl rfl trivial allRw_nil
      | (exfalso; omega)
  have g3' : ¬ sidx (s.ent.map Le.id) id < s.ne := by rw [← hidl]; exact g3
  by_cases g4 : n < 1 ∨ 16 < n
  · have he : lgE s ⟨id, d, L, n⟩ = 4 := by unfold lgE; rw [if_neg g1, if_neg g2, if_neg g3, if_pos g4]
    rw [he]
    refine fc_of mixed T_ok Tryd.func22 rfl (by kernel_rfl) (by kernel_rfl) (by kernel_rfl) ?_
    repeat' ((conv => whnf); first | (refine vcall_pure (c1) rfl rfl rfl ?_) | (refine vcallD_pure (c1) rfl rfl rfl ?_) | ((first | apply br_dec | apply br_ndec) <;> intro h <;> try (exfalso; (try dsimp only at h); omega)) | ((first | apply br_seq | apply br_nseq | apply br_not | apply br_intro) <;> intro h) | refine cond_a ?_)
    all_goals (conv => whnf)
    all_goals first
      | exact ret_out (l := [0, 1, 2, 3, 4, 5, 6, 7, 8]) rfl rfl trivial allRw_nil
      | (exfalso; omega)
  have g5 : poE s.acc L ≠ 0 → lgE s ⟨id, d, L, n⟩ = poE s.acc L := fun h => by unfold lgE; rw [if_neg g1, if_neg g2, if_neg g3, if_neg g4, if_pos h]
  have g6 : poE s.acc L = 0 → lgE s ⟨id, d, L, n⟩ = if lgBal L = false then 26 else if rngB s.bal L = false then 4 else if 512 ≤ s.ne then 12 else 0 := fun h => by unfold lgE; rw [if_neg g1, if_neg g2, if_neg g3, if_neg g4, if_neg (fun h' => h' h)]
  generalize lgE s ⟨id, d, L, n⟩ = E at *
  refine fc_of mixed T_ok Tryd.func22 rfl (by kernel_rfl) (by kernel_rfl) (by kernel_rfl) ?_
  repeat' ((conv => whnf); first | (refine vcall_pure (c1) rfl rfl rfl ?_) | (refine vcallD_pure (c1) rfl rfl rfl ?_) | ((first | apply br_dec | apply br_ndec) <;> intro h <;> try (exfalso; (try dsimp only at h); omega)) | ((first | apply br_seq | apply br_nseq | apply br_not | apply br_intro) <;> intro h) | refine cond_a ?_)
  all_goals (conv => whnf)
  all_goals first
    | (exfalso; omega)
    | skip
  refine vloop_of (fun k : Nat => ⟨[(0, .ptr 1 0 0 0), (3, .ptr 9 0 0 0), (47, .sl 8 0 0 n), (48, .int .i64 n), (49, .int .i64 k)], [(1, some (.one true (.cells (lgF 2 3 4 5 6 s)))), (2, some (.one true (lgAcc s))), (4, some (.one true (lgPl s))), (6, some (.one true (RL r R))), (8, some (.one true (poB n L))), (9, some (.one false (.cells [.str id, .int .i64 d, .sl 8 0 0 n])))], 10⟩) (fun k => k ≤ n ∧ poE s.acc (L.take k) = 0) (fun k => n - k) 0 [0, 1, 2, 3, 4, 5, 6, 7, 8, 9] [] ⟨rfl, ⟨rfl, rfl, rfl, rfl, rfl, trivial⟩, ⟨rfl, rfl, rfl, rfl, rfl, rfl, trivial⟩⟩ ⟨Nat.zero_le _, by unfold poE; rfl⟩ ?_
  rintro k ⟨hk, hz⟩
  unfold lgF lgAcc lgPl poB
  by_cases hk2 : k < n
  · have hnx := poE_next (acc := s.acc) (L := L) (k := k) (by omega) hz
    have hst := poE_stop (acc := s.acc) (L := L) (k + 1)
    rw [lp_eta] at hnx
    dsimp only at hnx
    by_cases hin : inL ((L.map Lp.a).getD k ⟨#[]⟩) s.acc
    · have hin' : sidx s.acc ((L.map Lp.a).getD k ⟨#[]⟩) < s.na := by rw [← hna]; exact hin
      have hrep := lg_rep s.na (sidx s.acc ((L.map Lp.a).getD k ⟨#[]⟩))
      rw [decide_eq_true hin'] at hrep
      rw [if_pos hin] at hnx
      have c2 := money_Check ((L.map Lp.n).getD k 0) ((L.map Lp.c).getD k ⟨#[]⟩)
      by_cases hm : mchk ((L.map Lp.n).getD k 0) ((L.map Lp.c).getD k ⟨#[]⟩) = 0
      · rw [hm] at c2 hnx
        repeat' ((conv => whnf); first | (refine vcall_pure (c2) rfl rfl rfl ?_) | (refine vcallD_pure (c2) rfl rfl rfl ?_) | (simp only [lg_tn, hrep]) | ((first | apply br_dec | apply br_ndec) <;> intro h <;> try (exfalso; (try dsimp only at h); omega)) | ((first | apply br_seq | apply br_nseq | apply br_not | apply br_intro) <;> intro h) | refine cond_a ?_)
        all_goals (conv => whnf)
        all_goals first
          | exact ⟨k + 1, [0, 1, 2, 3, 4, 5, 6, 7, 8, 9], [], ⟨hk2, hnx⟩, (show n - (k + 1) < n - k by omega), ⟨rfl, ⟨rfl, rfl, rfl, rfl, congrArg (fun z => some (SV.int .i64 z)) (i64_succ (by omega)), trivial⟩, ⟨rfl, rfl, rfl, rfl, rfl, rfl, trivial⟩⟩⟩
          | (exfalso; omega)
      · have hE := g5 (by rw [hst (by rw [hnx]; exact hm), hnx]; exact hm)
        rw [hst (by rw [hnx]; exact hm), hnx] at hE
        rw [hE]
        generalize mchk ((L.map Lp.n).getD k 0) ((L.map Lp.c).getD k ⟨#[]⟩) = M at *
        repeat' ((conv => whnf); first | (refine vcall_pure (c2) rfl rfl rfl ?_) | (refine vcallD_pure (c2) rfl rfl rfl ?_) | (simp only [lg_tn, hrep]) | ((first | apply br_dec | apply br_ndec) <;> intro h <;> try (exfalso; (try dsimp only at h); omega)) | ((first | apply br_seq | apply br_nseq | apply br_not | apply br_intro) <;> intro h) | refine cond_a ?_)
        all_goals (conv => whnf)
        all_goals first
          | exact ret_out (l := [0, 1, 2, 3, 4, 5, 6, 7, 8]) rfl rfl trivial allRw_nil
          | (exfalso; omega)
    · have hin' : ¬ sidx s.acc ((L.map Lp.a).getD k ⟨#[]⟩) < s.na := by rw [← hna]; exact hin
      have hrep := lg_rep s.na (sidx s.acc ((L.map Lp.a).getD k ⟨#[]⟩))
      rw [decide_eq_false hin'] at hrep
      rw [if_neg hin] at hnx
      have hE := g5 (by rw [hst (by rw [hnx]; decide), hnx]; decide)
      rw [hst (by rw [hnx]; decide), hnx] at hE
      rw [hE]
      repeat' ((conv => whnf); first | (simp only [lg_tn, hrep]) | ((first | apply br_dec | apply br_ndec) <;> intro h <;> try (exfalso; (try dsimp only at h); omega)) | ((first | apply br_seq | apply br_nseq | apply br_not | apply br_intro) <;> intro h) | refine cond_a ?_)
      all_goals (conv => whnf)
      all_goals first
        | exact ret_out (l := [0, 1, 2, 3, 4, 5, 6, 7, 8]) rfl rfl trivial allRw_nil
        | (exfalso; omega)
  have ek : k = n := by omega
  subst ek
  rw [show L.take k = L by rw [← hn, List.take_length]] at hz
  have hE := g6 hz
  have hbd := poE_bd hz
  have c3 := lg_balanced L k hn (by omega) hbd
  have c4 := lg_changes L k hn (by omega) hbd
  unfold poB at c3 c4
  by_cases g7 : lgBal L = false
  · rw [if_pos g7] at hE
    rw [hE]
    rw [g7] at c3
    repeat' ((conv => whnf); first | refine vcall_o (l := [0, 8]) (c3) ?_ | refine vcallD_o (l := [0, 8]) (c3) ?_ | ((first | apply br_dec | apply br_ndec) <;> intro h <;> try (exfalso; (try dsimp only at h); omega)) | ((first | apply br_seq | apply br_nseq | apply br_not | apply br_intro) <;> intro h) | refine cond_a ?_)
    all_goals (conv => whnf)
    all_goals first
      | exact ret_out (l := [0, 1, 2, 3, 4, 5, 6, 7, 8]) rfl rfl trivial allRw_nil
      | (exfalso; omega)
  have g7' : lgBal L = true := by simpa using g7
  rw [if_neg g7] at hE
  rw [g7'] at c3
  have hno := fun i hi h => rng_no (bal := s.bal) (L := L) (i := i) hi h
  have hyes := rng_yes (bal := s.bal) (L := L)
  have hcb : ∀ i, -4503599627370496 * 16 ≤ ((chR L L.length).getD i lp0).n ∧ ((chR L L.length).getD i lp0).n ≤ 4503599627370496 * 16 := by
    intro i
    rcases Nat.lt_or_ge i (chR L L.length).length with hi | hi
    · have h1 := lgV_row (chR_dist L L.length) hi
      rw [chR_val _ _ _ (Nat.le_refl _), List.take_length] at h1
      have h2 := lgS_bd hbd ((chR L L.length).getD i lp0).a ((chR L L.length).getD i lp0).c
      rw [h1] at h2
      omega
    · rw [List.getD, List.getElem?_eq_none hi]; exact ⟨by decide, by decide⟩
  rw [hn] at hno hyes hcb
  generalize chR L k = C at *
  generalize hm : C.length = m at *
  repeat' ((conv => whnf); first | refine vcall_o (l := [0, 8]) (c3) ?_ | refine vcallD_o (l := [0, 8]) (c3) ?_ | refine vcall_o (l := [0, 8]) (c4) ?_ | refine vcallD_o (l := [0, 8]) (c4) ?_ | ((first | apply br_dec | apply br_ndec) <;> intro h <;> try (exfalso; (try dsimp only at h); omega)) | ((first | apply br_seq | apply br_nseq | apply br_not | apply br_intro) <;> intro h) | refine cond_a ?_)
  all_goals (conv => whnf)
  all_goals first
    | (exfalso; omega)
    | skip
  refine vloop_of (fun sn : List Nat => ⟨[(0, .ptr 1 0 0 0), (75, .ptr 11 0 0 0)], [(1, some (.one true (.cells (lgF 2 3 4 5 6 s)))), (6, some (.one true (RL r R))), (10, some (.one false (RL m C))), (11, some (.one false (.obj (.iter 10 0 (List.range m) m sn))))], 12⟩) (fun sn => sn.Nodup ∧ (∀ i ∈ sn, i < m) ∧ ∀ i ∈ sn, rngK s.bal (C.getD i lp0)) (fun sn => m - sn.length) [] [0, 1, 2, 3, 4, 5, 6, 7, 8, 9, 10, 11] [] ⟨rfl, ⟨rfl, rfl, trivial⟩, ⟨rfl, rfl, rfl, rfl, trivial⟩⟩ ⟨List.nodup_nil, by simp, by simp⟩ ?_
  rintro sn ⟨hd, hl, hz2⟩
  unfold lgF
  have key : ∀ x, IntKind.i64.wrap ((R.map Lp.n).getD (sidx2 (R.map Lp.a) (R.map Lp.c) ((C.map Lp.a).getD x ⟨#[]⟩) ((C.map Lp.c).getD x ⟨#[]⟩)) 0 + (C.map Lp.n).getD x 0) = s.bal (C.getD x lp0).a (C.getD x lp0).c + (C.getD x lp0).n := by
    intro x
    have h1 := hs.rng (C.getD x lp0).a (C.getD x lp0).c
    have h2 := hcb x
    rw [rl_val, hRv, lp_a, lp_c, lp_n]
    exact w64_in (by omega) (by omega)
  repeat' ((conv => whnf); first | (refine ⟨⟨rfl, rfl⟩, fun x hx hnx => ?_, fun hall => ?_⟩) | (rw [key]) | ((first | apply br_dec | apply br_ndec) <;> intro h <;> try (exfalso; (try dsimp only at h); omega)) | ((first | apply br_seq | apply br_nseq | apply br_not | apply br_intro) <;> intro h) | refine cond_a ?_)
  all_goals (conv => whnf)
  · have hB := hno x hx (fun hk => by unfold rngK at hk; omega)
    rw [if_pos hB] at hE
    rw [hE]
    exact ret_out (l := [0, 1, 2, 3, 4, 5, 6, 7, 8]) rfl rfl trivial allRw_nil
  · have hB := hno x hx (fun hk => by unfold rngK at hk; omega)
    rw [if_pos hB] at hE
    rw [hE]
    exact ret_out (l := [0, 1, 2, 3, 4, 5, 6, 7, 8]) rfl rfl trivial allRw_nil
  · have := nodup_cons_lt hd hl hx hnx
    refine ⟨x :: sn, [0, 1, 2, 3, 4, 5, 6, 7, 8, 9, 10, 11], [], ⟨List.nodup_cons.2 ⟨hnx, hd⟩, fun y hy => ?_, fun y hy => ?_⟩, by simp only [List.length_cons]; omega, ⟨rfl, ⟨rfl, rfl, trivial⟩, ⟨rfl, rfl, rfl, rfl, trivial⟩⟩⟩
    · rcases List.mem_cons.1 hy with rfl | hy
      · exact hx
      · exact hl y hy
    · rcases List.mem_cons.1 hy with rfl | hy
      · unfold rngK; omega
      · exact hz2 y hy
  · have hB := hyes fun i hi => hz2 i (hall i hi)
    rw [if_neg (by rw [hB]; decide), if_pos (by omega)] at hE
    rw [hE]
    exact ret_out (l := [0, 1, 2, 3, 4, 5, 6, 7, 8]) rfl rfl trivial allRw_nil
  · have hB := hyes fun i hi => hz2 i (hall i hi)
    rw [if_neg (by rw [hB]; decide), if_neg (by omega)] at hE
    rw [hE]
    exact ret_out (l := [0, 1, 2, 3, 4, 5, 6, 7, 8]) rfl rfl trivial allRw_nil
end Go.Proofs.YtjjnbhbendlnhaaDoor

/- Contracts of package checksum, and of the journal's hash text. -/
namespace Go.Proofs.YtjjnbhbendlnhaaDoor
open Go.RowKit Go.Sy
attribute [local irreducible] vcall vloop vcallD retP
set_option maxRecDepth 100000
set_option linter.unusedVariables false
set_option linter.unusedSimpArgs false

theorem chk_extend (p : Int) (s : ByteArray) (hs : s.size ≤ 9223372036854775000) : Pure Tryd.prog 35 [.int .u64 p, .str s] (.int .u64 (fnvK p s s.size)) := by
  refine fc_of mixed T_ok Tryd.func35 rfl (by kernel_rfl) (by kernel_rfl) (by kernel_rfl) ?_
  (conv => whnf)
  refine vloop_of (fun k : Nat => ⟨[(0, .int .u64 (fnvK p s k)), (1, .str s), (7, .int .i64 s.size), (8, .int .i64 k)], [], 1⟩) (fun k => k ≤ s.size) (fun k => s.size - k) 0 [0] [] ⟨rfl, ⟨rfl, rfl, rfl, rfl, trivial⟩, trivial⟩ (by omega) ?_
  intro k hk
  have bb := byte_bd s (k : Int)
  repeat' ((conv => whnf); first | ((first | apply br_dec | apply br_ndec) <;> intro h <;> try (exfalso; (try dsimp only at h); omega)) | ((first | apply br_seq | apply br_nseq | apply br_not | apply br_intro) <;> intro h) | refine cond_a ?_)
  all_goals (conv => whnf)
  · refine ⟨k + 1, [0], [], by omega, by omega, ⟨rfl, ⟨?_, rfl, rfl, congrArg (fun z => some (SV.int .i64 z)) (i64_succ (by omega)), trivial⟩, trivial⟩⟩
    refine congrArg (fun z => some (SV.int .u64 z)) ?_
    show IntKind.u64.wrap (ixor .u64 (fnvK p s k) (IntKind.u64.wrap (byteAt s (k : Int))) * 1099511628211) = fnvK p s (k + 1)
    have e1 : IntKind.u64.wrap (byteAt s (k : Int)) = byteAt s (k : Int) := u64_in' (by omega) (by omega)
    rw [e1]
    rfl
  · have e : k = s.size := by omega
    subst e
    exact ret_pure rfl
theorem chk_Hash (s : ByteArray) (hs : s.size ≤ 9223372036854775000) : Pure Tryd.prog 36 [.str s] (.int .u64 (fnvK 14695981039346656037 s s.size)) := by
  have c := chk_extend 14695981039346656037 s hs
  refine fc_of mixed T_ok Tryd.func36 rfl (by kernel_rfl) (by kernel_rfl) (by kernel_rfl) ?_
  repeat' ((conv => whnf); first | (refine vcall_pure (c) rfl rfl rfl ?_) | (refine vcallD_pure (c) rfl rfl rfl ?_) | ((first | apply br_dec | apply br_ndec) <;> intro h <;> try (exfalso; (try dsimp only at h); omega)) | ((first | apply br_seq | apply br_nseq | apply br_not | apply br_intro) <;> intro h) | refine cond_a ?_)
  all_goals (conv => whnf)
  exact ret_pure rfl
theorem shift_ok {k : Nat} (h : k < 8) : IntKind.i64.wrap (56 - IntKind.i64.wrap (8 * (k : Int))) = ((56 - 8 * k : Nat) : Int) := by
  rw [w64_in (n := 8 * (k : Int)) (by omega) (by omega), w64_in (by omega) (by omega)]; omega
theorem chk_Chain (p : Int) (s : ByteArray) (hs : s.size ≤ 9223372036854775000) : Pure Tryd.prog 25 [.int .u64 p, .str s] (.int .u64 (chI p s)) := by
  have c1 := chk_Hash (be8S p) (by rw [be8S_size]; omega)
  have c2 := chk_extend (fnvK 14695981039346656037 (be8S p) (be8S p).size) s hs
  rw [be8S_size] at c1 c2
  unfold chI
  refine fc_of mixed T_ok Tryd.func25 rfl (by kernel_rfl) (by kernel_rfl) (by kernel_rfl) ?_
  repeat' ((conv => whnf); first | ((first | apply br_dec | apply br_ndec) <;> intro h <;> try (exfalso; (try dsimp only at h); omega)) | ((first | apply br_seq | apply br_nseq | apply br_not | apply br_intro) <;> intro h) | refine cond_a ?_)
  all_goals (conv => whnf)
  refine vloop_of (fun k : Nat => ⟨[(0, .int .u64 p), (1, .str s), (5, .sl 1 0 0 8), (9, .int .i64 8), (10, .int .i64 k)], [(1, some (.one false (.cols 8 [.sc (.ints .u8 (beZ p k))])))], 2⟩) (fun k => k ≤ 8) (fun k => 8 - k) 0 [0, 1] [] ⟨rfl, ⟨rfl, rfl, rfl, rfl, rfl, trivial⟩, ⟨rfl, trivial⟩⟩ (by omega) ?_
  intro k hk
  by_cases hlt : k < 8
  · have e := shift_ok hlt
    repeat' ((conv => whnf); first | (refine cond_intro (show 0 ≤ IntKind.i64.wrap (56 - IntKind.i64.wrap (8 * (k : Int))) from ?_) ?_; (rw [e]; omega)) | ((first | apply br_dec | apply br_ndec) <;> intro h <;> try (exfalso; (try dsimp only at h); omega)) | ((first | apply br_seq | apply br_nseq | apply br_not | apply br_intro) <;> intro h) | refine cond_a ?_)
    all_goals (conv => whnf)
    · refine ⟨k + 1, [0, 1], [], by omega, by omega, ⟨rfl, ⟨rfl, rfl, rfl, rfl, congrArg (fun z => some (SV.int .i64 z)) (i64_succ (by omega)), trivial⟩, ⟨?_, trivial⟩⟩⟩
      refine congrArg (fun z => some (HB.one false (.cols 8 [.sc (.ints .u8 z)]))) ?_
      show (beZ p k).set k (IntKind.u8.wrap (ishr .u64 p (IntKind.i64.wrap (56 - IntKind.i64.wrap (8 * (k : Int)))))) = _
      rw [e]
      exact beZ_set p k hlt
  · have e : k = 8 := by omega
    subst e
    rw [show beZ p 8 = beL p 8 from beZ_all p]
    have e8 : bytesOf (seg 0 8 (beL p 8)) = be8S p := by
      unfold seg be8S; rw [List.drop_zero, List.take_of_length_le (by rw [beL_length]; exact Nat.le_refl _)]
    rw [← e8] at c1 c2
    repeat' ((conv => whnf); first | (refine vcall_pure (c1) rfl rfl rfl ?_) | (refine vcall_pure (c2) rfl rfl rfl ?_) | (refine vcallD_pure (c1) rfl rfl rfl ?_) | (refine vcallD_pure (c2) rfl rfl rfl ?_) | ((first | apply br_dec | apply br_ndec) <;> intro h <;> try (exfalso; (try dsimp only at h); omega)) | ((first | apply br_seq | apply br_nseq | apply br_not | apply br_intro) <;> intro h) | refine cond_a ?_)
    all_goals (conv => whnf)
    exact ret_pure (by rw [e8]; rfl)
end Go.Proofs.YtjjnbhbendlnhaaDoor

/- Contracts of package ledger: Post. -/
namespace Go.Proofs.YtjjnbhbendlnhaaDoor
open Go.RowKit Go.Sy
attribute [local irreducible] vcall vloop vcallD retP
set_option maxRecDepth 100000
set_option linter.unusedVariables false
set_option linter.unusedSimpArgs false

abbrev lgEnt (f : Nat) (s : Lg) : Blk := .cols s.ne [.sc (.strs (s.ent.map Le.id)), .sc (.ints .i64 (s.ent.map Le.date)), .own f (s.ent.map Le.np)]
def enF (E : List Le) (q : Nat) : Blk := poB (E.getD q le0).np (E.getD q le0).ps
abbrev lgFam (ro : Bool) (s : Lg) : Option HB := some (.fam ro (fun x => x < s.ne) (enF s.ent))
/-- What is known of the balances' rows. -/
def LgB (bal : ByteArray → ByteArray → Int) (m : Nat) : BagQ := fun a c v => ∃ R : List Lp, a = R.map Lp.a ∧ c = R.map Lp.c ∧ v = R.map Lp.n ∧ lgD R ∧ (∀ a c, lgV R a c = bal a c) ∧ R.length ≤ 16 * m
theorem enF_old {E : List Le} {e : Le} : ∀ q, q < E.length → enF (E ++ [e]) q = enF E q := by
  intro q hq
  unfold enF
  rw [List.getD, List.getElem?_append_left hq]; rfl
theorem enF_new {E : List Le} {e : Le} : enF (E ++ [e]) E.length = poB e.np e.ps := by
  unfold enF
  rw [List.getD, List.getElem?_append_right (Nat.le_refl _), Nat.sub_self]; rfl
/-- The table of entries gets a new row. -/
theorem relab_ent_put {H : Heap} {n a b g m k : Nat} {ns : List Nat} {c1 c2 : Col} {dom : Nat → Prop} {f F : Nat → Blk} {bg : Blk} (hl : ns.length = m) (h1 : c1.len = m + 1) (h2 : c2.len = m + 1) (ha : a < n) (hta : hget H a = some (.one false (.cols (m + 1) [.sc c1, .sc c2, .svs (ownL b ns ++ [.sl g 0 0 k])]))) (hb : hget H b = some (.fam false dom f)) (hdom : ∀ q, q < m → dom q)
    (hg : hget H g = some (.one false bg)) (hba : b ≠ a) (hga : g ≠ a) (hbg : b ≠ g) (hF : ∀ q, q < m → F q = f q) (hFm : F m = bg) :
    Relab H n (gdR n m [⟨b, g, F⟩]) (fun _ => 0) [(a, some (.one false (.cols (m + 1) [.sc c1, .sc c2, .own n (ns ++ [k])]))), (n + 0, some (.fam false (fun x => x < m + 1) F))] [b, g] 1 := by
  have r0 : ∀ q, q < m → gdR n m [⟨b, g, F⟩] n q = some (b, q) := fun q hq => gdR_old (i := 0) (D := [⟨b, g, F⟩]) rfl hq
  have s0 : gdR n m [⟨b, g, F⟩] n m = some (g, 0) := gdR_new (i := 0) (D := [⟨b, g, F⟩]) rfl
  refine relab_fams (n := n) (m := m) (th := a) [⟨b, g, F⟩] ha hta (ble_cols ?_) ?_ ?_
  · refine ⟨⟨fun _ => h1, fun i hi => sle_refl _⟩, ⟨fun _ => h2, fun i hi => sle_refl _⟩, ⟨fun _ => ?_, own_put hl (Nat.le_refl _) r0 s0⟩, trivial⟩
    show (ns ++ [k]).length = m + 1
    rw [List.length_append, List.length_singleton]; omega
  · refine ⟨⟨hba, hga, ⟨dom, f, hb, fun q hq => ⟨hdom q hq, .inl (hF q hq)⟩⟩, bg, hg, .inl hFm⟩, trivial⟩
  · show (!(Nat.beq g b || false) && (!false && true)) = true
    have : Nat.beq g b = false := by
      cases e : Nat.beq g b with
      | false => rfl
      | true => exact absurd (Nat.eq_of_beq_eq_true e).symm hbg
    rw [this]; rfl
theorem lgEnt_put (f : Nat) (s : Lg) (e : Le) : lgEnt f (lgP s e) = .cols (s.ne + 1) [.sc (.strs (s.ent.map Le.id ++ [e.id])), .sc (.ints .i64 (s.ent.map Le.date ++ [e.date])), .own f (s.ent.map Le.np ++ [e.np])] := by
  unfold lgEnt lgP
  simp
theorem lgPl_put {s : Lg} {e : Le} {ix : Nat} (hix : ix = s.ne) (hl : s.ent.length = s.ne) :
    (some (HB.one false (.obj (.map false false (if ix < s.ne then s.ne else s.ne + 1) [.strs (putL ix e.id (s.ent.map Le.id))] [.sc (.ints .i64 (putL ix (s.ne : Int) ((List.range s.ne).map Int.ofNat)))] (if ix < s.ne then List.range s.ne else List.range s.ne ++ [s.ne]) (if ix < s.ne then s.ne else s.ne + 1)))) : Option HB) = some (.one false (lgPl (lgP s e))) := by
  subst hix
  unfold lgPl lgP
  rw [if_neg (by omega), if_neg (by omega), lg_putNew (by rw [List.length_map, hl]), lg_putNew (by rw [List.length_map, List.length_range])]
  simp only [List.map_append, List.map_cons, List.map_nil, List.range_succ]
  rfl
theorem curB_len {c : ByteArray} (h : curB c = true) : c.size ≤ 3 := by
  by_cases e : c.size = 3
  · omega
  · rw [curB_size e] at h; cases h
theorem lgS_bdM {M : Int} (a c : ByteArray) : ∀ {L : List Lp}, (∀ x ∈ L, -M ≤ x.n ∧ x.n ≤ M) → 0 ≤ M → -(M * (L.length : Int)) ≤ lgS L a c ∧ lgS L a c ≤ M * (L.length : Int)
  | [], _, h0 => by simp [lgS]
  | x :: L, h, h0 => by
    have i1 := lgS_bdM a c (L := L) (fun y hy => h y (by simp [hy])) h0
    have i2 := h x (by simp)
    simp only [lgS, List.length_cons]
    have e : M * ((L.length + 1 : Nat) : Int) = M * (L.length : Int) + M := by rw [Int.natCast_add, Int.mul_add]; simp
    rw [e]
    split <;> omega
attribute [local irreducible] seq ByteArray.extract poE rngB lgBal lgE
/-- The rows that a call of Post is handed, but for the balances. -/
abbrev psH (s : Lg) (n : Nat) (L : List Lp) : Heap := [(0, some (GB glT)), (1, some (.one false (.cells (lgF 2 3 4 5 6 s)))), (2, some (.one true (lgAcc s))), (3, some (.one false (lgEnt 7 s))), (4, some (.one false (lgPl s))), (7, lgFam false s), (8, some (.one true (poB n L)))]
/-- The rows of a ledger behind an accepted entry, but for the balances. -/
abbrev psO (s : Lg) : Heap := [(1, some (.one false (.cells (lgF 2 9 4 5 6 s)))), (9, some (.one false (lgEnt 10 s))), (4, some (.one false (lgPl s))), (10, lgFam false s)]
theorem lg_Post_no (s : Lg) (id : ByteArray) (d : Int) (L : List Lp) (n : Nat) (r : Nat) (R : List Lp) (hs : LgOk s) (hr : R.length = r) (hRv : ∀ a c, lgV R a c = s.bal a c) (hn : L.length = n) (h0 : lgE s ⟨id, d, L, n⟩ ≠ 0) :
    FC Tryd.prog 9 7 [.ptr 1 0 0 0, .agg [.str id, .int .i64 d, .sl 8 0 0 n]] (ckH s r R n L) (isOut (.int .i64 (lgE s ⟨id, d, L, n⟩)) [] 9) := by
  have c1 := lg_check s id d L n r R hs hr hRv hn
  generalize lgE s ⟨id, d, L, n⟩ = E at *
  refine fc_of mixed T_ok Tryd.func7 rfl (by kernel_rfl) (by kernel_rfl) (by kernel_rfl) ?_
  repeat' ((conv => whnf); first | refine vcall_o (l := [0, 1, 2, 3, 4, 5, 6, 7, 8]) (c1) ?_ | refine vcallD_o (l := [0, 1, 2, 3, 4, 5, 6, 7, 8]) (c1) ?_ | ((first | apply br_dec | apply br_ndec) <;> intro h <;> try (exfalso; (try dsimp only at h); omega)) | ((first | apply br_seq | apply br_nseq | apply br_not | apply br_intro) <;> intro h) | refine cond_a ?_)
  all_goals (conv => whnf)
  all_goals first
    | exact ret_out (l := [0, 1, 2, 3, 4, 5, 6, 7, 8]) rfl rfl trivial allRw_nil
    | (exfalso; omega)
set_option maxHeartbeats 2000000 in
theorem lg_Post_rows (s : Lg) (id : ByteArray) (d : Int) (L : List Lp) (n : Nat) (r : Nat) (R : List Lp) (hs : LgOk s) (hr : R.length = r) (hRv : ∀ a c, lgV R a c = s.bal a c) (hRd : lgD R) (hRn : r ≤ 16 * s.ne) (hn : L.length = n) (h0 : lgE s ⟨id, d, L, n⟩ = 0) :
    FC Tryd.prog 9 7 [.ptr 1 0 0 0, .agg [.str id, .int .i64 d, .sl 8 0 0 n]] ((6, some (.one false (RL r R))) :: psH s n L)
      (fun sv H1 n1 => ∃ x : BagX, LgB (lgP s ⟨id, d, L, n⟩).bal (s.ne + 1) x.a x.c x.v ∧ isOut (.int .i64 0) ((6, some (.one false x.blk)) :: psO (lgP s ⟨id, d, L, n⟩)) 11 sv H1 n1) := by
  have c1 := lg_check s id d L n r R hs hr hRv hn
  obtain ⟨hok, hni, hrg, hfu⟩ := lgE_zero hn h0
  rw [h0] at c1
  have hid := hok.id
  have hdt := hok.d
  have hn1 := hok.n1
  have hn16 := hok.n16
  have hps := hok.ps
  dsimp only at hid hdt hn1 hn16 hps
  have hbd := poE_bd hps
  have hsz : lgSz L := fun x hx => by
    obtain ⟨h1, h2⟩ := poE_zero.1 hps x hx
    exact ⟨(lab_size (hs.lab _ h1)).2, (curB_len (mchk_zero h2).1)⟩
  have c2 := lg_changes L n hn hn16 hbd
  have c3 := lg_copyEntry id d L n hn hn1 (by omega)
  have c4 := lg_entryText id d L n hn hn16 (lab_size hid).2 hdt hsz hbd
  have hTz := (leT_size (e := ⟨id, d, L, n⟩) (lab_size hid).2 hdt hsz hbd n).1
  have c5 := chk_Chain s.dig (leT ⟨id, d, L, n⟩ n) (by omega)
  have hidl : (s.ent.map Le.id).length = s.ne := by rw [List.length_map, hs.ne]
  have hix : sidx (s.ent.map Le.id) id = s.ne := by
    have h1 := sidx_le (s.ent.map Le.id) id
    have h2 : ¬ sidx (s.ent.map Le.id) id < s.ne := fun h => hni (sidx_lt.1 (by rw [hidl]; exact h))
    omega
  have hpl := lgPl_put (s := s) (e := ⟨id, d, L, n⟩) hix hs.ne
  have hcb : ∀ i, -72057594037927936 ≤ ((chR L n).getD i lp0).n ∧ ((chR L n).getD i lp0).n ≤ 72057594037927936 := by
    intro i
    rcases Nat.lt_or_ge i (chR L n).length with hi | hi
    · have h1 := lgV_row (chR_dist L n) hi
      rw [chR_val _ _ _ (by omega)] at h1
      have h2 := lgS_bd (lgBd_take hbd n) ((chR L n).getD i lp0).a ((chR L n).getD i lp0).c
      rw [h1, List.length_take, Nat.min_eq_left (by omega)] at h2
      omega
    · rw [List.getD, List.getElem?_eq_none hi]; exact ⟨by decide, by decide⟩
  have hCd := chR_dist L n
  have hCn := chR_len L n
  have hCv : ∀ a c, lgV (chR L n) a c = lgS L a c := fun a c => by rw [chR_val a c n (by omega), ← hn, List.take_length]
  unfold psO
  rw [lgEnt_put]
  generalize chR L n = C at *
  generalize hm : C.length = m at *
  refine fc_of mixed T_ok Tryd.func7 rfl (by kernel_rfl) (by kernel_rfl) (by kernel_rfl) ?_
  repeat' ((conv => whnf); first | refine vcall_o (l := [0, 1, 2, 3, 4, 5, 6, 7, 8]) (c1) ?_ | refine vcallD_o (l := [0, 1, 2, 3, 4, 5, 6, 7, 8]) (c1) ?_ | refine vcall_o (l := [0, 8]) (c2) ?_ | refine vcallD_o (l := [0, 8]) (c2) ?_ | ((first | apply br_dec | apply br_ndec) <;> intro h <;> try (exfalso; (try dsimp only at h); omega)) | ((first | apply br_seq | apply br_nseq | apply br_not | apply br_intro) <;> intro h) | refine cond_a ?_)
  all_goals (conv => whnf)
  all_goals first
    | (exfalso; omega)
    | skip
  refine vloop_of (fun sn : List Nat => ⟨[(0, .ptr 1 0 0 0), (3, .ptr 9 0 0 0), (19, .ptr 11 0 0 0)], [(0, some (GB glT)), (1, some (.one false (.cells (lgF 2 3 4 5 6 s)))), (3, some (.one false (lgEnt 7 s))), (4, some (.one false (lgPl s))), (6, some (.one false (RL (vsR R C sn).length (vsR R C sn)))), (7, lgFam false s), (8, some (.one true (poB n L))), (9, some (.one false (.cells [.str id, .int .i64 d, .sl 8 0 0 n]))), (10, some (.one false (RL m C))), (11, some (.one false (.obj (.iter 10 0 (List.range m) m sn))))], 12⟩) (fun sn => sn.Nodup ∧ (∀ i ∈ sn, i < m)) (fun sn => m - sn.length) [] [0, 1, 2, 3, 4, 5, 6, 7, 8, 9, 10, 11] [] ⟨rfl, ⟨rfl, rfl, rfl, trivial⟩, ⟨gwk rfl, rfl, rfl, rfl, by rw [← hr]; rfl, rfl, rfl, rfl, rfl, rfl, trivial⟩⟩ ⟨List.nodup_nil, by simp⟩ ?_
  rintro sn ⟨hd, hl⟩
  have hsl := nodup_len m sn hd hl
  have key : ∀ x, IntKind.i64.wrap (((vsR R C sn).map Lp.n).getD (sidx2 ((vsR R C sn).map Lp.a) ((vsR R C sn).map Lp.c) ((C.map Lp.a).getD x ⟨#[]⟩) ((C.map Lp.c).getD x ⟨#[]⟩)) 0 + (C.map Lp.n).getD x 0) = lgV (vsR R C sn) ((C.map Lp.a).getD x ⟨#[]⟩) ((C.map Lp.c).getD x ⟨#[]⟩) + (C.map Lp.n).getD x 0 := by
    intro x
    have h1 := hs.rng ((C.map Lp.a).getD x ⟨#[]⟩) ((C.map Lp.c).getD x ⟨#[]⟩)
    have h2 := hcb x
    have h3 := lgS_bdM (M := 72057594037927936) ((C.map Lp.a).getD x ⟨#[]⟩) ((C.map Lp.c).getD x ⟨#[]⟩) (L := sn.map (fun i => C.getD i lp0)) (fun y hy => by obtain ⟨i, _, rfl⟩ := List.mem_map.1 hy; exact hcb i) (by decide)
    rw [List.length_map] at h3
    rw [rl_val, vsR_val, hRv, lp_n]
    exact w64_in (by omega) (by omega)
  have hrow : ∀ x, _ := fun x => rlUpd (R := vsR R C sn) rfl (key x) rfl
  have hli : ∀ x, sidx2 ((vsR R C sn).map Lp.a) ((vsR R C sn).map Lp.c) ((C.map Lp.a).getD x ⟨#[]⟩) ((C.map Lp.c).getD x ⟨#[]⟩) ≤ (vsR R C sn).length := fun x => lgI_le _ _ _
  have hnxt : ∀ x, vsR R C (x :: sn) = lgAdd (vsR R C sn) ⟨(C.map Lp.a).getD x ⟨#[]⟩, (C.map Lp.n).getD x 0, (C.map Lp.c).getD x ⟨#[]⟩⟩ := fun x => by rw [← lp_eta]; rfl
  have hfin : (∀ i, i < m → i ∈ sn) → LgB (lgP s ⟨id, d, L, n⟩).bal (s.ne + 1) ((vsR R C sn).map Lp.a) ((vsR R C sn).map Lp.c) ((vsR R C sn).map Lp.n) := fun hall => by
    have h3 := vsR_len R C sn
    refine ⟨vsR R C sn, rfl, rfl, rfl, vsR_dist hRd sn, fun a c => ?_, by omega⟩
    rw [vsR_all hCd hd (by rw [hm]; exact hl) (by rw [hm]; exact hall), hRv, hCv]
    rfl
  generalize hV : vsR R C sn = V at *
  repeat' ((conv => whnf); first | (refine ⟨⟨rfl, rfl⟩, fun x hx hnx => ?_, fun hall => ?_⟩) | refine vcall_o (l := [0, 8]) (c3) ?_ | refine vcallD_o (l := [0, 8]) (c3) ?_ | refine vcall_o (l := [0, 12]) (c4) ?_ | refine vcallD_o (l := [0, 12]) (c4) ?_ | (refine vcall_pure (c5) rfl rfl rfl ?_) | (refine vcallD_pure (c5) rfl rfl rfl ?_) | (refine ⟨lgStamp (hli _), ?_⟩) | ((first | apply br_dec | apply br_ndec) <;> intro h <;> try (exfalso; (try dsimp only at h); omega)) | ((first | apply br_seq | apply br_nseq | apply br_not | apply br_intro) <;> intro h) | refine cond_a ?_)
  all_goals (conv => whnf)
  · have := nodup_cons_lt hd hl hx hnx
    refine ⟨x :: sn, [0, 1, 2, 3, 4, 5, 6, 7, 8, 9, 10, 11], [], ⟨List.nodup_cons.2 ⟨hnx, hd⟩, fun y hy => ?_⟩, by simp only [List.length_cons]; omega, ⟨rfl, ⟨rfl, rfl, rfl, trivial⟩, ⟨gwk rfl, rfl, rfl, rfl, ?_, rfl, rfl, rfl, rfl, rfl, trivial⟩⟩⟩
    · rcases List.mem_cons.1 hy with rfl | hy
      · exact hx
      · exact hl y hy
    · rw [hnxt x]; exact hrow x
  · have hb := hfin hall
    refine retP_mono (fun _ _ _ h => ⟨⟨V.map Lp.a, V.map Lp.c, V.map Lp.n, V.length⟩, hb, h⟩) (ret_up (l := [0, 1, 2, 3, 4, 5, 6, 7, 8, 14, 15]) [.relab (gdR 15 s.ne [⟨7, 12, enF (s.ent ++ [⟨id, d, L, n⟩])⟩]) (fun _ => 0) [(14, some (.one false (.cols (s.ne + 1) [.sc (.strs (s.ent.map Le.id ++ [id])), .sc (.ints .i64 (s.ent.map Le.date ++ [d])), .own 15 (s.ent.map Le.np ++ [n])]))), (15 + 0, some (.fam false (fun x => x < s.ne + 1) (enF (s.ent ++ [⟨id, d, L, n⟩]))))] [7, 12] 1] ?_ (allRw_cons (allRw_cons (allRw_cons (allRw_cons (allRw_fam allRw_nil))))))
    exact ⟨relab_ent_put (by rw [List.length_map]; exact hs.ne) (by show (s.ent.map Le.id ++ [id]).length = s.ne + 1; simp [hs.ne]) (by show (s.ent.map Le.date ++ [d]).length = s.ne + 1; simp [hs.ne]) (by omega) rfl rfl (fun q hq => hq) rfl (by decide) (by decide) (by decide) (fun q hq => enF_old q (by rw [hs.ne]; exact hq)) (by rw [← hs.ne]; exact enF_new), rfl, rfl, rfl, rfl, rfl, hpl, rfl, trivial⟩
end Go.Proofs.YtjjnbhbendlnhaaDoor

/- Contracts of package ledger: Post, the balances' rows told by a fact; Balance. -/
namespace Go.Proofs.YtjjnbhbendlnhaaDoor
open Go.RowKit Go.Sy
attribute [local irreducible] vcall vloop vcallD retP
set_option maxRecDepth 100000
set_option linter.unusedVariables false
set_option linter.unusedSimpArgs false

/-- The balances, told by a fact. -/
abbrev lgBg (ro : Bool) (s : Lg) : Option HB := some (.one ro (.obj (.bag (LgB s.bal s.ne))))
theorem lgB_rows {s : Lg} {x : BagX} (h : x.ok (LgB s.bal s.ne)) : ∃ R : List Lp, R.length = x.n ∧ x.blk = RL x.n R ∧ lgD R ∧ (∀ a c, lgV R a c = s.bal a c) ∧ R.length ≤ 16 * s.ne := by
  obtain ⟨a, c, v, n⟩ := x
  obtain ⟨⟨R, e1, e2, e3, h1, h2, h3⟩, k1, k2, k3⟩ := h
  dsimp only at e1 e2 e3 k1 k2 k3
  subst e1; subst e2; subst e3
  rw [List.length_map] at k1
  exact ⟨R, k1, rfl, h1, h2, h3⟩
/-- Rows in another order: the balances lie first. -/
theorem lg_Post_err (s : Lg) (id : ByteArray) (d : Int) (L : List Lp) (n : Nat) (hs : LgOk s) (hn : L.length = n) (h0 : lgE s ⟨id, d, L, n⟩ ≠ 0) :
    FC Tryd.prog 9 7 [.ptr 1 0 0 0, .agg [.str id, .int .i64 d, .sl 8 0 0 n]] [(6, lgBg true s), (1, some (.one true (.cells (lgF 2 3 4 5 6 s)))), (2, some (.one true (lgAcc s))), (4, some (.one true (lgPl s))), (8, some (.one true (poB n L)))] (isOut (.int .i64 (lgE s ⟨id, d, L, n⟩)) [] 9) := by
  refine fc_bag_ro fun x hx => ?_
  obtain ⟨R, h1, h2, h3, h4, h5⟩ := lgB_rows hx
  rw [h2]
  refine fc_ext (fun k => ?_) (lg_Post_no s id d L n x.n R hs h1 h4 hn h0)
  unfold ckH
  simp only [hget]
  by_cases e1 : k = 1
  · subst e1; rfl
  by_cases e2 : k = 2
  · subst e2; rfl
  by_cases e4 : k = 4
  · subst e4; rfl
  by_cases e6 : k = 6
  · subst e6; rfl
  by_cases e8 : k = 8
  · subst e8; rfl
  have q : ∀ c, ¬ k = c → Nat.beq c k = false := fun c h => by
    cases e : Nat.beq c k with
    | false => rfl
    | true => exact absurd (Nat.eq_of_beq_eq_true e).symm h
  rw [q 1 e1, q 2 e2, q 4 e4, q 6 e6, q 8 e8]
  rfl
theorem lg_Post_ok (s : Lg) (id : ByteArray) (d : Int) (L : List Lp) (n : Nat) (hs : LgOk s) (hn : L.length = n) (h0 : lgE s ⟨id, d, L, n⟩ = 0) :
    FC Tryd.prog 9 7 [.ptr 1 0 0 0, .agg [.str id, .int .i64 d, .sl 8 0 0 n]] ((6, lgBg false s) :: psH s n L) (isOut (.int .i64 0) ((6, lgBg false (lgP s ⟨id, d, L, n⟩)) :: psO (lgP s ⟨id, d, L, n⟩)) 11) := by
  refine fc_bag fun x hx => ?_
  obtain ⟨R, h1, h2, h3, h4, h5⟩ := lgB_rows hx
  rw [h2]
  exact lg_Post_rows s id d L n x.n R hs h1 h4 h3 (by omega) hn h0
theorem lg_Balance_rows (s : Lg) (a c : ByteArray) (r : Nat) (R : List Lp) (hR : R.length = r) (h : ∀ a c, lgV R a c = s.bal a c) : FC Tryd.prog 7 16 [.ptr 1 0 0 0, .str a, .str c] [(6, some (.one true (RL r R))), (1, some (.one true (.cells (lgF 2 3 4 5 6 s))))] (isOut (.int .i64 (s.bal a c)) [] 7) := by
  have hv : (R.map Lp.n).getD (sidx2 (R.map Lp.a) (R.map Lp.c) a c) 0 = s.bal a c := (rl_val R a c).trans (h a c)
  rw [← hv]
  refine fc_of mixed T_ok Tryd.func16 rfl (by kernel_rfl) (by kernel_rfl) (by kernel_rfl) ?_
  repeat' ((conv => whnf); first | ((first | apply br_dec | apply br_ndec) <;> intro h <;> try (exfalso; (try dsimp only at h); omega)) | ((first | apply br_seq | apply br_nseq | apply br_not | apply br_intro) <;> intro h) | refine cond_a ?_)
  all_goals (conv => whnf)
  all_goals exact ret_out (l := [0, 1, 2, 3, 4, 5, 6]) rfl rfl trivial allRw_nil
theorem lg_Balance (s : Lg) (a c : ByteArray) : FC Tryd.prog 7 16 [.ptr 1 0 0 0, .str a, .str c] [(6, lgBg true s), (1, some (.one true (.cells (lgF 2 3 4 5 6 s))))] (isOut (.int .i64 (s.bal a c)) [] 7) := by
  refine fc_bag_ro fun x hx => ?_
  obtain ⟨R, h1, h2, h3, h4, h5⟩ := lgB_rows hx
  rw [h2]
  exact lg_Balance_rows s a c x.n R h1 h4
theorem lg_Digest (s : Lg) : FC Tryd.prog 7 17 [.ptr 1 0 0 0] [(1, some (.one true (.cells (lgF 2 3 4 5 6 s))))] (isOut (.int .u64 s.dig) [] 7) := by
  refine fc_of mixed T_ok Tryd.func17 rfl (by kernel_rfl) (by kernel_rfl) (by kernel_rfl) ?_
  repeat' ((conv => whnf); first | ((first | apply br_dec | apply br_ndec) <;> intro h <;> try (exfalso; (try dsimp only at h); omega)) | ((first | apply br_seq | apply br_nseq | apply br_not | apply br_intro) <;> intro h) | refine cond_a ?_)
  all_goals (conv => whnf)
  all_goals exact ret_out (l := [0, 1, 2, 3, 4, 5, 6]) rfl rfl trivial allRw_nil
end Go.Proofs.YtjjnbhbendlnhaaDoor

/- Contracts of package ledger: Reverse. -/
namespace Go.Proofs.YtjjnbhbendlnhaaDoor
open Go.RowKit Go.Sy
attribute [local irreducible] vcall vloop vcallD retP
set_option maxRecDepth 100000
set_option linter.unusedVariables false
set_option linter.unusedSimpArgs false

/-- A copy of an entry that is a member of a table. -/
theorem lg_copyF (dom : Nat → Prop) (F : Nat → Blk) (i : Nat) (id : ByteArray) (d : Int) (L : List Lp) (n : Nat) (hi : dom i) (hF : F i = poB n L) (hn : L.length = n) (h1 : 1 ≤ n) (h2 : n ≤ 1000000) :
    FC Tryd.prog 2 24 [.agg [.str id, .int .i64 d, .sl 1 i 0 n]] [(1, some (.fam true dom F))] (isOut (.agg [.str id, .int .i64 d, .sl 2 0 0 n]) [(2, some (.one false (poB n L)))] 3) := by
  have c0 := fc_fam [(1, ⟨i, dom, F⟩)] (by exact ⟨⟨by decide, by decide, _, _, rfl, hi, hF, .inl rfl⟩, trivial⟩) (by exact ⟨rfl, trivial⟩) (by exact ⟨rfl, trivial⟩) (allRw_cons allRw_nil) (lg_copyEntry id d L n hn h1 h2)
  have e : SV.mems (fmu [(1, ⟨i, dom, F⟩)]) [.agg [.str id, .int .i64 d, .sl 1 0 0 n]] = [.agg [.str id, .int .i64 d, .sl 1 i 0 n]] := by
    show [SV.agg [.str id, .int .i64 d, .sl 1 (0 + i) 0 n]] = _
    rw [Nat.zero_add]
  rw [e] at c0
  exact c0
/-- The first amounts are turned. -/
def nkL (l : List Int) (k : Nat) : List Int := (l.take k).map (fun x => -x) ++ l.drop k
theorem nk_zero (l : List Int) : nkL l 0 = l := by simp [nkL]
theorem nk_all (l : List Int) : nkL l l.length = l.map (fun x => -x) := by simp [nkL]
theorem nk_get {l : List Int} {k : Nat} (h : k < l.length) : (nkL l k).getD k 0 = l.getD k 0 := by
  unfold nkL
  rw [List.getD, List.getD, List.getElem?_append_right (by simp; omega)]
  simp [Nat.min_eq_left (Nat.le_of_lt h)]
theorem nk_set {l : List Int} {k : Nat} (h : k < l.length) {v : Int} (hv : v = -(l.getD k 0)) : (nkL l k).set k v = nkL l (k + 1) := by
  subst hv
  unfold nkL
  have h1 : ((l.take k).map (fun x => -x)).length = k := by rw [List.length_map, List.length_take]; omega
  rw [List.set_append_right _ _ (by omega), h1, Nat.sub_self, List.drop_eq_getElem_cons h, List.set_cons_zero, List.take_add_one, List.getElem?_eq_getElem h, List.map_append, List.append_assoc]
  simp [List.getD, h]
theorem negP_a (L : List Lp) : (negP L).map Lp.a = L.map Lp.a := by unfold negP; rw [List.map_map]; rfl
theorem negP_c (L : List Lp) : (negP L).map Lp.c = L.map Lp.c := by unfold negP; rw [List.map_map]; rfl
theorem negP_n (L : List Lp) : (negP L).map Lp.n = (L.map Lp.n).map (fun x => -x) := by unfold negP; rw [List.map_map, List.map_map]; rfl

/-- The settled entries. -/
abbrev lgSt (s : Lg) : Blk := .obj (.map false false s.ns [.strs s.st] [.sc (.bools (List.replicate s.ns true))] (List.range s.ns) s.ns)
abbrev pN (n : Nat) (st : List ByteArray) (x : ByteArray) : Nat := if sidx st x < n then n else n + 1
abbrev pK (st : List ByteArray) (x : ByteArray) : List ByteArray := putL (sidx st x) x st
abbrev pV (st : List ByteArray) (x : ByteArray) (V : List Bool) : List Bool := putL (sidx st x) true V
abbrev pB (n : Nat) (st : List ByteArray) (x : ByteArray) (bs : List Nat) (ck : Nat) : List Nat := if sidx st x < n then bs else bs ++ [ck]
abbrev pC (n : Nat) (st : List ByteArray) (x : ByteArray) (ck : Nat) : Nat := if sidx st x < n then ck else ck + 1
theorem st_two {n : Nat} {st : List ByteArray} {x y : ByteArray} (hl : st.length = n) (h1 : sidx st x = n) (h2 : sidx (st ++ [x]) y = n + 1) :
    (some (HB.one false (.obj (.map false false (pN (pN n st x) (pK st x) y) [.strs (pK (pK st x) y)] [.sc (.bools (pV (pK st x) y (pV st x (List.replicate n true))))] (pB (pN n st x) (pK st x) y (pB n st x (List.range n) n) (pC n st x n)) (pC (pN n st x) (pK st x) y (pC n st x n))))) : Option HB)
      = some (.one false (.obj (.map false false (n + 2) [.strs (st ++ [x, y])] [.sc (.bools (List.replicate (n + 2) true))] (List.range (n + 2)) (n + 2)))) := by
  unfold pN pK pV pB pC
  rw [h1, lg_putNew hl, h2]
  simp only [Nat.lt_irrefl, if_false]
  rw [lg_putNew (l := st ++ [x]) (by simp [hl]), lg_putNew (l := List.replicate n true) (by simp), lg_putNew (l := List.replicate n true ++ [true]) (by simp)]
  simp only [List.range_succ, List.append_assoc, List.cons_append, List.nil_append]
  congr 8
  rw [show n + 2 = n + 1 + 1 from rfl, List.replicate_succ', List.replicate_succ', List.append_assoc]; rfl
attribute [local irreducible] seq ByteArray.extract lgE
theorem lg_Reverse_set (s : Lg) (id b : ByteArray) (d : Int) (hs : LgOk s) (h : inL id s.ids) (h2 : inL id s.st) : FC Tryd.prog 8 18 [.ptr 1 0 0 0, .str id, .str b, .int .i64 d] [(1, some (.one true (.cells (lgF 2 3 4 5 6 s)))), (4, some (.one true (lgPl s))), (5, some (.one true (lgSt s)))] (isOut (.int .i64 8) [] 8) := by
  have hidl : (s.ent.map Le.id).length = s.ne := by rw [List.length_map, hs.ne]
  have h' : sidx (s.ent.map Le.id) id < s.ne := by rw [← hidl]; exact h
  have h2' : sidx s.st id < s.ns := by rw [← hs.ns]; exact h2
  have hrep := lg_rep s.ns (sidx s.st id)
  rw [decide_eq_true h2'] at hrep
  refine fc_of mixed T_ok Tryd.func18 rfl (by kernel_rfl) (by kernel_rfl) (by kernel_rfl) ?_
  repeat' ((conv => whnf); first | (simp only [hrep]) | ((first | apply br_dec | apply br_ndec) <;> intro h <;> try (exfalso; (try dsimp only at h); omega)) | ((first | apply br_seq | apply br_nseq | apply br_not | apply br_intro) <;> intro h) | refine cond_a ?_)
  all_goals (conv => whnf)
  all_goals first
    | exact ret_out (l := [0, 1, 2, 3, 4, 5, 6, 7]) rfl rfl trivial allRw_nil
    | (exfalso; omega)
theorem lg_pl {n ix : Nat} (h : ix < n) : ((List.range n).map Int.ofNat).getD ix 0 = (ix : Int) := by
  rw [List.getD, List.getElem?_map, List.getElem?_range h]; rfl
/-- The ledger behind a reversal. -/
def lgRv (s : Lg) (id b : ByteArray) (d : Int) : Lg := { lgP s (revL s id b d) with ns := s.ns + 2, st := s.st ++ [id, b] }
set_option maxHeartbeats 1000000 in
theorem lg_Reverse_ok (s : Lg) (id b : ByteArray) (d : Int) (hs : LgOk s) (h : inL id s.ids) (h2 : ¬ inL id s.st) (h0 : lgE s (revL s id b d) = 0) : FC Tryd.prog 8 18 [.ptr 1 0 0 0, .str id, .str b, .int .i64 d] [(6, lgBg false s), (0, some (GB glT)), (1, some (.one false (.cells (lgF 2 3 4 5 6 s)))), (2, some (.one true (lgAcc s))), (3, some (.one false (lgEnt 7 s))), (4, some (.one false (lgPl s))), (5, some (.one false (lgSt s))), (7, lgFam false s)]
    (isOut (.int .i64 0) [(6, lgBg false (lgRv s id b d)), (1, some (.one false (.cells (lgF 2 8 4 5 6 (lgRv s id b d))))), (8, some (.one false (lgEnt 9 (lgRv s id b d)))), (4, some (.one false (lgPl (lgRv s id b d)))), (5, some (.one false (lgSt (lgRv s id b d)))), (9, lgFam false (lgRv s id b d))] 10) := by
  have hidl : (s.ent.map Le.id).length = s.ne := by rw [List.length_map, hs.ne]
  have h' : sidx (s.ent.map Le.id) id < s.ne := by rw [← hidl]; exact h
  have h2' : ¬ sidx s.st id < s.ns := by rw [← hs.ns]; exact h2
  have hrep := lg_rep s.ns (sidx s.st id)
  rw [decide_eq_false h2'] at hrep
  obtain ⟨hm, hme⟩ := rev_at hs (in_iff.1 h)
  have hok : EntOk s.acc (s.ent.getD (sidx (s.ent.map Le.id) id) le0) := hs.ent _ hm
  have hpx := lg_pl h'
  have hNP := le_np s.ent (sidx (s.ent.map Le.id) id)
  have hF : enF s.ent (sidx (s.ent.map Le.id) id) = poB ((s.ent.map Le.np).getD (sidx (s.ent.map Le.id) id) 0) (s.ent.getD (sidx (s.ent.map Le.id) id) le0).ps := by rw [hNP]; rfl
  have c1 := lg_copyF (fun x => x < s.ne) (enF s.ent) (sidx (s.ent.map Le.id) id) ((s.ent.map Le.id).getD (sidx (s.ent.map Le.id) id) ⟨#[]⟩) ((s.ent.map Le.date).getD (sidx (s.ent.map Le.id) id) 0) (s.ent.getD (sidx (s.ent.map Le.id) id) le0).ps ((s.ent.map Le.np).getD (sidx (s.ent.map Le.id) id) 0) h' hF (by rw [hNP]; exact hok.n) (by rw [hNP]; exact hok.n1) (by rw [hNP]; have := hok.n16; omega)
  have hbd := poE_bd hok.ps
  have hln := hok.n
  have hn16 := hok.n16
  generalize hP : (s.ent.getD (sidx (s.ent.map Le.id) id) le0).ps = P at *
  rw [← hNP] at hln hn16
  have hpost := lg_Post_ok s b d (negP P) ((s.ent.map Le.np).getD (sidx (s.ent.map Le.id) id) 0) hs (by rw [negP_len]; exact hln)
  have er : revL s id b d = ⟨b, d, negP P, (s.ent.map Le.np).getD (sidx (s.ent.map Le.id) id) 0⟩ := by unfold revL; rw [hNP, hP]
  have hbn : ¬ b ∈ s.ids := by
    have := (lgE_zero (by rw [er]; rw [negP_len]; exact hln) h0).2.1
    exact this
  have hst1 : sidx s.st id = s.ns := by have := sidx_le s.st id; rw [hs.ns] at this; omega
  have hst2 : sidx (s.st ++ [id]) b = s.ns + 1 := by
    have e1 := sidx_le (s.st ++ [id]) b
    have e2 : ¬ sidx (s.st ++ [id]) b < (s.st ++ [id]).length := fun hlt => by
      rcases List.mem_append.1 (sidx_lt.1 hlt) with hb | hb
      · exact hbn (hs.st _ hb)
      · rw [List.mem_singleton.1 hb] at hbn; exact hbn (in_iff.1 h)
    rw [List.length_append, hs.ns, List.length_singleton] at e1 e2
    omega
  have hrow := st_two hs.ns hst1 hst2
  unfold lgRv
  rw [er] at h0 ⊢
  have c2 := hpost h0
  clear hpost er
  unfold psO psH at c2
  unfold poB at c2
  rw [negP_a, negP_c, negP_n] at c2
  generalize hS : lgP s ⟨b, d, negP P, (s.ent.map Le.np).getD (sidx (s.ent.map Le.id) id) 0⟩ = S at *
  refine fc_of mixed T_ok Tryd.func18 rfl (by kernel_rfl) (by kernel_rfl) (by kernel_rfl) ?_
  repeat' ((conv => whnf); first | (simp only [hrep]) | (simp only [hpx]) | refine vcall_o (l := [0, 7]) (c1) ?_ | refine vcallD_o (l := [0, 7]) (c1) ?_ | ((first | apply br_dec | apply br_ndec) <;> intro h <;> try (exfalso; (try dsimp only at h); omega)) | ((first | apply br_seq | apply br_nseq | apply br_not | apply br_intro) <;> intro h) | refine cond_a ?_)
  all_goals (conv => whnf)
  all_goals first
    | (exfalso; omega)
    | skip
  refine vloop_of (fun k : Nat => ⟨[(0, .ptr 1 0 0 0), (1, .str id), (2, .str b), (11, .ptr 9 0 0 0), (47, .int .i64 ((s.ent.map Le.np).getD (sidx (s.ent.map Le.id) id) 0)), (48, .int .i64 k)], [(0, some (GB glT)), (1, some (.one false (.cells (lgF 2 3 4 5 6 s)))), (2, some (.one true (lgAcc s))), (3, some (.one false (lgEnt 7 s))), (4, some (.one false (lgPl s))), (5, some (.one false (lgSt s))), (6, lgBg false s), (7, lgFam false s), (8, some (.one false (.cols ((s.ent.map Le.np).getD (sidx (s.ent.map Le.id) id) 0) [.sc (.strs (P.map Lp.a)), .sc (.ints .i64 (nkL (P.map Lp.n) k)), .sc (.strs (P.map Lp.c))]))), (9, some (.one false (.cells [.str b, .int .i64 d, .sl 8 0 0 ((s.ent.map Le.np).getD (sidx (s.ent.map Le.id) id) 0)])))], 10⟩) (fun k => k ≤ (s.ent.map Le.np).getD (sidx (s.ent.map Le.id) id) 0) (fun k => (s.ent.map Le.np).getD (sidx (s.ent.map Le.id) id) 0 - k) 0 [0, 1, 2, 3, 4, 5, 6, 7, 8, 9] [] ⟨rfl, ⟨rfl, rfl, rfl, rfl, rfl, rfl, trivial⟩, ⟨gwk rfl, rfl, rfl, rfl, rfl, rfl, rfl, rfl, by rw [nk_zero]; rfl, rfl, trivial⟩⟩ (Nat.zero_le _) ?_
  intro k hk
  have hkl : (P.map Lp.n).length = (s.ent.map Le.np).getD (sidx (s.ent.map Le.id) id) 0 := by rw [List.length_map]; exact hln
  generalize (s.ent.map Le.np).getD (sidx (s.ent.map Le.id) id) 0 = N at *
  by_cases hk2 : k < N
  · have hb1 := lg_bd hbd k
    rw [← lp_n] at hb1
    have hset := nk_set (l := P.map Lp.n) (k := k) (by omega) (v := IntKind.i64.wrap (0 - ((nkL (P.map Lp.n) k).getD k 0))) (by rw [nk_get (by omega), w64_in (by omega) (by omega)]; omega)
    repeat' ((conv => whnf); first | ((first | apply br_dec | apply br_ndec) <;> intro h <;> try (exfalso; (try dsimp only at h); omega)) | ((first | apply br_seq | apply br_nseq | apply br_not | apply br_intro) <;> intro h) | refine cond_a ?_)
    all_goals (conv => whnf)
    all_goals first
      | exact ⟨k + 1, [0, 1, 2, 3, 4, 5, 6, 7, 8, 9], [], hk2, (show N - (k + 1) < N - k by omega), ⟨rfl, ⟨rfl, rfl, rfl, rfl, rfl, congrArg (fun z => some (SV.int .i64 z)) (i64_succ (by omega)), trivial⟩, ⟨gwk rfl, rfl, rfl, rfl, rfl, rfl, rfl, rfl, congrArg (fun z => some (HB.one false (.cols N [.sc (.strs (P.map Lp.a)), .sc (.ints .i64 z), .sc (.strs (P.map Lp.c))]))) hset, rfl, trivial⟩⟩⟩
      | (exfalso; omega)
  have ek : k = N := by omega
  subst ek
  have hnk : nkL (P.map Lp.n) k = (P.map Lp.n).map (fun x => -x) := by rw [← hkl]; exact nk_all _
  rw [hnk]
  repeat' ((conv => whnf); first | refine vcall_o (l := [0, 1, 2, 3, 4, 5, 6, 7, 8]) (c2) ?_ | refine vcallD_o (l := [0, 1, 2, 3, 4, 5, 6, 7, 8]) (c2) ?_ | ((first | apply br_dec | apply br_ndec) <;> intro h <;> try (exfalso; (try dsimp only at h); omega)) | ((first | apply br_seq | apply br_nseq | apply br_not | apply br_intro) <;> intro h) | refine cond_a ?_)
  all_goals (conv => whnf)
  all_goals first
    | exact ret_out (l := [0, 1, 2, 3, 4, 5, 6, 7, 10, 11]) rfl rfl ⟨rfl, rfl, rfl, rfl, hrow, rfl, trivial⟩ (allRw_cons (allRw_cons (allRw_cons (allRw_cons (allRw_cons (allRw_fam allRw_nil))))))
    | (exfalso; omega)
end Go.Proofs.YtjjnbhbendlnhaaDoor

/- Contracts of package ledger: New, Entries. -/
namespace Go.Proofs.YtjjnbhbendlnhaaDoor
open Go.RowKit Go.Sy
attribute [local irreducible] vcall vloop vcallD retP
set_option maxRecDepth 100000
set_option linter.unusedVariables false
set_option linter.unusedSimpArgs false

/-- A table of entries without rows. -/
theorem relab_ent_start {H : Heap} {n a : Nat} {F : Nat → Blk} (ha : a < n) (hta : hget H a = some (.one false (.cols 0 [.sc (.strs []), .sc (.ints .i64 []), .svs []]))) :
    Relab H n (fun _ _ => none) (fun _ => 0) [(a, some (.one false (.cols 0 [.sc (.strs []), .sc (.ints .i64 []), .own n []]))), (n + 0, some (.fam false (fun x => x < 0) F))] [] 1 := by
  refine relab_none (n := n) (th := a) [⟨0, 0, F⟩] ha hta (ble_cols ⟨⟨fun _ => rfl, fun i hi => sle_refl _⟩, ⟨fun _ => rfl, fun i hi => sle_refl _⟩, ⟨fun _ => rfl, fun i hi => absurd hi (Nat.not_lt_zero _)⟩, trivial⟩)
/-- The first error of names. -/
def nmE (A : List ByteArray) : List ByteArray → Int
  | [] => 0
  | a :: L => if labB a = false then 5 else if inL a A then 7 else nmE (A ++ [a]) L
def nwE (L : List ByteArray) : Int := if 512 < L.length then 3 else nmE [] L
/-- A ledger without entries. -/
def lg0 (L : List ByteArray) : Lg := ⟨L.length, L, 0, [], 0, [], fun _ _ => 0, 0⟩
theorem nmE_ok : ∀ (L A : List ByteArray), nmE A L = 0 → A.Nodup → (A ++ L).Nodup ∧ ∀ a ∈ L, labB a = true
  | [], A, _, hA => ⟨by simpa using hA, by simp⟩
  | a :: L, A, h, hA => by
    simp only [nmE] at h
    split at h
    · cases h
    · rename_i h1
      split at h
      · cases h
      · rename_i h2
        have h2' : a ∉ A := fun hm => h2 (in_iff.2 hm)
        have hA2 : (A ++ [a]).Nodup := List.nodup_append.2 ⟨hA, by simp, fun x hx y hy e => by simp at hy; subst hy; subst e; exact h2' hx⟩
        obtain ⟨i1, i2⟩ := nmE_ok L (A ++ [a]) h hA2
        rw [List.append_assoc] at i1
        refine ⟨i1, fun x hx => ?_⟩
        rcases List.mem_cons.1 hx with rfl | hx
        · simpa using h1
        · exact i2 x hx
theorem lg0_ok {L : List ByteArray} (h : nwE L = 0) : LgOk (lg0 L) := by
  unfold nwE at h
  split at h
  · cases h
  rename_i h1
  obtain ⟨i1, i2⟩ := nmE_ok L [] h List.nodup_nil
  exact ⟨rfl, by show L.length ≤ 512; omega, (by rw [List.nil_append] at i1; exact i1), i2, rfl, by show (0:Nat) ≤ 512; omega, List.nodup_nil, (fun e he => absurd he (List.not_mem_nil)), rfl, Nat.le_refl _, (fun x hx => absurd hx (List.not_mem_nil)), fun a c => rfl, fun a c => by show (-4503599627370496 : Int) ≤ 0 ∧ (0 : Int) ≤ 4503599627370496; omega, by show (0 : Int) ≤ 0 ∧ (0 : Int) < 18446744073709551616; omega⟩
theorem nm_step {L : List ByteArray} {k : Nat} (hk : k < L.length) : nmE (L.take k) (L.drop k) = if labB (L.getD k ⟨#[]⟩) = false then 5 else if inL (L.getD k ⟨#[]⟩) (L.take k) then 7 else nmE (L.take (k + 1)) (L.drop (k + 1)) := by
  rw [List.drop_eq_getElem_cons hk]
  simp only [nmE]
  rw [List.getD, List.getElem?_eq_getElem hk, List.take_add_one, List.getElem?_eq_getElem hk]
  rfl
theorem acc_put {L : List ByteArray} {k : Nat} (hk : k < L.length) (hix : sidx (L.take k) (L.getD k ⟨#[]⟩) = k) :
    (some (HB.one false (.obj (.map false false (if sidx (L.take k) (L.getD k ⟨#[]⟩) < k then k else k + 1) [.strs (putL (sidx (L.take k) (L.getD k ⟨#[]⟩)) (L.getD k ⟨#[]⟩) (L.take k))] [.sc (.bools (putL (sidx (L.take k) (L.getD k ⟨#[]⟩)) true (List.replicate k true)))] (if sidx (L.take k) (L.getD k ⟨#[]⟩) < k then List.range k else List.range k ++ [k]) (if sidx (L.take k) (L.getD k ⟨#[]⟩) < k then k else k + 1)))) : Option HB)
      = some (.one false (.obj (.map false false (k + 1) [.strs (L.take (k + 1))] [.sc (.bools (List.replicate (k + 1) true))] (List.range (k + 1)) (k + 1)))) := by
  rw [hix]
  simp only [Nat.lt_irrefl, if_false]
  rw [lg_putNew (l := L.take k) (by rw [List.length_take]; omega), lg_putNew (l := List.replicate k true) (by simp), List.range_succ, List.replicate_succ', List.take_add_one, List.getD, List.getElem?_eq_getElem hk]
  rfl
attribute [local irreducible] seq ByteArray.extract nmE
abbrev nwH (n k : Nat) (L : List ByteArray) : Heap := [(1, some (.one true (.cols n [.sc (.strs L)]))), (2, some (.one false (.obj (.map false false k [.strs (L.take k)] [.sc (.bools (List.replicate k true))] (List.range k) k)))), (3, some (.one false (.obj (.map false false 0 [.strs []] [.sc (.ints .i64 [])] [] 0)))), (4, some (.one false (.obj (.map false false 0 [.strs []] [.sc (.bools [])] [] 0)))), (5, some (.one false (.obj (.map true false 0 [.strs [], .strs []] [.sc (.ints .i64 [])] [] 0)))), (6, some (.one false (.cells [.map 2 0, .nsl, .map 3 0, .map 4 0, .map 5 0, .int .u64 0])))]
theorem lg_New_ok (L : List ByteArray) (n : Nat) (hn : L.length = n) (h : nwE L = 0) : FC Tryd.prog 2 6 [.sl 1 0 0 n] [(1, some (.one true (.cols n [.sc (.strs L)])))]
    (isOut (.tup [.ptr 2 0 0 0, .int .i64 0]) [(7, lgBg false (lg0 L)), (2, some (.one false (.cells (lgF 3 4 5 6 7 (lg0 L))))), (3, some (.one false (lgAcc (lg0 L)))), (4, some (.one false (lgEnt 8 (lg0 L)))), (5, some (.one false (lgPl (lg0 L)))), (6, some (.one false (lgSt (lg0 L)))), (8, lgFam false (lg0 L))] 9) := by
  have h512 : n ≤ 512 := by
    unfold nwE at h
    split at h
    · cases h
    · omega
  have e : nwE L = nmE [] L := by unfold nwE; rw [if_neg (by omega)]
  rw [e] at h
  refine fc_bag_out (x := ⟨[], [], [], 0⟩) ⟨[], rfl, rfl, rfl, List.Pairwise.nil, fun a c => rfl, Nat.zero_le _⟩ ?_
  unfold lg0
  rw [hn]
  refine fc_of mixed T_ok Tryd.func6 rfl (by kernel_rfl) (by kernel_rfl) (by kernel_rfl) ?_
  repeat' ((conv => whnf); first | ((first | apply br_dec | apply br_ndec) <;> intro h <;> try (exfalso; (try dsimp only at h); omega)) | ((first | apply br_seq | apply br_nseq | apply br_not | apply br_intro) <;> intro h) | refine cond_a ?_)
  all_goals (conv => whnf)
  all_goals first
    | (exfalso; omega)
    | skip
  refine vloop_of (fun k : Nat => ⟨[(4, .ptr 6 0 0 0), (16, .sl 1 0 0 n), (17, .int .i64 n), (18, .int .i64 k)], nwH n k L, 7⟩) (fun k => k ≤ n ∧ nmE [] L = nmE (L.take k) (L.drop k)) (fun k => n - k) 0 [0, 1, 2, 3, 4, 5, 6] [] ⟨rfl, ⟨rfl, rfl, rfl, rfl, trivial⟩, ⟨rfl, rfl, rfl, rfl, rfl, rfl, trivial⟩⟩ ⟨Nat.zero_le _, by simp⟩ ?_
  rintro k ⟨hk, hE⟩
  unfold nwH
  by_cases hk2 : k < n
  · rw [nm_step (by omega)] at hE
    have c1 := lg_isLabel (L.getD k ⟨#[]⟩)
    have hrep := lg_rep k (sidx (L.take k) (L.getD k ⟨#[]⟩))
    have hle := sidx_le (L.take k) (L.getD k ⟨#[]⟩)
    have hlk : (L.take k).length = k := by rw [List.length_take]; omega
    by_cases g1 : labB (L.getD k ⟨#[]⟩) = false
    · rw [if_pos g1] at hE; omega
    rw [if_neg g1] at hE
    have g1' : labB (L.getD k ⟨#[]⟩) = true := by simpa using g1
    rw [g1'] at c1
    by_cases g2 : inL (L.getD k ⟨#[]⟩) (L.take k)
    · rw [if_pos g2] at hE; omega
    rw [if_neg g2] at hE
    unfold inL at g2
    rw [decide_eq_false (by omega)] at hrep
    have hrow := acc_put (L := L) (k := k) (by omega) (by omega)
    repeat' ((conv => whnf); first | (refine vcall_pure (c1) rfl rfl rfl ?_) | (refine vcallD_pure (c1) rfl rfl rfl ?_) | (simp only [lg_tn, hrep]) | ((first | apply br_dec | apply br_ndec) <;> intro h <;> try (exfalso; (try dsimp only at h); omega)) | ((first | apply br_seq | apply br_nseq | apply br_not | apply br_intro) <;> intro h) | refine cond_a ?_)
    all_goals (conv => whnf)
    all_goals first
      | exact ⟨k + 1, [0, 1, 2, 3, 4, 5, 6], [], ⟨hk2, hE⟩, (show n - (k + 1) < n - k by omega), ⟨rfl, ⟨rfl, rfl, rfl, congrArg (fun z => some (SV.int .i64 z)) (i64_succ (by omega)), trivial⟩, ⟨rfl, hrow, rfl, rfl, rfl, rfl, trivial⟩⟩⟩
      | (exfalso; omega)
  have ek : k = n := by omega
  subst ek
  rw [show L.take k = L by rw [← hn, List.take_length]]
  repeat' ((conv => whnf); first | ((first | apply br_dec | apply br_ndec) <;> intro h <;> try (exfalso; (try dsimp only at h); omega)) | ((first | apply br_seq | apply br_nseq | apply br_not | apply br_intro) <;> intro h) | refine cond_a ?_)
  all_goals (conv => whnf)
  all_goals first
    | (exfalso; omega)
    | exact ret_up (l := [0, 1, 6, 2, 7, 3, 4, 5, 8]) [.cell 6 1 [.sc (.strs []), .sc (.ints .i64 []), .svs []], .relab (fun _ _ => none) (fun _ => 0) [(7, some (.one false (.cols 0 [.sc (.strs []), .sc (.ints .i64 []), .own 8 []]))), (8 + 0, some (.fam false (fun x => x < 0) (enF [])))] [] 1] ⟨relab_ent_start (n := 8) (a := 7) (by decide) rfl, rfl, rfl, rfl, rfl, rfl, rfl, rfl, rfl, rfl, trivial⟩ (allRw_cons (allRw_cons (allRw_cons (allRw_cons (allRw_cons (allRw_cons (allRw_fam allRw_nil)))))))
end Go.Proofs.YtjjnbhbendlnhaaDoor

