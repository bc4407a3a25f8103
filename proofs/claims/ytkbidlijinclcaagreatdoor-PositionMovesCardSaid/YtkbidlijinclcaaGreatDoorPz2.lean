/- Several texts in one: XPosK, XMoneyC2, XRateC, XFmtC2, XFmtC3, XRateC2, XRateC3, XRateC4, XRateL, XRateM, XRateF, XPosL, XPosM, XPosN, XPosO, XSidx, XPosQ, XPosR, XPosP, XPosS, XPosT, XPzP. -/
import Derived.Test.YtkbidlijinclcaaGreatDoorPz1
import Derived.Test.YtkbidlijinclcaaGreatDoorYLib
import Derived.Test.YtkbidlijinclcaaGreatDoorYLaw
import Derived.Test.YtkbidlijinclcaaGreatDoorYLaid
import Derived.Test.YtkbidlijinclcaaGreatDoorYArg
/- Contract: an amount is divided among the positions of a sign. -/
namespace Go.Proofs.YtkbidlijinclcaaGreatDoor
open Go.RowKit Go.Sy
attribute [local irreducible] vcall vloop vcallD retP
set_option maxRecDepth 100000
set_option linter.unusedVariables false
set_option linter.unusedSimpArgs false

/-- The magnitudes of the first positions of a sign; their places. -/
def wtK (r : List Int) (s : Int) : Nat → List Int
  | 0 => []
  | k + 1 => if 0 < r.getD k 0 * s then wtK r s k ++ [r.getD k 0 * s] else wtK r s k
def plK (r : List Int) (s : Int) : Nat → List Int
  | 0 => []
  | k + 1 => if 0 < r.getD k 0 * s then plK r s k ++ [(k : Int)] else plK r s k
theorem pl_len (r : List Int) (s : Int) : ∀ k, (plK r s k).length = (wtK r s k).length
  | 0 => rfl
  | k + 1 => by
    simp only [plK, wtK]
    split
    · rw [List.length_append, List.length_append, pl_len r s k]; rfl
    · exact pl_len r s k
theorem wt_len (r : List Int) (s : Int) : ∀ k, (wtK r s k).length ≤ k
  | 0 => Nat.le_refl _
  | k + 1 => by
    have := wt_len r s k
    simp only [wtK]
    split
    · rw [List.length_append, List.length_singleton]; omega
    · omega
theorem snoc_getD (l : List Int) (x : Int) (i : Nat) : (l ++ [x]).getD i 0 = if i = l.length then x else l.getD i 0 := by
  by_cases e : i < l.length
  · rw [if_neg (by omega), List.getD, List.getElem?_append_left e]; rfl
  · by_cases e2 : i = l.length
    · rw [if_pos e2, List.getD, List.getElem?_append_right (by omega), e2, Nat.sub_self]; rfl
    · rw [if_neg e2, List.getD, List.getElem?_append_right (by omega), List.getD, List.getElem?_eq_none (by rw [List.length_singleton]; omega), List.getElem?_eq_none (by omega)]
theorem wt_bd {r : List Int} {s B : Int} (hb : ∀ j, r.getD j 0 * s ≤ B) : ∀ k i, i < (wtK r s k).length → 1 ≤ (wtK r s k).getD i 0 ∧ (wtK r s k).getD i 0 ≤ B
  | 0, i, h => by simp [wtK] at h
  | k + 1, i, h => by
    simp only [wtK] at h ⊢
    by_cases q : 0 < r.getD k 0 * s
    · rw [if_pos q] at h ⊢
      rw [List.length_append, List.length_singleton] at h
      rw [snoc_getD]
      split
      · have := hb k; omega
      · exact wt_bd hb k i (by omega)
    · rw [if_neg q] at h ⊢
      exact wt_bd hb k i h
theorem pl_bd (r : List Int) (s : Int) : ∀ k i, i < (plK r s k).length → 0 ≤ (plK r s k).getD i 0 ∧ (plK r s k).getD i 0 < k
  | 0, i, h => by simp [plK] at h
  | k + 1, i, h => by
    simp only [plK] at h ⊢
    by_cases q : 0 < r.getD k 0 * s
    · rw [if_pos q] at h ⊢
      rw [List.length_append, List.length_singleton] at h
      rw [snoc_getD]
      split
      · omega
      · have := pl_bd r s k i (by omega); omega
    · rw [if_neg q] at h ⊢
      have := pl_bd r s k i h; omega
/-- The parts are put into their places. -/
def dvK (row pl P : List Int) (s : Int) : Nat → List Int
  | 0 => row
  | k + 1 => (dvK row pl P s k).set (pl.getD k 0).toNat (P.getD k 0 * s)
abbrev dvN (r : List Int) (s : Int) : Nat := (wtK r s 16).length
def dvE (A : Nat) (c : ByteArray) (r : List Int) (s : Int) : Int := spE A c (wtK r s 16) (dvN r s)
def dvR (row : List Int) (A : Nat) (r : List Int) (s : Int) : List Int := dvK row (plK r s 16) (spP A (wtK r s 16) (dvN r s)) s (dvN r s)
theorem dvK_len (row pl P : List Int) (s : Int) : ∀ k, (dvK row pl P s k).length = row.length
  | 0 => rfl
  | k + 1 => by simp only [dvK, List.length_set]; exact dvK_len row pl P s k
def dvO (row : List Int) (A : Nat) (c : ByteArray) (r : List Int) (s : Int) : List Int := if dvE A c r s = 0 then dvR row A r s else row
theorem spE_le {A : Nat} {c : ByteArray} {ws : List Int} {n : Nat} (h : spE A c ws n = 0) : A ≤ 4503599627370496 := by
  unfold spE at h
  have := mchk_or A c
  by_cases q : mchk A c = 0
  · rw [q] at this; omega
  · rw [if_pos q] at h; exact absurd h q
theorem sp_bd {A : Nat} {ws : List Int} {n : Nat} (hw : ∀ k, k < n → 1 ≤ ws.getD k 0) (i : Nat) : 0 ≤ (spP A ws n).getD i 0 ∧ (spP A ws n).getD i 0 ≤ (A : Int) + n := by
  have h := bumpK_bd (P := spQ A ws n) (ord := spO A ws n) (fun i => fillK_bd (Int.natCast_nonneg A) (fun i hi => ⟨Int.natCast_nonneg _, Int.ofNat_le.2 (q_le hw hi)⟩) n (Nat.le_refl _) i) (Int.natCast_nonneg A) (spL A ws n) i
  unfold spP
  have : spL A ws n ≤ n := Nat.min_le_right _ _
  omega
theorem pos_divide (row : List Int) (A : Nat) (c : ByteArray) (r : List Int) (s : Int) (hA : A ≤ 9223372036854775807) (hrow : row.length = 16) (hs : s = 1 ∨ s = -1) (hr : ∀ j, -4503599627370496 ≤ r.getD j 0 ∧ r.getD j 0 ≤ 4503599627370496) :
    FC Tryz.prog 2 60 [.ptr 1 0 0 0, .arr 16 [.ints .i64 r], .agg [.int .i64 A, .str c], .int .i64 s] [(1, some (.one false (.cols 16 [.sc (.ints .i64 row)])))] (isOut (.int .i64 (dvE A c r s)) [(1, some (.one false (.cols 16 [.sc (.ints .i64 (dvO row A c r s))])))] 2) := by
  have hrs : ∀ j, -4503599627370496 ≤ r.getD j 0 * s ∧ r.getD j 0 * s ≤ 4503599627370496 := fun j => by
    have := hr j
    rcases hs with e | e <;> subst e <;> omega
  refine fc_of mixed T_ok Tryz.func60 rfl (by kernel_rfl) (by kernel_rfl) (by kernel_rfl) ?_
  repeat' ((conv => whnf); first | (refine br_dec (fun h => ?_) (fun h => ?_) <;> try (exfalso; (try dsimp only at h); omega)) | (refine br_ndec (fun h => ?_) (fun h => ?_) <;> try (exfalso; (try dsimp only at h); omega)) | refine br_seq (fun h => ?_) (fun h => ?_) | refine br_nseq (fun h => ?_) (fun h => ?_) | refine br_not (fun h => ?_) (fun h => ?_) | refine br_intro (fun h => ?_) (fun h => ?_) | refine cond_intro rfl ?_ | (refine cond_intro ⟨rfl, ?_⟩ ?_; (first | omega | (dsimp only; omega) | decide)) | (refine cond_intro ?_ ?_; (first | omega | (dsimp only; omega) | decide | (simp only [Nat.add_zero, Int.toNat_natCast, *]; omega))))
  all_goals (conv => whnf)
  refine vloop_lp (fun x : Nat × Nat => ⟨[(0, .ptr 1 0 0 0), (3, .int .i64 s), (6, .ptr 3 0 0 0), (17, .arr 16 [.ints .i64 r]), (18, .int .i64 x.1), (9, .sl 4 0 0 x.2), (10, .sl 5 0 0 x.2)], [(1, some (.one false (.cols 16 [.sc (.ints .i64 row)]))), (3, some (.one false (.cells [.int .i64 A, .str c]))), (4, some (.one false (.cols x.2 [.sc (.ints .i64 (wtK r s x.1))]))), (5, some (.one false (.cols x.2 [.sc (.ints .i64 (plK r s x.1))])))], 6⟩) (fun x => x.1 ≤ 16 ∧ (wtK r s x.1).length = x.2) (fun x => 16 - x.1) (0, 0) [0, 1, 2, 3, 4, 5] [.slot 9 [.sc (.ints .i64 [])], .slot 10 [.sc (.ints .i64 [])]] ⟨rfl, ⟨rfl, rfl, rfl, rfl, rfl, rfl, rfl, trivial⟩, ⟨rfl, rfl, rfl, rfl, trivial⟩⟩ ⟨Nat.zero_le _, rfl⟩ ?_
  rintro ⟨k, m⟩ ⟨hk, hm⟩
  dsimp only at hk hm
  have hml := wt_len r s k
  by_cases hk2 : k < 16
  · have hx := hrs k
    have e1 : IntKind.i64.wrap (r.getD k 0 * s) = r.getD k 0 * s := w64_in (by omega) (by omega)
    by_cases q : 0 < r.getD k 0 * s
    · have e2 : wtK r s (k + 1) = wtK r s k ++ [r.getD k 0 * s] := by simp only [wtK]; rw [if_pos q]
      have e3 : plK r s (k + 1) = plK r s k ++ [(k : Int)] := by simp only [plK]; rw [if_pos q]
      have hm2 : (wtK r s (k + 1)).length = m + 1 := by rw [e2, List.length_append, hm]; rfl
      have b2 : (some (HB.one false (.cols (m + 1) [.sc (.ints .i64 (wtK r s k ++ [r.getD k 0 * s]))])) : Option HB) = some (.one false (.cols (m + 1) [.sc (.ints .i64 (wtK r s (k + 1)))])) := by rw [e2]
      have b3 : (some (HB.one false (.cols (m + 1) [.sc (.ints .i64 (plK r s k ++ [(k : Int)]))])) : Option HB) = some (.one false (.cols (m + 1) [.sc (.ints .i64 (plK r s (k + 1)))])) := by rw [e3]
      repeat' ((conv => whnf); first | (simp only [e1]) | (refine br_dec (fun h => ?_) (fun h => ?_) <;> try (exfalso; (try dsimp only at h); omega)) | (refine br_ndec (fun h => ?_) (fun h => ?_) <;> try (exfalso; (try dsimp only at h); omega)) | refine br_seq (fun h => ?_) (fun h => ?_) | refine br_nseq (fun h => ?_) (fun h => ?_) | refine br_not (fun h => ?_) (fun h => ?_) | refine br_intro (fun h => ?_) (fun h => ?_) | refine cond_intro rfl ?_ | (refine cond_intro ⟨rfl, ?_⟩ ?_; (first | omega | (dsimp only; omega) | decide)) | (refine cond_intro ?_ ?_; (first | omega | (dsimp only; omega) | decide | (simp only [Nat.add_zero, Int.toNat_natCast, *]; omega))))
      all_goals (conv => whnf)
      all_goals (try simp only [toNat0, Int.toNat_natCast, Nat.add_zero, e1] at *)
      all_goals first
        | exact ⟨(k + 1, m + 1), [0, 1, 2, 3, 7, 9], [], ⟨hk2, hm2⟩, (show 16 - (k + 1) < 16 - k by omega), ⟨rfl, ⟨rfl, rfl, rfl, rfl, congrArg (fun z => some (SV.int .i64 z)) (i64_succ (by omega)), rfl, rfl, trivial⟩, ⟨rfl, rfl, b2, b3, trivial⟩⟩⟩
        | (exfalso; omega)
        | trace_state
    · have e2 : wtK r s (k + 1) = wtK r s k := by simp only [wtK]; rw [if_neg q]
      have e3 : plK r s (k + 1) = plK r s k := by simp only [plK]; rw [if_neg q]
      have hm2 : (wtK r s (k + 1)).length = m := by rw [e2, hm]
      have b2 : (some (HB.one false (.cols m [.sc (.ints .i64 (wtK r s k))])) : Option HB) = some (.one false (.cols m [.sc (.ints .i64 (wtK r s (k + 1)))])) := by rw [e2]
      have b3 : (some (HB.one false (.cols m [.sc (.ints .i64 (plK r s k))])) : Option HB) = some (.one false (.cols m [.sc (.ints .i64 (plK r s (k + 1)))])) := by rw [e3]
      repeat' ((conv => whnf); first | (simp only [e1]) | (refine br_dec (fun h => ?_) (fun h => ?_) <;> try (exfalso; (try dsimp only at h); omega)) | (refine br_ndec (fun h => ?_) (fun h => ?_) <;> try (exfalso; (try dsimp only at h); omega)) | refine br_seq (fun h => ?_) (fun h => ?_) | refine br_nseq (fun h => ?_) (fun h => ?_) | refine br_not (fun h => ?_) (fun h => ?_) | refine br_intro (fun h => ?_) (fun h => ?_) | refine cond_intro rfl ?_ | (refine cond_intro ⟨rfl, ?_⟩ ?_; (first | omega | (dsimp only; omega) | decide)) | (refine cond_intro ?_ ?_; (first | omega | (dsimp only; omega) | decide | (simp only [Nat.add_zero, Int.toNat_natCast, *]; omega))))
      all_goals (conv => whnf)
      all_goals (try simp only [toNat0, Int.toNat_natCast, Nat.add_zero, e1] at *)
      all_goals first
        | exact ⟨(k + 1, m), [0, 1, 2, 3, 4, 5], [], ⟨hk2, hm2⟩, (show 16 - (k + 1) < 16 - k by omega), ⟨rfl, ⟨rfl, rfl, rfl, rfl, congrArg (fun z => some (SV.int .i64 z)) (i64_succ (by omega)), rfl, rfl, trivial⟩, ⟨rfl, rfl, b2, b3, trivial⟩⟩⟩
        | (exfalso; omega)
        | trace_state
  have ek : k = 16 := by omega
  subst ek
  have hW := fun i (hi : i < m) => wt_bd (fun j => (hrs j).2) 16 i (by rw [hm]; exact hi)
  have cs := money_Split A c (wtK r s 16) m hA (by omega) (fun i hi => (hW i hi).1) (fun i hi => by have := (hW i hi).2; omega)
  unfold spOut at cs
  have hpl : (plK r s 16).length = m := by rw [pl_len, hm]
  unfold dvO
  have ed : dvE A c r s = spE A c (wtK r s 16) m := by unfold dvE dvN; rw [hm]
  by_cases he : spE A c (wtK r s 16) m = 0
  case neg =>
    rw [if_pos he] at cs
    rw [ed, if_neg he]
    repeat' ((conv => whnf); first | (refine vcall_out (l :=  [0, 4]) (cs ) ⟨rfl, rfl, rfl, rfl, (by (repeat' (first | exact trivial | exact GB_wf | exact fun _ _ => rfl | constructor)); first | done | fail), (by (repeat' (first | exact trivial | exact GB_fits rfl | constructor)); first | done | fail)⟩ ?_) | (refine br_dec (fun h => ?_) (fun h => ?_) <;> try (exfalso; (try dsimp only at h); omega)) | (refine br_ndec (fun h => ?_) (fun h => ?_) <;> try (exfalso; (try dsimp only at h); omega)) | refine br_seq (fun h => ?_) (fun h => ?_) | refine br_nseq (fun h => ?_) (fun h => ?_) | refine br_not (fun h => ?_) (fun h => ?_) | refine br_intro (fun h => ?_) (fun h => ?_) | refine cond_intro rfl ?_ | (refine cond_intro ⟨rfl, ?_⟩ ?_; (first | omega | (dsimp only; omega) | decide)) | (refine cond_intro ?_ ?_; (first | omega | (dsimp only; omega) | decide | (simp only [Nat.add_zero, Int.toNat_natCast, *]; omega))))
    all_goals (conv => whnf)
    all_goals first
      | exact ret_out (l := [0, 1]) rfl rfl ⟨rfl, trivial⟩ (allRw_cons allRw_nil)
      | (exfalso; omega)
      | trace_state
  have hA2 := spE_le he
  have hP := sp_bd (A := A) (ws := wtK r s 16) (n := m) (fun i hi => (hW i hi).1)
  rw [if_neg (by simpa using he)] at cs
  rw [ed, if_pos he, he]
  have eR : dvR row A r s = dvK row (plK r s 16) (spP A (wtK r s 16) m) s m := by unfold dvR dvN; rw [hm]
  rw [eR]
  repeat' ((conv => whnf); first | (refine vcall_out (l :=  [0, 4]) (cs ) ⟨rfl, rfl, rfl, rfl, (by (repeat' (first | exact trivial | exact GB_wf | exact fun _ _ => rfl | constructor)); first | done | fail), (by (repeat' (first | exact trivial | exact GB_fits rfl | constructor)); first | done | fail)⟩ ?_) | (refine br_dec (fun h => ?_) (fun h => ?_) <;> try (exfalso; (try dsimp only at h); omega)) | (refine br_ndec (fun h => ?_) (fun h => ?_) <;> try (exfalso; (try dsimp only at h); omega)) | refine br_seq (fun h => ?_) (fun h => ?_) | refine br_nseq (fun h => ?_) (fun h => ?_) | refine br_not (fun h => ?_) (fun h => ?_) | refine br_intro (fun h => ?_) (fun h => ?_) | refine cond_intro rfl ?_ | (refine cond_intro ⟨rfl, ?_⟩ ?_; (first | omega | (dsimp only; omega) | decide)) | (refine cond_intro ?_ ?_; (first | omega | (dsimp only; omega) | decide | (simp only [Nat.add_zero, Int.toNat_natCast, *]; omega))))
  all_goals (conv => whnf)
  all_goals first
    | (exfalso; omega)
    | skip
  refine vloop_lp (fun k : Nat => ⟨[(0, .ptr 1 0 0 0), (3, .int .i64 s), (10, .sl 2 0 0 m), (46, .sl 3 0 0 m), (47, .int .i64 m), (48, .int .i64 k)], [(1, some (.one false (.cols 16 [.sc (.ints .i64 (dvK row (plK r s 16) (spP A (wtK r s 16) m) s k))]))), (2, some (.one false (.cols m [.sc (.ints .i64 (plK r s 16))]))), (3, some (.one false (spB A c (wtK r s 16) m)))], 4⟩) (fun k => k ≤ m) (fun k => m - k) 0 [0, 1, 5, 6] [] ⟨rfl, ⟨rfl, rfl, rfl, rfl, rfl, rfl, trivial⟩, ⟨rfl, rfl, rfl, trivial⟩⟩ (Nat.zero_le _) ?_
  intro k hk
  by_cases hk2 : k < m
  · have hpk := pl_bd r s 16 k (by rw [hpl]; exact hk2)
    obtain ⟨o, eo⟩ := Int.eq_ofNat_of_zero_le hpk.1
    have hPk := hP k
    have eg : (fillK (fun i => (spP A (wtK r s 16) m).getD i 0) 0 m m).getD k 0 = (spP A (wtK r s 16) m).getD k 0 := fillK_get _ _ _ _ _ _ hk2 hk2
    have e1 : IntKind.i64.wrap ((spP A (wtK r s 16) m).getD k 0 * s) = (spP A (wtK r s 16) m).getD k 0 * s := by
      have key : ∀ x : Int, 0 ≤ x → x ≤ (A : Int) + m → IntKind.i64.wrap (x * s) = x * s := fun x g1 g2 => by
        rcases hs with e | e <;> rw [e] <;> exact w64_in (by omega) (by omega)
      exact key _ hPk.1 hPk.2
    have hl := dvK_len row (plK r s 16) (spP A (wtK r s 16) m) s k
    have e2 : dvK row (plK r s 16) (spP A (wtK r s 16) m) s (k + 1) = (dvK row (plK r s 16) (spP A (wtK r s 16) m) s k).set o ((spP A (wtK r s 16) m).getD k 0 * s) := by simp only [dvK]; rw [eo, Int.toNat_natCast]
    have b2 : (some (HB.one false (.cols 16 [.sc (.ints .i64 ((dvK row (plK r s 16) (spP A (wtK r s 16) m) s k).set o ((spP A (wtK r s 16) m).getD k 0 * s)))])) : Option HB) = some (.one false (.cols 16 [.sc (.ints .i64 (dvK row (plK r s 16) (spP A (wtK r s 16) m) s (k + 1)))])) := by rw [e2]
    repeat' ((conv => whnf); first | (refine br_dec (fun h => ?_) (fun h => ?_) <;> try (exfalso; (try dsimp only at h); omega)) | (refine br_ndec (fun h => ?_) (fun h => ?_) <;> try (exfalso; (try dsimp only at h); omega)) | refine br_seq (fun h => ?_) (fun h => ?_) | refine br_nseq (fun h => ?_) (fun h => ?_) | refine br_not (fun h => ?_) (fun h => ?_) | refine br_intro (fun h => ?_) (fun h => ?_) | refine cond_intro rfl ?_ | (refine cond_intro ⟨rfl, ?_⟩ ?_; (first | omega | (dsimp only; omega) | decide)) | (refine cond_intro ?_ ?_; (first | omega | (dsimp only; omega) | decide | (simp only [Nat.add_zero, Int.toNat_natCast, *]; omega))))
    all_goals (conv => whnf)
    all_goals (try simp only [toNat0, Int.toNat_natCast, Nat.add_zero, eo, eg, e1] at *)
    all_goals first
      | exact ⟨k + 1, [0, 1, 2, 3], [], hk2, (show m - (k + 1) < m - k by omega), ⟨rfl, ⟨rfl, rfl, rfl, rfl, rfl, congrArg (fun z => some (SV.int .i64 z)) (i64_succ (by omega)), trivial⟩, ⟨b2, rfl, rfl, trivial⟩⟩⟩
      | (exfalso; omega)
      | trace_state
  · have e : k = m := by omega
    subst e
    repeat' ((conv => whnf); first | (refine br_dec (fun h => ?_) (fun h => ?_) <;> try (exfalso; (try dsimp only at h); omega)) | (refine br_ndec (fun h => ?_) (fun h => ?_) <;> try (exfalso; (try dsimp only at h); omega)) | refine br_seq (fun h => ?_) (fun h => ?_) | refine br_nseq (fun h => ?_) (fun h => ?_) | refine br_not (fun h => ?_) (fun h => ?_) | refine br_intro (fun h => ?_) (fun h => ?_) | refine cond_intro rfl ?_ | (refine cond_intro ⟨rfl, ?_⟩ ?_; (first | omega | (dsimp only; omega) | decide)) | (refine cond_intro ?_ ?_; (first | omega | (dsimp only; omega) | decide | (simp only [Nat.add_zero, Int.toNat_natCast, *]; omega))))
    all_goals (conv => whnf)
    all_goals first
      | exact ret_out (l := [0, 1]) rfl rfl ⟨rfl, trivial⟩ (allRw_cons allRw_nil)
      | (exfalso; omega)
      | trace_state
end Go.Proofs.YtkbidlijinclcaaGreatDoor

/- Contracts of package money: decimal places. -/
namespace Go.Proofs.YtkbidlijinclcaaGreatDoor
open Go.RowKit Go.Sy
attribute [local irreducible] vcall vloop vcallD retP
set_option maxRecDepth 100000
set_option linter.unusedVariables false

def exS : List ByteArray := [⟨#[74, 80, 89]⟩, ⟨#[75, 82, 87]⟩, ⟨#[86, 78, 68]⟩, ⟨#[67, 76, 80]⟩, ⟨#[73, 83, 75]⟩, ⟨#[66, 72, 68]⟩, ⟨#[75, 87, 68]⟩, ⟨#[74, 79, 68]⟩, ⟨#[79, 77, 82]⟩, ⟨#[84, 78, 68]⟩]
def exN : List Int := [0, 0, 0, 0, 0, 3, 3, 3, 3, 3]
/-- The decimal places that the table has from row k on, of n rows. -/
def exFrom (s : ByteArray) : Nat → Nat → Int
  | 0, _ => 2
  | n + 1, k => if exS.getD k ⟨#[]⟩ = s then exN.getD k 0 else exFrom s n (k + 1)
def expo (s : ByteArray) : Int := if curB s = true then exFrom s 10 0 else 0
attribute [irreducible] expo

theorem money_Exponent (s : ByteArray) : Glob Tryz.prog glT 120 [.str s] (.tup [.int .i64 (expo s), .bool (curB s)]) := by
  refine fc_of mixed T_ok Tryz.func120 rfl (by kernel_rfl) (by kernel_rfl) (by kernel_rfl) ?_
  repeat' ((conv => whnf); first | (refine vcall_pure (money_isCurrency _) rfl rfl rfl ?_) | (refine br_dec (fun h => ?_) (fun h => ?_) <;> try (exfalso; (try dsimp only at h); omega)) | (refine br_ndec (fun h => ?_) (fun h => ?_) <;> try (exfalso; (try dsimp only at h); omega)) | refine br_seq (fun h => ?_) (fun h => ?_) | refine br_nseq (fun h => ?_) (fun h => ?_) | refine br_not (fun h => ?_) (fun h => ?_) | refine br_intro (fun h => ?_) (fun h => ?_) | refine cond_intro rfl ?_ | (refine cond_intro ⟨rfl, ?_⟩ ?_; (first | omega | (dsimp only; omega) | decide)) | (refine cond_intro ?_ ?_; (first | omega | (dsimp only; omega) | decide | (simp only [Nat.add_zero, Int.toNat_natCast, *]; omega))))
  all_goals (conv => whnf)
  · exact ret_pure (by simp [expo, oneOr, h, cv])
  · have hcur := h
    clear h
    refine vloop_of (fun k : Nat => ⟨[(0, .str s), (9, .arr 10 [.strs exS, .ints .i64 exN]), (10, .int .i64 k)], [], 1⟩) (fun k => k ≤ 10 ∧ exFrom s (10 - k) k = exFrom s 10 0) (fun k => 10 - k) 0 [0] [] ⟨rfl, ⟨rfl, rfl, rfl, trivial⟩, trivial⟩ ⟨by omega, rfl⟩ ?_
    rintro k ⟨hk, hc⟩
    repeat' ((conv => whnf); first | (refine br_dec (fun h => ?_) (fun h => ?_) <;> try (exfalso; (try dsimp only at h); omega)) | (refine br_ndec (fun h => ?_) (fun h => ?_) <;> try (exfalso; (try dsimp only at h); omega)) | refine br_seq (fun h => ?_) (fun h => ?_) | refine br_nseq (fun h => ?_) (fun h => ?_) | refine br_not (fun h => ?_) (fun h => ?_) | refine br_intro (fun h => ?_) (fun h => ?_) | refine cond_intro rfl ?_ | (refine cond_intro ⟨rfl, ?_⟩ ?_; (first | omega | (dsimp only; omega) | decide)) | (refine cond_intro ?_ ?_; (first | omega | (dsimp only; omega) | decide | (simp only [Nat.add_zero, Int.toNat_natCast, *]; omega))))
    all_goals (conv => whnf)
    · refine ret_pure ?_
      have e : expo s = exN.getD k 0 := by
        unfold expo; rw [if_pos hcur, ← hc, show 10 - k = (10 - k - 1) + 1 from by omega, exFrom, if_pos (by assumption)]
      rw [e, hcur]; rfl
    · refine ⟨k + 1, [0], [], ⟨by omega, ?_⟩, by omega, ⟨rfl, ⟨rfl, rfl, congrArg (fun z => some (SV.int .i64 z)) (i64_succ (by omega)), trivial⟩, trivial⟩⟩
      rw [← hc, show 10 - k = (10 - (k + 1)) + 1 from by omega, exFrom, if_neg (by assumption)]
    · have e : k = 10 := by omega
      subst e
      refine ret_pure ?_
      have : expo s = 2 := by unfold expo; rw [if_pos hcur, ← hc]; rfl
      rw [this, hcur]; rfl
end Go.Proofs.YtkbidlijinclcaaGreatDoor

/- Contracts of package rate, and of the reference's: checks, fractions in lowest terms. -/
namespace Go.Proofs.YtkbidlijinclcaaGreatDoor
open Go.RowKit Go.Sy
attribute [local irreducible] vcall vloop vcallD retP
set_option maxRecDepth 100000
set_option linter.unusedVariables false

theorem rate_isCurrency (s : ByteArray) : Glob Tryz.prog glT 103 [.str s] (.bool (curB s)) := by
  refine fc_of mixed T_ok Tryz.func103 rfl (by kernel_rfl) (by kernel_rfl) (by kernel_rfl) ?_
  repeat' ((conv => whnf); first | (refine vcall_glob (money_Exponent _) rfl rfl rfl rfl ?_) | (refine br_dec (fun h => ?_) (fun h => ?_) <;> try (exfalso; (try dsimp only at h); omega)) | (refine br_ndec (fun h => ?_) (fun h => ?_) <;> try (exfalso; (try dsimp only at h); omega)) | refine br_seq (fun h => ?_) (fun h => ?_) | refine br_nseq (fun h => ?_) (fun h => ?_) | refine br_not (fun h => ?_) (fun h => ?_) | refine br_intro (fun h => ?_) (fun h => ?_) | refine cond_intro rfl ?_ | (refine cond_intro ⟨rfl, ?_⟩ ?_; (first | omega | (dsimp only; omega) | decide)) | (refine cond_intro ?_ ?_; (first | omega | (dsimp only; omega) | decide | (simp only [Nat.add_zero, Int.toNat_natCast, *]; omega))))
  all_goals (conv => whnf)
  all_goals exact ret_pure rfl

theorem ref02_Currency (s : ByteArray) (hs : s.size ≤ 9223372036854775000) : Pure Tryz.prog 89 [.str s] (.bool (curB s)) := by
  refine fc_of mixed T_ok Tryz.func89 rfl (by kernel_rfl) (by kernel_rfl) (by kernel_rfl) ?_
  (conv => whnf)
  refine vloop_of (fun k : Nat => ⟨[(0, .str s), (3, .int .i64 k)], [], 1⟩) (fun k => k ≤ s.size ∧ capsTo s k = true) (fun k => s.size - k) 0 [0] [] ⟨rfl, ⟨rfl, rfl, trivial⟩, trivial⟩ ⟨by omega, rfl⟩ ?_
  rintro k ⟨hk, hc⟩
  repeat' ((conv => whnf); first | (refine br_dec (fun h => ?_) (fun h => ?_) <;> try (exfalso; (try dsimp only at h); omega)) | (refine br_ndec (fun h => ?_) (fun h => ?_) <;> try (exfalso; (try dsimp only at h); omega)) | refine br_seq (fun h => ?_) (fun h => ?_) | refine br_nseq (fun h => ?_) (fun h => ?_) | refine br_not (fun h => ?_) (fun h => ?_) | refine br_intro (fun h => ?_) (fun h => ?_) | refine cond_intro rfl ?_ | (refine cond_intro ⟨rfl, ?_⟩ ?_; (first | omega | (dsimp only; omega) | decide)) | (refine cond_intro ?_ ?_; (first | omega | (dsimp only; omega) | decide | (simp only [Nat.add_zero, Int.toNat_natCast, *]; omega))))
  all_goals (conv => whnf)
  · exact ret_pure (by rw [curB_false (k := k) (by omega) (by omega)]; rfl)
  · exact ret_pure (by rw [curB_false (k := k) (by omega) (by omega)]; rfl)
  · exact ⟨k + 1, [0], [], ⟨by omega, capsTo_step hc (by omega) (by omega)⟩, by omega, ⟨rfl, ⟨rfl, congrArg (fun z => some (SV.int .i64 z)) (i64_succ (by omega)), trivial⟩, trivial⟩⟩
  · have e' : k = s.size := by omega
    subst e'
    refine ret_pure ?_
    unfold curB
    rw [hc]
    by_cases e : s.size = 3
    · simp [oneOr, e]
    · have : ¬ ((s.size : Int) = 3) := by omega
      simp [oneOr, e, this]

/-- The error of a rate. -/
def rchk (f t : ByteArray) (n d : Int) : Int :=
  if curB f = false ∨ curB t = false ∨ f = t then 11 else if n < 1 ∨ 1099511627776 < n ∨ d < 1 ∨ 1099511627776 < d then 4 else 0
theorem rchk_or (f t : ByteArray) (n d : Int) : rchk f t n d = 11 ∨ rchk f t n d = 4 ∨ (rchk f t n d = 0 ∧ curB f = true ∧ curB t = true ∧ f ≠ t ∧ 1 ≤ n ∧ n ≤ 1099511627776 ∧ 1 ≤ d ∧ d ≤ 1099511627776) := by
  unfold rchk
  split
  · exact .inl rfl
  · split
    · exact .inr (.inl rfl)
    · rename_i h1 h2
      refine .inr (.inr ⟨rfl, ?_, ?_, ?_, ?_⟩)
      · cases h : curB f <;> simp_all
      · cases h : curB t <;> simp_all
      · intro h; exact h1 (.inr (.inr h))
      · omega
theorem rchk_ok {f t : ByteArray} {n d : Int} (h : rchk f t n d = 0) : curB f = true ∧ curB t = true ∧ f ≠ t ∧ 1 ≤ n ∧ n ≤ 1099511627776 ∧ 1 ≤ d ∧ d ≤ 1099511627776 := by
  rcases rchk_or f t n d with e | e | e
  · omega
  · omega
  · exact e.2
attribute [irreducible] rchk

def rateS (f t : ByteArray) (n d : Int) : SV := .agg [.str f, .str t, .int .i64 n, .int .i64 d]

theorem rate_Check (f t : ByteArray) (n d : Int) : Glob Tryz.prog glT 83 [.agg [.str f, .str t, .int .i64 n, .int .i64 d]] (.int .i64 (rchk f t n d)) := by
  refine fc_of mixed T_ok Tryz.func83 rfl (by kernel_rfl) (by kernel_rfl) (by kernel_rfl) ?_
  repeat' ((conv => whnf); first | (refine vcall_glob (rate_isCurrency _) rfl rfl rfl rfl ?_) | (refine br_dec (fun h => ?_) (fun h => ?_) <;> try (exfalso; (try dsimp only at h); omega)) | (refine br_ndec (fun h => ?_) (fun h => ?_) <;> try (exfalso; (try dsimp only at h); omega)) | refine br_seq (fun h => ?_) (fun h => ?_) | refine br_nseq (fun h => ?_) (fun h => ?_) | refine br_not (fun h => ?_) (fun h => ?_) | refine br_intro (fun h => ?_) (fun h => ?_) | refine cond_intro rfl ?_ | (refine cond_intro ⟨rfl, ?_⟩ ?_; (first | omega | (dsimp only; omega) | decide)) | (refine cond_intro ?_ ?_; (first | omega | (dsimp only; omega) | decide | (simp only [Nat.add_zero, Int.toNat_natCast, *]; omega))))
  all_goals (conv => whnf)
  all_goals refine ret_pure ?_
  all_goals simp only [oneOr, cv, rchk, SV.int.injEq, true_and]
  all_goals first
    | (rw [if_pos (by simp_all)]; done)
    | (rw [if_neg (by simp_all), if_pos (by omega)]; done)
    | (rw [if_neg (by simp_all), if_neg (by omega)]; done)

theorem ref02_Check (f t : ByteArray) (n d : Int) (hf : f.size ≤ 9223372036854775000) (ht : t.size ≤ 9223372036854775000) : Pure Tryz.prog 64 [.agg [.str f, .str t, .int .i64 n, .int .i64 d]] (.int .i64 (rchk f t n d)) := by
  have h1 := ref02_Currency f hf
  have h2 := ref02_Currency t ht
  refine fc_of mixed T_ok Tryz.func64 rfl (by kernel_rfl) (by kernel_rfl) (by kernel_rfl) ?_
  repeat' ((conv => whnf); first | (refine vcall_pure (h1) rfl rfl rfl ?_) | (refine vcall_pure (h2) rfl rfl rfl ?_) | (refine br_dec (fun h => ?_) (fun h => ?_) <;> try (exfalso; (try dsimp only at h); omega)) | (refine br_ndec (fun h => ?_) (fun h => ?_) <;> try (exfalso; (try dsimp only at h); omega)) | refine br_seq (fun h => ?_) (fun h => ?_) | refine br_nseq (fun h => ?_) (fun h => ?_) | refine br_not (fun h => ?_) (fun h => ?_) | refine br_intro (fun h => ?_) (fun h => ?_) | refine cond_intro rfl ?_ | (refine cond_intro ⟨rfl, ?_⟩ ?_; (first | omega | (dsimp only; omega) | decide)) | (refine cond_intro ?_ ?_; (first | omega | (dsimp only; omega) | decide | (simp only [Nat.add_zero, Int.toNat_natCast, *]; omega))))
  all_goals (conv => whnf)
  all_goals refine ret_pure ?_
  all_goals simp only [oneOr, cv, rchk, SV.int.injEq, true_and]
  all_goals first
    | (rw [if_pos (by simp_all)]; done)
    | (rw [if_neg (by simp_all), if_pos (by omega)]; done)
    | (rw [if_neg (by simp_all), if_neg (by omega)]; done)

/-- The greatest common divisor. -/
def gcdI (a b : Int) : Int := (Nat.gcd a.toNat b.toNat : Nat)
attribute [irreducible] gcdI
theorem gcdI_step {a b : Int} (ha : 0 ≤ a) (hb : 1 ≤ b) : gcdI b (a.tmod b) = gcdI a b := by
  unfold gcdI
  rw [Int.tmod_eq_emod_of_nonneg ha, Int.toNat_emod ha (by omega), Nat.gcd_comm a.toNat, Nat.gcd_rec b.toNat a.toNat]
  rw [Nat.gcd_comm (a.toNat % b.toNat)]
theorem gcdI_zero {a : Int} (ha : 0 ≤ a) : gcdI a 0 = a := by unfold gcdI; simp; omega

theorem rate_divisor (a b : Int) (ha : 1 ≤ a) (hb : 1 ≤ b) : Pure Tryz.prog 119 [.int .i64 a, .int .i64 b] (.int .i64 (gcdI a b)) := by
  refine fc_of mixed T_ok Tryz.func119 rfl (by kernel_rfl) (by kernel_rfl) (by kernel_rfl) ?_
  (conv => whnf)
  refine vloop_of (fun x : Int × Int => ⟨[(0, .int .i64 x.1), (1, .int .i64 x.2)], [], 1⟩) (fun x => 0 ≤ x.1 ∧ 0 ≤ x.2 ∧ gcdI x.1 x.2 = gcdI a b) (fun x => x.2.toNat) (a, b) [0] [] ⟨rfl, ⟨rfl, rfl, trivial⟩, trivial⟩ ⟨by omega, by omega, rfl⟩ ?_
  rintro ⟨x, y⟩ ⟨hx, hy, hg⟩
  dsimp only at *
  repeat' ((conv => whnf); first | (refine br_dec (fun h => ?_) (fun h => ?_) <;> try (exfalso; (try dsimp only at h); omega)) | (refine br_ndec (fun h => ?_) (fun h => ?_) <;> try (exfalso; (try dsimp only at h); omega)) | refine br_seq (fun h => ?_) (fun h => ?_) | refine br_nseq (fun h => ?_) (fun h => ?_) | refine br_not (fun h => ?_) (fun h => ?_) | refine br_intro (fun h => ?_) (fun h => ?_) | refine cond_intro rfl ?_ | (refine cond_intro ⟨rfl, ?_⟩ ?_; (first | omega | (dsimp only; omega) | decide)) | (refine cond_intro ?_ ?_; (first | omega | (dsimp only; omega) | decide | (simp only [Nat.add_zero, Int.toNat_natCast, *]; omega))))
  all_goals (conv => whnf)
  · have h1 := Int.tmod_nonneg y hx
    have h2 := Int.tmod_lt_of_pos x (b := y) (by omega)
    exact ⟨(y, x.tmod y), [0], [], ⟨hy, h1, by rw [gcdI_step hx (by omega), hg]⟩, by dsimp only; omega, ⟨rfl, ⟨rfl, rfl, trivial⟩, trivial⟩⟩
  · have e : y = 0 := by omega
    subst e
    rw [gcdI_zero hx] at hg
    exact ret_pure (by rw [← hg]; rfl)

theorem ref02_divisor (a b : Int) (ha : 1 ≤ a) (hb : 1 ≤ b) : Pure Tryz.prog 124 [.int .i64 a, .int .i64 b] (.int .i64 (gcdI a b)) := by
  refine fc_of mixed T_ok Tryz.func124 rfl (by kernel_rfl) (by kernel_rfl) (by kernel_rfl) ?_
  (conv => whnf)
  refine vloop_of (fun x : Int × Int => ⟨[(0, .int .i64 x.1), (1, .int .i64 x.2)], [], 1⟩) (fun x => 0 ≤ x.1 ∧ 0 ≤ x.2 ∧ gcdI x.1 x.2 = gcdI a b) (fun x => x.2.toNat) (a, b) [0] [] ⟨rfl, ⟨rfl, rfl, trivial⟩, trivial⟩ ⟨by omega, by omega, rfl⟩ ?_
  rintro ⟨x, y⟩ ⟨hx, hy, hg⟩
  dsimp only at *
  repeat' ((conv => whnf); first | (refine br_dec (fun h => ?_) (fun h => ?_) <;> try (exfalso; (try dsimp only at h); omega)) | (refine br_ndec (fun h => ?_) (fun h => ?_) <;> try (exfalso; (try dsimp only at h); omega)) | refine br_seq (fun h => ?_) (fun h => ?_) | refine br_nseq (fun h => ?_) (fun h => ?_) | refine br_not (fun h => ?_) (fun h => ?_) | refine br_intro (fun h => ?_) (fun h => ?_) | refine cond_intro rfl ?_ | (refine cond_intro ⟨rfl, ?_⟩ ?_; (first | omega | (dsimp only; omega) | decide)) | (refine cond_intro ?_ ?_; (first | omega | (dsimp only; omega) | decide | (simp only [Nat.add_zero, Int.toNat_natCast, *]; omega))))
  all_goals (conv => whnf)
  · have h1 := Int.tmod_nonneg y hx
    have h2 := Int.tmod_lt_of_pos x (b := y) (by omega)
    exact ⟨(y, x.tmod y), [0], [], ⟨hy, h1, by rw [gcdI_step hx (by omega), hg]⟩, by dsimp only; omega, ⟨rfl, ⟨rfl, rfl, trivial⟩, trivial⟩⟩
  · have e : y = 0 := by omega
    subst e
    rw [gcdI_zero hx] at hg
    exact ret_pure (by rw [← hg]; rfl)

theorem gcdI_pos {a b : Int} (ha : 1 ≤ a) (hb : 1 ≤ b) : 1 ≤ gcdI a b ∧ gcdI a b ≤ a ∧ gcdI a b ≤ b := by
  unfold gcdI
  have h1 : 0 < Nat.gcd a.toNat b.toNat := Nat.gcd_pos_of_pos_left _ (by omega)
  have h2 : Nat.gcd a.toNat b.toNat ≤ a.toNat := Nat.gcd_le_left _ (by omega)
  have h3 : Nat.gcd a.toNat b.toNat ≤ b.toNat := Nat.gcd_le_right _ (by omega)
  omega

/-- A fraction in lowest terms. -/
def redN (a b : Int) : Int := if a < 1 ∨ b < 1 then a else a.tdiv (gcdI a b)
def redD (a b : Int) : Int := if a < 1 ∨ b < 1 then b else b.tdiv (gcdI a b)
theorem tdiv_bd {a g : Int} (ha : 1 ≤ a) (hg : 1 ≤ g) (hga : g ≤ a) : 1 ≤ a.tdiv g ∧ a.tdiv g ≤ a := by
  rw [Int.tdiv_eq_ediv_of_nonneg (by omega)]
  refine ⟨?_, Int.ediv_le_self _ (by omega)⟩
  have := Int.ediv_le_ediv (c := g) (by omega) hga
  rw [Int.ediv_self (by omega)] at this
  exact this
theorem red_bd {a b : Int} (ha : 1 ≤ a) (hb : 1 ≤ b) : 1 ≤ redN a b ∧ redN a b ≤ a ∧ 1 ≤ redD a b ∧ redD a b ≤ b := by
  obtain ⟨g1, g2, g3⟩ := gcdI_pos ha hb
  unfold redN redD
  rw [if_neg (by omega), if_neg (by omega)]
  have h1 := tdiv_bd ha g1 g2
  have h2 := tdiv_bd hb g1 g3
  omega
attribute [irreducible] redN redD

theorem rate_Reduce (a b : Int) (ha : a ≤ 9223372036854775807) (hb : b ≤ 9223372036854775807) : Pure Tryz.prog 102 [.int .i64 a, .int .i64 b] (.tup [.int .i64 (redN a b), .int .i64 (redD a b)]) := by
  refine fc_of mixed T_ok Tryz.func102 rfl (by kernel_rfl) (by kernel_rfl) (by kernel_rfl) ?_
  by_cases hab : a < 1 ∨ b < 1
  · have e1 : redN a b = a := by unfold redN; rw [if_pos hab]
    have e2 : redD a b = b := by unfold redD; rw [if_pos hab]
    rw [e1, e2]
    repeat' ((conv => whnf); first | (refine br_dec (fun h => ?_) (fun h => ?_) <;> try (exfalso; (try dsimp only at h); omega)) | (refine br_ndec (fun h => ?_) (fun h => ?_) <;> try (exfalso; (try dsimp only at h); omega)) | refine br_seq (fun h => ?_) (fun h => ?_) | refine br_nseq (fun h => ?_) (fun h => ?_) | refine br_not (fun h => ?_) (fun h => ?_) | refine br_intro (fun h => ?_) (fun h => ?_) | refine cond_intro rfl ?_ | (refine cond_intro ⟨rfl, ?_⟩ ?_; (first | omega | (dsimp only; omega) | decide)) | (refine cond_intro ?_ ?_; (first | omega | (dsimp only; omega) | decide | (simp only [Nat.add_zero, Int.toNat_natCast, *]; omega))))
    all_goals (conv => whnf)
    all_goals exact ret_pure rfl
  · obtain ⟨g1, g2, g3⟩ := gcdI_pos (a := a) (b := b) (by omega) (by omega)
    have t1 := tdiv_bd (a := a) (by omega) g1 g2
    have t2 := tdiv_bd (a := b) (by omega) g1 g3
    have e1 : redN a b = IntKind.i64.wrap (a.tdiv (gcdI a b)) := by rw [w64_in (by omega) (by omega)]; unfold redN; rw [if_neg hab]
    have e2 : redD a b = IntKind.i64.wrap (b.tdiv (gcdI a b)) := by rw [w64_in (by omega) (by omega)]; unfold redD; rw [if_neg hab]
    have hd := rate_divisor a b (by omega) (by omega)
    rw [e1, e2]
    repeat' ((conv => whnf); first | (refine vcall_pure (hd) rfl rfl rfl ?_) | (refine br_dec (fun h => ?_) (fun h => ?_) <;> try (exfalso; (try dsimp only at h); omega)) | (refine br_ndec (fun h => ?_) (fun h => ?_) <;> try (exfalso; (try dsimp only at h); omega)) | refine br_seq (fun h => ?_) (fun h => ?_) | refine br_nseq (fun h => ?_) (fun h => ?_) | refine br_not (fun h => ?_) (fun h => ?_) | refine br_intro (fun h => ?_) (fun h => ?_) | refine cond_intro rfl ?_ | (refine cond_intro ⟨rfl, ?_⟩ ?_; (first | omega | (dsimp only; omega) | decide)) | (refine cond_intro ?_ ?_; (first | omega | (dsimp only; omega) | decide | (simp only [Nat.add_zero, Int.toNat_natCast, *]; omega))))
    all_goals (conv => whnf)
    all_goals exact ret_pure rfl

theorem ref02_Reduce (a b : Int) (ha : a ≤ 9223372036854775807) (hb : b ≤ 9223372036854775807) : Pure Tryz.prog 113 [.int .i64 a, .int .i64 b] (.tup [.int .i64 (redN a b), .int .i64 (redD a b)]) := by
  refine fc_of mixed T_ok Tryz.func113 rfl (by kernel_rfl) (by kernel_rfl) (by kernel_rfl) ?_
  by_cases hab : a < 1 ∨ b < 1
  · have e1 : redN a b = a := by unfold redN; rw [if_pos hab]
    have e2 : redD a b = b := by unfold redD; rw [if_pos hab]
    rw [e1, e2]
    repeat' ((conv => whnf); first | (refine br_dec (fun h => ?_) (fun h => ?_) <;> try (exfalso; (try dsimp only at h); omega)) | (refine br_ndec (fun h => ?_) (fun h => ?_) <;> try (exfalso; (try dsimp only at h); omega)) | refine br_seq (fun h => ?_) (fun h => ?_) | refine br_nseq (fun h => ?_) (fun h => ?_) | refine br_not (fun h => ?_) (fun h => ?_) | refine br_intro (fun h => ?_) (fun h => ?_) | refine cond_intro rfl ?_ | (refine cond_intro ⟨rfl, ?_⟩ ?_; (first | omega | (dsimp only; omega) | decide)) | (refine cond_intro ?_ ?_; (first | omega | (dsimp only; omega) | decide | (simp only [Nat.add_zero, Int.toNat_natCast, *]; omega))))
    all_goals (conv => whnf)
    all_goals exact ret_pure rfl
  · obtain ⟨g1, g2, g3⟩ := gcdI_pos (a := a) (b := b) (by omega) (by omega)
    have t1 := tdiv_bd (a := a) (by omega) g1 g2
    have t2 := tdiv_bd (a := b) (by omega) g1 g3
    have e1 : redN a b = IntKind.i64.wrap (a.tdiv (gcdI a b)) := by rw [w64_in (by omega) (by omega)]; unfold redN; rw [if_neg hab]
    have e2 : redD a b = IntKind.i64.wrap (b.tdiv (gcdI a b)) := by rw [w64_in (by omega) (by omega)]; unfold redD; rw [if_neg hab]
    have hd := ref02_divisor a b (by omega) (by omega)
    rw [e1, e2]
    repeat' ((conv => whnf); first | (refine vcall_pure (hd) rfl rfl rfl ?_) | (refine br_dec (fun h => ?_) (fun h => ?_) <;> try (exfalso; (try dsimp only at h); omega)) | (refine br_ndec (fun h => ?_) (fun h => ?_) <;> try (exfalso; (try dsimp only at h); omega)) | refine br_seq (fun h => ?_) (fun h => ?_) | refine br_nseq (fun h => ?_) (fun h => ?_) | refine br_not (fun h => ?_) (fun h => ?_) | refine br_intro (fun h => ?_) (fun h => ?_) | refine cond_intro rfl ?_ | (refine cond_intro ⟨rfl, ?_⟩ ?_; (first | omega | (dsimp only; omega) | decide)) | (refine cond_intro ?_ ?_; (first | omega | (dsimp only; omega) | decide | (simp only [Nat.add_zero, Int.toNat_natCast, *]; omega))))
    all_goals (conv => whnf)
    all_goals exact ret_pure rfl
end Go.Proofs.YtkbidlijinclcaaGreatDoor

/- Contracts of the library: numbers in decimal. -/
namespace Go.Proofs.YtkbidlijinclcaaGreatDoor
open Go.RowKit Go.Sy
attribute [local irreducible] vcall vloop vcallD retP
set_option maxRecDepth 100000
set_option linter.unusedVariables false
set_option linter.unusedSimpArgs false

def pow10L : List Int := [1, 10, 100, 1000, 10000, 100000, 1000000, 10000000, 100000000, 1000000000, 10000000000, 100000000000, 1000000000000, 10000000000000, 100000000000000, 1000000000000000, 10000000000000000, 100000000000000000, 1000000000000000000, 10000000000000000000]
theorem pow10_at : ∀ k, k < 20 → pow10L.getD k 0 = ((10 ^ k : Nat) : Int) := by decide +kernel

/-- A number below 100 in decimal. -/
theorem dec_small : ∀ n, n < 100 → (n < 10 → digs (ndig n) n = [((48 + n : Nat) : Int)]) ∧ (¬ n < 10 → digs (ndig n) n = [((48 + n / 10 : Nat) : Int), ((48 + n % 10 : Nat) : Int)]) := by
  intro n hn
  constructor
  · intro h
    rw [ndig, if_pos h]; simp [digs]; omega
  · intro h
    rw [ndig, if_neg h, ndig, if_pos (by omega)]; simp [digs]; omega
theorem extract_bytes {s : ByteArray} {a n : Nat} (h : a + n ≤ s.size) (l : List Int) (hl : l.length = n) (hg : ∀ i, i < n → byteAt s ((a + i : Nat) : Int) = l.getD i 0) : s.extract a (a + n) = bytesOf l := by
  have h1 : s.data.toList.length = s.size := by simp
  have : (s.extract a (a + n)).data.toList = (bytesOf l).data.toList := by
    unfold bytesOf
    simp only [ByteArray.data_extract, Array.toList_extract, List.extract_eq_take_drop]
    apply List.ext_getElem?
    intro i
    by_cases hi : i < n
    · rw [List.getElem?_take, if_pos (by omega), List.getElem?_drop, List.getElem?_eq_getElem (by omega)]
      rw [List.getElem?_map, List.getElem?_eq_getElem (by omega)]
      simp only [Option.map_some, Option.some.injEq]
      have hh := hg i hi
      unfold byteAt at hh
      rw [Int.toNat_natCast, List.getD, List.getElem?_eq_getElem (by omega), List.getD, List.getElem?_eq_getElem (by omega)] at hh
      simp only [Option.getD_some] at hh
      rw [← hh, Int.toNat_natCast]
      exact (UInt8.ofNat_toNat).symm
    · rw [List.getElem?_take, if_neg (by omega), List.getElem?_eq_none (by simp; omega)]
  have e2 : ∀ x y : ByteArray, x.data.toList = y.data.toList → x = y := by
    intro x y h; cases x; cases y; simp at h; congr
  exact e2 _ _ this

end Go.Proofs.YtkbidlijinclcaaGreatDoor

/- Contracts of the library: FormatInt. -/
namespace Go.Proofs.YtkbidlijinclcaaGreatDoor
open Go.RowKit Go.Sy
attribute [local irreducible] vcall vloop vcallD retP
set_option maxRecDepth 100000
set_option linter.unusedVariables false
set_option linter.unusedSimpArgs false

theorem ndig_le {u : Nat} (h : u < 18446744073709551616) : ndig u ≤ 20 := by
  rcases Nat.lt_or_ge 20 (ndig u) with h1 | h1
  · have hu : 1 ≤ u := by
      rcases Nat.eq_zero_or_pos u with e | e
      · subst e; rw [ndig, if_pos (by omega)] at h1; omega
      · exact e
    have a := ndig_ge u hu
    have : 10 ^ 20 ≤ 10 ^ (ndig u - 1) := Nat.pow_le_pow_right (by omega) (by omega)
    omega
  · exact h1

theorem decI_size (i : Int) (h1 : -9223372036854775808 ≤ i) (h2 : i ≤ 9223372036854775807) : (decI i).size ≤ 21 := by
  have h3 := ndig_le (u := i.natAbs) (by omega)
  have h4 := ndig_le (u := i.toNat) (by omega)
  unfold decI dec
  split
  · simp [bytesOf, ByteArray.size, digs_length]; omega
  · simp [bytesOf, ByteArray.size, digs_length]; omega
end Go.Proofs.YtkbidlijinclcaaGreatDoor

/- Contracts of package rate, and of the reference's: conversions, other rates. -/
namespace Go.Proofs.YtkbidlijinclcaaGreatDoor
open Go.RowKit Go.Sy
attribute [local irreducible] vcall vloop vcallD retP
set_option maxRecDepth 100000
set_option linter.unusedVariables false
set_option linter.unusedSimpArgs false

/-- The error of a conversion. -/
def cvE (a : Int) (c f t : ByteArray) (n d mode : Int) : Int :=
  if mchk a c ≠ 0 then mchk a c else if rchk f t n d ≠ 0 then rchk f t n d else if c ≠ f then 11 else sclE a c n d mode
def cvT (a : Int) (c f t : ByteArray) (n d mode : Int) : SV := .tup [.agg [.int .i64 (orN (cvE a c f t n d mode) (sclA a n d mode)), .str (orS (cvE a c f t n d mode) t)], .int .i64 (cvE a c f t n d mode)]
theorem cvT_err {a : Int} {c f t : ByteArray} {n d mode e : Int} (h : cvE a c f t n d mode = e) (he : e ≠ 0) : cvT a c f t n d mode = .tup [.agg [.int .i64 0, .str ⟨#[]⟩], .int .i64 e] := by
  unfold cvT; rw [h]; unfold orN orS; rw [if_neg he, if_neg he]
theorem cvT_ok {a : Int} {c f t : ByteArray} {n d mode : Int} (h : cvE a c f t n d mode = 0) : cvT a c f t n d mode = .tup [.agg [.int .i64 (sclA a n d mode), .str t], .int .i64 0] := by
  unfold cvT; rw [h]; unfold orN orS; rw [if_pos rfl, if_pos rfl]
attribute [irreducible] cvE

theorem rate_Convert (a : Int) (c f t : ByteArray) (n d mode : Int) (h1 : -9223372036854775808 ≤ n) (h2 : n ≤ 9223372036854775807) :
    Glob Tryz.prog glT 59 [.agg [.int .i64 a, .str c], .agg [.str f, .str t, .int .i64 n, .int .i64 d], .int .i64 mode] (cvT a c f t n d mode) := by
  have c1 := money_Check a c
  have c2 := rate_Check f t n d
  have c3 := money_Scale a c n d mode h1 h2
  refine fc_of mixed T_ok Tryz.func59 rfl (by kernel_rfl) (by kernel_rfl) (by kernel_rfl) ?_
  by_cases e1 : mchk a c = 0
  · rw [e1] at c1
    by_cases e2 : rchk f t n d = 0
    · rw [e2] at c2
      by_cases e3 : c = f
      · by_cases e4 : sclE a c n d mode = 0
        · have he : cvE a c f t n d mode = 0 := by unfold cvE; rw [if_neg (by omega), if_neg (by omega), if_neg (by simp [e3]), e4]
          rw [cvT_ok he]
          rw [sclT_ok e4] at c3
          repeat' ((conv => whnf); first | (refine vcall_pure (c1) rfl rfl rfl ?_) | (refine vcall_glob (c2) rfl rfl rfl rfl ?_) | (refine vcall_pure (c3) rfl rfl rfl ?_) | (refine br_dec (fun h => ?_) (fun h => ?_) <;> try (exfalso; (try dsimp only at h); omega)) | (refine br_ndec (fun h => ?_) (fun h => ?_) <;> try (exfalso; (try dsimp only at h); omega)) | refine br_seq (fun h => ?_) (fun h => ?_) | refine br_nseq (fun h => ?_) (fun h => ?_) | refine br_not (fun h => ?_) (fun h => ?_) | refine br_intro (fun h => ?_) (fun h => ?_) | refine cond_intro rfl ?_ | (refine cond_intro ⟨rfl, ?_⟩ ?_; (first | omega | (dsimp only; omega) | decide)) | (refine cond_intro ?_ ?_; (first | omega | (dsimp only; omega) | decide | (simp only [Nat.add_zero, Int.toNat_natCast, *]; omega))))
          all_goals (conv => whnf)
          all_goals first | exact ret_pure rfl | (exfalso; exact absurd e3 (by assumption))
        · have he : cvE a c f t n d mode = sclE a c n d mode := by unfold cvE; rw [if_neg (by omega), if_neg (by omega), if_neg (by simp [e3])]
          rw [cvT_err he e4]
          rw [sclT_err rfl e4] at c3
          repeat' ((conv => whnf); first | (refine vcall_pure (c1) rfl rfl rfl ?_) | (refine vcall_glob (c2) rfl rfl rfl rfl ?_) | (refine vcall_pure (c3) rfl rfl rfl ?_) | (refine br_dec (fun h => ?_) (fun h => ?_) <;> try (exfalso; (try dsimp only at h); omega)) | (refine br_ndec (fun h => ?_) (fun h => ?_) <;> try (exfalso; (try dsimp only at h); omega)) | refine br_seq (fun h => ?_) (fun h => ?_) | refine br_nseq (fun h => ?_) (fun h => ?_) | refine br_not (fun h => ?_) (fun h => ?_) | refine br_intro (fun h => ?_) (fun h => ?_) | refine cond_intro rfl ?_ | (refine cond_intro ⟨rfl, ?_⟩ ?_; (first | omega | (dsimp only; omega) | decide)) | (refine cond_intro ?_ ?_; (first | omega | (dsimp only; omega) | decide | (simp only [Nat.add_zero, Int.toNat_natCast, *]; omega))))
          all_goals (conv => whnf)
          all_goals first | exact ret_pure rfl | (exfalso; exact absurd e3 (by assumption))
      · have he : cvE a c f t n d mode = 11 := by unfold cvE; rw [if_neg (by omega), if_neg (by omega), if_pos e3]
        rw [cvT_err he (by omega)]
        repeat' ((conv => whnf); first | (refine vcall_pure (c1) rfl rfl rfl ?_) | (refine vcall_glob (c2) rfl rfl rfl rfl ?_) | (refine vcall_pure (c3) rfl rfl rfl ?_) | (refine br_nseq (fun h => ?_) (fun h => ?_) <;> try (exact absurd h e3)) | (refine br_dec (fun h => ?_) (fun h => ?_) <;> try (exfalso; (try dsimp only at h); omega)) | (refine br_ndec (fun h => ?_) (fun h => ?_) <;> try (exfalso; (try dsimp only at h); omega)) | refine br_seq (fun h => ?_) (fun h => ?_) | refine br_nseq (fun h => ?_) (fun h => ?_) | refine br_not (fun h => ?_) (fun h => ?_) | refine br_intro (fun h => ?_) (fun h => ?_) | refine cond_intro rfl ?_ | (refine cond_intro ⟨rfl, ?_⟩ ?_; (first | omega | (dsimp only; omega) | decide)) | (refine cond_intro ?_ ?_; (first | omega | (dsimp only; omega) | decide | (simp only [Nat.add_zero, Int.toNat_natCast, *]; omega))))
        all_goals (conv => whnf)
        all_goals exact ret_pure rfl
    · have he : cvE a c f t n d mode = rchk f t n d := by unfold cvE; rw [if_neg (by omega), if_pos e2]
      rw [cvT_err he e2]
      repeat' ((conv => whnf); first | (refine vcall_pure (c1) rfl rfl rfl ?_) | (refine vcall_glob (c2) rfl rfl rfl rfl ?_) | (refine vcall_pure (c3) rfl rfl rfl ?_) | (refine br_dec (fun h => ?_) (fun h => ?_) <;> try (exfalso; (try dsimp only at h); omega)) | (refine br_ndec (fun h => ?_) (fun h => ?_) <;> try (exfalso; (try dsimp only at h); omega)) | refine br_seq (fun h => ?_) (fun h => ?_) | refine br_nseq (fun h => ?_) (fun h => ?_) | refine br_not (fun h => ?_) (fun h => ?_) | refine br_intro (fun h => ?_) (fun h => ?_) | refine cond_intro rfl ?_ | (refine cond_intro ⟨rfl, ?_⟩ ?_; (first | omega | (dsimp only; omega) | decide)) | (refine cond_intro ?_ ?_; (first | omega | (dsimp only; omega) | decide | (simp only [Nat.add_zero, Int.toNat_natCast, *]; omega))))
      all_goals (conv => whnf)
      all_goals exact ret_pure rfl
  · have he : cvE a c f t n d mode = mchk a c := by unfold cvE; rw [if_pos e1]
    rw [cvT_err he e1]
    repeat' ((conv => whnf); first | (refine vcall_pure (c1) rfl rfl rfl ?_) | (refine vcall_glob (c2) rfl rfl rfl rfl ?_) | (refine vcall_pure (c3) rfl rfl rfl ?_) | (refine br_dec (fun h => ?_) (fun h => ?_) <;> try (exfalso; (try dsimp only at h); omega)) | (refine br_ndec (fun h => ?_) (fun h => ?_) <;> try (exfalso; (try dsimp only at h); omega)) | refine br_seq (fun h => ?_) (fun h => ?_) | refine br_nseq (fun h => ?_) (fun h => ?_) | refine br_not (fun h => ?_) (fun h => ?_) | refine br_intro (fun h => ?_) (fun h => ?_) | refine cond_intro rfl ?_ | (refine cond_intro ⟨rfl, ?_⟩ ?_; (first | omega | (dsimp only; omega) | decide)) | (refine cond_intro ?_ ?_; (first | omega | (dsimp only; omega) | decide | (simp only [Nat.add_zero, Int.toNat_natCast, *]; omega))))
    all_goals (conv => whnf)
    all_goals exact ret_pure rfl

theorem ref02_Convert (a : Int) (c f t : ByteArray) (n d mode : Int) (h1 : -9223372036854775808 ≤ n) (h2 : n ≤ 9223372036854775807) (hf : f.size ≤ 9223372036854775000) (ht : t.size ≤ 9223372036854775000) :
    Pure Tryz.prog 43 [.agg [.int .i64 a, .str c], .agg [.str f, .str t, .int .i64 n, .int .i64 d], .int .i64 mode] (cvT a c f t n d mode) := by
  have c1 := ref01_Check a c
  have c2 := ref02_Check f t n d hf ht
  have c3 := ref01_Scale a c n d mode h1 h2
  refine fc_of mixed T_ok Tryz.func43 rfl (by kernel_rfl) (by kernel_rfl) (by kernel_rfl) ?_
  by_cases e1 : mchk a c = 0
  · rw [e1] at c1
    by_cases e2 : rchk f t n d = 0
    · rw [e2] at c2
      by_cases e3 : c = f
      · by_cases e4 : sclE a c n d mode = 0
        · have he : cvE a c f t n d mode = 0 := by unfold cvE; rw [if_neg (by omega), if_neg (by omega), if_neg (by simp [e3]), e4]
          rw [cvT_ok he]
          rw [sclT_ok e4] at c3
          repeat' ((conv => whnf); first | (refine vcall_pure (c1) rfl rfl rfl ?_) | (refine vcall_pure (c2) rfl rfl rfl ?_) | (refine vcall_pure (c3) rfl rfl rfl ?_) | (refine br_dec (fun h => ?_) (fun h => ?_) <;> try (exfalso; (try dsimp only at h); omega)) | (refine br_ndec (fun h => ?_) (fun h => ?_) <;> try (exfalso; (try dsimp only at h); omega)) | refine br_seq (fun h => ?_) (fun h => ?_) | refine br_nseq (fun h => ?_) (fun h => ?_) | refine br_not (fun h => ?_) (fun h => ?_) | refine br_intro (fun h => ?_) (fun h => ?_) | refine cond_intro rfl ?_ | (refine cond_intro ⟨rfl, ?_⟩ ?_; (first | omega | (dsimp only; omega) | decide)) | (refine cond_intro ?_ ?_; (first | omega | (dsimp only; omega) | decide | (simp only [Nat.add_zero, Int.toNat_natCast, *]; omega))))
          all_goals (conv => whnf)
          all_goals first | exact ret_pure rfl | (exfalso; exact absurd e3 (by assumption))
        · have he : cvE a c f t n d mode = sclE a c n d mode := by unfold cvE; rw [if_neg (by omega), if_neg (by omega), if_neg (by simp [e3])]
          rw [cvT_err he e4]
          rw [sclT_err rfl e4] at c3
          repeat' ((conv => whnf); first | (refine vcall_pure (c1) rfl rfl rfl ?_) | (refine vcall_pure (c2) rfl rfl rfl ?_) | (refine vcall_pure (c3) rfl rfl rfl ?_) | (refine br_dec (fun h => ?_) (fun h => ?_) <;> try (exfalso; (try dsimp only at h); omega)) | (refine br_ndec (fun h => ?_) (fun h => ?_) <;> try (exfalso; (try dsimp only at h); omega)) | refine br_seq (fun h => ?_) (fun h => ?_) | refine br_nseq (fun h => ?_) (fun h => ?_) | refine br_not (fun h => ?_) (fun h => ?_) | refine br_intro (fun h => ?_) (fun h => ?_) | refine cond_intro rfl ?_ | (refine cond_intro ⟨rfl, ?_⟩ ?_; (first | omega | (dsimp only; omega) | decide)) | (refine cond_intro ?_ ?_; (first | omega | (dsimp only; omega) | decide | (simp only [Nat.add_zero, Int.toNat_natCast, *]; omega))))
          all_goals (conv => whnf)
          all_goals first | exact ret_pure rfl | (exfalso; exact absurd e3 (by assumption))
      · have he : cvE a c f t n d mode = 11 := by unfold cvE; rw [if_neg (by omega), if_neg (by omega), if_pos e3]
        rw [cvT_err he (by omega)]
        repeat' ((conv => whnf); first | (refine vcall_pure (c1) rfl rfl rfl ?_) | (refine vcall_pure (c2) rfl rfl rfl ?_) | (refine vcall_pure (c3) rfl rfl rfl ?_) | (refine br_nseq (fun h => ?_) (fun h => ?_) <;> try (exact absurd h e3)) | (refine br_dec (fun h => ?_) (fun h => ?_) <;> try (exfalso; (try dsimp only at h); omega)) | (refine br_ndec (fun h => ?_) (fun h => ?_) <;> try (exfalso; (try dsimp only at h); omega)) | refine br_seq (fun h => ?_) (fun h => ?_) | refine br_nseq (fun h => ?_) (fun h => ?_) | refine br_not (fun h => ?_) (fun h => ?_) | refine br_intro (fun h => ?_) (fun h => ?_) | refine cond_intro rfl ?_ | (refine cond_intro ⟨rfl, ?_⟩ ?_; (first | omega | (dsimp only; omega) | decide)) | (refine cond_intro ?_ ?_; (first | omega | (dsimp only; omega) | decide | (simp only [Nat.add_zero, Int.toNat_natCast, *]; omega))))
        all_goals (conv => whnf)
        all_goals exact ret_pure rfl
    · have he : cvE a c f t n d mode = rchk f t n d := by unfold cvE; rw [if_neg (by omega), if_pos e2]
      rw [cvT_err he e2]
      repeat' ((conv => whnf); first | (refine vcall_pure (c1) rfl rfl rfl ?_) | (refine vcall_pure (c2) rfl rfl rfl ?_) | (refine vcall_pure (c3) rfl rfl rfl ?_) | (refine br_dec (fun h => ?_) (fun h => ?_) <;> try (exfalso; (try dsimp only at h); omega)) | (refine br_ndec (fun h => ?_) (fun h => ?_) <;> try (exfalso; (try dsimp only at h); omega)) | refine br_seq (fun h => ?_) (fun h => ?_) | refine br_nseq (fun h => ?_) (fun h => ?_) | refine br_not (fun h => ?_) (fun h => ?_) | refine br_intro (fun h => ?_) (fun h => ?_) | refine cond_intro rfl ?_ | (refine cond_intro ⟨rfl, ?_⟩ ?_; (first | omega | (dsimp only; omega) | decide)) | (refine cond_intro ?_ ?_; (first | omega | (dsimp only; omega) | decide | (simp only [Nat.add_zero, Int.toNat_natCast, *]; omega))))
      all_goals (conv => whnf)
      all_goals exact ret_pure rfl
  · have he : cvE a c f t n d mode = mchk a c := by unfold cvE; rw [if_pos e1]
    rw [cvT_err he e1]
    repeat' ((conv => whnf); first | (refine vcall_pure (c1) rfl rfl rfl ?_) | (refine vcall_pure (c2) rfl rfl rfl ?_) | (refine vcall_pure (c3) rfl rfl rfl ?_) | (refine br_dec (fun h => ?_) (fun h => ?_) <;> try (exfalso; (try dsimp only at h); omega)) | (refine br_ndec (fun h => ?_) (fun h => ?_) <;> try (exfalso; (try dsimp only at h); omega)) | refine br_seq (fun h => ?_) (fun h => ?_) | refine br_nseq (fun h => ?_) (fun h => ?_) | refine br_not (fun h => ?_) (fun h => ?_) | refine br_intro (fun h => ?_) (fun h => ?_) | refine cond_intro rfl ?_ | (refine cond_intro ⟨rfl, ?_⟩ ?_; (first | omega | (dsimp only; omega) | decide)) | (refine cond_intro ?_ ?_; (first | omega | (dsimp only; omega) | decide | (simp only [Nat.add_zero, Int.toNat_natCast, *]; omega))))
    all_goals (conv => whnf)
    all_goals exact ret_pure rfl

/-- A rate and an error. -/
def rT (e : Int) (f t : ByteArray) (n d : Int) : SV := .tup [.agg [.str (orS e f), .str (orS e t), .int .i64 (orN e n), .int .i64 (orN e d)], .int .i64 e]
theorem rT_err {e : Int} {f t : ByteArray} {n d : Int} (he : e ≠ 0) : rT e f t n d = .tup [.agg [.str ⟨#[]⟩, .str ⟨#[]⟩, .int .i64 0, .int .i64 0], .int .i64 e] := by
  unfold rT orN orS; simp only [if_neg he]
theorem rT_ok {f t : ByteArray} {n d : Int} : rT 0 f t n d = .tup [.agg [.str f, .str t, .int .i64 n, .int .i64 d], .int .i64 0] := by
  unfold rT orN orS; simp only [if_true]

theorem rate_Inverse (f t : ByteArray) (n d : Int) : Glob Tryz.prog glT 101 [.agg [.str f, .str t, .int .i64 n, .int .i64 d]] (rT (rchk f t n d) t f (redN d n) (redD d n)) := by
  have c1 := rate_Check f t n d
  refine fc_of mixed T_ok Tryz.func101 rfl (by kernel_rfl) (by kernel_rfl) (by kernel_rfl) ?_
  by_cases e1 : rchk f t n d = 0
  · obtain ⟨_, _, _, b1, b2, b3, b4⟩ := rchk_ok e1
    rw [e1] at c1
    rw [e1, rT_ok]
    have c2 := rate_Reduce d n (by omega) (by omega)
    repeat' ((conv => whnf); first | (refine vcall_glob (c1) rfl rfl rfl rfl ?_) | (refine vcall_pure (c2) rfl rfl rfl ?_) | (refine br_dec (fun h => ?_) (fun h => ?_) <;> try (exfalso; (try dsimp only at h); omega)) | (refine br_ndec (fun h => ?_) (fun h => ?_) <;> try (exfalso; (try dsimp only at h); omega)) | refine br_seq (fun h => ?_) (fun h => ?_) | refine br_nseq (fun h => ?_) (fun h => ?_) | refine br_not (fun h => ?_) (fun h => ?_) | refine br_intro (fun h => ?_) (fun h => ?_) | refine cond_intro rfl ?_ | (refine cond_intro ⟨rfl, ?_⟩ ?_; (first | omega | (dsimp only; omega) | decide)) | (refine cond_intro ?_ ?_; (first | omega | (dsimp only; omega) | decide | (simp only [Nat.add_zero, Int.toNat_natCast, *]; omega))))
    all_goals (conv => whnf)
    all_goals exact ret_pure rfl
  · rw [rT_err e1]
    repeat' ((conv => whnf); first | (refine vcall_glob (c1) rfl rfl rfl rfl ?_) | (refine br_dec (fun h => ?_) (fun h => ?_) <;> try (exfalso; (try dsimp only at h); omega)) | (refine br_ndec (fun h => ?_) (fun h => ?_) <;> try (exfalso; (try dsimp only at h); omega)) | refine br_seq (fun h => ?_) (fun h => ?_) | refine br_nseq (fun h => ?_) (fun h => ?_) | refine br_not (fun h => ?_) (fun h => ?_) | refine br_intro (fun h => ?_) (fun h => ?_) | refine cond_intro rfl ?_ | (refine cond_intro ⟨rfl, ?_⟩ ?_; (first | omega | (dsimp only; omega) | decide)) | (refine cond_intro ?_ ?_; (first | omega | (dsimp only; omega) | decide | (simp only [Nat.add_zero, Int.toNat_natCast, *]; omega))))
    all_goals (conv => whnf)
    all_goals exact ret_pure rfl
theorem ref02_Inverse (f t : ByteArray) (n d : Int) (hf : f.size ≤ 9223372036854775000) (ht : t.size ≤ 9223372036854775000) : Pure Tryz.prog 87 [.agg [.str f, .str t, .int .i64 n, .int .i64 d]] (rT (rchk f t n d) t f (redN d n) (redD d n)) := by
  have c1 := ref02_Check f t n d hf ht
  refine fc_of mixed T_ok Tryz.func87 rfl (by kernel_rfl) (by kernel_rfl) (by kernel_rfl) ?_
  by_cases e1 : rchk f t n d = 0
  · obtain ⟨_, _, _, b1, b2, b3, b4⟩ := rchk_ok e1
    rw [e1] at c1
    rw [e1, rT_ok]
    have c2 := ref02_Reduce d n (by omega) (by omega)
    repeat' ((conv => whnf); first | (refine vcall_pure (c1) rfl rfl rfl ?_) | (refine vcall_pure (c2) rfl rfl rfl ?_) | (refine br_dec (fun h => ?_) (fun h => ?_) <;> try (exfalso; (try dsimp only at h); omega)) | (refine br_ndec (fun h => ?_) (fun h => ?_) <;> try (exfalso; (try dsimp only at h); omega)) | refine br_seq (fun h => ?_) (fun h => ?_) | refine br_nseq (fun h => ?_) (fun h => ?_) | refine br_not (fun h => ?_) (fun h => ?_) | refine br_intro (fun h => ?_) (fun h => ?_) | refine cond_intro rfl ?_ | (refine cond_intro ⟨rfl, ?_⟩ ?_; (first | omega | (dsimp only; omega) | decide)) | (refine cond_intro ?_ ?_; (first | omega | (dsimp only; omega) | decide | (simp only [Nat.add_zero, Int.toNat_natCast, *]; omega))))
    all_goals (conv => whnf)
    all_goals exact ret_pure rfl
  · rw [rT_err e1]
    repeat' ((conv => whnf); first | (refine vcall_pure (c1) rfl rfl rfl ?_) | (refine br_dec (fun h => ?_) (fun h => ?_) <;> try (exfalso; (try dsimp only at h); omega)) | (refine br_ndec (fun h => ?_) (fun h => ?_) <;> try (exfalso; (try dsimp only at h); omega)) | refine br_seq (fun h => ?_) (fun h => ?_) | refine br_nseq (fun h => ?_) (fun h => ?_) | refine br_not (fun h => ?_) (fun h => ?_) | refine br_intro (fun h => ?_) (fun h => ?_) | refine cond_intro rfl ?_ | (refine cond_intro ⟨rfl, ?_⟩ ?_; (first | omega | (dsimp only; omega) | decide)) | (refine cond_intro ?_ ?_; (first | omega | (dsimp only; omega) | decide | (simp only [Nat.add_zero, Int.toNat_natCast, *]; omega))))
    all_goals (conv => whnf)
    all_goals exact ret_pure rfl
end Go.Proofs.YtkbidlijinclcaaGreatDoor

/- Contracts of package rate, and of the reference's: products of rates, texts. -/
namespace Go.Proofs.YtkbidlijinclcaaGreatDoor
open Go.RowKit Go.Sy
attribute [local irreducible] vcall vloop vcallD retP
set_option maxRecDepth 100000
set_option linter.unusedVariables false
set_option linter.unusedSimpArgs false

/-- The product of two fractions in lowest terms: its parts. -/
def pA (a b c d : Int) : Int := redN (redN a b) (redD c d)
def pD (a b c d : Int) : Int := redD (redN a b) (redD c d)
def pC (a b c d : Int) : Int := redN (redN c d) (redD a b)
def pB (a b c d : Int) : Int := redD (redN c d) (redD a b)
/-- The error of a product. -/
def prE (a b c d : Int) : Int := if (1099511627776 : Int).tdiv (pC a b c d) < pA a b c d ∨ (1099511627776 : Int).tdiv (pD a b c d) < pB a b c d then 4 else 0
theorem p_bd {a b c d : Int} (ha : 1 ≤ a) (hb : 1 ≤ b) (hc : 1 ≤ c) (hd : 1 ≤ d) : (1 ≤ pA a b c d ∧ pA a b c d ≤ a) ∧ (1 ≤ pB a b c d ∧ pB a b c d ≤ b) ∧ (1 ≤ pC a b c d ∧ pC a b c d ≤ c) ∧ (1 ≤ pD a b c d ∧ pD a b c d ≤ d) := by
  obtain ⟨x1, x2, x3, x4⟩ := red_bd ha hb
  obtain ⟨y1, y2, y3, y4⟩ := red_bd hc hd
  obtain ⟨z1, z2, z3, z4⟩ := red_bd x1 y3
  obtain ⟨w1, w2, w3, w4⟩ := red_bd y1 x3
  unfold pA pB pC pD
  omega
theorem tdiv_ge {m x y : Int} (hm : 0 ≤ m) (hy : 1 ≤ y) (hx : 1 ≤ x) (h : ¬ m.tdiv y < x) : x * y ≤ m := by
  rw [Int.tdiv_eq_ediv_of_nonneg hm] at h
  have := Int.mul_le_mul_of_nonneg_right (show x ≤ m / y by omega) (show 0 ≤ y by omega)
  have h2 := Int.ediv_mul_le m (show y ≠ 0 by omega)
  omega
theorem prE_ok {a b c d : Int} (ha : 1 ≤ a) (hb : 1 ≤ b) (hc : 1 ≤ c) (hd : 1 ≤ d) (h : prE a b c d = 0) : pA a b c d * pC a b c d ≤ 1099511627776 ∧ 0 ≤ pA a b c d * pC a b c d ∧ pB a b c d * pD a b c d ≤ 1099511627776 ∧ 0 ≤ pB a b c d * pD a b c d := by
  obtain ⟨⟨a1, a2⟩, ⟨b1, b2⟩, ⟨c1, c2⟩, ⟨d1, d2⟩⟩ := p_bd ha hb hc hd
  unfold prE at h
  split at h
  · cases h
  · rename_i hn
    exact ⟨tdiv_ge (by omega) c1 a1 (fun h => hn (.inl h)), Int.mul_nonneg (by omega) (by omega), tdiv_ge (by omega) d1 b1 (fun h => hn (.inr h)), Int.mul_nonneg (by omega) (by omega)⟩
theorem prE_or (a b c d : Int) : prE a b c d = 4 ∨ prE a b c d = 0 := by unfold prE; split <;> simp
attribute [irreducible] pA pB pC pD prE

/-- The error of the rate by way of another currency. -/
def crE (f t : ByteArray) (n d : Int) (f' t' : ByteArray) (n' d' : Int) : Int :=
  if rchk f t n d ≠ 0 then rchk f t n d else if rchk f' t' n' d' ≠ 0 then rchk f' t' n' d' else if t ≠ f' ∨ f = t' then 11 else prE n d n' d'
attribute [irreducible] crE

theorem rate_Cross (f t : ByteArray) (n d : Int) (f' t' : ByteArray) (n' d' : Int) :
    Glob Tryz.prog glT 82 [.agg [.str f, .str t, .int .i64 n, .int .i64 d], .agg [.str f', .str t', .int .i64 n', .int .i64 d']] (rT (crE f t n d f' t' n' d') f t' (pA n d n' d' * pC n d n' d') (pB n d n' d' * pD n d n' d')) := by
  have c1 := rate_Check f t n d
  have c2 := rate_Check f' t' n' d'
  refine fc_of mixed T_ok Tryz.func82 rfl (by kernel_rfl) (by kernel_rfl) (by kernel_rfl) ?_
  by_cases e1 : rchk f t n d = 0
  · rw [e1] at c1
    by_cases e2 : rchk f' t' n' d' = 0
    · rw [e2] at c2
      by_cases e3 : t ≠ f' ∨ f = t'
      · have he : crE f t n d f' t' n' d' = 11 := by unfold crE; rw [if_neg (by omega), if_neg (by omega), if_pos e3]
        rw [he, rT_err (by omega)]
        repeat' ((conv => whnf); first | (refine vcall_glob (c1) rfl rfl rfl rfl ?_) | (refine vcall_glob (c2) rfl rfl rfl rfl ?_) | (refine br_dec (fun h => ?_) (fun h => ?_) <;> try (exfalso; (try dsimp only at h); omega)) | (refine br_ndec (fun h => ?_) (fun h => ?_) <;> try (exfalso; (try dsimp only at h); omega)) | refine br_seq (fun h => ?_) (fun h => ?_) | refine br_nseq (fun h => ?_) (fun h => ?_) | refine br_not (fun h => ?_) (fun h => ?_) | refine br_intro (fun h => ?_) (fun h => ?_) | refine cond_intro rfl ?_ | (refine cond_intro ⟨rfl, ?_⟩ ?_; (first | omega | (dsimp only; omega) | decide)) | (refine cond_intro ?_ ?_; (first | omega | (dsimp only; omega) | decide | (simp only [Nat.add_zero, Int.toNat_natCast, *]; omega))))
        all_goals (conv => whnf)
        all_goals first | exact ret_pure rfl | (exfalso; simp_all; done)
      · obtain ⟨_, _, _, b1, b2, b3, b4⟩ := rchk_ok e1
        obtain ⟨_, _, _, b1', b2', b3', b4'⟩ := rchk_ok e2
        have he : crE f t n d f' t' n' d' = prE n d n' d' := by unfold crE; rw [if_neg (by omega), if_neg (by omega), if_neg e3]
        obtain ⟨x1, x2, x3, x4⟩ := red_bd b1 b3
        obtain ⟨y1, y2, y3, y4⟩ := red_bd b1' b3'
        have r1 := rate_Reduce n d (by omega) (by omega)
        have r2 := rate_Reduce n' d' (by omega) (by omega)
        have r3 := rate_Reduce (redN n d) (redD n' d') (by omega) (by omega)
        have r4 := rate_Reduce (redN n' d') (redD n d) (by omega) (by omega)
        obtain ⟨⟨a1, a2⟩, ⟨k1, k2⟩, ⟨m1, m2⟩, ⟨o1, o2⟩⟩ := p_bd b1 b3 b1' b3'
        have hP := prE_ok b1 b3 b1' b3'
        have hQ : prE n d n' d' = if (1099511627776 : Int).tdiv (pC n d n' d') < pA n d n' d' ∨ (1099511627776 : Int).tdiv (pD n d n' d') < pB n d n' d' then 4 else 0 := by unfold prE; rfl
        rw [show redN (redN n d) (redD n' d') = pA n d n' d' from by unfold pA; rfl, show redD (redN n d) (redD n' d') = pD n d n' d' from by unfold pD; rfl] at r3
        rw [show redN (redN n' d') (redD n d) = pC n d n' d' from by unfold pC; rfl, show redD (redN n' d') (redD n d) = pB n d n' d' from by unfold pB; rfl] at r4
        have tb : ∀ x : Int, 1 ≤ x → IntKind.i64.wrap ((1099511627776 : Int).tdiv x) = (1099511627776 : Int).tdiv x := fun x hx => by
          have h1 := Int.tdiv_nonneg (a := 1099511627776) (b := x) (by omega) (by omega)
          have h2 := Int.tdiv_le_self (a := 1099511627776) x (by omega)
          rw [w64_in (by omega) (by omega)]
        have t1 := tb _ m1
        have t2 := tb _ o1
        rw [he]
        rcases prE_or n d n' d' with hp | hp
        · rw [hp, rT_err (by omega)]
          rw [hp] at hQ
          have hor : (1099511627776 : Int).tdiv (pC n d n' d') < pA n d n' d' ∨ (1099511627776 : Int).tdiv (pD n d n' d') < pB n d n' d' := by
            rcases Classical.em ((1099511627776 : Int).tdiv (pC n d n' d') < pA n d n' d' ∨ (1099511627776 : Int).tdiv (pD n d n' d') < pB n d n' d') with h | h
            · exact h
            · rw [if_neg h] at hQ; omega
          repeat' ((conv => whnf); first | (refine vcall_glob (c1) rfl rfl rfl rfl ?_) | (refine vcall_glob (c2) rfl rfl rfl rfl ?_) | (refine vcall_pure (r1) rfl rfl rfl ?_) | (refine vcall_pure (r2) rfl rfl rfl ?_) | (refine vcall_pure (r3) rfl rfl rfl ?_) | (refine vcall_pure (r4) rfl rfl rfl ?_) | (refine br_nseq (fun h => ?_) (fun h => ?_) <;> try (exfalso; exact e3 (.inl h))) | (refine br_seq (fun h => ?_) (fun h => ?_) <;> try (exfalso; exact e3 (.inr h))) | (refine br_dec (fun h => ?_) (fun h => ?_) <;> try (exfalso; (try dsimp only at h); omega)) | (refine br_ndec (fun h => ?_) (fun h => ?_) <;> try (exfalso; (try dsimp only at h); omega)) | refine br_seq (fun h => ?_) (fun h => ?_) | refine br_nseq (fun h => ?_) (fun h => ?_) | refine br_not (fun h => ?_) (fun h => ?_) | refine br_intro (fun h => ?_) (fun h => ?_) | refine cond_intro rfl ?_ | (refine cond_intro ⟨rfl, ?_⟩ ?_; (first | omega | (dsimp only; omega) | decide)) | (refine cond_intro ?_ ?_; (first | omega | (dsimp only; omega) | decide | (simp only [Nat.add_zero, Int.toNat_natCast, *]; omega))))
          all_goals (conv => whnf)
          all_goals first | exact ret_pure rfl | (exfalso; omega)
        · rw [hp] at hQ
          have hor : ¬ ((1099511627776 : Int).tdiv (pC n d n' d') < pA n d n' d' ∨ (1099511627776 : Int).tdiv (pD n d n' d') < pB n d n' d') := by
            intro h
            rw [if_pos h] at hQ; omega
          obtain ⟨q1, q2, q3, q4⟩ := hP hp
          have s1 : pA n d n' d' * pC n d n' d' = IntKind.i64.wrap (pA n d n' d' * pC n d n' d') := by rw [w64_in (by omega) (by omega)]
          have s2 : pB n d n' d' * pD n d n' d' = IntKind.i64.wrap (pB n d n' d' * pD n d n' d') := by rw [w64_in (by omega) (by omega)]
          rw [hp, rT_ok, s1, s2]
          repeat' ((conv => whnf); first | (refine vcall_glob (c1) rfl rfl rfl rfl ?_) | (refine vcall_glob (c2) rfl rfl rfl rfl ?_) | (refine vcall_pure (r1) rfl rfl rfl ?_) | (refine vcall_pure (r2) rfl rfl rfl ?_) | (refine vcall_pure (r3) rfl rfl rfl ?_) | (refine vcall_pure (r4) rfl rfl rfl ?_) | (refine br_nseq (fun h => ?_) (fun h => ?_) <;> try (exfalso; exact e3 (.inl h))) | (refine br_seq (fun h => ?_) (fun h => ?_) <;> try (exfalso; exact e3 (.inr h))) | (refine br_dec (fun h => ?_) (fun h => ?_) <;> try (exfalso; (try dsimp only at h); omega)) | (refine br_ndec (fun h => ?_) (fun h => ?_) <;> try (exfalso; (try dsimp only at h); omega)) | refine br_seq (fun h => ?_) (fun h => ?_) | refine br_nseq (fun h => ?_) (fun h => ?_) | refine br_not (fun h => ?_) (fun h => ?_) | refine br_intro (fun h => ?_) (fun h => ?_) | refine cond_intro rfl ?_ | (refine cond_intro ⟨rfl, ?_⟩ ?_; (first | omega | (dsimp only; omega) | decide)) | (refine cond_intro ?_ ?_; (first | omega | (dsimp only; omega) | decide | (simp only [Nat.add_zero, Int.toNat_natCast, *]; omega))))
          all_goals (conv => whnf)
          all_goals first | exact ret_pure rfl | (exfalso; omega)
    · have he : crE f t n d f' t' n' d' = rchk f' t' n' d' := by unfold crE; rw [if_neg (by omega), if_pos e2]
      rw [he, rT_err e2]
      repeat' ((conv => whnf); first | (refine vcall_glob (c1) rfl rfl rfl rfl ?_) | (refine vcall_glob (c2) rfl rfl rfl rfl ?_) | (refine br_dec (fun h => ?_) (fun h => ?_) <;> try (exfalso; (try dsimp only at h); omega)) | (refine br_ndec (fun h => ?_) (fun h => ?_) <;> try (exfalso; (try dsimp only at h); omega)) | refine br_seq (fun h => ?_) (fun h => ?_) | refine br_nseq (fun h => ?_) (fun h => ?_) | refine br_not (fun h => ?_) (fun h => ?_) | refine br_intro (fun h => ?_) (fun h => ?_) | refine cond_intro rfl ?_ | (refine cond_intro ⟨rfl, ?_⟩ ?_; (first | omega | (dsimp only; omega) | decide)) | (refine cond_intro ?_ ?_; (first | omega | (dsimp only; omega) | decide | (simp only [Nat.add_zero, Int.toNat_natCast, *]; omega))))
      all_goals (conv => whnf)
      all_goals exact ret_pure rfl
  · have he : crE f t n d f' t' n' d' = rchk f t n d := by unfold crE; rw [if_pos e1]
    rw [he, rT_err e1]
    repeat' ((conv => whnf); first | (refine vcall_glob (c1) rfl rfl rfl rfl ?_) | (refine vcall_glob (c2) rfl rfl rfl rfl ?_) | (refine br_dec (fun h => ?_) (fun h => ?_) <;> try (exfalso; (try dsimp only at h); omega)) | (refine br_ndec (fun h => ?_) (fun h => ?_) <;> try (exfalso; (try dsimp only at h); omega)) | refine br_seq (fun h => ?_) (fun h => ?_) | refine br_nseq (fun h => ?_) (fun h => ?_) | refine br_not (fun h => ?_) (fun h => ?_) | refine br_intro (fun h => ?_) (fun h => ?_) | refine cond_intro rfl ?_ | (refine cond_intro ⟨rfl, ?_⟩ ?_; (first | omega | (dsimp only; omega) | decide)) | (refine cond_intro ?_ ?_; (first | omega | (dsimp only; omega) | decide | (simp only [Nat.add_zero, Int.toNat_natCast, *]; omega))))
    all_goals (conv => whnf)
    all_goals exact ret_pure rfl
end Go.Proofs.YtkbidlijinclcaaGreatDoor

/- Contracts of package rate, and of the reference's: texts; the law's examples. -/
namespace Go.Proofs.YtkbidlijinclcaaGreatDoor
open Go.RowKit Go.Sy
attribute [local irreducible] vcall vloop vcallD retP
set_option maxRecDepth 100000
set_option linter.unusedVariables false
set_option linter.unusedSimpArgs false

theorem curB_3 {s : ByteArray} (h : curB s = true) : s.size = 3 := by
  rcases Nat.decEq s.size 3 with e | e
  · rw [curB_size e] at h; cases h
  · exact e

/-- The text of a rate. -/
def rtxt (f t : ByteArray) (n d : Int) : ByteArray := if rchk f t n d = 0 then f ++ ⟨#[47]⟩ ++ t ++ ⟨#[32]⟩ ++ decI n ++ ⟨#[47]⟩ ++ decI d else ⟨#[]⟩
attribute [irreducible] rtxt

def usd : ByteArray := ⟨#[85, 83, 68]⟩
def eur : ByteArray := ⟨#[69, 85, 82]⟩
def gbp : ByteArray := ⟨#[71, 66, 80]⟩
def jpy : ByteArray := ⟨#[74, 80, 89]⟩

theorem decI_small {n : Nat} (h : n < 10) : decI (n : Int) = bytesOf [((48 + n : Nat) : Int)] := by
  unfold decI dec
  rw [if_neg (by omega), Int.toNat_natCast, (dec_small n (by omega)).1 h]

end Go.Proofs.YtkbidlijinclcaaGreatDoor

/- The laws of package rate: checks, conversions. -/
namespace Go.Proofs.YtkbidlijinclcaaGreatDoor
open Go.RowKit Go.Sy
attribute [local irreducible] vcall vloop vcallD retP
set_option maxRecDepth 100000
set_option linter.unusedVariables false
set_option linter.unusedSimpArgs false

theorem wf_i64 {n : Int} (h : (Lit.int .i64 n).wf = true) : -9223372036854775808 ≤ n ∧ n ≤ 9223372036854775807 := by
  simp only [Lit.wf, Bool.and_eq_true, decide_eq_true_eq] at h
  exact h

end Go.Proofs.YtkbidlijinclcaaGreatDoor

/- The law on made rates: products of fractions, a rate with a markup. -/
namespace Go.Proofs.YtkbidlijinclcaaGreatDoor
open Go.RowKit Go.Sy
attribute [local irreducible] vcall vloop vcallD retP
set_option maxRecDepth 100000
set_option linter.unusedVariables false
set_option linter.unusedSimpArgs false

theorem red_uniq {g p q : Nat} (hg : 0 < g) (hc : p.Coprime q) : g * p / Nat.gcd (g * p) (g * q) = p ∧ g * q / Nat.gcd (g * p) (g * q) = q := by
  rw [Nat.gcd_mul_left, hc.gcd_eq_one, Nat.mul_one]
  exact ⟨Nat.mul_div_cancel_left _ hg, Nat.mul_div_cancel_left _ hg⟩
theorem split_gcd (a b : Nat) (h : 0 < a) : ∃ g x y, 0 < g ∧ a = g * x ∧ b = g * y ∧ x.Coprime y ∧ x = a / Nat.gcd a b ∧ y = b / Nat.gcd a b := by
  have hg : 0 < Nat.gcd a b := Nat.gcd_pos_of_pos_left _ h
  exact ⟨Nat.gcd a b, _, _, hg, (Nat.mul_div_cancel' (Nat.gcd_dvd_left a b)).symm, (Nat.mul_div_cancel' (Nat.gcd_dvd_right a b)).symm, Nat.coprime_div_gcd_div_gcd hg, rfl, rfl⟩
theorem red_prod (a b c d : Nat) (ha : 0 < a) (hb : 0 < b) (hc : 0 < c) (hd : 0 < d) (a1 b1 c1 d1 a2 b2 c2 d2 : Nat)
    (e1 : a1 = a / Nat.gcd a b) (e2 : b1 = b / Nat.gcd a b) (e3 : c1 = c / Nat.gcd c d) (e4 : d1 = d / Nat.gcd c d)
    (e5 : a2 = a1 / Nat.gcd a1 d1) (e6 : d2 = d1 / Nat.gcd a1 d1) (e7 : c2 = c1 / Nat.gcd c1 b1) (e8 : b2 = b1 / Nat.gcd c1 b1) :
    a * c / Nat.gcd (a * c) (b * d) = a2 * c2 ∧ b * d / Nat.gcd (a * c) (b * d) = b2 * d2 := by
  obtain ⟨g1, x1, y1, p1, q1, r1, s1, t1, u1⟩ := split_gcd a b ha
  rw [← e1] at t1; rw [← e2] at u1; subst t1; subst u1
  obtain ⟨g2, x2, y2, p2, q2, r2, s2, t2, u2⟩ := split_gcd c d hc
  rw [← e3] at t2; rw [← e4] at u2; subst t2; subst u2
  have pa : 0 < x1 := Nat.pos_of_ne_zero (fun h => by subst h; simp at q1; omega)
  have pc : 0 < x2 := Nat.pos_of_ne_zero (fun h => by subst h; simp at q2; omega)
  obtain ⟨g3, x3, y3, p3, q3, r3, s3, t3, u3⟩ := split_gcd x1 y2 pa
  rw [← e5] at t3; rw [← e6] at u3; subst t3; subst u3
  obtain ⟨g4, x4, y4, p4, q4, r4, s4, t4, u4⟩ := split_gcd x2 y1 pc
  rw [← e7] at t4; rw [← e8] at u4; subst t4; subst u4
  have k1 : a * c = (g1 * g2 * g3 * g4) * (x3 * x4) := by
    rw [q1, q2, q3, q4]; ac_rfl
  have k2 : b * d = (g1 * g2 * g3 * g4) * (y4 * y3) := by
    rw [r1, r2, r3, r4]; ac_rfl
  rw [k1, k2]
  refine red_uniq (Nat.mul_pos (Nat.mul_pos (Nat.mul_pos p1 p2) p3) p4) ?_
  have f1 : x3.Coprime y4 := Nat.Coprime.coprime_dvd_left ⟨g3, by rw [Nat.mul_comm]; exact q3⟩ (Nat.Coprime.coprime_dvd_right ⟨g4, by rw [Nat.mul_comm]; exact r4⟩ s1)
  have f2 : x4.Coprime y3 := Nat.Coprime.coprime_dvd_left ⟨g4, by rw [Nat.mul_comm]; exact q4⟩ (Nat.Coprime.coprime_dvd_right ⟨g3, by rw [Nat.mul_comm]; exact r3⟩ s2)
  exact Nat.Coprime.mul_left (Nat.Coprime.mul_right f1 s3) (Nat.Coprime.mul_right s4 f2)

theorem redN_nat {a b : Int} (ha : 1 ≤ a) (hb : 1 ≤ b) : redN a b = ((a.toNat / Nat.gcd a.toNat b.toNat : Nat) : Int) := by
  unfold redN gcdI
  rw [if_neg (by omega)]
  obtain ⟨x, rfl⟩ : ∃ x : Nat, a = x := ⟨a.toNat, by omega⟩
  rfl
theorem redD_nat {a b : Int} (ha : 1 ≤ a) (hb : 1 ≤ b) : redD a b = ((b.toNat / Nat.gcd a.toNat b.toNat : Nat) : Int) := by
  unfold redD gcdI
  rw [if_neg (by omega)]
  obtain ⟨x, rfl⟩ : ∃ x : Nat, b = x := ⟨b.toNat, by omega⟩
  rfl
theorem red_mul {a b c d : Int} (ha : 1 ≤ a) (hb : 1 ≤ b) (hc : 1 ≤ c) (hd : 1 ≤ d) : redN (a * c) (b * d) = pA a b c d * pC a b c d ∧ redD (a * c) (b * d) = pB a b c d * pD a b c d := by
  obtain ⟨x1, x2, x3, x4⟩ := red_bd ha hb
  obtain ⟨y1, y2, y3, y4⟩ := red_bd hc hd
  have k1 : 1 ≤ a * c := Int.mul_pos (by omega) (by omega)
  have k2 : 1 ≤ b * d := Int.mul_pos (by omega) (by omega)
  have h := red_prod a.toNat b.toNat c.toNat d.toNat (by omega) (by omega) (by omega) (by omega) (redN a b).toNat (redD a b).toNat (redN c d).toNat (redD c d).toNat (pA a b c d).toNat (pB a b c d).toNat (pC a b c d).toNat (pD a b c d).toNat
    (by rw [redN_nat ha hb]; rfl) (by rw [redD_nat ha hb]; rfl) (by rw [redN_nat hc hd]; rfl) (by rw [redD_nat hc hd]; rfl)
    (by unfold pA; rw [redN_nat x1 y3]; rfl) (by unfold pD; rw [redD_nat x1 y3]; rfl) (by unfold pC; rw [redN_nat y1 x3]; rfl) (by unfold pB; rw [redD_nat y1 x3]; rfl)
  obtain ⟨⟨a1, _⟩, ⟨b1, _⟩, ⟨c1, _⟩, ⟨d1, _⟩⟩ := p_bd ha hb hc hd
  rw [redN_nat k1 k2, redD_nat k1 k2, Int.toNat_mul (by omega) (by omega), Int.toNat_mul (by omega) (by omega), h.1, h.2]
  constructor
  · rw [Int.natCast_mul, Int.toNat_of_nonneg (by omega), Int.toNat_of_nonneg (by omega)]
  · rw [Int.natCast_mul, Int.toNat_of_nonneg (by omega), Int.toNat_of_nonneg (by omega)]

theorem tdiv_lt_iff' {m x y : Int} (hm : 0 ≤ m) (hy : 1 ≤ y) : m.tdiv y < x ↔ m < x * y := by
  rw [Int.tdiv_eq_ediv_of_nonneg hm]
  exact Int.ediv_lt_iff_lt_mul (by omega)

/-- The error of a rate with a markup. -/
def mkE (f t : ByteArray) (n d b : Int) : Int := if rchk f t n d ≠ 0 then rchk f t n d else if b < -9999 ∨ 100000 < b then 4 else prE n d (10000 + b) 10000
attribute [irreducible] mkE

theorem ref02_product (a b c d : Int) (ha : 1 ≤ a) (hb : 1 ≤ b) (hc : 1 ≤ c) (hd : 1 ≤ d) (ha' : a ≤ 1099511627776) (hb' : b ≤ 1099511627776) (hc' : c ≤ 1099511627776) (hd' : d ≤ 1099511627776) :
    Pure Tryz.prog 88 [.int .i64 a, .int .i64 b, .int .i64 c, .int .i64 d] (.tup [.int .i64 (orN (prE a b c d) (pA a b c d * pC a b c d)), .int .i64 (orN (prE a b c d) (pB a b c d * pD a b c d)), .bool (decide (prE a b c d = 0))]) := by
  obtain ⟨x1, x2, x3, x4⟩ := red_bd ha hb
  obtain ⟨y1, y2, y3, y4⟩ := red_bd hc hd
  have r1 := ref02_Reduce a b (by omega) (by omega)
  have r2 := ref02_Reduce c d (by omega) (by omega)
  have r3 := ref02_Reduce (redN a b) (redD c d) (by omega) (by omega)
  have r4 := ref02_Reduce (redN c d) (redD a b) (by omega) (by omega)
  obtain ⟨⟨a1, _⟩, ⟨k1, _⟩, ⟨m1, _⟩, ⟨o1, _⟩⟩ := p_bd ha hb hc hd
  rw [show redN (redN a b) (redD c d) = pA a b c d from by unfold pA; rfl, show redD (redN a b) (redD c d) = pD a b c d from by unfold pD; rfl] at r3
  rw [show redN (redN c d) (redD a b) = pC a b c d from by unfold pC; rfl, show redD (redN c d) (redD a b) = pB a b c d from by unfold pB; rfl] at r4
  have tb : ∀ x : Int, 1 ≤ x → IntKind.i64.wrap ((1099511627776 : Int).tdiv x) = (1099511627776 : Int).tdiv x := fun x hx => by
    have h1 := Int.tdiv_nonneg (a := 1099511627776) (b := x) (by omega) (by omega)
    have h2 := Int.tdiv_le_self (a := 1099511627776) x (by omega)
    rw [w64_in (by omega) (by omega)]
  have t1 := tb _ m1
  have t2 := tb _ o1
  have hP := prE_ok ha hb hc hd
  have hQ : prE a b c d = if (1099511627776 : Int).tdiv (pC a b c d) < pA a b c d ∨ (1099511627776 : Int).tdiv (pD a b c d) < pB a b c d then 4 else 0 := by unfold prE; rfl
  refine fc_of mixed T_ok Tryz.func88 rfl (by kernel_rfl) (by kernel_rfl) (by kernel_rfl) ?_
  by_cases hor : (1099511627776 : Int).tdiv (pC a b c d) < pA a b c d ∨ (1099511627776 : Int).tdiv (pD a b c d) < pB a b c d
  · rw [if_pos hor] at hQ
    rw [hQ]
    unfold orN
    rw [if_neg (by omega), if_neg (by omega), decide_eq_false (by omega)]
    repeat' ((conv => whnf); first | (refine vcall_pure (r1) rfl rfl rfl ?_) | (refine vcall_pure (r2) rfl rfl rfl ?_) | (refine vcall_pure (r3) rfl rfl rfl ?_) | (refine vcall_pure (r4) rfl rfl rfl ?_) | (refine br_dec (fun h => ?_) (fun h => ?_) <;> try (exfalso; (try dsimp only at h); omega)) | (refine br_ndec (fun h => ?_) (fun h => ?_) <;> try (exfalso; (try dsimp only at h); omega)) | refine br_seq (fun h => ?_) (fun h => ?_) | refine br_nseq (fun h => ?_) (fun h => ?_) | refine br_not (fun h => ?_) (fun h => ?_) | refine br_intro (fun h => ?_) (fun h => ?_) | refine cond_intro rfl ?_ | (refine cond_intro ⟨rfl, ?_⟩ ?_; (first | omega | (dsimp only; omega) | decide)) | (refine cond_intro ?_ ?_; (first | omega | (dsimp only; omega) | decide | (simp only [Nat.add_zero, Int.toNat_natCast, *]; omega))))
    all_goals (conv => whnf)
    all_goals first | exact ret_pure rfl | (exfalso; omega)
  · rw [if_neg hor] at hQ
    obtain ⟨q1, q2, q3, q4⟩ := hP hQ
    have s1 : pA a b c d * pC a b c d = IntKind.i64.wrap (pA a b c d * pC a b c d) := by rw [w64_in (by omega) (by omega)]
    have s2 : pB a b c d * pD a b c d = IntKind.i64.wrap (pB a b c d * pD a b c d) := by rw [w64_in (by omega) (by omega)]
    rw [hQ]
    unfold orN
    rw [if_pos rfl, if_pos rfl, decide_eq_true rfl, s1, s2]
    repeat' ((conv => whnf); first | (refine vcall_pure (r1) rfl rfl rfl ?_) | (refine vcall_pure (r2) rfl rfl rfl ?_) | (refine vcall_pure (r3) rfl rfl rfl ?_) | (refine vcall_pure (r4) rfl rfl rfl ?_) | (refine br_dec (fun h => ?_) (fun h => ?_) <;> try (exfalso; (try dsimp only at h); omega)) | (refine br_ndec (fun h => ?_) (fun h => ?_) <;> try (exfalso; (try dsimp only at h); omega)) | refine br_seq (fun h => ?_) (fun h => ?_) | refine br_nseq (fun h => ?_) (fun h => ?_) | refine br_not (fun h => ?_) (fun h => ?_) | refine br_intro (fun h => ?_) (fun h => ?_) | refine cond_intro rfl ?_ | (refine cond_intro ⟨rfl, ?_⟩ ?_; (first | omega | (dsimp only; omega) | decide)) | (refine cond_intro ?_ ?_; (first | omega | (dsimp only; omega) | decide | (simp only [Nat.add_zero, Int.toNat_natCast, *]; omega))))
    all_goals (conv => whnf)
    all_goals first | exact ret_pure rfl | (exfalso; omega)

theorem prE_dec {a b c d : Int} : prE a b c d = 0 ∨ prE a b c d = 4 := by rcases prE_or a b c d with h | h <;> simp [h]

theorem ref02_Cross (f t : ByteArray) (n d : Int) (f' t' : ByteArray) (n' d' : Int) (hf : f.size ≤ 9223372036854775000) (ht : t.size ≤ 9223372036854775000) (hf' : f'.size ≤ 9223372036854775000) (ht' : t'.size ≤ 9223372036854775000) :
    Pure Tryz.prog 63 [.agg [.str f, .str t, .int .i64 n, .int .i64 d], .agg [.str f', .str t', .int .i64 n', .int .i64 d']] (rT (crE f t n d f' t' n' d') f t' (pA n d n' d' * pC n d n' d') (pB n d n' d' * pD n d n' d')) := by
  have c1 := ref02_Check f t n d hf ht
  have c2 := ref02_Check f' t' n' d' hf' ht'
  refine fc_of mixed T_ok Tryz.func63 rfl (by kernel_rfl) (by kernel_rfl) (by kernel_rfl) ?_
  by_cases e1 : rchk f t n d = 0
  · rw [e1] at c1
    by_cases e2 : rchk f' t' n' d' = 0
    · rw [e2] at c2
      by_cases e3 : t ≠ f' ∨ f = t'
      · have he : crE f t n d f' t' n' d' = 11 := by unfold crE; rw [if_neg (by omega), if_neg (by omega), if_pos e3]
        rw [he, rT_err (by omega)]
        repeat' ((conv => whnf); first | (refine vcall_pure (c1) rfl rfl rfl ?_) | (refine vcall_pure (c2) rfl rfl rfl ?_) | (refine br_dec (fun h => ?_) (fun h => ?_) <;> try (exfalso; (try dsimp only at h); omega)) | (refine br_ndec (fun h => ?_) (fun h => ?_) <;> try (exfalso; (try dsimp only at h); omega)) | refine br_seq (fun h => ?_) (fun h => ?_) | refine br_nseq (fun h => ?_) (fun h => ?_) | refine br_not (fun h => ?_) (fun h => ?_) | refine br_intro (fun h => ?_) (fun h => ?_) | refine cond_intro rfl ?_ | (refine cond_intro ⟨rfl, ?_⟩ ?_; (first | omega | (dsimp only; omega) | decide)) | (refine cond_intro ?_ ?_; (first | omega | (dsimp only; omega) | decide | (simp only [Nat.add_zero, Int.toNat_natCast, *]; omega))))
        all_goals (conv => whnf)
        all_goals first | exact ret_pure rfl | (exfalso; simp_all; done)
      · obtain ⟨_, _, _, b1, b2, b3, b4⟩ := rchk_ok e1
        obtain ⟨_, _, _, b1', b2', b3', b4'⟩ := rchk_ok e2
        have he : crE f t n d f' t' n' d' = prE n d n' d' := by unfold crE; rw [if_neg (by omega), if_neg (by omega), if_neg e3]
        have c3 := ref02_product n d n' d' b1 b3 b1' b3' b2 b4 b2' b4'
        rw [he]
        rcases prE_dec (a := n) (b := d) (c := n') (d := d') with hp | hp
        · rw [hp, rT_ok]
          rw [hp, decide_eq_true rfl] at c3
          unfold orN at c3
          rw [if_pos rfl, if_pos rfl] at c3
          repeat' ((conv => whnf); first | (refine vcall_pure (c1) rfl rfl rfl ?_) | (refine vcall_pure (c2) rfl rfl rfl ?_) | (refine vcall_pure (c3) rfl rfl rfl ?_) | (refine br_nseq (fun h => ?_) (fun h => ?_) <;> try (exfalso; exact e3 (.inl h))) | (refine br_seq (fun h => ?_) (fun h => ?_) <;> try (exfalso; exact e3 (.inr h))) | (refine br_dec (fun h => ?_) (fun h => ?_) <;> try (exfalso; (try dsimp only at h); omega)) | (refine br_ndec (fun h => ?_) (fun h => ?_) <;> try (exfalso; (try dsimp only at h); omega)) | refine br_seq (fun h => ?_) (fun h => ?_) | refine br_nseq (fun h => ?_) (fun h => ?_) | refine br_not (fun h => ?_) (fun h => ?_) | refine br_intro (fun h => ?_) (fun h => ?_) | refine cond_intro rfl ?_ | (refine cond_intro ⟨rfl, ?_⟩ ?_; (first | omega | (dsimp only; omega) | decide)) | (refine cond_intro ?_ ?_; (first | omega | (dsimp only; omega) | decide | (simp only [Nat.add_zero, Int.toNat_natCast, *]; omega))))
          all_goals (conv => whnf)
          all_goals exact ret_pure rfl
        · rw [hp, rT_err (by omega)]
          rw [hp, decide_eq_false (by omega)] at c3
          repeat' ((conv => whnf); first | (refine vcall_pure (c1) rfl rfl rfl ?_) | (refine vcall_pure (c2) rfl rfl rfl ?_) | (refine vcall_pure (c3) rfl rfl rfl ?_) | (refine br_nseq (fun h => ?_) (fun h => ?_) <;> try (exfalso; exact e3 (.inl h))) | (refine br_seq (fun h => ?_) (fun h => ?_) <;> try (exfalso; exact e3 (.inr h))) | (refine br_dec (fun h => ?_) (fun h => ?_) <;> try (exfalso; (try dsimp only at h); omega)) | (refine br_ndec (fun h => ?_) (fun h => ?_) <;> try (exfalso; (try dsimp only at h); omega)) | refine br_seq (fun h => ?_) (fun h => ?_) | refine br_nseq (fun h => ?_) (fun h => ?_) | refine br_not (fun h => ?_) (fun h => ?_) | refine br_intro (fun h => ?_) (fun h => ?_) | refine cond_intro rfl ?_ | (refine cond_intro ⟨rfl, ?_⟩ ?_; (first | omega | (dsimp only; omega) | decide)) | (refine cond_intro ?_ ?_; (first | omega | (dsimp only; omega) | decide | (simp only [Nat.add_zero, Int.toNat_natCast, *]; omega))))
          all_goals (conv => whnf)
          all_goals exact ret_pure rfl
    · have he : crE f t n d f' t' n' d' = rchk f' t' n' d' := by unfold crE; rw [if_neg (by omega), if_pos e2]
      rw [he, rT_err e2]
      repeat' ((conv => whnf); first | (refine vcall_pure (c1) rfl rfl rfl ?_) | (refine vcall_pure (c2) rfl rfl rfl ?_) | (refine br_dec (fun h => ?_) (fun h => ?_) <;> try (exfalso; (try dsimp only at h); omega)) | (refine br_ndec (fun h => ?_) (fun h => ?_) <;> try (exfalso; (try dsimp only at h); omega)) | refine br_seq (fun h => ?_) (fun h => ?_) | refine br_nseq (fun h => ?_) (fun h => ?_) | refine br_not (fun h => ?_) (fun h => ?_) | refine br_intro (fun h => ?_) (fun h => ?_) | refine cond_intro rfl ?_ | (refine cond_intro ⟨rfl, ?_⟩ ?_; (first | omega | (dsimp only; omega) | decide)) | (refine cond_intro ?_ ?_; (first | omega | (dsimp only; omega) | decide | (simp only [Nat.add_zero, Int.toNat_natCast, *]; omega))))
      all_goals (conv => whnf)
      all_goals exact ret_pure rfl
  · have he : crE f t n d f' t' n' d' = rchk f t n d := by unfold crE; rw [if_pos e1]
    rw [he, rT_err e1]
    repeat' ((conv => whnf); first | (refine vcall_pure (c1) rfl rfl rfl ?_) | (refine vcall_pure (c2) rfl rfl rfl ?_) | (refine br_dec (fun h => ?_) (fun h => ?_) <;> try (exfalso; (try dsimp only at h); omega)) | (refine br_ndec (fun h => ?_) (fun h => ?_) <;> try (exfalso; (try dsimp only at h); omega)) | refine br_seq (fun h => ?_) (fun h => ?_) | refine br_nseq (fun h => ?_) (fun h => ?_) | refine br_not (fun h => ?_) (fun h => ?_) | refine br_intro (fun h => ?_) (fun h => ?_) | refine cond_intro rfl ?_ | (refine cond_intro ⟨rfl, ?_⟩ ?_; (first | omega | (dsimp only; omega) | decide)) | (refine cond_intro ?_ ?_; (first | omega | (dsimp only; omega) | decide | (simp only [Nat.add_zero, Int.toNat_natCast, *]; omega))))
    all_goals (conv => whnf)
    all_goals exact ret_pure rfl

end Go.Proofs.YtkbidlijinclcaaGreatDoor

/- The law on rates that are found in a list. -/
namespace Go.Proofs.YtkbidlijinclcaaGreatDoor
open Go.RowKit Go.Sy
attribute [local irreducible] vcall vloop vcallD retP
set_option maxRecDepth 100000
set_option linter.unusedVariables false
set_option linter.unusedSimpArgs false

structure Rt where
  f : ByteArray
  t : ByteArray
  n : Int
  d : Int
def Rt.z : Rt := ⟨⟨#[]⟩, ⟨#[]⟩, 0, 0⟩
def Rt.sv (r : Rt) : SV := .agg [.str r.f, .str r.t, .int .i64 r.n, .int .i64 r.d]
/-- A list of rates, by columns. -/
structure RL where
  f : List ByteArray
  t : List ByteArray
  n : List Int
  d : List Int
  l : Nat
def RL.at (q : RL) (i : Nat) : Rt := ⟨q.f.getD i ⟨#[]⟩, q.t.getD i ⟨#[]⟩, q.n.getD i 0, q.d.getD i 0⟩
def RL.H (q : RL) : Heap := [(0, some (GB glT)), (1, some (.one true (.cols q.l [.sc (.strs q.f), .sc (.strs q.t), .sc (.ints .i64 q.n), .sc (.ints .i64 q.d)])))]

/-- A row that states the rate. -/
def RL.fits (q : RL) (f t : ByteArray) (i : Nat) : Prop := (q.at i).f = f ∧ (q.at i).t = t ∧ rchk (q.at i).f (q.at i).t (q.at i).n (q.at i).d = 0
instance (q : RL) (f t : ByteArray) (i : Nat) : Decidable (q.fits f t i) := by unfold RL.fits; infer_instance
/-- The first row of m, from row k on, that states the rate. -/
def stF (q : RL) (f t : ByteArray) : Nat → Nat → Option Rt
  | 0, _ => none
  | m + 1, k => if q.fits f t k then some (q.at k) else stF q f t m (k + 1)
def stO (q : RL) (f t : ByteArray) : Option Rt := stF q f t q.l 0
theorem stF_ok {q : RL} {f t : ByteArray} {r : Rt} : ∀ (m k : Nat), stF q f t m k = some r → r.f = f ∧ r.t = t ∧ rchk r.f r.t r.n r.d = 0
  | 0, k, h => by simp [stF] at h
  | m + 1, k, h => by
    simp only [stF] at h
    split at h
    · rename_i hf; cases h; exact hf
    · exact stF_ok m (k + 1) h
theorem stO_ok {q : RL} {f t : ByteArray} {r : Rt} (h : stO q f t = some r) : r.f = f ∧ r.t = t ∧ rchk r.f r.t r.n r.d = 0 := stF_ok _ _ h

theorem rate_stated (q : RL) (hl : q.l ≤ 1000) (f t : ByteArray) : FC Tryz.prog 2 100 [.sl 1 0 0 q.l, .str f, .str t] q.H (isOut ((stO q f t).getD Rt.z).sv [] 2) := by
  have ck := fun i => rate_Check (q.at i).f (q.at i).t (q.at i).n (q.at i).d
  refine fc_of mixed T_ok Tryz.func100 rfl (by kernel_rfl) (by kernel_rfl) (by kernel_rfl) ?_
  (conv => whnf)
  refine vloop_of (fun k : Nat => ⟨[(1, .str f), (2, .str t), (6, .ptr 2 0 0 0), (9, .sl 1 0 0 q.l), (10, .int .i64 q.l), (11, .int .i64 k)], (2, some (.one false (.cells [.str ⟨#[]⟩, .str ⟨#[]⟩, .int .i64 0, .int .i64 0]))) :: q.H, 3⟩) (fun k => k ≤ q.l ∧ stF q f t (q.l - k) k = stO q f t) (fun k => q.l - k) 0 [0, 1, 2] [] ⟨rfl, ⟨rfl, rfl, rfl, rfl, rfl, rfl, trivial⟩, ⟨rfl, gwk rfl, rfl, trivial⟩⟩ ⟨by omega, rfl⟩ ?_
  rintro k ⟨hk, hc⟩
  have step : k < q.l → stO q f t = if q.fits f t k then some (q.at k) else stF q f t (q.l - (k + 1)) (k + 1) := fun h => by
    rw [← hc, show q.l - k = (q.l - (k + 1)) + 1 from by omega, stF]
  have ckk := ck k
  repeat' ((conv => whnf); first | (refine vcall_glob (ckk) rfl rfl rfl rfl ?_) | (refine br_dec (fun h => ?_) (fun h => ?_) <;> try (exfalso; (try dsimp only at h); omega)) | (refine br_ndec (fun h => ?_) (fun h => ?_) <;> try (exfalso; (try dsimp only at h); omega)) | refine br_seq (fun h => ?_) (fun h => ?_) | refine br_nseq (fun h => ?_) (fun h => ?_) | refine br_not (fun h => ?_) (fun h => ?_) | refine br_intro (fun h => ?_) (fun h => ?_) | refine cond_intro rfl ?_ | (refine cond_intro ⟨rfl, ?_⟩ ?_; (first | omega | (dsimp only; omega) | decide)) | (refine cond_intro ?_ ?_; (first | omega | (dsimp only; omega) | decide | (simp only [Nat.add_zero, Int.toNat_natCast, *]; omega))))
  all_goals (conv => whnf)
  · have hf : q.fits f t k := ⟨by assumption, by assumption, by assumption⟩
    rw [step (by omega), if_pos hf]
    exact ret_out (l := [0, 1]) rfl rfl trivial allRw_nil
  · have hf : ¬ q.fits f t k := fun hf => absurd hf.2.2 (by assumption)
    refine ⟨k + 1, [0, 1, 2], [], ⟨by omega, by rw [step (by omega), if_neg hf]⟩, by omega, ⟨rfl, ⟨rfl, rfl, rfl, rfl, rfl, congrArg (fun z => some (SV.int .i64 z)) (i64_succ (by omega)), trivial⟩, ⟨rfl, gwk rfl, rfl, trivial⟩⟩⟩
  · have hf : ¬ q.fits f t k := fun hf => absurd hf.2.1 (by assumption)
    refine ⟨k + 1, [0, 1, 2], [], ⟨by omega, by rw [step (by omega), if_neg hf]⟩, by omega, ⟨rfl, ⟨rfl, rfl, rfl, rfl, rfl, congrArg (fun z => some (SV.int .i64 z)) (i64_succ (by omega)), trivial⟩, ⟨rfl, gwk rfl, rfl, trivial⟩⟩⟩
  · have hf : ¬ q.fits f t k := fun hf => absurd hf.1 (by assumption)
    refine ⟨k + 1, [0, 1, 2], [], ⟨by omega, by rw [step (by omega), if_neg hf]⟩, by omega, ⟨rfl, ⟨rfl, rfl, rfl, rfl, rfl, congrArg (fun z => some (SV.int .i64 z)) (i64_succ (by omega)), trivial⟩, ⟨rfl, gwk rfl, rfl, trivial⟩⟩⟩
  · have e : k = q.l := by omega
    rw [e, Nat.sub_self, stF] at hc
    rw [← hc]
    exact ret_out (l := [0, 1]) rfl rfl trivial allRw_nil

theorem ref02_stated (q : RL) (hl : q.l ≤ 1000) (hz : ∀ i, (q.at i).f.size ≤ 20 ∧ (q.at i).t.size ≤ 20) (f t : ByteArray) : FC Tryz.prog 2 86 [.sl 1 0 0 q.l, .str f, .str t] q.H (isOut (.tup [((stO q f t).getD Rt.z).sv, .bool (stO q f t).isSome]) [] 2) := by
  have ck := fun i => ref02_Check (q.at i).f (q.at i).t (q.at i).n (q.at i).d (by have := hz i; omega) (by have := hz i; omega)
  refine fc_of mixed T_ok Tryz.func86 rfl (by kernel_rfl) (by kernel_rfl) (by kernel_rfl) ?_
  (conv => whnf)
  refine vloop_of (fun k : Nat => ⟨[(0, .sl 1 0 0 q.l), (1, .str f), (2, .str t), (6, .ptr 2 0 0 0), (8, .int .i64 k)], (2, some (.one false (.cells [.str ⟨#[]⟩, .str ⟨#[]⟩, .int .i64 0, .int .i64 0]))) :: q.H, 3⟩) (fun k => k ≤ q.l ∧ stF q f t (q.l - k) k = stO q f t) (fun k => q.l - k) 0 [0, 1, 2] [] ⟨rfl, ⟨rfl, rfl, rfl, rfl, rfl, trivial⟩, ⟨rfl, gwk rfl, rfl, trivial⟩⟩ ⟨by omega, rfl⟩ ?_
  rintro k ⟨hk, hc⟩
  have step : k < q.l → stO q f t = if q.fits f t k then some (q.at k) else stF q f t (q.l - (k + 1)) (k + 1) := fun h => by
    rw [← hc, show q.l - k = (q.l - (k + 1)) + 1 from by omega, stF]
  have ckk := ck k
  repeat' ((conv => whnf); first | (refine vcall_pure (ckk) rfl rfl rfl ?_) | (refine br_dec (fun h => ?_) (fun h => ?_) <;> try (exfalso; (try dsimp only at h); omega)) | (refine br_ndec (fun h => ?_) (fun h => ?_) <;> try (exfalso; (try dsimp only at h); omega)) | refine br_seq (fun h => ?_) (fun h => ?_) | refine br_nseq (fun h => ?_) (fun h => ?_) | refine br_not (fun h => ?_) (fun h => ?_) | refine br_intro (fun h => ?_) (fun h => ?_) | refine cond_intro rfl ?_ | (refine cond_intro ⟨rfl, ?_⟩ ?_; (first | omega | (dsimp only; omega) | decide)) | (refine cond_intro ?_ ?_; (first | omega | (dsimp only; omega) | decide | (simp only [Nat.add_zero, Int.toNat_natCast, *]; omega))))
  all_goals (conv => whnf)
  · have hf : q.fits f t k := ⟨by assumption, by assumption, by assumption⟩
    rw [step (by omega), if_pos hf]
    exact ret_out (l := [0, 1]) rfl rfl trivial allRw_nil
  · have hf : ¬ q.fits f t k := fun hf => absurd hf.2.2 (by assumption)
    refine ⟨k + 1, [0, 1, 2], [], ⟨by omega, by rw [step (by omega), if_neg hf]⟩, by omega, ⟨rfl, ⟨rfl, rfl, rfl, rfl, congrArg (fun z => some (SV.int .i64 z)) (i64_succ (by omega)), trivial⟩, ⟨rfl, gwk rfl, rfl, trivial⟩⟩⟩
  · have hf : ¬ q.fits f t k := fun hf => absurd hf.2.1 (by assumption)
    refine ⟨k + 1, [0, 1, 2], [], ⟨by omega, by rw [step (by omega), if_neg hf]⟩, by omega, ⟨rfl, ⟨rfl, rfl, rfl, rfl, congrArg (fun z => some (SV.int .i64 z)) (i64_succ (by omega)), trivial⟩, ⟨rfl, gwk rfl, rfl, trivial⟩⟩⟩
  · have hf : ¬ q.fits f t k := fun hf => absurd hf.1 (by assumption)
    refine ⟨k + 1, [0, 1, 2], [], ⟨by omega, by rw [step (by omega), if_neg hf]⟩, by omega, ⟨rfl, ⟨rfl, rfl, rfl, rfl, congrArg (fun z => some (SV.int .i64 z)) (i64_succ (by omega)), trivial⟩, ⟨rfl, gwk rfl, rfl, trivial⟩⟩⟩
  · have e : k = q.l := by omega
    rw [e, Nat.sub_self, stF] at hc
    rw [← hc]
    exact ret_out (l := [0, 1]) rfl rfl trivial allRw_nil

def Rt.inv (r : Rt) : Rt := ⟨r.t, r.f, redN r.d r.n, redD r.d r.n⟩
/-- The direct rate. -/
def dirO (q : RL) (f t : ByteArray) : Option Rt := match stO q f t with | some r => some r | none => (match stO q t f with | some r => some r.inv | none => none)
theorem rchk_mk {f t : ByteArray} {n d : Int} (h1 : curB f = true) (h2 : curB t = true) (h3 : f ≠ t) (h4 : 1 ≤ n) (h5 : n ≤ 1099511627776) (h6 : 1 ≤ d) (h7 : d ≤ 1099511627776) : rchk f t n d = 0 := by
  unfold rchk
  rw [if_neg (by simp [h1, h2, h3]), if_neg (by omega)]
theorem rchk_inv {r : Rt} (h : rchk r.f r.t r.n r.d = 0) : rchk r.inv.f r.inv.t r.inv.n r.inv.d = 0 := by
  obtain ⟨h1, h2, h3, h4, h5, h6, h7⟩ := rchk_ok h
  obtain ⟨x1, x2, x3, x4⟩ := red_bd h6 h4
  exact rchk_mk h2 h1 (fun e => h3 e.symm) x1 (by have : r.inv.n = redN r.d r.n := rfl; omega) x3 (by have : r.inv.d = redD r.d r.n := rfl; omega)
theorem dirO_ok {q : RL} {f t : ByteArray} {r : Rt} (h : dirO q f t = some r) : r.f = f ∧ r.t = t ∧ rchk r.f r.t r.n r.d = 0 := by
  unfold dirO at h
  split at h
  · rename_i r' hr; cases h; exact stO_ok hr
  · split at h
    · rename_i r' hr
      cases h
      obtain ⟨a, b, c⟩ := stO_ok hr
      exact ⟨b, a, rchk_inv c⟩
    · cases h
attribute [irreducible] stO

theorem nz_of {r : Rt} (h : rchk r.f r.t r.n r.d = 0) : (seq r.f ⟨#[]⟩ && (seq r.t ⟨#[]⟩ && (decide (r.n = 0) && (decide (r.d = 0) && true)))) = false := by
  obtain ⟨_, _, _, h4, _⟩ := rchk_ok h
  rw [show decide (r.n = 0) = false from decide_eq_false (by omega)]
  simp
theorem rchk_z : rchk Rt.z.f Rt.z.t Rt.z.n Rt.z.d ≠ 0 := by
  intro h; obtain ⟨_, _, _, h4, _⟩ := rchk_ok h; simp [Rt.z] at h4

theorem rate_direct (q : RL) (hl : q.l ≤ 1000) (f t : ByteArray) : FC Tryz.prog 2 81 [.sl 1 0 0 q.l, .str f, .str t] q.H (isOut ((dirO q f t).getD Rt.z).sv [] 2) := by
  have s1 := rate_stated q hl f t
  have s2 := rate_stated q hl t f
  refine fc_of mixed T_ok Tryz.func81 rfl (by kernel_rfl) (by kernel_rfl) (by kernel_rfl) ?_
  cases h1 : stO q f t with
  | some r =>
    have nz := nz_of (stO_ok h1).2.2
    have hd : dirO q f t = some r := by unfold dirO; rw [h1]
    rw [h1] at s1
    rw [hd]
    repeat' ((conv => whnf); first | (refine vcall_out (l :=  [0, 1]) (s1 ) ⟨rfl, rfl, rfl, rfl, (by (repeat' (first | exact trivial | exact GB_wf | exact fun _ _ => rfl | constructor)); first | done | fail), (by (repeat' (first | exact trivial | exact GB_fits rfl | constructor)); first | done | fail)⟩ ?_) | (refine br_not (fun h => ?_) (fun h => ?_) <;> try (exfalso; exact absurd (nz.symm.trans h) (by decide))) | (refine br_dec (fun h => ?_) (fun h => ?_) <;> try (exfalso; (try dsimp only at h); omega)) | (refine br_ndec (fun h => ?_) (fun h => ?_) <;> try (exfalso; (try dsimp only at h); omega)) | refine br_seq (fun h => ?_) (fun h => ?_) | refine br_nseq (fun h => ?_) (fun h => ?_) | refine br_not (fun h => ?_) (fun h => ?_) | refine br_intro (fun h => ?_) (fun h => ?_) | refine cond_intro rfl ?_ | (refine cond_intro ⟨rfl, ?_⟩ ?_; (first | omega | (dsimp only; omega) | decide)) | (refine cond_intro ?_ ?_; (first | omega | (dsimp only; omega) | decide | (simp only [Nat.add_zero, Int.toNat_natCast, *]; omega))))
    all_goals (conv => whnf)
    all_goals exact ret_out (l := [0, 1]) rfl rfl trivial allRw_nil
  | none =>
    rw [h1] at s1
    cases h2 : stO q t f with
    | some r =>
      have ok := (stO_ok h2).2.2
      have c := rate_Inverse r.f r.t r.n r.d
      rw [ok, rT_ok] at c
      have hd : dirO q f t = some r.inv := by unfold dirO; rw [h1, h2]
      rw [h2] at s2
      rw [hd]
      repeat' ((conv => whnf); first | (refine vcall_out (l :=  [0, 1]) (s1 ) ⟨rfl, rfl, rfl, rfl, (by (repeat' (first | exact trivial | exact GB_wf | exact fun _ _ => rfl | constructor)); first | done | fail), (by (repeat' (first | exact trivial | exact GB_fits rfl | constructor)); first | done | fail)⟩ ?_) | (refine vcall_out (l :=  [0, 1]) (s2 ) ⟨rfl, rfl, rfl, rfl, (by (repeat' (first | exact trivial | exact GB_wf | exact fun _ _ => rfl | constructor)); first | done | fail), (by (repeat' (first | exact trivial | exact GB_fits rfl | constructor)); first | done | fail)⟩ ?_) | (refine vcall_glob (c) rfl rfl rfl rfl ?_) | (refine br_dec (fun h => ?_) (fun h => ?_) <;> try (exfalso; (try dsimp only at h); omega)) | (refine br_ndec (fun h => ?_) (fun h => ?_) <;> try (exfalso; (try dsimp only at h); omega)) | refine br_seq (fun h => ?_) (fun h => ?_) | refine br_nseq (fun h => ?_) (fun h => ?_) | refine br_not (fun h => ?_) (fun h => ?_) | refine br_intro (fun h => ?_) (fun h => ?_) | refine cond_intro rfl ?_ | (refine cond_intro ⟨rfl, ?_⟩ ?_; (first | omega | (dsimp only; omega) | decide)) | (refine cond_intro ?_ ?_; (first | omega | (dsimp only; omega) | decide | (simp only [Nat.add_zero, Int.toNat_natCast, *]; omega))))
      all_goals (conv => whnf)
      all_goals exact ret_out (l := [0, 1]) rfl rfl trivial allRw_nil
    | none =>
      have c := rate_Inverse Rt.z.f Rt.z.t Rt.z.n Rt.z.d
      rw [rT_err rchk_z] at c
      have hd : dirO q f t = none := by unfold dirO; rw [h1, h2]
      have hz := rchk_z
      rw [h2] at s2
      rw [hd]
      generalize rchk Rt.z.f Rt.z.t Rt.z.n Rt.z.d = e at *
      repeat' ((conv => whnf); first | (refine vcall_out (l :=  [0, 1]) (s1 ) ⟨rfl, rfl, rfl, rfl, (by (repeat' (first | exact trivial | exact GB_wf | exact fun _ _ => rfl | constructor)); first | done | fail), (by (repeat' (first | exact trivial | exact GB_fits rfl | constructor)); first | done | fail)⟩ ?_) | (refine vcall_out (l :=  [0, 1]) (s2 ) ⟨rfl, rfl, rfl, rfl, (by (repeat' (first | exact trivial | exact GB_wf | exact fun _ _ => rfl | constructor)); first | done | fail), (by (repeat' (first | exact trivial | exact GB_fits rfl | constructor)); first | done | fail)⟩ ?_) | (refine vcall_glob (c) rfl rfl rfl rfl ?_) | (refine br_dec (fun h => ?_) (fun h => ?_) <;> try (exfalso; (try dsimp only at h); omega)) | (refine br_ndec (fun h => ?_) (fun h => ?_) <;> try (exfalso; (try dsimp only at h); omega)) | refine br_seq (fun h => ?_) (fun h => ?_) | refine br_nseq (fun h => ?_) (fun h => ?_) | refine br_not (fun h => ?_) (fun h => ?_) | refine br_intro (fun h => ?_) (fun h => ?_) | refine cond_intro rfl ?_ | (refine cond_intro ⟨rfl, ?_⟩ ?_; (first | omega | (dsimp only; omega) | decide)) | (refine cond_intro ?_ ?_; (first | omega | (dsimp only; omega) | decide | (simp only [Nat.add_zero, Int.toNat_natCast, *]; omega))))
      all_goals (conv => whnf)
      all_goals exact ret_out (l := [0, 1]) rfl rfl trivial allRw_nil

theorem ref02_direct (q : RL) (hl : q.l ≤ 1000) (hz : ∀ i, (q.at i).f.size ≤ 20 ∧ (q.at i).t.size ≤ 20) (f t : ByteArray) : FC Tryz.prog 2 62 [.sl 1 0 0 q.l, .str f, .str t] q.H (isOut (.tup [((dirO q f t).getD Rt.z).sv, .bool (dirO q f t).isSome]) [] 2) := by
  have s1 := ref02_stated q hl hz f t
  have s2 := ref02_stated q hl hz t f
  refine fc_of mixed T_ok Tryz.func62 rfl (by kernel_rfl) (by kernel_rfl) (by kernel_rfl) ?_
  cases h1 : stO q f t with
  | some r =>
    have hd : dirO q f t = some r := by unfold dirO; rw [h1]
    rw [h1] at s1
    rw [hd]
    repeat' ((conv => whnf); first | (refine vcall_out (l :=  [0, 1]) (s1 ) ⟨rfl, rfl, rfl, rfl, (by (repeat' (first | exact trivial | exact GB_wf | exact fun _ _ => rfl | constructor)); first | done | fail), (by (repeat' (first | exact trivial | exact GB_fits rfl | constructor)); first | done | fail)⟩ ?_) | (refine br_dec (fun h => ?_) (fun h => ?_) <;> try (exfalso; (try dsimp only at h); omega)) | (refine br_ndec (fun h => ?_) (fun h => ?_) <;> try (exfalso; (try dsimp only at h); omega)) | refine br_seq (fun h => ?_) (fun h => ?_) | refine br_nseq (fun h => ?_) (fun h => ?_) | refine br_not (fun h => ?_) (fun h => ?_) | refine br_intro (fun h => ?_) (fun h => ?_) | refine cond_intro rfl ?_ | (refine cond_intro ⟨rfl, ?_⟩ ?_; (first | omega | (dsimp only; omega) | decide)) | (refine cond_intro ?_ ?_; (first | omega | (dsimp only; omega) | decide | (simp only [Nat.add_zero, Int.toNat_natCast, *]; omega))))
    all_goals (conv => whnf)
    all_goals exact ret_out (l := [0, 1]) rfl rfl trivial allRw_nil
  | none =>
    rw [h1] at s1
    cases h2 : stO q t f with
    | some r =>
      have ok := (stO_ok h2).2.2
      have k1 := curB_3 (rchk_ok ok).1
      have k2 := curB_3 (rchk_ok ok).2.1
      have c := ref02_Inverse r.f r.t r.n r.d (by omega) (by omega)
      rw [ok, rT_ok] at c
      have hd : dirO q f t = some r.inv := by unfold dirO; rw [h1, h2]
      rw [h2] at s2
      rw [hd]
      repeat' ((conv => whnf); first | (refine vcall_out (l :=  [0, 1]) (s1 ) ⟨rfl, rfl, rfl, rfl, (by (repeat' (first | exact trivial | exact GB_wf | exact fun _ _ => rfl | constructor)); first | done | fail), (by (repeat' (first | exact trivial | exact GB_fits rfl | constructor)); first | done | fail)⟩ ?_) | (refine vcall_out (l :=  [0, 1]) (s2 ) ⟨rfl, rfl, rfl, rfl, (by (repeat' (first | exact trivial | exact GB_wf | exact fun _ _ => rfl | constructor)); first | done | fail), (by (repeat' (first | exact trivial | exact GB_fits rfl | constructor)); first | done | fail)⟩ ?_) | (refine vcall_pure (c) rfl rfl rfl ?_) | (refine br_dec (fun h => ?_) (fun h => ?_) <;> try (exfalso; (try dsimp only at h); omega)) | (refine br_ndec (fun h => ?_) (fun h => ?_) <;> try (exfalso; (try dsimp only at h); omega)) | refine br_seq (fun h => ?_) (fun h => ?_) | refine br_nseq (fun h => ?_) (fun h => ?_) | refine br_not (fun h => ?_) (fun h => ?_) | refine br_intro (fun h => ?_) (fun h => ?_) | refine cond_intro rfl ?_ | (refine cond_intro ⟨rfl, ?_⟩ ?_; (first | omega | (dsimp only; omega) | decide)) | (refine cond_intro ?_ ?_; (first | omega | (dsimp only; omega) | decide | (simp only [Nat.add_zero, Int.toNat_natCast, *]; omega))))
      all_goals (conv => whnf)
      all_goals exact ret_out (l := [0, 1]) rfl rfl trivial allRw_nil
    | none =>
      have hd : dirO q f t = none := by unfold dirO; rw [h1, h2]
      rw [h2] at s2
      rw [hd]
      repeat' ((conv => whnf); first | (refine vcall_out (l :=  [0, 1]) (s1 ) ⟨rfl, rfl, rfl, rfl, (by (repeat' (first | exact trivial | exact GB_wf | exact fun _ _ => rfl | constructor)); first | done | fail), (by (repeat' (first | exact trivial | exact GB_fits rfl | constructor)); first | done | fail)⟩ ?_) | (refine vcall_out (l :=  [0, 1]) (s2 ) ⟨rfl, rfl, rfl, rfl, (by (repeat' (first | exact trivial | exact GB_wf | exact fun _ _ => rfl | constructor)); first | done | fail), (by (repeat' (first | exact trivial | exact GB_fits rfl | constructor)); first | done | fail)⟩ ?_) | (refine br_dec (fun h => ?_) (fun h => ?_) <;> try (exfalso; (try dsimp only at h); omega)) | (refine br_ndec (fun h => ?_) (fun h => ?_) <;> try (exfalso; (try dsimp only at h); omega)) | refine br_seq (fun h => ?_) (fun h => ?_) | refine br_nseq (fun h => ?_) (fun h => ?_) | refine br_not (fun h => ?_) (fun h => ?_) | refine br_intro (fun h => ?_) (fun h => ?_) | refine cond_intro rfl ?_ | (refine cond_intro ⟨rfl, ?_⟩ ?_; (first | omega | (dsimp only; omega) | decide)) | (refine cond_intro ?_ ?_; (first | omega | (dsimp only; omega) | decide | (simp only [Nat.add_zero, Int.toNat_natCast, *]; omega))))
      all_goals (conv => whnf)
      all_goals exact ret_out (l := [0, 1]) rfl rfl trivial allRw_nil
attribute [irreducible] dirO

/-- What is found. -/
def findT (q : RL) (f t p : ByteArray) : SV :=
  if f = t then .tup [Rt.z.sv, .int .i64 11] else
  match dirO q f t with
  | some r => .tup [r.sv, .int .i64 0]
  | none => match dirO q f p, dirO q p t with
    | some a, some b => rT (crE a.f a.t a.n a.d b.f b.t b.n b.d) a.f b.t (pA a.n a.d b.n b.d * pC a.n a.d b.n b.d) (pB a.n a.d b.n b.d * pD a.n a.d b.n b.d)
    | _, _ => .tup [Rt.z.sv, .int .i64 6]

theorem z_eq : (seq Rt.z.f ⟨#[]⟩ && (seq Rt.z.t ⟨#[]⟩ && (decide (Rt.z.n = 0) && (decide (Rt.z.d = 0) && true)))) = true := by kernel_rfl

theorem rate_Find (q : RL) (hl : q.l ≤ 1000) (f t p : ByteArray) : FC Tryz.prog 2 58 [.sl 1 0 0 q.l, .str f, .str t, .str p] q.H (isOut (findT q f t p) [] 2) := by
  have s1 := rate_direct q hl f t
  have s2 := rate_direct q hl f p
  have s3 := rate_direct q hl p t
  refine fc_of mixed T_ok Tryz.func58 rfl (by kernel_rfl) (by kernel_rfl) (by kernel_rfl) ?_
  by_cases hft : f = t
  · have hT : findT q f t p = .tup [Rt.z.sv, .int .i64 11] := by unfold findT; rw [if_pos hft]
    rw [hT]
    repeat' ((conv => whnf); first | (refine br_seq (fun h => ?_) (fun h => ?_) <;> try (exact absurd hft h)) | (refine br_dec (fun h => ?_) (fun h => ?_) <;> try (exfalso; (try dsimp only at h); omega)) | (refine br_ndec (fun h => ?_) (fun h => ?_) <;> try (exfalso; (try dsimp only at h); omega)) | refine br_seq (fun h => ?_) (fun h => ?_) | refine br_nseq (fun h => ?_) (fun h => ?_) | refine br_not (fun h => ?_) (fun h => ?_) | refine br_intro (fun h => ?_) (fun h => ?_) | refine cond_intro rfl ?_ | (refine cond_intro ⟨rfl, ?_⟩ ?_; (first | omega | (dsimp only; omega) | decide)) | (refine cond_intro ?_ ?_; (first | omega | (dsimp only; omega) | decide | (simp only [Nat.add_zero, Int.toNat_natCast, *]; omega))))
    all_goals (conv => whnf)
    all_goals exact ret_out (l := [0, 1]) rfl rfl trivial allRw_nil
  · cases h1 : dirO q f t with
    | some r =>
      have hT : findT q f t p = .tup [r.sv, .int .i64 0] := by unfold findT; rw [if_neg hft, h1]
      have nz := nz_of (dirO_ok h1).2.2
      rw [h1] at s1
      rw [hT]
      repeat' ((conv => whnf); first | (refine vcall_out (l :=  [0, 1]) (s1 ) ⟨rfl, rfl, rfl, rfl, (by (repeat' (first | exact trivial | exact GB_wf | exact fun _ _ => rfl | constructor)); first | done | fail), (by (repeat' (first | exact trivial | exact GB_fits rfl | constructor)); first | done | fail)⟩ ?_) | (refine br_seq (fun h => ?_) (fun h => ?_) <;> try (exact absurd h hft)) | (refine br_not (fun h => ?_) (fun h => ?_) <;> try (exfalso; exact absurd (nz.symm.trans h) (by decide))) | (refine br_dec (fun h => ?_) (fun h => ?_) <;> try (exfalso; (try dsimp only at h); omega)) | (refine br_ndec (fun h => ?_) (fun h => ?_) <;> try (exfalso; (try dsimp only at h); omega)) | refine br_seq (fun h => ?_) (fun h => ?_) | refine br_nseq (fun h => ?_) (fun h => ?_) | refine br_not (fun h => ?_) (fun h => ?_) | refine br_intro (fun h => ?_) (fun h => ?_) | refine cond_intro rfl ?_ | (refine cond_intro ⟨rfl, ?_⟩ ?_; (first | omega | (dsimp only; omega) | decide)) | (refine cond_intro ?_ ?_; (first | omega | (dsimp only; omega) | decide | (simp only [Nat.add_zero, Int.toNat_natCast, *]; omega))))
      all_goals (conv => whnf)
      all_goals exact ret_out (l := [0, 1]) rfl rfl trivial allRw_nil
    | none =>
      rw [h1] at s1
      cases h2 : dirO q f p with
      | none =>
        have hT : findT q f t p = .tup [Rt.z.sv, .int .i64 6] := by unfold findT; rw [if_neg hft, h1, h2]
        rw [h2] at s2
        rw [hT]
        repeat' ((conv => whnf); first | (refine vcall_out (l :=  [0, 1]) (s1 ) ⟨rfl, rfl, rfl, rfl, (by (repeat' (first | exact trivial | exact GB_wf | exact fun _ _ => rfl | constructor)); first | done | fail), (by (repeat' (first | exact trivial | exact GB_fits rfl | constructor)); first | done | fail)⟩ ?_) | (refine vcall_out (l :=  [0, 1]) (s2 ) ⟨rfl, rfl, rfl, rfl, (by (repeat' (first | exact trivial | exact GB_wf | exact fun _ _ => rfl | constructor)); first | done | fail), (by (repeat' (first | exact trivial | exact GB_fits rfl | constructor)); first | done | fail)⟩ ?_) | (refine vcall_out (l :=  [0, 1]) (s3 ) ⟨rfl, rfl, rfl, rfl, (by (repeat' (first | exact trivial | exact GB_wf | exact fun _ _ => rfl | constructor)); first | done | fail), (by (repeat' (first | exact trivial | exact GB_fits rfl | constructor)); first | done | fail)⟩ ?_) | (refine vcallD_out (l :=  [0, 1]) (s2 ) ⟨rfl, rfl, rfl, rfl, (by (repeat' (first | exact trivial | exact GB_wf | exact fun _ _ => rfl | constructor)); first | done | fail), (by (repeat' (first | exact trivial | exact GB_fits rfl | constructor)); first | done | fail)⟩ ?_) | (refine vcallD_out (l :=  [0, 1]) (s3 ) ⟨rfl, rfl, rfl, rfl, (by (repeat' (first | exact trivial | exact GB_wf | exact fun _ _ => rfl | constructor)); first | done | fail), (by (repeat' (first | exact trivial | exact GB_fits rfl | constructor)); first | done | fail)⟩ ?_) | (refine br_seq (fun h => ?_) (fun h => ?_) <;> try (exact absurd h hft)) | (refine br_dec (fun h => ?_) (fun h => ?_) <;> try (exfalso; (try dsimp only at h); omega)) | (refine br_ndec (fun h => ?_) (fun h => ?_) <;> try (exfalso; (try dsimp only at h); omega)) | refine br_seq (fun h => ?_) (fun h => ?_) | refine br_nseq (fun h => ?_) (fun h => ?_) | refine br_not (fun h => ?_) (fun h => ?_) | refine br_intro (fun h => ?_) (fun h => ?_) | refine cond_intro rfl ?_ | (refine cond_intro ⟨rfl, ?_⟩ ?_; (first | omega | (dsimp only; omega) | decide)) | (refine cond_intro ?_ ?_; (first | omega | (dsimp only; omega) | decide | (simp only [Nat.add_zero, Int.toNat_natCast, *]; omega))))
        all_goals (conv => whnf)
        all_goals exact ret_out (l := [0, 1]) rfl rfl trivial allRw_nil
      | some a =>
        have nza := nz_of (dirO_ok h2).2.2
        rw [h2] at s2
        cases h3 : dirO q p t with
        | none =>
          have hT : findT q f t p = .tup [Rt.z.sv, .int .i64 6] := by unfold findT; rw [if_neg hft, h1, h2, h3]
          rw [h3] at s3
          rw [hT]
          repeat' ((conv => whnf); first | (refine vcall_out (l :=  [0, 1]) (s1 ) ⟨rfl, rfl, rfl, rfl, (by (repeat' (first | exact trivial | exact GB_wf | exact fun _ _ => rfl | constructor)); first | done | fail), (by (repeat' (first | exact trivial | exact GB_fits rfl | constructor)); first | done | fail)⟩ ?_) | (refine vcall_out (l :=  [0, 1]) (s2 ) ⟨rfl, rfl, rfl, rfl, (by (repeat' (first | exact trivial | exact GB_wf | exact fun _ _ => rfl | constructor)); first | done | fail), (by (repeat' (first | exact trivial | exact GB_fits rfl | constructor)); first | done | fail)⟩ ?_) | (refine vcall_out (l :=  [0, 1]) (s3 ) ⟨rfl, rfl, rfl, rfl, (by (repeat' (first | exact trivial | exact GB_wf | exact fun _ _ => rfl | constructor)); first | done | fail), (by (repeat' (first | exact trivial | exact GB_fits rfl | constructor)); first | done | fail)⟩ ?_) | (refine vcallD_out (l :=  [0, 1]) (s2 ) ⟨rfl, rfl, rfl, rfl, (by (repeat' (first | exact trivial | exact GB_wf | exact fun _ _ => rfl | constructor)); first | done | fail), (by (repeat' (first | exact trivial | exact GB_fits rfl | constructor)); first | done | fail)⟩ ?_) | (refine vcallD_out (l :=  [0, 1]) (s3 ) ⟨rfl, rfl, rfl, rfl, (by (repeat' (first | exact trivial | exact GB_wf | exact fun _ _ => rfl | constructor)); first | done | fail), (by (repeat' (first | exact trivial | exact GB_fits rfl | constructor)); first | done | fail)⟩ ?_) | (refine br_seq (fun h => ?_) (fun h => ?_) <;> try (exact absurd h hft)) | (refine br_intro (fun h => ?_) (fun h => ?_) <;> try (exfalso; exact absurd (nza.symm.trans h) (by decide))) | (refine br_dec (fun h => ?_) (fun h => ?_) <;> try (exfalso; (try dsimp only at h); omega)) | (refine br_ndec (fun h => ?_) (fun h => ?_) <;> try (exfalso; (try dsimp only at h); omega)) | refine br_seq (fun h => ?_) (fun h => ?_) | refine br_nseq (fun h => ?_) (fun h => ?_) | refine br_not (fun h => ?_) (fun h => ?_) | refine br_intro (fun h => ?_) (fun h => ?_) | refine cond_intro rfl ?_ | (refine cond_intro ⟨rfl, ?_⟩ ?_; (first | omega | (dsimp only; omega) | decide)) | (refine cond_intro ?_ ?_; (first | omega | (dsimp only; omega) | decide | (simp only [Nat.add_zero, Int.toNat_natCast, *]; omega))))
          all_goals (conv => whnf)
          all_goals exact ret_out (l := [0, 1]) rfl rfl trivial allRw_nil
        | some b =>
          have hT : findT q f t p = rT (crE a.f a.t a.n a.d b.f b.t b.n b.d) a.f b.t (pA a.n a.d b.n b.d * pC a.n a.d b.n b.d) (pB a.n a.d b.n b.d * pD a.n a.d b.n b.d) := by unfold findT; rw [if_neg hft, h1, h2, h3]
          have nzb := nz_of (dirO_ok h3).2.2
          have c := rate_Cross a.f a.t a.n a.d b.f b.t b.n b.d
          rw [h3] at s3
          rw [hT]
          repeat' ((conv => whnf); first | (refine vcall_out (l :=  [0, 1]) (s1 ) ⟨rfl, rfl, rfl, rfl, (by (repeat' (first | exact trivial | exact GB_wf | exact fun _ _ => rfl | constructor)); first | done | fail), (by (repeat' (first | exact trivial | exact GB_fits rfl | constructor)); first | done | fail)⟩ ?_) | (refine vcall_out (l :=  [0, 1]) (s2 ) ⟨rfl, rfl, rfl, rfl, (by (repeat' (first | exact trivial | exact GB_wf | exact fun _ _ => rfl | constructor)); first | done | fail), (by (repeat' (first | exact trivial | exact GB_fits rfl | constructor)); first | done | fail)⟩ ?_) | (refine vcall_out (l :=  [0, 1]) (s3 ) ⟨rfl, rfl, rfl, rfl, (by (repeat' (first | exact trivial | exact GB_wf | exact fun _ _ => rfl | constructor)); first | done | fail), (by (repeat' (first | exact trivial | exact GB_fits rfl | constructor)); first | done | fail)⟩ ?_) | (refine vcallD_out (l :=  [0, 1]) (s2 ) ⟨rfl, rfl, rfl, rfl, (by (repeat' (first | exact trivial | exact GB_wf | exact fun _ _ => rfl | constructor)); first | done | fail), (by (repeat' (first | exact trivial | exact GB_fits rfl | constructor)); first | done | fail)⟩ ?_) | (refine vcallD_out (l :=  [0, 1]) (s3 ) ⟨rfl, rfl, rfl, rfl, (by (repeat' (first | exact trivial | exact GB_wf | exact fun _ _ => rfl | constructor)); first | done | fail), (by (repeat' (first | exact trivial | exact GB_fits rfl | constructor)); first | done | fail)⟩ ?_) | (refine vcall_glob (c) rfl rfl rfl rfl ?_) | (refine br_seq (fun h => ?_) (fun h => ?_) <;> try (exact absurd h hft)) | (refine br_intro (fun h => ?_) (fun h => ?_) <;> try (exfalso; first | exact absurd (nza.symm.trans h) (by decide) | exact absurd (nzb.symm.trans h) (by decide))) | (refine br_dec (fun h => ?_) (fun h => ?_) <;> try (exfalso; (try dsimp only at h); omega)) | (refine br_ndec (fun h => ?_) (fun h => ?_) <;> try (exfalso; (try dsimp only at h); omega)) | refine br_seq (fun h => ?_) (fun h => ?_) | refine br_nseq (fun h => ?_) (fun h => ?_) | refine br_not (fun h => ?_) (fun h => ?_) | refine br_intro (fun h => ?_) (fun h => ?_) | refine cond_intro rfl ?_ | (refine cond_intro ⟨rfl, ?_⟩ ?_; (first | omega | (dsimp only; omega) | decide)) | (refine cond_intro ?_ ?_; (first | omega | (dsimp only; omega) | decide | (simp only [Nat.add_zero, Int.toNat_natCast, *]; omega))))
          all_goals (conv => whnf)
          all_goals exact ret_out (l := [0, 1]) rfl rfl trivial allRw_nil

theorem ref02_Find (q : RL) (hl : q.l ≤ 1000) (hz : ∀ i, (q.at i).f.size ≤ 20 ∧ (q.at i).t.size ≤ 20) (f t p : ByteArray) : FC Tryz.prog 2 42 [.sl 1 0 0 q.l, .str f, .str t, .str p] q.H (isOut (findT q f t p) [] 2) := by
  have s1 := ref02_direct q hl hz f t
  have s2 := ref02_direct q hl hz f p
  have s3 := ref02_direct q hl hz p t
  refine fc_of mixed T_ok Tryz.func42 rfl (by kernel_rfl) (by kernel_rfl) (by kernel_rfl) ?_
  by_cases hft : f = t
  · have hT : findT q f t p = .tup [Rt.z.sv, .int .i64 11] := by unfold findT; rw [if_pos hft]
    rw [hT]
    repeat' ((conv => whnf); first | (refine br_seq (fun h => ?_) (fun h => ?_) <;> try (exact absurd hft h)) | (refine br_dec (fun h => ?_) (fun h => ?_) <;> try (exfalso; (try dsimp only at h); omega)) | (refine br_ndec (fun h => ?_) (fun h => ?_) <;> try (exfalso; (try dsimp only at h); omega)) | refine br_seq (fun h => ?_) (fun h => ?_) | refine br_nseq (fun h => ?_) (fun h => ?_) | refine br_not (fun h => ?_) (fun h => ?_) | refine br_intro (fun h => ?_) (fun h => ?_) | refine cond_intro rfl ?_ | (refine cond_intro ⟨rfl, ?_⟩ ?_; (first | omega | (dsimp only; omega) | decide)) | (refine cond_intro ?_ ?_; (first | omega | (dsimp only; omega) | decide | (simp only [Nat.add_zero, Int.toNat_natCast, *]; omega))))
    all_goals (conv => whnf)
    all_goals exact ret_out (l := [0, 1]) rfl rfl trivial allRw_nil
  · cases h1 : dirO q f t with
    | some r =>
      have hT : findT q f t p = .tup [r.sv, .int .i64 0] := by unfold findT; rw [if_neg hft, h1]
      rw [h1] at s1
      rw [hT]
      repeat' ((conv => whnf); first | (refine vcall_out (l :=  [0, 1]) (s1 ) ⟨rfl, rfl, rfl, rfl, (by (repeat' (first | exact trivial | exact GB_wf | exact fun _ _ => rfl | constructor)); first | done | fail), (by (repeat' (first | exact trivial | exact GB_fits rfl | constructor)); first | done | fail)⟩ ?_) | (refine br_seq (fun h => ?_) (fun h => ?_) <;> try (exact absurd h hft)) | (refine br_dec (fun h => ?_) (fun h => ?_) <;> try (exfalso; (try dsimp only at h); omega)) | (refine br_ndec (fun h => ?_) (fun h => ?_) <;> try (exfalso; (try dsimp only at h); omega)) | refine br_seq (fun h => ?_) (fun h => ?_) | refine br_nseq (fun h => ?_) (fun h => ?_) | refine br_not (fun h => ?_) (fun h => ?_) | refine br_intro (fun h => ?_) (fun h => ?_) | refine cond_intro rfl ?_ | (refine cond_intro ⟨rfl, ?_⟩ ?_; (first | omega | (dsimp only; omega) | decide)) | (refine cond_intro ?_ ?_; (first | omega | (dsimp only; omega) | decide | (simp only [Nat.add_zero, Int.toNat_natCast, *]; omega))))
      all_goals (conv => whnf)
      all_goals exact ret_out (l := [0, 1]) rfl rfl trivial allRw_nil
    | none =>
      rw [h1] at s1
      cases h2 : dirO q f p with
      | none =>
        have hT : findT q f t p = .tup [Rt.z.sv, .int .i64 6] := by unfold findT; rw [if_neg hft, h1, h2]
        rw [h2] at s2
        rw [hT]
        repeat' ((conv => whnf); first | (refine vcall_out (l :=  [0, 1]) (s1 ) ⟨rfl, rfl, rfl, rfl, (by (repeat' (first | exact trivial | exact GB_wf | exact fun _ _ => rfl | constructor)); first | done | fail), (by (repeat' (first | exact trivial | exact GB_fits rfl | constructor)); first | done | fail)⟩ ?_) | (refine vcall_out (l :=  [0, 1]) (s2 ) ⟨rfl, rfl, rfl, rfl, (by (repeat' (first | exact trivial | exact GB_wf | exact fun _ _ => rfl | constructor)); first | done | fail), (by (repeat' (first | exact trivial | exact GB_fits rfl | constructor)); first | done | fail)⟩ ?_) | (refine vcall_out (l :=  [0, 1]) (s3 ) ⟨rfl, rfl, rfl, rfl, (by (repeat' (first | exact trivial | exact GB_wf | exact fun _ _ => rfl | constructor)); first | done | fail), (by (repeat' (first | exact trivial | exact GB_fits rfl | constructor)); first | done | fail)⟩ ?_) | (refine br_seq (fun h => ?_) (fun h => ?_) <;> try (exact absurd h hft)) | (refine br_dec (fun h => ?_) (fun h => ?_) <;> try (exfalso; (try dsimp only at h); omega)) | (refine br_ndec (fun h => ?_) (fun h => ?_) <;> try (exfalso; (try dsimp only at h); omega)) | refine br_seq (fun h => ?_) (fun h => ?_) | refine br_nseq (fun h => ?_) (fun h => ?_) | refine br_not (fun h => ?_) (fun h => ?_) | refine br_intro (fun h => ?_) (fun h => ?_) | refine cond_intro rfl ?_ | (refine cond_intro ⟨rfl, ?_⟩ ?_; (first | omega | (dsimp only; omega) | decide)) | (refine cond_intro ?_ ?_; (first | omega | (dsimp only; omega) | decide | (simp only [Nat.add_zero, Int.toNat_natCast, *]; omega))))
        all_goals (conv => whnf)
        all_goals exact ret_out (l := [0, 1]) rfl rfl trivial allRw_nil
      | some a =>
        rw [h2] at s2
        cases h3 : dirO q p t with
        | none =>
          have hT : findT q f t p = .tup [Rt.z.sv, .int .i64 6] := by unfold findT; rw [if_neg hft, h1, h2, h3]
          rw [h3] at s3
          rw [hT]
          repeat' ((conv => whnf); first | (refine vcall_out (l :=  [0, 1]) (s1 ) ⟨rfl, rfl, rfl, rfl, (by (repeat' (first | exact trivial | exact GB_wf | exact fun _ _ => rfl | constructor)); first | done | fail), (by (repeat' (first | exact trivial | exact GB_fits rfl | constructor)); first | done | fail)⟩ ?_) | (refine vcall_out (l :=  [0, 1]) (s2 ) ⟨rfl, rfl, rfl, rfl, (by (repeat' (first | exact trivial | exact GB_wf | exact fun _ _ => rfl | constructor)); first | done | fail), (by (repeat' (first | exact trivial | exact GB_fits rfl | constructor)); first | done | fail)⟩ ?_) | (refine vcall_out (l :=  [0, 1]) (s3 ) ⟨rfl, rfl, rfl, rfl, (by (repeat' (first | exact trivial | exact GB_wf | exact fun _ _ => rfl | constructor)); first | done | fail), (by (repeat' (first | exact trivial | exact GB_fits rfl | constructor)); first | done | fail)⟩ ?_) | (refine br_seq (fun h => ?_) (fun h => ?_) <;> try (exact absurd h hft)) | (refine br_dec (fun h => ?_) (fun h => ?_) <;> try (exfalso; (try dsimp only at h); omega)) | (refine br_ndec (fun h => ?_) (fun h => ?_) <;> try (exfalso; (try dsimp only at h); omega)) | refine br_seq (fun h => ?_) (fun h => ?_) | refine br_nseq (fun h => ?_) (fun h => ?_) | refine br_not (fun h => ?_) (fun h => ?_) | refine br_intro (fun h => ?_) (fun h => ?_) | refine cond_intro rfl ?_ | (refine cond_intro ⟨rfl, ?_⟩ ?_; (first | omega | (dsimp only; omega) | decide)) | (refine cond_intro ?_ ?_; (first | omega | (dsimp only; omega) | decide | (simp only [Nat.add_zero, Int.toNat_natCast, *]; omega))))
          all_goals (conv => whnf)
          all_goals exact ret_out (l := [0, 1]) rfl rfl trivial allRw_nil
        | some b =>
          have hT : findT q f t p = rT (crE a.f a.t a.n a.d b.f b.t b.n b.d) a.f b.t (pA a.n a.d b.n b.d * pC a.n a.d b.n b.d) (pB a.n a.d b.n b.d * pD a.n a.d b.n b.d) := by unfold findT; rw [if_neg hft, h1, h2, h3]
          have oka := rchk_ok (dirO_ok h2).2.2
          have okb := rchk_ok (dirO_ok h3).2.2
          have k1 := curB_3 oka.1
          have k2 := curB_3 oka.2.1
          have k3 := curB_3 okb.1
          have k4 := curB_3 okb.2.1
          have c := ref02_Cross a.f a.t a.n a.d b.f b.t b.n b.d (by omega) (by omega) (by omega) (by omega)
          rw [h3] at s3
          rw [hT]
          repeat' ((conv => whnf); first | (refine vcall_out (l :=  [0, 1]) (s1 ) ⟨rfl, rfl, rfl, rfl, (by (repeat' (first | exact trivial | exact GB_wf | exact fun _ _ => rfl | constructor)); first | done | fail), (by (repeat' (first | exact trivial | exact GB_fits rfl | constructor)); first | done | fail)⟩ ?_) | (refine vcall_out (l :=  [0, 1]) (s2 ) ⟨rfl, rfl, rfl, rfl, (by (repeat' (first | exact trivial | exact GB_wf | exact fun _ _ => rfl | constructor)); first | done | fail), (by (repeat' (first | exact trivial | exact GB_fits rfl | constructor)); first | done | fail)⟩ ?_) | (refine vcall_out (l :=  [0, 1]) (s3 ) ⟨rfl, rfl, rfl, rfl, (by (repeat' (first | exact trivial | exact GB_wf | exact fun _ _ => rfl | constructor)); first | done | fail), (by (repeat' (first | exact trivial | exact GB_fits rfl | constructor)); first | done | fail)⟩ ?_) | (refine vcall_pure (c) rfl rfl rfl ?_) | (refine br_seq (fun h => ?_) (fun h => ?_) <;> try (exact absurd h hft)) | (refine br_dec (fun h => ?_) (fun h => ?_) <;> try (exfalso; (try dsimp only at h); omega)) | (refine br_ndec (fun h => ?_) (fun h => ?_) <;> try (exfalso; (try dsimp only at h); omega)) | refine br_seq (fun h => ?_) (fun h => ?_) | refine br_nseq (fun h => ?_) (fun h => ?_) | refine br_not (fun h => ?_) (fun h => ?_) | refine br_intro (fun h => ?_) (fun h => ?_) | refine cond_intro rfl ?_ | (refine cond_intro ⟨rfl, ?_⟩ ?_; (first | omega | (dsimp only; omega) | decide)) | (refine cond_intro ?_ ?_; (first | omega | (dsimp only; omega) | decide | (simp only [Nat.add_zero, Int.toNat_natCast, *]; omega))))
          all_goals (conv => whnf)
          all_goals exact ret_out (l := [0, 1]) rfl rfl trivial allRw_nil
end Go.Proofs.YtkbidlijinclcaaGreatDoor

/- Contract: the positions of a currency in another one. -/
namespace Go.Proofs.YtkbidlijinclcaaGreatDoor
open Go.RowKit Go.Sy
attribute [local irreducible] vcall vloop vcallD retP
set_option maxRecDepth 100000
set_option linter.unusedVariables false
set_option linter.unusedSimpArgs false

/-- The error and the rate of Find. -/
def fiE (q : RL) (f t p : ByteArray) : Int :=
  if f = t then 11 else
  match dirO q f t with
  | some _ => 0
  | none => match dirO q f p, dirO q p t with
    | some a, some b => crE a.f a.t a.n a.d b.f b.t b.n b.d
    | _, _ => 6
def fiR (q : RL) (f t p : ByteArray) : Rt :=
  match dirO q f t with
  | some r => r
  | none => match dirO q f p, dirO q p t with
    | some a, some b => ⟨a.f, b.t, pA a.n a.d b.n b.d * pC a.n a.d b.n b.d, pB a.n a.d b.n b.d * pD a.n a.d b.n b.d⟩
    | _, _ => Rt.z
theorem findT_ok {q : RL} {f t p : ByteArray} (h : fiE q f t p = 0) : findT q f t p = .tup [(fiR q f t p).sv, .int .i64 0] := by
  unfold fiE at h
  unfold findT fiR
  by_cases e : f = t
  · rw [if_pos e] at h; cases h
  · rw [if_neg e] at h ⊢
    cases h1 : dirO q f t with
    | some r => rfl
    | none =>
      rw [h1] at h
      cases h2 : dirO q f p with
      | none => rw [h2] at h; cases h
      | some a =>
        cases h3 : dirO q p t with
        | none => rw [h2, h3] at h; cases h
        | some b =>
          rw [h2, h3] at h
          dsimp only at h ⊢
          rw [h, rT_ok]; rfl
theorem findT_err {q : RL} {f t p : ByteArray} (h : fiE q f t p ≠ 0) : findT q f t p = .tup [Rt.z.sv, .int .i64 (fiE q f t p)] := by
  unfold fiE at h ⊢
  unfold findT
  by_cases e : f = t
  · rw [if_pos e, if_pos e]
  · rw [if_neg e] at h ⊢
    rw [if_neg e]
    cases h1 : dirO q f t with
    | some r => rw [h1] at h; exact absurd rfl h
    | none =>
      rw [h1] at h
      cases h2 : dirO q f p with
      | none => rfl
      | some a =>
        cases h3 : dirO q p t with
        | none => rfl
        | some b =>
          rw [h2, h3] at h
          dsimp only at h ⊢
          rw [rT_err h]; rfl
theorem fiR_ok {q : RL} {f t p : ByteArray} (h : fiE q f t p = 0) : 0 ≤ (fiR q f t p).n ∧ (fiR q f t p).n ≤ 1099511627776 ∧ (fiR q f t p).f = f ∧ (fiR q f t p).t = t := by
  unfold fiE at h
  unfold fiR
  by_cases e : f = t
  · rw [if_pos e] at h; cases h
  · rw [if_neg e] at h
    cases h1 : dirO q f t with
    | some r =>
      have := dirO_ok h1
      have h2 := this.2.2
      unfold rchk at h2
      refine ⟨?_, ?_, this.1, this.2.1⟩ <;> (dsimp only; split at h2 <;> first | omega | (split at h2 <;> omega))
    | none =>
      rw [h1] at h
      cases h2 : dirO q f p with
      | none => rw [h2] at h; cases h
      | some a =>
        cases h3 : dirO q p t with
        | none => rw [h2, h3] at h; cases h
        | some b =>
          rw [h2, h3] at h
          dsimp only at h ⊢
          have ha := dirO_ok h2
          have hb := dirO_ok h3
          have ka := ha.2.2
          have kb := hb.2.2
          unfold crE at h
          rw [if_neg (by rw [ka]; simp), if_neg (by rw [kb]; simp)] at h
          split at h
          · cases h
          · have hp : 1 ≤ a.n ∧ 1 ≤ a.d := by
              unfold rchk at ka
              split at ka
              · cases ka
              · split at ka
                · cases ka
                · omega
            have hq : 1 ≤ b.n ∧ 1 ≤ b.d := by
              unfold rchk at kb
              split at kb
              · cases kb
              · split at kb
                · cases kb
                · omega
            have := prE_ok hp.1 hp.2 hq.1 hq.2 h
            exact ⟨this.2.1, this.1, ha.1, hb.2.1⟩
/-- The sum of the first positions of creditors. -/
def totK (r : List Int) : Nat → Int
  | 0 => 0
  | k + 1 => if 0 < r.getD k 0 then totK r k + r.getD k 0 else totK r k
theorem tot_bd {r : List Int} (hr : ∀ j, r.getD j 0 ≤ 4503599627370496) : ∀ k, 0 ≤ totK r k ∧ totK r k ≤ 4503599627370496 * (k : Int)
  | 0 => by simp [totK]
  | k + 1 => by
    have ih := tot_bd hr k
    have := hr k
    simp only [totK]
    split <;> omega
abbrev cwA (q : RL) (r : List Int) (f t p : ByteArray) : Nat := (sclA (totK r 16) (fiR q f t p).n (fiR q f t p).d 4).toNat
abbrev cwC (q : RL) (r : List Int) (f t p : ByteArray) : Int := cvE (totK r 16) f (fiR q f t p).f (fiR q f t p).t (fiR q f t p).n (fiR q f t p).d 4
def cwE (q : RL) (r : List Int) (f t p : ByteArray) : Int :=
  if fiE q f t p ≠ 0 then fiE q f t p
  else if cwC q r f t p ≠ 0 then cwC q r f t p
  else if dvE (cwA q r f t p) t r 1 ≠ 0 then dvE (cwA q r f t p) t r 1
  else dvE (cwA q r f t p) t r (-1)
def cwR (q : RL) (r : List Int) (f t p : ByteArray) : List Int := dvR (dvR z16 (cwA q r f t p) r 1) (cwA q r f t p) r (-1)
def cwT (q : RL) (r : List Int) (f t p : ByteArray) : SV := .tup [.arr 16 [.ints .i64 (if cwE q r f t p = 0 then cwR q r f t p else z16)], .int .i64 (cwE q r f t p)]
theorem cwT_err {q : RL} {r : List Int} {f t p : ByteArray} {e : Int} (h : cwE q r f t p = e) (he : e ≠ 0) : cwT q r f t p = .tup [.arr 16 [.ints .i64 z16], .int .i64 e] := by
  unfold cwT; rw [h, if_neg he]
theorem cwT_ok {q : RL} {r : List Int} {f t p : ByteArray} (h : cwE q r f t p = 0) : cwT q r f t p = .tup [.arr 16 [.ints .i64 (cwR q r f t p)], .int .i64 0] := by
  unfold cwT; rw [h, if_pos rfl]
theorem dvR_len (row : List Int) (A : Nat) (r : List Int) (s : Int) : (dvR row A r s).length = row.length := dvK_len _ _ _ _ _
theorem sclA_nn {a n d mode : Int} (ha : 0 ≤ a) (hn : 0 ≤ n) : 0 ≤ sclA a n d mode := by
  unfold sclA
  rw [decide_eq_false (by omega), decide_eq_false (by omega), if_pos rfl]
  exact Int.natCast_nonneg _
theorem cvE_bd {a : Int} {c f t : ByteArray} {n d mode : Int} (h : cvE a c f t n d mode = 0) : sclE a c n d mode = 0 := by
  unfold cvE at h
  split at h
  · contradiction
  · split at h
    · contradiction
    · split at h
      · cases h
      · exact h
theorem sclE_le {a : Int} {c : ByteArray} {n d mode : Int} (ha : 0 ≤ a) (hn : 0 ≤ n) (h : sclE a c n d mode = 0) : sclA a n d mode ≤ 4503599627370496 := by
  unfold sclE at h
  unfold sclA
  rw [decide_eq_false (by omega), decide_eq_false (by omega), if_pos rfl]
  split at h
  · contradiction
  · split at h
    · cases h
    · split at h
      · cases h
      · omega
def cwK (A : Nat) (r : List Int) : Nat → List Int
  | 0 => z16
  | 1 => dvR z16 A r 1
  | _ => dvR (dvR z16 A r 1) A r (-1)
theorem pos_convertRow (q : RL) (hl : q.l ≤ 1000) (r : List Int) (f t p : ByteArray) (hr : ∀ j, -4503599627370496 ≤ r.getD j 0 ∧ r.getD j 0 ≤ 4503599627370496) :
    FC Tryz.prog 2 37 [.arr 16 [.ints .i64 r], .sl 1 0 0 q.l, .str f, .str t, .str p] q.H (isOut (cwT q r f t p) [] 2) := by
  have c1 := rate_Find q hl f t p
  have htb := tot_bd (fun j => (hr j).2)
  refine fc_of mixed T_ok Tryz.func37 rfl (by kernel_rfl) (by kernel_rfl) (by kernel_rfl) ?_
  repeat' ((conv => whnf); first | (refine br_dec (fun h => ?_) (fun h => ?_) <;> try (exfalso; (try dsimp only at h); omega)) | (refine br_ndec (fun h => ?_) (fun h => ?_) <;> try (exfalso; (try dsimp only at h); omega)) | refine br_seq (fun h => ?_) (fun h => ?_) | refine br_nseq (fun h => ?_) (fun h => ?_) | refine br_not (fun h => ?_) (fun h => ?_) | refine br_intro (fun h => ?_) (fun h => ?_) | refine cond_intro rfl ?_ | (refine cond_intro ⟨rfl, ?_⟩ ?_; (first | omega | (dsimp only; omega) | decide)) | (refine cond_intro ?_ ?_; (first | omega | (dsimp only; omega) | decide | (simp only [Nat.add_zero, Int.toNat_natCast, *]; omega))))
  all_goals (conv => whnf)
  refine vloop_lp (fun k : Nat => ⟨[(1, .sl 1 0 0 q.l), (2, .str f), (3, .str t), (4, .str p), (5, .ptr 2 0 0 0), (10, .ptr 3 0 0 0), (12, .ptr 4 0 0 0), (24, .arr 16 [.ints .i64 r]), (25, .int .i64 k)], (2, some (.one false (.cols 16 [.sc (.ints .i64 r)]))) :: (3, some (.one false (.cols 16 [.sc (.ints .i64 z16)]))) :: (4, some (.one false (.cells [.int .i64 (totK r k), .str f]))) :: q.H, 5⟩) (fun k => k ≤ 16) (fun k => 16 - k) 0 [0, 1, 2, 3, 4] [] ⟨rfl, ⟨rfl, rfl, rfl, rfl, rfl, rfl, rfl, rfl, rfl, trivial⟩, ⟨rfl, rfl, rfl, gwk rfl, rfl, trivial⟩⟩ (Nat.zero_le _) ?_
  intro k hk
  have hb := htb k
  by_cases hk2 : k < 16
  · have hrk := hr k
    by_cases g : 0 < r.getD k 0
    · have e1 : IntKind.i64.wrap (totK r k + r.getD k 0) = totK r (k + 1) := by simp only [totK]; rw [if_pos g]; exact w64_in (by omega) (by omega)
      repeat' ((conv => whnf); first | (refine br_dec (fun h => ?_) (fun h => ?_) <;> try (exfalso; (try dsimp only at h); omega)) | (refine br_ndec (fun h => ?_) (fun h => ?_) <;> try (exfalso; (try dsimp only at h); omega)) | refine br_seq (fun h => ?_) (fun h => ?_) | refine br_nseq (fun h => ?_) (fun h => ?_) | refine br_not (fun h => ?_) (fun h => ?_) | refine br_intro (fun h => ?_) (fun h => ?_) | refine cond_intro rfl ?_ | (refine cond_intro ⟨rfl, ?_⟩ ?_; (first | omega | (dsimp only; omega) | decide)) | (refine cond_intro ?_ ?_; (first | omega | (dsimp only; omega) | decide | (simp only [Nat.add_zero, Int.toNat_natCast, *]; omega))))
      all_goals (conv => whnf)
      all_goals (try simp only [toNat0, Int.toNat_natCast, Nat.add_zero, e1] at *)
      all_goals first
        | exact ⟨k + 1, [0, 1, 2, 3, 4], [], hk2, (show 16 - (k + 1) < 16 - k by omega), ⟨rfl, ⟨rfl, rfl, rfl, rfl, rfl, rfl, rfl, rfl, congrArg (fun z => some (SV.int .i64 z)) (i64_succ (by omega)), trivial⟩, ⟨rfl, rfl, rfl, gwk rfl, rfl, trivial⟩⟩⟩
        | (exfalso; omega)
        | trace_state
    · have e1 : totK r (k + 1) = totK r k := by simp only [totK]; rw [if_neg g]
      have b1 : (some (HB.one false (.cells [.int .i64 (totK r k), .str f])) : Option HB) = some (.one false (.cells [.int .i64 (totK r (k + 1)), .str f])) := by rw [e1]
      repeat' ((conv => whnf); first | (refine br_dec (fun h => ?_) (fun h => ?_) <;> try (exfalso; (try dsimp only at h); omega)) | (refine br_ndec (fun h => ?_) (fun h => ?_) <;> try (exfalso; (try dsimp only at h); omega)) | refine br_seq (fun h => ?_) (fun h => ?_) | refine br_nseq (fun h => ?_) (fun h => ?_) | refine br_not (fun h => ?_) (fun h => ?_) | refine br_intro (fun h => ?_) (fun h => ?_) | refine cond_intro rfl ?_ | (refine cond_intro ⟨rfl, ?_⟩ ?_; (first | omega | (dsimp only; omega) | decide)) | (refine cond_intro ?_ ?_; (first | omega | (dsimp only; omega) | decide | (simp only [Nat.add_zero, Int.toNat_natCast, *]; omega))))
      all_goals (conv => whnf)
      all_goals (try simp only [toNat0, Int.toNat_natCast, Nat.add_zero] at *)
      all_goals first
        | exact ⟨k + 1, [0, 1, 2, 3, 4], [], hk2, (show 16 - (k + 1) < 16 - k by omega), ⟨rfl, ⟨rfl, rfl, rfl, rfl, rfl, rfl, rfl, rfl, congrArg (fun z => some (SV.int .i64 z)) (i64_succ (by omega)), trivial⟩, ⟨rfl, rfl, b1, gwk rfl, rfl, trivial⟩⟩⟩
        | (exfalso; omega)
        | trace_state
  have ek : k = 16 := by omega
  subst ek
  by_cases h1 : fiE q f t p = 0
  case neg =>
    rw [findT_err h1] at c1
    rw [cwT_err (e := fiE q f t p) (by unfold cwE; rw [if_pos h1]) h1]
    repeat' ((conv => whnf); first | (refine vcall_out (l :=  [0, 1]) (c1 ) ⟨rfl, rfl, rfl, rfl, (by (repeat' (first | exact trivial | exact GB_wf | exact fun _ _ => rfl | constructor)); first | done | fail), (by (repeat' (first | exact trivial | exact GB_fits rfl | constructor)); first | done | fail)⟩ ?_) | (refine br_dec (fun h => ?_) (fun h => ?_) <;> try (exfalso; (try dsimp only at h); omega)) | (refine br_ndec (fun h => ?_) (fun h => ?_) <;> try (exfalso; (try dsimp only at h); omega)) | refine br_seq (fun h => ?_) (fun h => ?_) | refine br_nseq (fun h => ?_) (fun h => ?_) | refine br_not (fun h => ?_) (fun h => ?_) | refine br_intro (fun h => ?_) (fun h => ?_) | refine cond_intro rfl ?_ | (refine cond_intro ⟨rfl, ?_⟩ ?_; (first | omega | (dsimp only; omega) | decide)) | (refine cond_intro ?_ ?_; (first | omega | (dsimp only; omega) | decide | (simp only [Nat.add_zero, Int.toNat_natCast, *]; omega))))
    all_goals (conv => whnf)
    all_goals first
      | exact ret_out (l := [0, 1]) rfl rfl trivial allRw_nil
      | (exfalso; omega)
      | trace_state
  have hR := fiR_ok h1
  rw [findT_ok h1] at c1
  have c2 := rate_Convert (totK r 16) f (fiR q f t p).f (fiR q f t p).t (fiR q f t p).n (fiR q f t p).d 4 (by omega) (by omega)
  have e2 : cwE q r f t p = if cwC q r f t p ≠ 0 then cwC q r f t p else if dvE (cwA q r f t p) t r 1 ≠ 0 then dvE (cwA q r f t p) t r 1 else dvE (cwA q r f t p) t r (-1) := by unfold cwE; rw [if_neg (by simpa using h1)]
  by_cases h2 : cwC q r f t p = 0
  case neg =>
    rw [cvT_err (e := cwC q r f t p) rfl h2] at c2
    rw [cwT_err (e := cwC q r f t p) (by rw [e2, if_pos h2]) h2]
    repeat' ((conv => whnf); first | (refine vcall_out (l :=  [0, 1]) (c1 ) ⟨rfl, rfl, rfl, rfl, (by (repeat' (first | exact trivial | exact GB_wf | exact fun _ _ => rfl | constructor)); first | done | fail), (by (repeat' (first | exact trivial | exact GB_fits rfl | constructor)); first | done | fail)⟩ ?_) | (refine vcall_glob (c2) rfl rfl rfl rfl ?_) | (refine br_dec (fun h => ?_) (fun h => ?_) <;> try (exfalso; (try dsimp only at h); omega)) | (refine br_ndec (fun h => ?_) (fun h => ?_) <;> try (exfalso; (try dsimp only at h); omega)) | refine br_seq (fun h => ?_) (fun h => ?_) | refine br_nseq (fun h => ?_) (fun h => ?_) | refine br_not (fun h => ?_) (fun h => ?_) | refine br_intro (fun h => ?_) (fun h => ?_) | refine cond_intro rfl ?_ | (refine cond_intro ⟨rfl, ?_⟩ ?_; (first | omega | (dsimp only; omega) | decide)) | (refine cond_intro ?_ ?_; (first | omega | (dsimp only; omega) | decide | (simp only [Nat.add_zero, Int.toNat_natCast, *]; omega))))
    all_goals (conv => whnf)
    all_goals first
      | exact ret_out (l := [0, 1]) rfl rfl trivial allRw_nil
      | (exfalso; omega)
      | trace_state
  rw [if_neg (by simpa using h2)] at e2
  have hA := sclA_nn (d := (fiR q f t p).d) (mode := 4) hb.1 hR.1
  have eA : sclA (totK r 16) (fiR q f t p).n (fiR q f t p).d 4 = ((cwA q r f t p : Nat) : Int) := (Int.toNat_of_nonneg hA).symm
  have eT : cvT (totK r 16) f (fiR q f t p).f (fiR q f t p).t (fiR q f t p).n (fiR q f t p).d 4 = .tup [.agg [.int .i64 ((cwA q r f t p : Nat) : Int), .str t], .int .i64 0] := by rw [cvT_ok h2, eA, hR.2.2.2]
  rw [eT] at c2
  have hA2 := sclE_le (d := (fiR q f t p).d) (mode := 4) hb.1 hR.1 (cvE_bd h2)
  have hA3 : cwA q r f t p ≤ 9223372036854775807 := by omega
  have eR : cwR q r f t p = dvR (dvR z16 (cwA q r f t p) r 1) (cwA q r f t p) r (-1) := rfl
  have hcR : cwE q r f t p = 0 → cwT q r f t p = .tup [.arr 16 [.ints .i64 (dvR (dvR z16 (cwA q r f t p) r 1) (cwA q r f t p) r (-1))], .int .i64 0] := fun h => cwT_ok h
  have hcE := fun (e : Int) => cwT_err (q := q) (r := r) (f := f) (t := t) (p := p) (e := e)
  generalize cwA q r f t p = A at *
  clear eA hA hA2 h2 h1 eR eT
  generalize cwT q r f t p = X at *
  generalize cwE q r f t p = E at *
  repeat' ((conv => whnf); first | (refine vcall_out (l :=  [0, 1]) (c1 ) ⟨rfl, rfl, rfl, rfl, (by (repeat' (first | exact trivial | exact GB_wf | exact fun _ _ => rfl | constructor)); first | done | fail), (by (repeat' (first | exact trivial | exact GB_fits rfl | constructor)); first | done | fail)⟩ ?_) | (refine vcall_glob (c2) rfl rfl rfl rfl ?_) | (refine br_dec (fun h => ?_) (fun h => ?_) <;> try (exfalso; (try dsimp only at h); omega)) | (refine br_ndec (fun h => ?_) (fun h => ?_) <;> try (exfalso; (try dsimp only at h); omega)) | refine br_seq (fun h => ?_) (fun h => ?_) | refine br_nseq (fun h => ?_) (fun h => ?_) | refine br_not (fun h => ?_) (fun h => ?_) | refine br_intro (fun h => ?_) (fun h => ?_) | refine cond_intro rfl ?_ | (refine cond_intro ⟨rfl, ?_⟩ ?_; (first | omega | (dsimp only; omega) | decide)) | (refine cond_intro ?_ ?_; (first | omega | (dsimp only; omega) | decide | (simp only [Nat.add_zero, Int.toNat_natCast, *]; omega))))
  all_goals (conv => whnf)
  all_goals first
    | (exfalso; omega)
    | skip
  refine vloop_lp (fun k : Nat => ⟨[(5, .ptr 2 0 0 0), (10, .ptr 3 0 0 0), (17, .ptr 4 0 0 0), (18, .ptr 5 0 0 0), (58, .arr 2 [.ints .i64 [1, -1]]), (59, .int .i64 k)], (2, some (.one false (.cols 16 [.sc (.ints .i64 r)]))) :: (3, some (.one false (.cols 16 [.sc (.ints .i64 z16)]))) :: (4, some (.one false (.cells [.int .i64 A, .str t]))) :: (5, some (.one false (.cols 16 [.sc (.ints .i64 (cwK A r k))]))) :: q.H, 6⟩) (fun k => k ≤ 2 ∧ (1 ≤ k → dvE A t r 1 = 0) ∧ (2 ≤ k → dvE A t r (-1) = 0)) (fun k => 2 - k) 0 [0, 1, 2, 3, 6, 7] [] ⟨rfl, ⟨rfl, rfl, rfl, rfl, rfl, rfl, trivial⟩, ⟨rfl, rfl, rfl, rfl, gwk rfl, rfl, trivial⟩⟩ ⟨Nat.zero_le _, fun h => absurd h (by decide), fun h => absurd h (by decide)⟩ ?_
  rintro k ⟨hk, i1, i2⟩
  match k, hk, i1, i2 with
  | 0, _, _, _ =>
    have cd := pos_divide z16 A t r 1 hA3 (by decide) (.inl rfl) hr
    unfold dvO at cd
    by_cases g : dvE A t r 1 = 0
    · rw [if_pos g, g] at cd
      repeat' ((conv => whnf); first | (refine vcall_out (l :=  [0, 5]) (cd ) ⟨rfl, rfl, rfl, rfl, (by (repeat' (first | exact trivial | exact GB_wf | exact fun _ _ => rfl | constructor)); first | done | fail), (by (repeat' (first | exact trivial | exact GB_fits rfl | constructor)); first | done | fail)⟩ ?_) | (refine br_dec (fun h => ?_) (fun h => ?_) <;> try (exfalso; (try dsimp only at h); omega)) | (refine br_ndec (fun h => ?_) (fun h => ?_) <;> try (exfalso; (try dsimp only at h); omega)) | refine br_seq (fun h => ?_) (fun h => ?_) | refine br_nseq (fun h => ?_) (fun h => ?_) | refine br_not (fun h => ?_) (fun h => ?_) | refine br_intro (fun h => ?_) (fun h => ?_) | refine cond_intro rfl ?_ | (refine cond_intro ⟨rfl, ?_⟩ ?_; (first | omega | (dsimp only; omega) | decide)) | (refine cond_intro ?_ ?_; (first | omega | (dsimp only; omega) | decide | (simp only [Nat.add_zero, Int.toNat_natCast, *]; omega))))
      all_goals (conv => whnf)
      all_goals first
        | exact ⟨1, [0, 1, 2, 3, 4, 5], [], ⟨by decide, fun _ => g, fun h => absurd h (by decide)⟩, by decide, ⟨rfl, ⟨rfl, rfl, rfl, rfl, rfl, rfl, trivial⟩, ⟨rfl, rfl, rfl, rfl, gwk rfl, rfl, trivial⟩⟩⟩
        | (exfalso; omega)
        | trace_state
    · rw [if_neg g] at cd
      rw [if_pos g] at e2
      rw [hcE _ e2 g]
      repeat' ((conv => whnf); first | (refine vcall_out (l :=  [0, 5]) (cd ) ⟨rfl, rfl, rfl, rfl, (by (repeat' (first | exact trivial | exact GB_wf | exact fun _ _ => rfl | constructor)); first | done | fail), (by (repeat' (first | exact trivial | exact GB_fits rfl | constructor)); first | done | fail)⟩ ?_) | (refine br_dec (fun h => ?_) (fun h => ?_) <;> try (exfalso; (try dsimp only at h); omega)) | (refine br_ndec (fun h => ?_) (fun h => ?_) <;> try (exfalso; (try dsimp only at h); omega)) | refine br_seq (fun h => ?_) (fun h => ?_) | refine br_nseq (fun h => ?_) (fun h => ?_) | refine br_not (fun h => ?_) (fun h => ?_) | refine br_intro (fun h => ?_) (fun h => ?_) | refine cond_intro rfl ?_ | (refine cond_intro ⟨rfl, ?_⟩ ?_; (first | omega | (dsimp only; omega) | decide)) | (refine cond_intro ?_ ?_; (first | omega | (dsimp only; omega) | decide | (simp only [Nat.add_zero, Int.toNat_natCast, *]; omega))))
      all_goals (conv => whnf)
      all_goals first
        | exact ret_out (l := [0, 1]) rfl rfl trivial allRw_nil
        | (exfalso; omega)
        | trace_state
  | 1, _, i1, _ =>
    have g1 := i1 (by decide)
    rw [if_neg (by simpa using g1)] at e2
    have cd := pos_divide (dvR z16 A r 1) A t r (-1) hA3 (by rw [dvR_len]; rfl) (.inr rfl) hr
    unfold dvO at cd
    by_cases g : dvE A t r (-1) = 0
    · rw [if_pos g, g] at cd
      repeat' ((conv => whnf); first | (refine vcall_out (l :=  [0, 5]) (cd ) ⟨rfl, rfl, rfl, rfl, (by (repeat' (first | exact trivial | exact GB_wf | exact fun _ _ => rfl | constructor)); first | done | fail), (by (repeat' (first | exact trivial | exact GB_fits rfl | constructor)); first | done | fail)⟩ ?_) | (refine br_dec (fun h => ?_) (fun h => ?_) <;> try (exfalso; (try dsimp only at h); omega)) | (refine br_ndec (fun h => ?_) (fun h => ?_) <;> try (exfalso; (try dsimp only at h); omega)) | refine br_seq (fun h => ?_) (fun h => ?_) | refine br_nseq (fun h => ?_) (fun h => ?_) | refine br_not (fun h => ?_) (fun h => ?_) | refine br_intro (fun h => ?_) (fun h => ?_) | refine cond_intro rfl ?_ | (refine cond_intro ⟨rfl, ?_⟩ ?_; (first | omega | (dsimp only; omega) | decide)) | (refine cond_intro ?_ ?_; (first | omega | (dsimp only; omega) | decide | (simp only [Nat.add_zero, Int.toNat_natCast, *]; omega))))
      all_goals (conv => whnf)
      all_goals first
        | exact ⟨2, [0, 1, 2, 3, 4, 5], [], ⟨by decide, fun _ => g1, fun _ => g⟩, by decide, ⟨rfl, ⟨rfl, rfl, rfl, rfl, rfl, rfl, trivial⟩, ⟨rfl, rfl, rfl, rfl, gwk rfl, rfl, trivial⟩⟩⟩
        | (exfalso; omega)
        | trace_state
    · rw [if_neg g] at cd
      rw [hcE _ e2 g]
      repeat' ((conv => whnf); first | (refine vcall_out (l :=  [0, 5]) (cd ) ⟨rfl, rfl, rfl, rfl, (by (repeat' (first | exact trivial | exact GB_wf | exact fun _ _ => rfl | constructor)); first | done | fail), (by (repeat' (first | exact trivial | exact GB_fits rfl | constructor)); first | done | fail)⟩ ?_) | (refine br_dec (fun h => ?_) (fun h => ?_) <;> try (exfalso; (try dsimp only at h); omega)) | (refine br_ndec (fun h => ?_) (fun h => ?_) <;> try (exfalso; (try dsimp only at h); omega)) | refine br_seq (fun h => ?_) (fun h => ?_) | refine br_nseq (fun h => ?_) (fun h => ?_) | refine br_not (fun h => ?_) (fun h => ?_) | refine br_intro (fun h => ?_) (fun h => ?_) | refine cond_intro rfl ?_ | (refine cond_intro ⟨rfl, ?_⟩ ?_; (first | omega | (dsimp only; omega) | decide)) | (refine cond_intro ?_ ?_; (first | omega | (dsimp only; omega) | decide | (simp only [Nat.add_zero, Int.toNat_natCast, *]; omega))))
      all_goals (conv => whnf)
      all_goals first
        | exact ret_out (l := [0, 1]) rfl rfl trivial allRw_nil
        | (exfalso; omega)
        | trace_state
  | 2, _, i1, i2 =>
    rw [if_neg (by simpa using i1 (by decide)), i2 (by decide)] at e2
    rw [hcR e2]
    repeat' ((conv => whnf); first | (refine br_dec (fun h => ?_) (fun h => ?_) <;> try (exfalso; (try dsimp only at h); omega)) | (refine br_ndec (fun h => ?_) (fun h => ?_) <;> try (exfalso; (try dsimp only at h); omega)) | refine br_seq (fun h => ?_) (fun h => ?_) | refine br_nseq (fun h => ?_) (fun h => ?_) | refine br_not (fun h => ?_) (fun h => ?_) | refine br_intro (fun h => ?_) (fun h => ?_) | refine cond_intro rfl ?_ | (refine cond_intro ⟨rfl, ?_⟩ ?_; (first | omega | (dsimp only; omega) | decide)) | (refine cond_intro ?_ ?_; (first | omega | (dsimp only; omega) | decide | (simp only [Nat.add_zero, Int.toNat_natCast, *]; omega))))
    all_goals (conv => whnf)
    all_goals first
      | exact ret_out (l := [0, 1]) rfl rfl trivial allRw_nil
      | (exfalso; omega)
      | trace_state
end Go.Proofs.YtkbidlijinclcaaGreatDoor

/- Contracts: sums of 128 bits in an array. -/
namespace Go.Proofs.YtkbidlijinclcaaGreatDoor
open Go.RowKit Go.Sy
attribute [local irreducible] vcall vloop vcallD retP
set_option maxRecDepth 100000
set_option linter.unusedVariables false
set_option linter.unusedSimpArgs false

def exA (SS : List Int) : Blk := .cols 16 [.sc (.ints .i64 (SS.map exH)), .sc (.ints .u64 (SS.map exL))]
theorem exA_at (SS : List Int) (i : Nat) (S : Int) (h : SS.getD i 0 = S) : (SS.map exH).getD i 0 = exH S ∧ (SS.map exL).getD i 0 = exL S := by
  subst h
  rw [List.getD, List.getD, List.getD, List.getElem?_map, List.getElem?_map]
  cases SS[i]? with
  | none => exact ⟨rfl, rfl⟩
  | some x => exact ⟨rfl, rfl⟩
theorem ex_addA (SS : List Int) (i : Nat) (hi : i < 16) (S n : Int) (hSS : SS.getD i 0 = S) (hS : okS S) (h1 : -9223372036854775808 ≤ n) (h2 : n ≤ 9223372036854775807) : FC Tryz.prog 2 38 [.ptr 1 0 i 0, .int .i64 n] [(1, some (.one false (exA SS)))] (isOut (.tup []) [(1, some (.one false (exA (SS.set i (S + n)))))] 2) := by
  have hu := u64_of h1 h2
  have hs := ishr63 n h1 h2
  obtain ⟨e1, e2, e3⟩ := ex_eq S
  have hb := exH_bd hS
  obtain ⟨x, hx⟩ := Int.eq_ofNat_of_zero_le e2
  obtain ⟨y, hy⟩ : ∃ y : Nat, IntKind.u64.wrap n = (y : Int) := Int.eq_ofNat_of_zero_le (by rw [hu]; split <;> omega)
  have c1 := bits_Add64 x y
  have hy2 : (y : Int) = if n < 0 then n + 18446744073709551616 else n := by rw [← hy, hu]
  have hc : IntKind.i64.wrap (((x + y) / 18446744073709551616 : Nat) : Int) = (((x + y) / 18446744073709551616 : Nat) : Int) := w64_in (by omega) (by split at hy2 <;> omega)
  obtain ⟨q1, q2⟩ := ex_uniq (S := S + n) (h := exH S + ((if n < 0 then -1 else 0) + (((x + y) / 18446744073709551616 : Nat) : Int))) (l := (((x + y) % 18446744073709551616 : Nat) : Int)) (by split at hy2 <;> rename_i q <;> simp only [q, if_true, if_false] <;> omega) (by omega) (by omega)
  obtain ⟨hH, hL⟩ := exA_at SS i S hSS
  rw [hx] at hL
  unfold exA
  rw [List.map_set, List.map_set, q1, q2]
  generalize SS.map exH = hs' at *
  generalize SS.map exL = ls' at *
  generalize exH S = H at *
  rw [← hy, ← hL] at c1
  refine fc_of mixed T_ok Tryz.func38 rfl (by kernel_rfl) (by kernel_rfl) (by kernel_rfl) ?_
  repeat' ((conv => whnf); first | (refine vcall_pure (c1) rfl rfl rfl ?_) | (refine vcallD_pure (c1) rfl rfl rfl ?_) | (refine br_dec (fun h => ?_) (fun h => ?_) <;> try (exfalso; (try dsimp only at h); omega)) | (refine br_ndec (fun h => ?_) (fun h => ?_) <;> try (exfalso; (try dsimp only at h); omega)) | refine br_seq (fun h => ?_) (fun h => ?_) | refine br_nseq (fun h => ?_) (fun h => ?_) | refine br_not (fun h => ?_) (fun h => ?_) | refine br_intro (fun h => ?_) (fun h => ?_) | refine cond_intro rfl ?_ | (refine cond_intro ⟨rfl, ?_⟩ ?_; (first | omega | (dsimp only; omega) | decide)) | (refine cond_intro ?_ ?_; (first | omega | (dsimp only; omega) | decide | (simp only [Nat.add_zero, Int.toNat_natCast, *]; omega))))
  all_goals (conv => whnf)
  have e9 : IntKind.i64.wrap (H + IntKind.i64.wrap (ishr .i64 n 63 + IntKind.i64.wrap (((x + y) / 18446744073709551616 : Nat) : Int))) = H + ((if n < 0 then -1 else 0) + (((x + y) / 18446744073709551616 : Nat) : Int)) := by
    rw [hs, hc]
    have hy3 : y < 18446744073709551616 := by split at hy2 <;> omega
    have ht : (if n < 0 then (-1 : Int) else 0) = -1 ∨ (if n < 0 then (-1 : Int) else 0) = 0 := by split; exact .inl rfl; exact .inr rfl
    generalize (if n < 0 then (-1 : Int) else 0) = t at *
    have hx3 : x < 18446744073709551616 := by omega
    have hq : (x + y) / 18446744073709551616 ≤ 1 := by omega
    generalize (x + y) / 18446744073709551616 = c at *
    rw [w64_in (n := t + (c : Int)) (by omega) (by omega), w64_in (by omega) (by omega)]
  have hr : (some (HB.one false (.cols 16 [.sc (.ints .i64 (hs'.set i (IntKind.i64.wrap (hs'.getD i 0 + IntKind.i64.wrap (ishr .i64 n 63 + IntKind.i64.wrap (((x + y) / 18446744073709551616 : Nat) : Int)))))), .sc (.ints .u64 (ls'.set i (((x + y) % 18446744073709551616 : Nat) : Int)))])) : Option HB) = some (.one false (.cols 16 [.sc (.ints .i64 (hs'.set i (H + ((if n < 0 then -1 else 0) + (((x + y) / 18446744073709551616 : Nat) : Int))))), .sc (.ints .u64 (ls'.set i (((x + y) % 18446744073709551616 : Nat) : Int)))])) := by rw [hH, e9]
  all_goals exact ret_out (l := [0, 1]) rfl rfl ⟨hr, trivial⟩ (allRw_cons allRw_nil)
theorem ex_clampedA (SS : List Int) (i : Nat) (hi : i < 16) (S l : Int) (hSS : SS.getD i 0 = S) (hS : okS S) (h1 : 0 ≤ l) (h2 : l ≤ 4611686018427387904) : FC Tryz.prog 2 39 [.ptr 1 0 i 0, .int .i64 l] [(1, some (.one true (exA SS)))] (isOut (.int .i64 (clampI S l)) [] 2) := by
  obtain ⟨e1, e2, e3⟩ := ex_eq S
  have hb := exH_bd hS
  have hz := i64_of e2 e3
  have hsh := ishr63 (IntKind.i64.wrap (exL S)) (by rw [hz]; split <;> omega) (by rw [hz]; split <;> omega)
  have hn : IntKind.i64.wrap (0 - l) = -l := by rw [w64_in (by omega) (by omega)]; omega
  obtain ⟨hH, hL⟩ := exA_at SS i S hSS
  unfold exA
  generalize SS.map exH = hs' at *
  generalize SS.map exL = ls' at *
  generalize exH S = H at *
  generalize exL S = L at *
  refine fc_of mixed T_ok Tryz.func39 rfl (by kernel_rfl) (by kernel_rfl) (by kernel_rfl) ?_
  repeat' ((conv => whnf); first | (refine br_dec (fun h => ?_) (fun h => ?_) <;> try (exfalso; (try dsimp only at h); omega)) | (refine br_ndec (fun h => ?_) (fun h => ?_) <;> try (exfalso; (try dsimp only at h); omega)) | refine br_seq (fun h => ?_) (fun h => ?_) | refine br_nseq (fun h => ?_) (fun h => ?_) | refine br_not (fun h => ?_) (fun h => ?_) | refine br_intro (fun h => ?_) (fun h => ?_) | refine cond_intro rfl ?_ | (refine cond_intro ⟨rfl, ?_⟩ ?_; (first | omega | (dsimp only; omega) | decide)) | (refine cond_intro ?_ ?_; (first | omega | (dsimp only; omega) | decide | (simp only [Nat.add_zero, Int.toNat_natCast, *]; omega))))
  all_goals (conv => whnf)
  all_goals (try dsimp only at *)
  all_goals simp only [hn, hH, hL] at *
  all_goals first
    | (refine ret_out (l := [0, 1]) (r0 := .int .i64 (clampI S l)) rfl ?_ trivial allRw_nil
       refine congrArg (SV.int .i64) ?_
       unfold clampI
       split at hz <;> split at hsh <;> split <;> (try split) <;> omega)
    | (exfalso; split at hz <;> split at hsh <;> omega)
    | trace_state
end Go.Proofs.YtkbidlijinclcaaGreatDoor

/- Contract: all positions in one currency. -/
namespace Go.Proofs.YtkbidlijinclcaaGreatDoor
open Go.RowKit Go.Sy
attribute [local irreducible] vcall vloop vcallD retP
set_option maxRecDepth 100000
set_option linter.unusedVariables false
set_option linter.unusedSimpArgs false

/-- A row is added to sums. -/
def addK (SS r : List Int) : Nat → List Int
  | 0 => SS
  | i + 1 => (addK SS r i).set i (SS.getD i 0 + r.getD i 0)
theorem addK_len (SS r : List Int) : ∀ i, (addK SS r i).length = SS.length
  | 0 => rfl
  | i + 1 => by simp only [addK, List.length_set]; exact addK_len SS r i
theorem addK_get {SS r : List Int} {n : Nat} (hl : SS.length = n) : ∀ i j, i ≤ n → (addK SS r i).getD j 0 = if j < i then SS.getD j 0 + r.getD j 0 else SS.getD j 0
  | 0, j, _ => by rw [if_neg (by omega)]; rfl
  | i + 1, j, h => by
    have ih := addK_get (r := r) hl i j (by omega)
    simp only [addK]
    rw [set_getD2 _ _ _ _ (by rw [addK_len]; omega)]
    by_cases e : j = i
    · subst e; rw [if_pos rfl, if_pos (by omega)]
    · rw [if_neg e, ih]
      by_cases e2 : j < i
      · rw [if_pos e2, if_pos (by omega)]
      · rw [if_neg e2, if_neg (by omega)]
/-- The row of a currency in another one; the first error; the sums. -/
def cvR (q : RL) (b : Bk) (t p c : ByteArray) : List Int := if c = t then b.row c else cwR q (b.row c) c t p
def cvEK (q : RL) (b : Bk) (cs : List ByteArray) (t p : ByteArray) : Nat → Int
  | 0 => 0
  | k + 1 => if cvEK q b cs t p k ≠ 0 then cvEK q b cs t p k else if cs.getD k ⟨#[]⟩ = t then 0 else cwE q (b.row (cs.getD k ⟨#[]⟩)) (cs.getD k ⟨#[]⟩) t p
def cvSK (q : RL) (b : Bk) (cs : List ByteArray) (t p : ByteArray) : Nat → List Int
  | 0 => z16
  | k + 1 => addK (cvSK q b cs t p k) (cvR q b t p (cs.getD k ⟨#[]⟩)) 16
theorem cvEK_stop {q : RL} {b : Bk} {cs : List ByteArray} {t p : ByteArray} {k : Nat} {e : Int} (h0 : cvEK q b cs t p k = 0) (h1 : cs.getD k ⟨#[]⟩ ≠ t) (h2 : cwE q (b.row (cs.getD k ⟨#[]⟩)) (cs.getD k ⟨#[]⟩) t p = e) (he : e ≠ 0) : ∀ n, k < n → cvEK q b cs t p n = e
  | 0, h => by omega
  | n + 1, h => by
    simp only [cvEK]
    by_cases g : k = n
    · subst g; rw [if_neg (by omega), if_neg h1, h2]
    · rw [cvEK_stop h0 h1 h2 he n (by omega), if_pos he]
theorem cvSK_len (q : RL) (b : Bk) (cs : List ByteArray) (t p : ByteArray) : ∀ k, (cvSK q b cs t p k).length = 16
  | 0 => rfl
  | k + 1 => by simp only [cvSK]; rw [addK_len]; exact cvSK_len q b cs t p k
def fitK (SS : List Int) : Nat → Bool
  | 0 => true
  | i + 1 => fitK SS i && fitB (SS.getD i 0)
theorem fitK_stop {SS : List Int} {i : Nat} (h : fitB (SS.getD i 0) = false) : ∀ n, i < n → fitK SS n = false
  | 0, q => by omega
  | n + 1, q => by
    simp only [fitK]
    by_cases e : i = n
    · subst e; rw [h, Bool.and_false]
    · rw [fitK_stop h n (by omega), Bool.false_and]
theorem clamp_fit {S : Int} (h : fitB S = true) : clampI S 4611686018427387904 = S := by
  rw [fitB_t] at h
  unfold clampI
  rw [if_neg (by omega), if_neg (by omega)]
theorem clamp_nofit {S : Int} (h : fitB S = false) : fitB (clampI S 4611686018427387904) = false := by
  rw [fitB_f] at h ⊢
  unfold clampI
  split
  · omega
  · split <;> omega
theorem dvK_bd {row pl P : List Int} {s B : Int} (hs : s = 1 ∨ s = -1) (hr : ∀ j, -B ≤ row.getD j 0 ∧ row.getD j 0 ≤ B) (hP : ∀ j, 0 ≤ P.getD j 0 ∧ P.getD j 0 ≤ B) : ∀ k j, -B ≤ (dvK row pl P s k).getD j 0 ∧ (dvK row pl P s k).getD j 0 ≤ B
  | 0, j => hr j
  | k + 1, j => by
    have ih := dvK_bd (pl := pl) hs hr hP k
    simp only [dvK]
    by_cases e : (pl.getD k 0).toNat < (dvK row pl P s k).length
    · rw [set_getD2 _ _ _ _ e]
      split
      · have := hP k
        rcases hs with e | e <;> rw [e] <;> omega
      · exact ih j
    · rw [List.set_eq_of_length_le (by omega)]
      exact ih j
theorem dvR_bd {row r : List Int} {A : Nat} {s B : Int} (hs : s = 1 ∨ s = -1) (hr : ∀ j, -B ≤ row.getD j 0 ∧ row.getD j 0 ≤ B) (hA : (A : Int) + 16 ≤ B) (j : Nat) : -B ≤ (dvR row A r s).getD j 0 ∧ (dvR row A r s).getD j 0 ≤ B := by
  unfold dvR
  refine dvK_bd hs hr (fun j => ?_) _ j
  have hW : ∃ M, ∀ j, r.getD j 0 * s ≤ M := by
    have : ∀ l : List Int, ∃ M, 0 ≤ M ∧ ∀ j, l.getD j 0 * s ≤ M := by
      intro l
      induction l with
      | nil => exact ⟨0, Int.le_refl _, fun j => by simp⟩
      | cons x l ih =>
        obtain ⟨M, h0, h⟩ := ih
        refine ⟨max M (x * s), by omega, fun j => ?_⟩
        cases j with
        | zero => rw [List.getD_cons_zero]; omega
        | succ j => rw [List.getD_cons_succ]; have := h j; omega
    obtain ⟨M, _, h⟩ := this r
    exact ⟨M, h⟩
  obtain ⟨M, hM⟩ := hW
  have hl := wt_len r s 16
  have := sp_bd (A := A) (ws := wtK r s 16) (n := dvN r s) (fun i hi => (wt_bd hM 16 i hi).1) j
  unfold dvN at this ⊢
  omega
theorem dvE_le {A : Nat} {c : ByteArray} {r : List Int} {s : Int} (h : dvE A c r s = 0) : A ≤ 4503599627370496 := spE_le h
theorem z16_get (j : Nat) : z16.getD j 0 = 0 := by
  rw [List.getD, List.getElem?_replicate]; split <;> rfl
theorem cwR_bd {q : RL} {r : List Int} {f t p : ByteArray} (h : cwE q r f t p = 0) (j : Nat) : -9007199254740992 ≤ (cwR q r f t p).getD j 0 ∧ (cwR q r f t p).getD j 0 ≤ 9007199254740992 := by
  unfold cwE at h
  split at h
  · contradiction
  · split at h
    · contradiction
    · split at h
      · contradiction
      · have hA := dvE_le h
        unfold cwR
        exact dvR_bd (.inr rfl) (fun j => dvR_bd (.inl rfl) (fun j => by rw [z16_get]; omega) (by omega) j) (by omega) j
theorem cvSK_bd {q : RL} {b : Bk} {cs : List ByteArray} {t p : ByteArray} (hb : ∀ i j, -4503599627370496 ≤ (b.vs.getD i z16).getD j 0 ∧ (b.vs.getD i z16).getD j 0 ≤ 4503599627370496) : ∀ k, cvEK q b cs t p k = 0 → ∀ j, -9007199254740992 * (k : Int) ≤ (cvSK q b cs t p k).getD j 0 ∧ (cvSK q b cs t p k).getD j 0 ≤ 9007199254740992 * (k : Int)
  | 0, _, j => by simp only [cvSK]; rw [z16_get]; omega
  | k + 1, h, j => by
    simp only [cvEK] at h
    by_cases h0 : cvEK q b cs t p k = 0
    case neg => rw [if_pos h0] at h; exact absurd h h0
    rw [if_neg (by simpa using h0)] at h
    have ih := cvSK_bd hb k h0 j
    simp only [cvSK]
    rw [addK_get (cvSK_len q b cs t p k) _ _ (Nat.le_refl _)]
    have hR : -9007199254740992 ≤ (cvR q b t p (cs.getD k ⟨#[]⟩)).getD j 0 ∧ (cvR q b t p (cs.getD k ⟨#[]⟩)).getD j 0 ≤ 9007199254740992 := by
      unfold cvR
      by_cases g : cs.getD k ⟨#[]⟩ = t
      · rw [if_pos g]; have := hb (sidx b.cs (cs.getD k ⟨#[]⟩)) j; unfold Bk.row; omega
      · rw [if_neg g] at h ⊢; exact cwR_bd h j
    split <;> omega
abbrev Bk.cvS (b : Bk) (q : RL) (t p : ByteArray) : List Int := cvSK q b (sortS b.cs) t p b.m
abbrev Bk.cvX (b : Bk) (q : RL) (t p : ByteArray) : Int := cvEK q b (sortS b.cs) t p b.m
def Bk.cvE (b : Bk) (q : RL) (t p : ByteArray) : Int := if curB t = false then 11 else if b.cvX q t p ≠ 0 then b.cvX q t p else if fitK (b.cvS q t p) b.n = true then 0 else 4
def Bk.cvL (b : Bk) (q : RL) (t p : ByteArray) : List Px := liR (b.cvS q t p) b.ps t b.n
def cvOut (b : Bk) (q : RL) (t p : ByteArray) : SV → Heap → Nat → Prop :=
  if b.cvE q t p ≠ 0 then isOut (.tup [.nsl, .int .i64 (b.cvE q t p)]) [] 5 else isOut (.tup [.sl 5 0 0 (b.cvL q t p).length, .int .i64 0]) [(5, some (.one false (pxB (b.cvL q t p).length (pxOf (b.cvL q t p)))))] 6
abbrev cvH (b : Bk) (q : RL) : Heap := (0, some (GB glT)) :: (4, some (.one true (.cols q.l [.sc (.strs q.f), .sc (.strs q.t), .sc (.ints .i64 q.n), .sc (.ints .i64 q.d)]))) :: bkR b
theorem exA_z : exA z16 = .cols 16 [.sc (.ints .i64 z16), .sc (.ints .u64 z16)] := by unfold exA; simp [exH, exL]; rfl
set_option maxHeartbeats 3200000 in
theorem pos_Convert (b : Bk) (hb : b.Ok) (hc : b.Cok) (q : RL) (hq : q.l ≤ 1000) (t p : ByteArray) :
    FC Tryz.prog 5 19 [.ptr 1 0 0 0, .sl 4 0 0 q.l, .str t, .str p] (cvH b q) (cvOut b q t p) := by
  have hn := hb.n
  have hm := hc.m
  have c1 := pos_isCurrency t
  have c2 := pos_Currencies b hc
  unfold cvOut
  cases ht : curB t with
  | false =>
    rw [ht] at c1
    have e : b.cvE q t p = 11 := by unfold Bk.cvE; rw [if_pos ht]
    rw [e, if_pos (by decide)]
    refine fc_of mixed T_ok Tryz.func19 rfl (by kernel_rfl) (by kernel_rfl) (by kernel_rfl) ?_
    repeat' ((conv => whnf); first | (refine vcall_pure (c1) rfl rfl rfl ?_) | (refine br_dec (fun h => ?_) (fun h => ?_) <;> try (exfalso; (try dsimp only at h); omega)) | (refine br_ndec (fun h => ?_) (fun h => ?_) <;> try (exfalso; (try dsimp only at h); omega)) | refine br_seq (fun h => ?_) (fun h => ?_) | refine br_nseq (fun h => ?_) (fun h => ?_) | refine br_not (fun h => ?_) (fun h => ?_) | refine br_intro (fun h => ?_) (fun h => ?_) | refine cond_intro rfl ?_ | (refine cond_intro ⟨rfl, ?_⟩ ?_; (first | omega | (dsimp only; omega) | decide)) | (refine cond_intro ?_ ?_; (first | omega | (dsimp only; omega) | decide | (simp only [Nat.add_zero, Int.toNat_natCast, *]; omega))))
    all_goals (conv => whnf)
    all_goals first
      | exact ret_out (l := [0, 1, 2, 3, 4]) rfl rfl trivial allRw_nil
      | (exfalso; omega)
      | trace_state
  | true =>
  rw [ht] at c1
  have e0 : b.cvE q t p = if b.cvX q t p ≠ 0 then b.cvX q t p else if fitK (b.cvS q t p) b.n = true then 0 else 4 := by unfold Bk.cvE; rw [if_neg (by rw [ht]; simp)]
  have hSbd := cvSK_bd (q := q) (cs := sortS b.cs) (t := t) (p := p) hb.bd
  have hSlen := cvSK_len q b (sortS b.cs) t p
  refine fc_of mixed T_ok Tryz.func19 rfl (by kernel_rfl) (by kernel_rfl) (by kernel_rfl) ?_
  repeat' ((conv => whnf); first | (refine vcall_pure (c1) rfl rfl rfl ?_) | (refine vcall_out (l :=  [0, 1, 2, 3]) (c2 ) ⟨rfl, rfl, rfl, rfl, (by (repeat' (first | exact trivial | exact GB_wf | exact fun _ _ => rfl | constructor)); first | done | fail), (by (repeat' (first | exact trivial | exact GB_fits rfl | constructor)); first | done | fail)⟩ ?_) | (refine br_dec (fun h => ?_) (fun h => ?_) <;> try (exfalso; (try dsimp only at h); omega)) | (refine br_ndec (fun h => ?_) (fun h => ?_) <;> try (exfalso; (try dsimp only at h); omega)) | refine br_seq (fun h => ?_) (fun h => ?_) | refine br_nseq (fun h => ?_) (fun h => ?_) | refine br_not (fun h => ?_) (fun h => ?_) | refine br_intro (fun h => ?_) (fun h => ?_) | refine cond_intro rfl ?_ | (refine cond_intro ⟨rfl, ?_⟩ ?_; (first | omega | (dsimp only; omega) | decide)) | (refine cond_intro ?_ ?_; (first | omega | (dsimp only; omega) | decide | (simp only [Nat.add_zero, Int.toNat_natCast, *]; omega))))
  all_goals (conv => whnf)
  refine vloop_lp (fun k : Nat => ⟨[(0, .ptr 1 0 0 0), (1, .sl 4 0 0 q.l), (2, .str t), (3, .str p), (10, .ptr 5 0 0 0), (28, .sl 6 0 0 b.m), (29, .int .i64 b.m), (30, .int .i64 k)], (5, some (.one false (exA (cvSK q b (sortS b.cs) t p k)))) :: (6, some (.one false (.cols b.m [.sc (.strs (sortS b.cs))]))) :: cvH b q, 7⟩) (fun k => k ≤ b.m ∧ cvEK q b (sortS b.cs) t p k = 0) (fun k => b.m - k) 0 [0, 1, 2, 3, 4, 5, 6] [] ⟨rfl, ⟨rfl, rfl, rfl, rfl, rfl, rfl, rfl, rfl, trivial⟩, ⟨congrArg (fun x => some (HB.one false x)) exA_z.symm, rfl, gwk rfl, rfl, rfl, rfl, rfl, trivial⟩⟩ ⟨Nat.zero_le _, rfl⟩ ?_
  rintro k ⟨hk, hE⟩
  by_cases hk2 : k < b.m
  · have hr := hb.bd (sidx b.cs ((sortS b.cs).getD k ⟨#[]⟩))
    have hSk := hSbd k hE
    have hSl := hSlen k
    have hE2 : cvEK q b (sortS b.cs) t p (k + 1) = if (sortS b.cs).getD k ⟨#[]⟩ = t then 0 else cwE q (b.row ((sortS b.cs).getD k ⟨#[]⟩)) ((sortS b.cs).getD k ⟨#[]⟩) t p := by simp only [cvEK]; rw [if_neg (by simpa using hE)]
    have hS2 : cvSK q b (sortS b.cs) t p (k + 1) = addK (cvSK q b (sortS b.cs) t p k) (cvR q b t p ((sortS b.cs).getD k ⟨#[]⟩)) 16 := rfl
    have hstop := @cvEK_stop q b (sortS b.cs) t p k
    have cw := pos_convertRow q hq (b.row ((sortS b.cs).getD k ⟨#[]⟩)) ((sortS b.cs).getD k ⟨#[]⟩) t p hr
    by_cases g : (sortS b.cs).getD k ⟨#[]⟩ = t
    · rw [if_pos g] at hE2
      have hR : cvR q b t p ((sortS b.cs).getD k ⟨#[]⟩) = b.row ((sortS b.cs).getD k ⟨#[]⟩) := if_pos g
      have hRb : ∀ j, -9007199254740992 ≤ (b.row ((sortS b.cs).getD k ⟨#[]⟩)).getD j 0 ∧ (b.row ((sortS b.cs).getD k ⟨#[]⟩)).getD j 0 ≤ 9007199254740992 := fun j => by have := hr j; unfold Bk.row; omega
      rw [hR] at hS2
      repeat' ((conv => whnf); first | (refine br_dec (fun h => ?_) (fun h => ?_) <;> try (exfalso; (try dsimp only at h); omega)) | (refine br_ndec (fun h => ?_) (fun h => ?_) <;> try (exfalso; (try dsimp only at h); omega)) | refine br_seq (fun h => ?_) (fun h => ?_) | refine br_nseq (fun h => ?_) (fun h => ?_) | refine br_not (fun h => ?_) (fun h => ?_) | refine br_intro (fun h => ?_) (fun h => ?_) | refine cond_intro rfl ?_ | (refine cond_intro ⟨rfl, ?_⟩ ?_; (first | omega | (dsimp only; omega) | decide)) | (refine cond_intro ?_ ?_; (first | omega | (dsimp only; omega) | decide | (simp only [Nat.add_zero, Int.toNat_natCast, *]; omega))))
      all_goals (conv => whnf)
      all_goals first
        | (exfalso; omega)
        | contradiction
        | skip
      refine vloop_lp (fun i : Nat => ⟨[(0, .ptr 1 0 0 0), (1, .sl 4 0 0 q.l), (2, .str t), (3, .str p), (10, .ptr 5 0 0 0), (28, .sl 6 0 0 b.m), (29, .int .i64 b.m), (30, .int .i64 k), (56, .arr 16 [.ints .i64 (b.row ((sortS b.cs).getD k ⟨#[]⟩))]), (57, .int .i64 i)], (5, some (.one false (exA (addK (cvSK q b (sortS b.cs) t p k) (b.row ((sortS b.cs).getD k ⟨#[]⟩)) i)))) :: (6, some (.one false (.cols b.m [.sc (.strs (sortS b.cs))]))) :: cvH b q, 7⟩) (fun i => i ≤ 16) (fun i => 16 - i) 0 [0, 1, 2, 3, 4, 5, 6] [] ⟨rfl, ⟨rfl, rfl, rfl, rfl, rfl, rfl, rfl, rfl, rfl, rfl, trivial⟩, ⟨rfl, rfl, gwk rfl, rfl, rfl, rfl, rfl, trivial⟩⟩ (Nat.zero_le _) ?_
      intro i hi
      by_cases hi2 : i < 16
      · have hx : (addK (cvSK q b (sortS b.cs) t p k) (b.row ((sortS b.cs).getD k ⟨#[]⟩)) i).getD i 0 = (cvSK q b (sortS b.cs) t p k).getD i 0 := by rw [addK_get hSl i i (by omega), if_neg (by omega)]
        have hSi := hSk i
        have hRi := hRb i
        have ca := ex_addA (addK (cvSK q b (sortS b.cs) t p k) (b.row ((sortS b.cs).getD k ⟨#[]⟩)) i) i hi2 ((cvSK q b (sortS b.cs) t p k).getD i 0) ((b.row ((sortS b.cs).getD k ⟨#[]⟩)).getD i 0) hx (by unfold okS; omega) (by omega) (by omega)
        repeat' ((conv => whnf); first | (refine vcall_out (l :=  [0, 5]) (ca ) ⟨rfl, rfl, rfl, rfl, (by (repeat' (first | exact trivial | exact GB_wf | exact fun _ _ => rfl | constructor)); first | done | fail), (by (repeat' (first | exact trivial | exact GB_fits rfl | constructor)); first | done | fail)⟩ ?_) | (refine br_dec (fun h => ?_) (fun h => ?_) <;> try (exfalso; (try dsimp only at h); omega)) | (refine br_ndec (fun h => ?_) (fun h => ?_) <;> try (exfalso; (try dsimp only at h); omega)) | refine br_seq (fun h => ?_) (fun h => ?_) | refine br_nseq (fun h => ?_) (fun h => ?_) | refine br_not (fun h => ?_) (fun h => ?_) | refine br_intro (fun h => ?_) (fun h => ?_) | refine cond_intro rfl ?_ | (refine cond_intro ⟨rfl, ?_⟩ ?_; (first | omega | (dsimp only; omega) | decide)) | (refine cond_intro ?_ ?_; (first | omega | (dsimp only; omega) | decide | (simp only [Nat.add_zero, Int.toNat_natCast, *]; omega))))
        all_goals (conv => whnf)
        all_goals first
          | exact ⟨i + 1, [0, 1, 2, 3, 4, 5, 6], [], hi2, (show 16 - (i + 1) < 16 - i by omega), ⟨rfl, ⟨rfl, rfl, rfl, rfl, rfl, rfl, rfl, rfl, rfl, congrArg (fun z => some (SV.int .i64 z)) (i64_succ (by omega)), trivial⟩, ⟨rfl, rfl, gwk rfl, rfl, rfl, rfl, rfl, trivial⟩⟩⟩
          | (exfalso; omega)
          | trace_state
      · have ei : i = 16 := by omega
        subst ei
        have bS : (some (HB.one false (exA (addK (cvSK q b (sortS b.cs) t p k) (b.row ((sortS b.cs).getD k ⟨#[]⟩)) 16))) : Option HB) = some (.one false (exA (cvSK q b (sortS b.cs) t p (k + 1)))) := by rw [hS2]
        repeat' ((conv => whnf); first | (refine br_dec (fun h => ?_) (fun h => ?_) <;> try (exfalso; (try dsimp only at h); omega)) | (refine br_ndec (fun h => ?_) (fun h => ?_) <;> try (exfalso; (try dsimp only at h); omega)) | refine br_seq (fun h => ?_) (fun h => ?_) | refine br_nseq (fun h => ?_) (fun h => ?_) | refine br_not (fun h => ?_) (fun h => ?_) | refine br_intro (fun h => ?_) (fun h => ?_) | refine cond_intro rfl ?_ | (refine cond_intro ⟨rfl, ?_⟩ ?_; (first | omega | (dsimp only; omega) | decide)) | (refine cond_intro ?_ ?_; (first | omega | (dsimp only; omega) | decide | (simp only [Nat.add_zero, Int.toNat_natCast, *]; omega))))
        all_goals (conv => whnf)
        all_goals first
          | exact ⟨k + 1, [0, 1, 2, 3, 4, 5, 6], [], ⟨hk2, hE2⟩, (show b.m - (k + 1) < b.m - k by omega), ⟨rfl, ⟨rfl, rfl, rfl, rfl, rfl, rfl, rfl, congrArg (fun z => some (SV.int .i64 z)) (i64_succ (by omega)), trivial⟩, ⟨bS, rfl, gwk rfl, rfl, rfl, rfl, rfl, trivial⟩⟩⟩
          | (exfalso; omega)
          | trace_state
    · rw [if_neg g] at hE2
      by_cases g2 : cwE q (b.row ((sortS b.cs).getD k ⟨#[]⟩)) ((sortS b.cs).getD k ⟨#[]⟩) t p = 0
      case neg =>
        have e1 := hstop hE g rfl g2 b.m hk2
        rw [cwT_err rfl g2] at cw
        have e2 : b.cvE q t p = cwE q (b.row ((sortS b.cs).getD k ⟨#[]⟩)) ((sortS b.cs).getD k ⟨#[]⟩) t p := by rw [e0]; unfold Bk.cvX; rw [e1, if_pos g2]
        rw [e2, if_pos g2]
        repeat' ((conv => whnf); first | (refine vcall_out (l :=  [0, 4]) (cw ) ⟨rfl, rfl, rfl, rfl, (by (repeat' (first | exact trivial | exact GB_wf | exact fun _ _ => rfl | constructor)); first | done | fail), (by (repeat' (first | exact trivial | exact GB_fits rfl | constructor)); first | done | fail)⟩ ?_) | (refine br_dec (fun h => ?_) (fun h => ?_) <;> try (exfalso; (try dsimp only at h); omega)) | (refine br_ndec (fun h => ?_) (fun h => ?_) <;> try (exfalso; (try dsimp only at h); omega)) | refine br_seq (fun h => ?_) (fun h => ?_) | refine br_nseq (fun h => ?_) (fun h => ?_) | refine br_not (fun h => ?_) (fun h => ?_) | refine br_intro (fun h => ?_) (fun h => ?_) | refine cond_intro rfl ?_ | (refine cond_intro ⟨rfl, ?_⟩ ?_; (first | omega | (dsimp only; omega) | decide)) | (refine cond_intro ?_ ?_; (first | omega | (dsimp only; omega) | decide | (simp only [Nat.add_zero, Int.toNat_natCast, *]; omega))))
        all_goals (conv => whnf)
        all_goals first
          | exact ret_out (l := [0, 1, 2, 3, 4]) rfl rfl trivial allRw_nil
          | (exfalso; omega)
          | contradiction
          | trace_state
      rw [cwT_ok g2] at cw
      rw [g2] at hE2
      have hR : cvR q b t p ((sortS b.cs).getD k ⟨#[]⟩) = cwR q (b.row ((sortS b.cs).getD k ⟨#[]⟩)) ((sortS b.cs).getD k ⟨#[]⟩) t p := if_neg g
      have hRb := cwR_bd g2
      rw [hR] at hS2
      repeat' ((conv => whnf); first | (refine vcall_out (l :=  [0, 4]) (cw ) ⟨rfl, rfl, rfl, rfl, (by (repeat' (first | exact trivial | exact GB_wf | exact fun _ _ => rfl | constructor)); first | done | fail), (by (repeat' (first | exact trivial | exact GB_fits rfl | constructor)); first | done | fail)⟩ ?_) | (refine br_dec (fun h => ?_) (fun h => ?_) <;> try (exfalso; (try dsimp only at h); omega)) | (refine br_ndec (fun h => ?_) (fun h => ?_) <;> try (exfalso; (try dsimp only at h); omega)) | refine br_seq (fun h => ?_) (fun h => ?_) | refine br_nseq (fun h => ?_) (fun h => ?_) | refine br_not (fun h => ?_) (fun h => ?_) | refine br_intro (fun h => ?_) (fun h => ?_) | refine cond_intro rfl ?_ | (refine cond_intro ⟨rfl, ?_⟩ ?_; (first | omega | (dsimp only; omega) | decide)) | (refine cond_intro ?_ ?_; (first | omega | (dsimp only; omega) | decide | (simp only [Nat.add_zero, Int.toNat_natCast, *]; omega))))
      all_goals (conv => whnf)
      all_goals first
        | (exfalso; omega)
        | contradiction
        | skip
      refine vloop_lp (fun i : Nat => ⟨[(0, .ptr 1 0 0 0), (1, .sl 4 0 0 q.l), (2, .str t), (3, .str p), (10, .ptr 5 0 0 0), (28, .sl 6 0 0 b.m), (29, .int .i64 b.m), (30, .int .i64 k), (56, .arr 16 [.ints .i64 (cwR q (b.row ((sortS b.cs).getD k ⟨#[]⟩)) ((sortS b.cs).getD k ⟨#[]⟩) t p)]), (57, .int .i64 i)], (5, some (.one false (exA (addK (cvSK q b (sortS b.cs) t p k) (cwR q (b.row ((sortS b.cs).getD k ⟨#[]⟩)) ((sortS b.cs).getD k ⟨#[]⟩) t p) i)))) :: (6, some (.one false (.cols b.m [.sc (.strs (sortS b.cs))]))) :: cvH b q, 7⟩) (fun i => i ≤ 16) (fun i => 16 - i) 0 [0, 1, 2, 3, 4, 5, 6] [] ⟨rfl, ⟨rfl, rfl, rfl, rfl, rfl, rfl, rfl, rfl, rfl, rfl, trivial⟩, ⟨rfl, rfl, gwk rfl, rfl, rfl, rfl, rfl, trivial⟩⟩ (Nat.zero_le _) ?_
      intro i hi
      by_cases hi2 : i < 16
      · have hx : (addK (cvSK q b (sortS b.cs) t p k) (cwR q (b.row ((sortS b.cs).getD k ⟨#[]⟩)) ((sortS b.cs).getD k ⟨#[]⟩) t p) i).getD i 0 = (cvSK q b (sortS b.cs) t p k).getD i 0 := by rw [addK_get hSl i i (by omega), if_neg (by omega)]
        have hSi := hSk i
        have hRi := hRb i
        have ca := ex_addA (addK (cvSK q b (sortS b.cs) t p k) (cwR q (b.row ((sortS b.cs).getD k ⟨#[]⟩)) ((sortS b.cs).getD k ⟨#[]⟩) t p) i) i hi2 ((cvSK q b (sortS b.cs) t p k).getD i 0) ((cwR q (b.row ((sortS b.cs).getD k ⟨#[]⟩)) ((sortS b.cs).getD k ⟨#[]⟩) t p).getD i 0) hx (by unfold okS; omega) (by omega) (by omega)
        repeat' ((conv => whnf); first | (refine vcall_out (l :=  [0, 5]) (ca ) ⟨rfl, rfl, rfl, rfl, (by (repeat' (first | exact trivial | exact GB_wf | exact fun _ _ => rfl | constructor)); first | done | fail), (by (repeat' (first | exact trivial | exact GB_fits rfl | constructor)); first | done | fail)⟩ ?_) | (refine br_dec (fun h => ?_) (fun h => ?_) <;> try (exfalso; (try dsimp only at h); omega)) | (refine br_ndec (fun h => ?_) (fun h => ?_) <;> try (exfalso; (try dsimp only at h); omega)) | refine br_seq (fun h => ?_) (fun h => ?_) | refine br_nseq (fun h => ?_) (fun h => ?_) | refine br_not (fun h => ?_) (fun h => ?_) | refine br_intro (fun h => ?_) (fun h => ?_) | refine cond_intro rfl ?_ | (refine cond_intro ⟨rfl, ?_⟩ ?_; (first | omega | (dsimp only; omega) | decide)) | (refine cond_intro ?_ ?_; (first | omega | (dsimp only; omega) | decide | (simp only [Nat.add_zero, Int.toNat_natCast, *]; omega))))
        all_goals (conv => whnf)
        all_goals first
          | exact ⟨i + 1, [0, 1, 2, 3, 4, 5, 6], [], hi2, (show 16 - (i + 1) < 16 - i by omega), ⟨rfl, ⟨rfl, rfl, rfl, rfl, rfl, rfl, rfl, rfl, rfl, congrArg (fun z => some (SV.int .i64 z)) (i64_succ (by omega)), trivial⟩, ⟨rfl, rfl, gwk rfl, rfl, rfl, rfl, rfl, trivial⟩⟩⟩
          | (exfalso; omega)
          | trace_state
      · have ei : i = 16 := by omega
        subst ei
        have bS : (some (HB.one false (exA (addK (cvSK q b (sortS b.cs) t p k) (cwR q (b.row ((sortS b.cs).getD k ⟨#[]⟩)) ((sortS b.cs).getD k ⟨#[]⟩) t p) 16))) : Option HB) = some (.one false (exA (cvSK q b (sortS b.cs) t p (k + 1)))) := by rw [hS2]
        repeat' ((conv => whnf); first | (refine br_dec (fun h => ?_) (fun h => ?_) <;> try (exfalso; (try dsimp only at h); omega)) | (refine br_ndec (fun h => ?_) (fun h => ?_) <;> try (exfalso; (try dsimp only at h); omega)) | refine br_seq (fun h => ?_) (fun h => ?_) | refine br_nseq (fun h => ?_) (fun h => ?_) | refine br_not (fun h => ?_) (fun h => ?_) | refine br_intro (fun h => ?_) (fun h => ?_) | refine cond_intro rfl ?_ | (refine cond_intro ⟨rfl, ?_⟩ ?_; (first | omega | (dsimp only; omega) | decide)) | (refine cond_intro ?_ ?_; (first | omega | (dsimp only; omega) | decide | (simp only [Nat.add_zero, Int.toNat_natCast, *]; omega))))
        all_goals (conv => whnf)
        all_goals first
          | exact ⟨k + 1, [0, 1, 2, 3, 4, 5, 6], [], ⟨hk2, hE2⟩, (show b.m - (k + 1) < b.m - k by omega), ⟨rfl, ⟨rfl, rfl, rfl, rfl, rfl, rfl, rfl, congrArg (fun z => some (SV.int .i64 z)) (i64_succ (by omega)), trivial⟩, ⟨bS, rfl, gwk rfl, rfl, rfl, rfl, rfl, trivial⟩⟩⟩
          | (exfalso; omega)
          | trace_state
  have ek : k = b.m := by omega
  subst ek
  have hSk := hSbd b.m hE
  have hSl := hSlen b.m
  have e1 : b.cvE q t p = if fitK (b.cvS q t p) b.n = true then 0 else 4 := by
    rw [e0]; unfold Bk.cvX; rw [hE]; rfl
  have eL : b.cvL q t p = liR (cvSK q b (sortS b.cs) t p b.m) b.ps t b.n := rfl
  have eS : b.cvS q t p = cvSK q b (sortS b.cs) t p b.m := rfl
  rw [eS] at e1
  have hokS : ∀ j, okS ((cvSK q b (sortS b.cs) t p b.m).getD j 0) := fun j => by have := hSk j; unfold okS; omega
  generalize hL : b.cvL q t p = LL at *
  generalize hX : b.cvE q t p = XX at *
  generalize cvSK q b (sortS b.cs) t p b.m = SS at *
  clear hL hX eS
  repeat' ((conv => whnf); first | (refine br_dec (fun h => ?_) (fun h => ?_) <;> try (exfalso; (try dsimp only at h); omega)) | (refine br_ndec (fun h => ?_) (fun h => ?_) <;> try (exfalso; (try dsimp only at h); omega)) | refine br_seq (fun h => ?_) (fun h => ?_) | refine br_nseq (fun h => ?_) (fun h => ?_) | refine br_not (fun h => ?_) (fun h => ?_) | refine br_intro (fun h => ?_) (fun h => ?_) | refine cond_intro rfl ?_ | (refine cond_intro ⟨rfl, ?_⟩ ?_; (first | omega | (dsimp only; omega) | decide)) | (refine cond_intro ?_ ?_; (first | omega | (dsimp only; omega) | decide | (simp only [Nat.add_zero, Int.toNat_natCast, *]; omega))))
  all_goals (conv => whnf)
  all_goals first
    | (exfalso; omega)
    | skip
  refine vloop_lp (fun x : Nat × Nat => ⟨[(2, .str t), (10, .ptr 5 0 0 0), (70, .sl 2 0 0 b.n), (71, .int .i64 b.n), (72, .int .i64 x.1), (18, .sl 6 0 0 x.2)], (5, some (.one false (exA SS))) :: (6, some (.one false (pxB x.2 (pxOf (liR SS b.ps t x.1))))) :: cvH b q, 7⟩) (fun x => x.1 ≤ b.n ∧ (liR SS b.ps t x.1).length = x.2 ∧ fitK SS x.1 = true) (fun x => b.n - x.1) (0, 0) [0, 1, 2, 3, 4, 5, 7] [.slot 18 [.sc (.strs []), .sc (.ints .i64 []), .sc (.strs [])]] ⟨rfl, ⟨rfl, rfl, rfl, rfl, rfl, rfl, trivial⟩, ⟨rfl, rfl, gwk rfl, rfl, rfl, rfl, rfl, trivial⟩⟩ ⟨Nat.zero_le _, rfl, rfl⟩ ?_
  rintro ⟨i, m2⟩ ⟨hi, hl2, hf⟩
  dsimp only at hi hl2 hf
  by_cases hi2 : i < b.n
  · have cc := ex_clampedA SS i (by omega) (SS.getD i 0) 4611686018427387904 rfl (hokS i) (by decide) (by decide)
    have cf := pos_within (clampI (SS.getD i 0) 4611686018427387904)
    cases hfi : fitB (SS.getD i 0) with
    | false =>
      rw [clamp_nofit hfi] at cf
      rw [fitK_stop hfi b.n hi2, if_neg (by simp)] at e1
      rw [e1, if_pos (by decide)]
      repeat' ((conv => whnf); first | (refine vcall_out (l :=  [0, 5]) (cc ) ⟨rfl, rfl, rfl, rfl, (by (repeat' (first | exact trivial | exact GB_wf | exact fun _ _ => rfl | constructor)); first | done | fail), (by (repeat' (first | exact trivial | exact GB_fits rfl | constructor)); first | done | fail)⟩ ?_) | (refine vcall_pure (cf) rfl rfl rfl ?_) | (refine vcallD_pure (cf) rfl rfl rfl ?_) | (refine br_dec (fun h => ?_) (fun h => ?_) <;> try (exfalso; (try dsimp only at h); omega)) | (refine br_ndec (fun h => ?_) (fun h => ?_) <;> try (exfalso; (try dsimp only at h); omega)) | refine br_seq (fun h => ?_) (fun h => ?_) | refine br_nseq (fun h => ?_) (fun h => ?_) | refine br_not (fun h => ?_) (fun h => ?_) | refine br_intro (fun h => ?_) (fun h => ?_) | refine cond_intro rfl ?_ | (refine cond_intro ⟨rfl, ?_⟩ ?_; (first | omega | (dsimp only; omega) | decide)) | (refine cond_intro ?_ ?_; (first | omega | (dsimp only; omega) | decide | (simp only [Nat.add_zero, Int.toNat_natCast, *]; omega))))
      all_goals (conv => whnf)
      all_goals first
        | exact ret_out (l := [0, 1, 2, 3, 4]) rfl rfl trivial allRw_nil
        | (exfalso; omega)
        | contradiction
        | trace_state
    | true =>
      rw [clamp_fit hfi, hfi] at cf
      rw [clamp_fit hfi] at cc
      have hf2 : fitK SS (i + 1) = true := by simp only [fitK]; rw [hf, hfi]; rfl
      have hml := liR_len SS b.ps t i
      by_cases hz : SS.getD i 0 = 0
      · have h3 : liR SS b.ps t (i + 1) = liR SS b.ps t i := by simp only [liR]; rw [if_pos hz]
        have b3 : (some (HB.one false (pxB m2 (pxOf (liR SS b.ps t i)))) : Option HB) = some (.one false (pxB m2 (pxOf (liR SS b.ps t (i + 1))))) := by rw [h3]
        have h4 : (liR SS b.ps t (i + 1)).length = m2 := by rw [h3, hl2]
        repeat' ((conv => whnf); first | (refine vcall_out (l :=  [0, 5]) (cc ) ⟨rfl, rfl, rfl, rfl, (by (repeat' (first | exact trivial | exact GB_wf | exact fun _ _ => rfl | constructor)); first | done | fail), (by (repeat' (first | exact trivial | exact GB_fits rfl | constructor)); first | done | fail)⟩ ?_) | (refine vcall_pure (cf) rfl rfl rfl ?_) | (refine vcallD_pure (cf) rfl rfl rfl ?_) | (refine br_dec (fun h => ?_) (fun h => ?_) <;> try (exfalso; (try dsimp only at h); omega)) | (refine br_ndec (fun h => ?_) (fun h => ?_) <;> try (exfalso; (try dsimp only at h); omega)) | refine br_seq (fun h => ?_) (fun h => ?_) | refine br_nseq (fun h => ?_) (fun h => ?_) | refine br_not (fun h => ?_) (fun h => ?_) | refine br_intro (fun h => ?_) (fun h => ?_) | refine cond_intro rfl ?_ | (refine cond_intro ⟨rfl, ?_⟩ ?_; (first | omega | (dsimp only; omega) | decide)) | (refine cond_intro ?_ ?_; (first | omega | (dsimp only; omega) | decide | (simp only [Nat.add_zero, Int.toNat_natCast, *]; omega))))
        all_goals (conv => whnf)
        all_goals first
          | exact ⟨(i + 1, m2), [0, 1, 2, 3, 4, 5, 6], [], ⟨hi2, h4, hf2⟩, (show b.n - (i + 1) < b.n - i by omega), ⟨rfl, ⟨rfl, rfl, rfl, rfl, congrArg (fun z => some (SV.int .i64 z)) (i64_succ (by omega)), rfl, trivial⟩, ⟨rfl, b3, gwk rfl, rfl, rfl, rfl, rfl, trivial⟩⟩⟩
          | (exfalso; omega)
          | contradiction
          | trace_state
      · have h3 : liR SS b.ps t (i + 1) = liR SS b.ps t i ++ [⟨b.ps.getD i ⟨#[]⟩, SS.getD i 0, t⟩] := by simp only [liR]; rw [if_neg hz]
        have h5 := pxOf_snoc (liR SS b.ps t i) ⟨b.ps.getD i ⟨#[]⟩, SS.getD i 0, t⟩
        have b3 : (some (HB.one false (pxB (m2 + 1) ⟨(pxOf (liR SS b.ps t i)).p ++ [b.ps.getD i ⟨#[]⟩], (pxOf (liR SS b.ps t i)).a ++ [SS.getD i 0], (pxOf (liR SS b.ps t i)).c ++ [t]⟩)) : Option HB) = some (.one false (pxB (m2 + 1) (pxOf (liR SS b.ps t (i + 1))))) := by rw [h3, h5]
        have h4 : (liR SS b.ps t (i + 1)).length = m2 + 1 := by rw [h3, List.length_append, hl2]; rfl
        repeat' ((conv => whnf); first | (refine vcall_out (l :=  [0, 5]) (cc ) ⟨rfl, rfl, rfl, rfl, (by (repeat' (first | exact trivial | exact GB_wf | exact fun _ _ => rfl | constructor)); first | done | fail), (by (repeat' (first | exact trivial | exact GB_fits rfl | constructor)); first | done | fail)⟩ ?_) | (refine vcall_pure (cf) rfl rfl rfl ?_) | (refine vcallD_pure (cf) rfl rfl rfl ?_) | (refine br_dec (fun h => ?_) (fun h => ?_) <;> try (exfalso; (try dsimp only at h); omega)) | (refine br_ndec (fun h => ?_) (fun h => ?_) <;> try (exfalso; (try dsimp only at h); omega)) | refine br_seq (fun h => ?_) (fun h => ?_) | refine br_nseq (fun h => ?_) (fun h => ?_) | refine br_not (fun h => ?_) (fun h => ?_) | refine br_intro (fun h => ?_) (fun h => ?_) | refine cond_intro rfl ?_ | (refine cond_intro ⟨rfl, ?_⟩ ?_; (first | omega | (dsimp only; omega) | decide)) | (refine cond_intro ?_ ?_; (first | omega | (dsimp only; omega) | decide | (simp only [Nat.add_zero, Int.toNat_natCast, *]; omega))))
        all_goals (conv => whnf)
        all_goals first
          | exact ⟨(i + 1, m2 + 1), [0, 1, 2, 3, 4, 5, 8], [], ⟨hi2, h4, hf2⟩, (show b.n - (i + 1) < b.n - i by omega), ⟨rfl, ⟨rfl, rfl, rfl, rfl, congrArg (fun z => some (SV.int .i64 z)) (i64_succ (by omega)), rfl, trivial⟩, ⟨rfl, b3, gwk rfl, rfl, rfl, rfl, rfl, trivial⟩⟩⟩
          | (exfalso; omega)
          | contradiction
          | trace_state
  · have ei : i = b.n := by omega
    subst ei
    rw [if_pos hf] at e1
    rw [e1, if_neg (by decide), eL, hl2]
    repeat' ((conv => whnf); first | (refine br_dec (fun h => ?_) (fun h => ?_) <;> try (exfalso; (try dsimp only at h); omega)) | (refine br_ndec (fun h => ?_) (fun h => ?_) <;> try (exfalso; (try dsimp only at h); omega)) | refine br_seq (fun h => ?_) (fun h => ?_) | refine br_nseq (fun h => ?_) (fun h => ?_) | refine br_not (fun h => ?_) (fun h => ?_) | refine br_intro (fun h => ?_) (fun h => ?_) | refine cond_intro rfl ?_ | (refine cond_intro ⟨rfl, ?_⟩ ?_; (first | omega | (dsimp only; omega) | decide)) | (refine cond_intro ?_ ?_; (first | omega | (dsimp only; omega) | decide | (simp only [Nat.add_zero, Int.toNat_natCast, *]; omega))))
    all_goals (conv => whnf)
    all_goals first
      | exact ret_out (l := [0, 1, 2, 3, 4, 6]) rfl rfl ⟨rfl, trivial⟩ (allRw_cons allRw_nil)
      | (exfalso; omega)
      | trace_state
end Go.Proofs.YtkbidlijinclcaaGreatDoor

/- The examples of the chapter on positions. -/
namespace Go.Proofs.YtkbidlijinclcaaGreatDoor
open Go.RowKit Go.Sy
attribute [local irreducible] vcall vloop vcallD retP
set_option maxRecDepth 100000
set_option linter.unusedVariables false
set_option linter.unusedSimpArgs false

def sEur : ByteArray := ⟨#[69, 85, 82]⟩
def sUsd : ByteArray := ⟨#[85, 83, 68]⟩
def p3 : List ByteArray := [⟨#[97]⟩, ⟨#[98]⟩, ⟨#[99]⟩]
def k0 : Bk := ⟨3, p3, 0, [], [], [], 0⟩
def k1 : Bk := ⟨3, p3, 1, [sEur], [[-100, 100, 0, 0, 0, 0, 0, 0, 0, 0, 0, 0, 0, 0, 0, 0]], [0], 1⟩
def k2 : Bk := ⟨3, p3, 1, [sEur], [[-100, 70, 30, 0, 0, 0, 0, 0, 0, 0, 0, 0, 0, 0, 0, 0]], [0], 1⟩
def q0 : RL := ⟨[sEur], [sUsd], [11], [10], 1⟩
def l0 : List Px := [⟨⟨#[97]⟩, -110, sUsd⟩, ⟨⟨#[98]⟩, 77, sUsd⟩, ⟨⟨#[99]⟩, 33, sUsd⟩]
theorem fcEq {P : Program} {n : Nat} {f : FuncId} {args : List SV} {H H1 H2 : Heap} {r r' : SV} {n' : Nat} (h : FC P n f args H (isOut r H1 n')) (hr : r = r') (hh : H1 = H2) : FC P n f args H (isOut r' H2 n') := by subst hr hh; exact h
theorem p3_sort : sortS p3 = p3 := by
  exact sortS_of (List.Perm.refl _) (by unfold p3; refine .cons (fun a h => ?_) (.cons (fun a h => ?_) (.cons (fun a h => absurd h (List.not_mem_nil)) .nil)) <;> simp only [List.mem_cons, List.not_mem_nil, or_false] at h <;> (first | (rcases h with rfl | rfl <;> kernel_rfl) | (subst h; kernel_rfl)))
theorem one_sort (s : ByteArray) : sortS [s] = [s] := sortS_of (List.Perm.refl _) (List.pairwise_singleton _ _)
theorem row_ok {r : List Int} (hl : r.length = 16) (h : ∀ x ∈ r, -4503599627370496 ≤ x ∧ x ≤ 4503599627370496) : (∀ i, (([r] : List (List Int)).getD i z16).length = 16) ∧ ∀ i j, -4503599627370496 ≤ (([r] : List (List Int)).getD i z16).getD j 0 ∧ (([r] : List (List Int)).getD i z16).getD j 0 ≤ 4503599627370496 := by
  refine ⟨fun i => ?_, fun i j => ?_⟩
  · cases i with
    | zero => exact hl
    | succ i => rfl
  · cases i with
    | zero =>
      show -4503599627370496 ≤ r.getD j 0 ∧ r.getD j 0 ≤ 4503599627370496
      by_cases e : j < r.length
      · rw [List.getD, List.getElem?_eq_getElem e]; exact h _ (List.getElem_mem e)
      · rw [List.getD, List.getElem?_eq_none (by omega)]; decide
    | succ i =>
      show -4503599627370496 ≤ z16.getD j 0 ∧ z16.getD j 0 ≤ 4503599627370496
      rw [z16_get]; decide
theorem k0_ok : k0.Ok := ⟨by decide, rfl, fun i => rfl, fun i j => by show _ ≤ z16.getD j 0 ∧ z16.getD j 0 ≤ _; rw [z16_get]; decide⟩
theorem k1_ok : k1.Ok := ⟨by decide, rfl, (row_ok rfl (by decide)).1, (row_ok rfl (by decide)).2⟩
theorem k2_ok : k2.Ok := ⟨by decide, rfl, (row_ok rfl (by decide)).1, (row_ok rfl (by decide)).2⟩
theorem k2_cok : k2.Cok := ⟨by decide, by intro s hs; simp only [k2, List.mem_singleton] at hs; subst hs; decide, by simp [k2]⟩
theorem law_eur (n : Int) : Pure Tryz.prog 20 [.int .i64 n] (.agg [.int .i64 n, .str ⟨#[69, 85, 82]⟩]) := by
  refine fc_of mixed T_ok Tryz.func20 rfl (by kernel_rfl) (by kernel_rfl) (by kernel_rfl) ?_
  repeat' ((conv => whnf); first | (refine br_dec (fun h => ?_) (fun h => ?_) <;> try (exfalso; (try dsimp only at h); omega)) | (refine br_ndec (fun h => ?_) (fun h => ?_) <;> try (exfalso; (try dsimp only at h); omega)) | refine br_seq (fun h => ?_) (fun h => ?_) | refine br_nseq (fun h => ?_) (fun h => ?_) | refine br_not (fun h => ?_) (fun h => ?_) | refine br_intro (fun h => ?_) (fun h => ?_) | refine cond_intro rfl ?_ | (refine cond_intro ⟨rfl, ?_⟩ ?_; (first | omega | (dsimp only; omega) | decide)) | (refine cond_intro ?_ ?_; (first | omega | (dsimp only; omega) | decide | (simp only [Nat.add_zero, Int.toNat_natCast, *]; omega))))
  all_goals (conv => whnf)
  all_goals exact ret_pure rfl
theorem law_awake : FC Tryz.prog 1 7 [] [(0, some (GB glT))] (isOut (.bool true) [] 1) := by
  have c0 : FC Tryz.prog 2 8 [.sl 1 0 0 3] [(1, some (.one true (.cols 3 [.sc (.strs p3)])))] (isOut (.tup [.ptr 2 0 0 0, .int .i64 0]) [(2, bkC false 3 4 3), (3, bkP false k0), (4, bkM false k0)] 5) := by
    have c := pos_New p3 3 rfl (by decide)
    have e : nwErr p3 = 0 := by kernel_rfl
    have e2 : nwB p3 = k0 := by unfold nwB; rw [p3_sort]; rfl
    unfold nwOut at c
    rw [e, if_neg (by decide), e2] at c
    exact c
  have m1 : FC Tryz.prog 4 10 [.ptr 1 0 0 0, .str ⟨#[97]⟩, .str ⟨#[98]⟩, .agg [.int .i64 100, .str ⟨#[69, 85, 82]⟩]] (bkH k0) (isOut (.int .i64 0) [(3, bkM false k1)] 4) := fcEq (pos_Move k0 k0_ok _ _ _ _) (by kernel_rfl) (by kernel_rfl)
  have m2 : FC Tryz.prog 4 10 [.ptr 1 0 0 0, .str ⟨#[98]⟩, .str ⟨#[99]⟩, .agg [.int .i64 30, .str ⟨#[69, 85, 82]⟩]] (bkH k1) (isOut (.int .i64 0) [(3, bkM false k2)] 4) := fcEq (pos_Move k1 k1_ok _ _ _ _) (by kernel_rfl) (by kernel_rfl)
  have m3 : FC Tryz.prog 4 10 [.ptr 1 0 0 0, .str ⟨#[97]⟩, .str ⟨#[97]⟩, .agg [.int .i64 1, .str ⟨#[69, 85, 82]⟩]] (bkH k2) (isOut (.int .i64 4) [(3, bkM false k2)] 4) := fcEq (pos_Move k2 k2_ok _ _ _ _) (by kernel_rfl) (by kernel_rfl)
  have n2 : FC Tryz.prog 4 12 [.ptr 1 0 0 0, .str ⟨#[98]⟩, .str ⟨#[69, 85, 82]⟩] (bkR k2) (isOut (.int .i64 70) [] 4) := fcEq (pos_Net k2 k2_ok _ _) (by kernel_rfl) rfl
  have v2 : FC Tryz.prog 5 19 [.ptr 1 0 0 0, .sl 4 0 0 1, .str ⟨#[85, 83, 68]⟩, .str ⟨#[85, 83, 68]⟩] (cvH k2 q0) (isOut (.tup [.sl 5 0 0 3, .int .i64 0]) [(5, some (.one false (pxB 3 (pxOf l0))))] 6) := by
    have c := pos_Convert k2 k2_ok k2_cok q0 (by decide) sUsd sUsd
    have hs : sortS k2.cs = [sEur] := one_sort sEur
    have e : k2.cvE q0 sUsd sUsd = 0 := by unfold Bk.cvE Bk.cvX Bk.cvS; rw [hs]; kernel_rfl
    have e2 : k2.cvL q0 sUsd sUsd = l0 := by unfold Bk.cvL Bk.cvS; rw [hs]; kernel_rfl
    unfold cvOut at c
    rw [e, if_neg (by decide), e2] at c
    exact c
  refine fc_of mixed T_ok Tryz.func7 rfl (by kernel_rfl) (by kernel_rfl) (by kernel_rfl) ?_
  repeat' ((conv => whnf); first | (refine vcall_pure (law_eur _) rfl rfl rfl ?_) | (refine vcall_out (l :=  [0, 1]) (c0 ) ⟨rfl, rfl, rfl, rfl, (by (repeat' (first | exact trivial | exact GB_wf | exact fun _ _ => rfl | constructor)); first | done | fail), (by (repeat' (first | exact trivial | exact GB_fits rfl | constructor)); first | done | fail)⟩ ?_) | (refine vcall_out (l :=  [0, 2, 3, 4]) (m1 ) ⟨rfl, rfl, rfl, rfl, (by (repeat' (first | exact trivial | exact GB_wf | exact fun _ _ => rfl | constructor)); first | done | fail), (by (repeat' (first | exact trivial | exact GB_fits rfl | constructor)); first | done | fail)⟩ ?_) | (refine vcall_out (l :=  [0, 2, 3, 4]) (m2 ) ⟨rfl, rfl, rfl, rfl, (by (repeat' (first | exact trivial | exact GB_wf | exact fun _ _ => rfl | constructor)); first | done | fail), (by (repeat' (first | exact trivial | exact GB_fits rfl | constructor)); first | done | fail)⟩ ?_) | (refine vcall_out (l :=  [0, 2, 3, 4, 5]) (v2 ) ⟨rfl, rfl, rfl, rfl, (by (repeat' (first | exact trivial | exact GB_wf | exact fun _ _ => rfl | constructor)); first | done | fail), (by (repeat' (first | exact trivial | exact GB_fits rfl | constructor)); first | done | fail)⟩ ?_) | (refine vcall_out (l :=  [0, 2, 3, 4]) (n2 ) ⟨rfl, rfl, rfl, rfl, (by (repeat' (first | exact trivial | exact GB_wf | exact fun _ _ => rfl | constructor)); first | done | fail), (by (repeat' (first | exact trivial | exact GB_fits rfl | constructor)); first | done | fail)⟩ ?_) | (refine vcall_out (l :=  [0, 2, 3, 4]) (m3 ) ⟨rfl, rfl, rfl, rfl, (by (repeat' (first | exact trivial | exact GB_wf | exact fun _ _ => rfl | constructor)); first | done | fail), (by (repeat' (first | exact trivial | exact GB_fits rfl | constructor)); first | done | fail)⟩ ?_) | (refine br_dec (fun h => ?_) (fun h => ?_) <;> try (exfalso; (try dsimp only at h); omega)) | (refine br_ndec (fun h => ?_) (fun h => ?_) <;> try (exfalso; (try dsimp only at h); omega)) | refine br_seq (fun h => ?_) (fun h => ?_) | refine br_nseq (fun h => ?_) (fun h => ?_) | refine br_not (fun h => ?_) (fun h => ?_) | refine br_intro (fun h => ?_) (fun h => ?_) | refine cond_intro rfl ?_ | (refine cond_intro ⟨rfl, ?_⟩ ?_; (first | omega | (dsimp only; omega) | decide)) | (refine cond_intro ?_ ?_; (first | omega | (dsimp only; omega) | decide | (simp only [Nat.add_zero, Int.toNat_natCast, *]; omega))))
  all_goals (conv => whnf)
  all_goals first
    | exact ret_pure rfl
    | trace_state
end Go.Proofs.YtkbidlijinclcaaGreatDoor

/- Plain facts on the first place of a text in a list. No program in sight. -/
namespace Go.Sy
open Go.RowKit

theorem sidx_le (l : List ByteArray) (s : ByteArray) : sidx l s ≤ l.length := by
  induction l with
  | nil => simp [sidx]
  | cons x l ih =>
    simp only [sidx, seq]
    by_cases h : x = s
    · rw [decide_eq_true h]; simp
    · rw [decide_eq_false h]; simp; exact ih
theorem sidx_lt {l : List ByteArray} {s : ByteArray} : sidx l s < l.length ↔ s ∈ l := by
  induction l with
  | nil => simp [sidx]
  | cons x l ih =>
    simp only [sidx, seq]
    by_cases h : x = s
    · rw [decide_eq_true h]; simp [h]
    · rw [decide_eq_false h]
      have : ¬ s = x := fun e => h e.symm
      simp [this, ih]
theorem sidx_get {l : List ByteArray} {s : ByteArray} (h : sidx l s < l.length) : l[sidx l s]? = some s := by
  induction l with
  | nil => simp [sidx] at h
  | cons x l ih =>
    simp only [sidx, seq] at h ⊢
    by_cases e : x = s
    · rw [decide_eq_true e]; simp [e]
    · rw [decide_eq_false e] at h ⊢
      simp only [cond_false, List.length_cons, List.getElem?_cons_succ] at h ⊢
      exact ih (by omega)
theorem sidx_of_get {l : List ByteArray} (hd : l.Nodup) {i : Nat} {s : ByteArray} (h : l[i]? = some s) : sidx l s = i := by
  have hi : i < l.length := (List.getElem?_eq_some_iff.1 h).1
  have hm : s ∈ l := List.mem_iff_getElem?.2 ⟨i, h⟩
  have h2 := sidx_get (sidx_lt.2 hm)
  have h3 := sidx_lt.2 hm
  obtain ⟨_, e1⟩ := List.getElem?_eq_some_iff.1 h
  obtain ⟨_, e2⟩ := List.getElem?_eq_some_iff.1 h2
  exact (List.getElem_inj hd).1 (e2.trans e1.symm)
theorem put_key {l : List ByteArray} {s : ByteArray} : putL (sidx l s) s l = if sidx l s < l.length then l else l ++ [s] := by
  unfold putL
  split
  · rename_i h
    have := sidx_get h
    refine List.ext_getElem? fun i => ?_
    rw [List.getElem?_set]
    by_cases e : sidx l s = i
    · subst e; rw [if_pos rfl, if_pos h, this]
    · rw [if_neg e]
  · rfl

end Go.Sy

/- Plain facts on books: the rows as a function of the currency. No program in sight. -/
namespace Go.Proofs.YtkbidlijinclcaaGreatDoor
open Go.RowKit Go.Sy
set_option linter.unusedVariables false
set_option linter.unusedSimpArgs false

structure BkC (b : Bk) : Prop where
  cl : b.cs.length = b.m
  vl : b.vs.length = b.m
  nd : b.cs.Nodup
theorem row_at {b : Bk} (h : BkC b) {c : ByteArray} {j : Nat} (hj : b.cs[j]? = some c) : b.row c = b.vs.getD j z16 := by
  unfold Bk.row
  rw [Go.Sy.sidx_of_get h.nd hj]
theorem row_no {b : Bk} (h : BkC b) {c : ByteArray} (hc : ¬ c ∈ b.cs) : b.row c = z16 := by
  unfold Bk.row
  have : ¬ sidx b.cs c < b.cs.length := fun q => hc (Go.Sy.sidx_lt.1 q)
  rw [List.getD, List.getElem?_eq_none (by rw [h.vl, ← h.cl]; omega)]; rfl
theorem vs_of {b : Bk} (h : BkC b) {P : List Int → Prop} (hz : P z16) (hr : ∀ c, P (b.row c)) (i : Nat) : P (b.vs.getD i z16) := by
  by_cases e : i < b.m
  · have hj : b.cs[i]? = some (b.cs[i]'(by rw [h.cl]; exact e)) := List.getElem?_eq_getElem _
    have := hr (b.cs[i]'(by rw [h.cl]; exact e))
    rw [row_at h hj] at this
    exact this
  · rw [List.getD, List.getElem?_eq_none (by rw [h.vl]; omega)]; exact hz
theorem put_C {b : Bk} (h : BkC b) (c : ByteArray) (r : List Int) : BkC (b.put c r) := by
  have hle := Go.Sy.sidx_le b.cs c
  by_cases e : sidx b.cs c < b.m
  · have e2 : sidx b.cs c < b.cs.length := by rw [h.cl]; exact e
    refine ⟨?_, ?_, ?_⟩
    · show (putL _ _ _).length = if _ then _ else _
      rw [if_pos e, put_key, if_pos e2]; exact h.cl
    · show (putL _ _ _).length = if _ then _ else _
      rw [if_pos e]
      unfold putL
      rw [if_pos (by rw [h.vl]; exact e), List.length_set]; exact h.vl
    · show (putL _ _ _).Nodup
      rw [put_key, if_pos e2]; exact h.nd
  · have e2 : ¬ sidx b.cs c < b.cs.length := by rw [h.cl]; exact e
    refine ⟨?_, ?_, ?_⟩
    · show (putL _ _ _).length = if _ then _ else _
      rw [if_neg e, put_key, if_neg e2, List.length_append, h.cl]; rfl
    · show (putL _ _ _).length = if _ then _ else _
      rw [if_neg e]
      unfold putL
      rw [if_neg (by rw [h.vl]; exact e), List.length_append, h.vl]; rfl
    · show (putL _ _ _).Nodup
      rw [put_key, if_neg e2]
      refine List.nodup_append.2 ⟨h.nd, by simp, fun x hx y hy => ?_⟩
      simp only [List.mem_singleton] at hy
      subst hy
      intro q; subst q
      exact e2 (Go.Sy.sidx_lt.2 hx)
theorem put_row {b : Bk} (h : BkC b) (c : ByteArray) (r : List Int) (c' : ByteArray) : (b.put c r).row c' = if c' = c then r else b.row c' := by
  have hC := put_C h c r
  have hle := Go.Sy.sidx_le b.cs c
  by_cases e : sidx b.cs c < b.m
  · have e2 : sidx b.cs c < b.cs.length := by rw [h.cl]; exact e
    have ecs : (b.put c r).cs = b.cs := by show putL _ _ _ = _; rw [put_key, if_pos e2]
    have evs : (b.put c r).vs = b.vs.set (sidx b.cs c) r := by show putL _ _ _ = _; unfold putL; rw [if_pos (by rw [h.vl]; exact e)]
    show (b.put c r).vs.getD (sidx (b.put c r).cs c') z16 = _
    rw [ecs, evs]
    by_cases q : c' = c
    · subst q
      rw [if_pos rfl, List.getD, List.getElem?_set_self (by rw [h.vl]; exact e)]; rfl
    · rw [if_neg q]
      have : sidx b.cs c ≠ sidx b.cs c' := fun w => by
        have g1 := Go.Sy.sidx_get e2
        have g2 := Go.Sy.sidx_get (l := b.cs) (s := c') (by rw [← w]; exact e2)
        rw [← w, g1] at g2
        exact q (Option.some.inj g2).symm
      rw [List.getD, List.getElem?_set_ne this]; rfl
  · have e2 : ¬ sidx b.cs c < b.cs.length := by rw [h.cl]; exact e
    have ecs : (b.put c r).cs = b.cs ++ [c] := by show putL _ _ _ = _; rw [put_key, if_neg e2]
    have evs : (b.put c r).vs = b.vs ++ [r] := by show putL _ _ _ = _; unfold putL; rw [if_neg (by rw [h.vl]; exact e)]
    by_cases q : c' = c
    · subst q
      rw [if_pos rfl, row_at hC (j := b.m) (by rw [ecs, List.getElem?_append_right (by rw [h.cl]; omega), h.cl, Nat.sub_self]; rfl), evs, List.getD, List.getElem?_append_right (by rw [h.vl]; omega), h.vl, Nat.sub_self]; rfl
    · rw [if_neg q]
      by_cases hm : c' ∈ b.cs
      · obtain ⟨j, hj⟩ := List.mem_iff_getElem?.1 hm
        have hjl : j < b.m := by rw [← h.cl]; exact (List.getElem?_eq_some_iff.1 hj).1
        rw [row_at h hj, row_at hC (j := j) (by rw [ecs, List.getElem?_append_left (by rw [h.cl]; exact hjl)]; exact hj), evs, List.getD, List.getElem?_append_left (by rw [h.vl]; exact hjl)]; rfl
      · rw [row_no h hm, row_no hC (by rw [ecs]; simp [hm, q])]
theorem put_mem {b : Bk} (h : BkC b) (c : ByteArray) (r : List Int) (s : ByteArray) : s ∈ (b.put c r).cs ↔ s ∈ b.cs ∨ s = c := by
  show s ∈ putL _ _ _ ↔ _
  rw [put_key]
  split
  · rename_i e
    exact ⟨.inl, fun q => q.elim id (fun q => by subst q; exact Go.Sy.sidx_lt.1 e)⟩
  · simp
theorem del_C {b : Bk} (h : BkC b) (c : ByteArray) : BkC (b.del c) := by
  by_cases e : sidx b.cs c < b.m
  · refine ⟨?_, ?_, ?_⟩
    · show (b.cs.eraseIdx _).length = if _ then _ else _
      rw [if_pos e, List.length_eraseIdx_of_lt (by rw [h.cl]; exact e), h.cl]
    · show (b.vs.eraseIdx _).length = if _ then _ else _
      rw [if_pos e, List.length_eraseIdx_of_lt (by rw [h.vl]; exact e), h.vl]
    · exact h.nd.sublist (List.eraseIdx_sublist _ _)
  · refine ⟨?_, ?_, ?_⟩
    · show (b.cs.eraseIdx _).length = if _ then _ else _
      rw [if_neg e, List.eraseIdx_of_length_le (by rw [h.cl]; omega), h.cl]
    · show (b.vs.eraseIdx _).length = if _ then _ else _
      rw [if_neg e, List.eraseIdx_of_length_le (by rw [h.vl]; omega), h.vl]
    · exact h.nd.sublist (List.eraseIdx_sublist _ _)
theorem del_mem {b : Bk} (h : BkC b) (c s : ByteArray) : s ∈ (b.del c).cs ↔ s ∈ b.cs ∧ s ≠ c := by
  show s ∈ b.cs.eraseIdx _ ↔ _
  constructor
  · intro q
    refine ⟨(List.eraseIdx_sublist _ _).subset q, fun w => ?_⟩
    subst w
    obtain ⟨j, hj⟩ := List.mem_iff_getElem?.1 q
    rw [List.getElem?_eraseIdx] at hj
    by_cases e : j < sidx b.cs s
    · rw [if_pos e] at hj
      have := Go.Sy.sidx_of_get h.nd hj; omega
    · rw [if_neg e] at hj
      have := Go.Sy.sidx_of_get h.nd hj; omega
  · rintro ⟨q, w⟩
    obtain ⟨j, hj⟩ := List.mem_iff_getElem?.1 q
    have hne : j ≠ sidx b.cs c := fun e => by
      have hl : sidx b.cs c < b.cs.length := by rw [← e]; exact (List.getElem?_eq_some_iff.1 hj).1
      have g := Go.Sy.sidx_get hl
      rw [← e, hj] at g
      exact w (Option.some.inj g)
    refine List.mem_iff_getElem?.2 ?_
    by_cases e : j < sidx b.cs c
    · exact ⟨j, by rw [List.getElem?_eraseIdx, if_pos e]; exact hj⟩
    · exact ⟨j - 1, by rw [List.getElem?_eraseIdx, if_neg (by omega), show j - 1 + 1 = j by omega]; exact hj⟩
theorem del_row {b : Bk} (h : BkC b) (c c' : ByteArray) : (b.del c).row c' = if c' = c then z16 else b.row c' := by
  have hC := del_C h c
  by_cases q : c' = c
  · subst q
    rw [if_pos rfl, row_no hC (fun w => ((del_mem h c' c').1 w).2 rfl)]
  · rw [if_neg q]
    by_cases hm : c' ∈ b.cs
    · obtain ⟨j, hj⟩ := List.mem_iff_getElem?.1 hm
      have hne : j ≠ sidx b.cs c := fun e => by
        have hl : sidx b.cs c < b.cs.length := by rw [← e]; exact (List.getElem?_eq_some_iff.1 hj).1
        have g := Go.Sy.sidx_get hl
        rw [← e, hj] at g
        exact q (Option.some.inj g)
      rw [row_at h hj]
      have ecs : (b.del c).cs = b.cs.eraseIdx (sidx b.cs c) := rfl
      have evs : (b.del c).vs = b.vs.eraseIdx (sidx b.cs c) := rfl
      by_cases e : j < sidx b.cs c
      · rw [row_at hC (j := j) (by rw [ecs, List.getElem?_eraseIdx, if_pos e]; exact hj), evs, List.getD, List.getElem?_eraseIdx, if_pos e]; rfl
      · rw [row_at hC (j := j - 1) (by rw [ecs, List.getElem?_eraseIdx, if_neg (by omega), show j - 1 + 1 = j by omega]; exact hj), evs, List.getD, List.getElem?_eraseIdx, if_neg (by omega), show j - 1 + 1 = j by omega]; rfl
    · rw [row_no h hm, row_no hC (fun w => hm ((del_mem h c c').1 w).1)]
theorem mv1_C {b : Bk} (h : BkC b) (c : ByteArray) (r : List Int) : BkC (b.mv1 c r) := by
  unfold Bk.mv1
  split
  · exact del_C (put_C h c r) c
  · exact put_C h c r
theorem mv1_row {b : Bk} (h : BkC b) (c : ByteArray) (r : List Int) (c' : ByteArray) : (b.mv1 c r).row c' = if c' = c then r else b.row c' := by
  unfold Bk.mv1
  by_cases e : r = z16
  · rw [if_pos e, del_row (put_C h c r), put_row h]
    by_cases q : c' = c
    · rw [if_pos q, if_pos q, e]
    · rw [if_neg q, if_neg q]
  · rw [if_neg e, put_row h]
theorem mv1_mem {b : Bk} (h : BkC b) (c : ByteArray) (r : List Int) (s : ByteArray) : s ∈ (b.mv1 c r).cs ↔ (s ∈ b.cs ∧ s ≠ c) ∨ (s = c ∧ r ≠ z16) := by
  unfold Bk.mv1
  by_cases e : r = z16
  · rw [if_pos e, del_mem (put_C h c r), put_mem h]
    constructor
    · rintro ⟨q | q, w⟩
      · exact .inl ⟨q, w⟩
      · exact absurd q w
    · rintro (q | q)
      · exact ⟨.inl q.1, q.2⟩
      · exact absurd e q.2
  · rw [if_neg e, put_mem h]
    constructor
    · rintro (q | q)
      · by_cases w : s = c
        · exact .inr ⟨w, e⟩
        · exact .inl ⟨q, w⟩
      · exact .inr ⟨q, e⟩
    · rintro (q | q)
      · exact .inl q.1
      · exact .inr q.1
/-- A book's invariant, with a bound of its positions. -/
structure BkI (b : Bk) (B : Int) : Prop where
  C : BkC b
  n16 : b.n ≤ 16
  psl : b.ps.length = b.n
  nz : ∀ c, c ∈ b.cs → b.row c ≠ z16
  c3 : ∀ c, c ∈ b.cs → curB c = true
  rl : ∀ c, (b.row c).length = 16
  rb : ∀ c j, -B ≤ (b.row c).getD j 0 ∧ (b.row c).getD j 0 ≤ B
  rs : ∀ c, (b.row c).sum = 0
  rt : ∀ c j, b.n ≤ j → (b.row c).getD j 0 = 0
theorem BkI.ok {b : Bk} {B : Int} (h : BkI b B) (hB : B ≤ 4503599627370496) : b.Ok := by
  have h0 := h.rb ⟨#[]⟩ 0
  refine ⟨h.n16, h.psl, vs_of h.C (P := fun r => r.length = 16) rfl h.rl, fun i j => ?_⟩
  refine vs_of h.C (P := fun r => -4503599627370496 ≤ r.getD j 0 ∧ r.getD j 0 ≤ 4503599627370496) ?_ (fun c => ?_) i
  · show _ ≤ z16.getD j 0 ∧ z16.getD j 0 ≤ _
    rw [z16_get]; decide
  · show -4503599627370496 ≤ (b.row c).getD j 0 ∧ (b.row c).getD j 0 ≤ 4503599627370496
    have := h.rb c j; omega
theorem BkI.cok {b : Bk} {B : Int} (h : BkI b B) (hm : b.m ≤ 100000) : b.Cok := by
  refine ⟨hm, fun s hs => ?_, h.C.nd⟩
  have := h.c3 s hs
  unfold curB at this
  simp only [Bool.and_eq_true, decide_eq_true_eq] at this
  omega
theorem mem_row {b : Bk} {B : Int} (h : BkI b B) (c : ByteArray) : c ∈ b.cs ↔ b.row c ≠ z16 :=
  ⟨h.nz c, fun q => Classical.byContradiction fun w => q (row_no h.C w)⟩
theorem getD_ext {l m : List Int} {n : Nat} (h1 : l.length = n) (h2 : m.length = n) (h : ∀ j, l.getD j 0 = m.getD j 0) : l = m := by
  refine List.ext_getElem (by omega) fun i hi hj => ?_
  have := h i
  rwa [List.getD, List.getD, List.getElem?_eq_getElem hi, List.getElem?_eq_getElem hj] at this
/-- Books with the same rows have the same list. -/
theorem list_congr {b b' : Bk} {B B' : Int} (h : BkI b B) (h' : BkI b' B') (hn : b.n = b'.n) (hp : b.ps = b'.ps) (hr : ∀ c j, (b.row c).getD j 0 = (b'.row c).getD j 0) : b.list = b'.list ∧ sortS b.cs = sortS b'.cs ∧ b.m = b'.m := by
  have hrow : ∀ c, b.row c = b'.row c := fun c => getD_ext (h.rl c) (h'.rl c) (hr c)
  have hperm : b.cs.Perm b'.cs := (List.perm_ext_iff_of_nodup h.C.nd h'.C.nd).2 fun c => by rw [mem_row h, mem_row h', hrow c]
  have hm : b.m = b'.m := by rw [← h.C.cl, ← h'.C.cl]; exact hperm.length_eq
  have hs : sortS b.cs = sortS b'.cs := sortS_congr hperm
  refine ⟨?_, hs, hm⟩
  unfold Bk.list
  rw [hs, hm]
  have : ∀ k, liA b (sortS b'.cs) k = liA b' (sortS b'.cs) k := by
    intro k
    induction k with
    | zero => rfl
    | succ k ih => simp only [liA]; rw [ih, hrow, hp, hn]
  exact this _
theorem sum_set (l : List Int) (i : Nat) (x : Int) (h : i < l.length) : (l.set i x).sum = l.sum - l.getD i 0 + x := by
  induction l generalizing i with
  | nil => simp at h
  | cons y l ih =>
    cases i with
    | zero => simp only [List.set_cons_zero, List.sum_cons, List.getD_cons_zero]; omega
    | succ i =>
      simp only [List.length_cons] at h
      simp only [List.set_cons_succ, List.sum_cons, List.getD_cons_succ]
      rw [ih i (by omega)]; omega
theorem mvRow_get {r : List Int} {F T : Nat} {a : Int} (hl : r.length = 16) (hF : F < 16) (hT : T < 16) (hne : F ≠ T) (j : Nat) : (mvRow r F T a).getD j 0 = r.getD j 0 + ((if j = F then -a else 0) + (if j = T then a else 0)) := by
  unfold mvRow
  rw [set_getD2 _ _ _ _ (by rw [List.length_set, hl]; exact hT), set_getD2 _ _ _ _ (by rw [hl]; exact hF)]
  by_cases e : j = T
  · subst e
    rw [if_pos rfl, if_neg (fun q => hne q.symm), if_pos rfl]; omega
  · rw [if_neg e, if_neg e]
    by_cases e2 : j = F
    · subst e2; rw [if_pos rfl, if_pos rfl]; omega
    · rw [if_neg e2, if_neg e2]; omega
theorem mvRow_sum {r : List Int} {F T : Nat} {a : Int} (hl : r.length = 16) (hF : F < 16) (hT : T < 16) (hne : F ≠ T) : (mvRow r F T a).sum = r.sum := by
  unfold mvRow
  rw [sum_set _ _ _ (by rw [List.length_set, hl]; exact hT), sum_set _ _ _ (by rw [hl]; exact hF), set_getD2 _ _ _ _ (by rw [hl]; exact hF), if_neg (fun q => hne q.symm)]
  omega
end Go.Proofs.YtkbidlijinclcaaGreatDoor

/- Plain facts on sequences of moves. No program in sight. -/
namespace Go.Proofs.YtkbidlijinclcaaGreatDoor
open Go.RowKit Go.Sy
set_option linter.unusedVariables false
set_option linter.unusedSimpArgs false

/-- The error of a move that no position decides. -/
def stE (b : Bk) (f t c : ByteArray) (a : Int) : Int :=
  if idI b.ps f b.n < 0 ∨ idI b.ps t b.n < 0 then 6
  else if idI b.ps f b.n = idI b.ps t b.n then 4
  else if mchk a c ≠ 0 then mchk a c
  else if a < 0 then 4 else 0
theorem stE_ok {b : Bk} {f t c : ByteArray} {a : Int} (h : stE b f t c a = 0) : sidx b.ps f < b.n ∧ sidx b.ps t < b.n ∧ sidx b.ps f ≠ sidx b.ps t ∧ curB c = true ∧ 0 ≤ a ∧ a ≤ 4503599627370496 ∧ mchk a c = 0 := by
  unfold stE at h
  split at h
  · cases h
  · rename_i h1
    split at h
    · cases h
    · rename_i h2
      split at h
      · rename_i h3; exact absurd h h3
      · rename_i h3
        split at h
        · cases h
        · rename_i h4
          have h3' : mchk a c = 0 := by simpa using h3
          have hm := mchk_or a c
          rw [h3'] at hm
          have g1 : sidx b.ps f < b.n := by
            rcases Nat.lt_or_ge (sidx b.ps f) b.n with q | q
            · exact q
            · exact absurd (Or.inl (by rw [idI_no (by omega)]; decide)) h1
          have g2 : sidx b.ps t < b.n := by
            rcases Nat.lt_or_ge (sidx b.ps t) b.n with q | q
            · exact q
            · exact absurd (Or.inr (by rw [idI_no (by omega)]; decide)) h1
          rw [idI_lt g1, idI_lt g2] at h2
          rcases hm with hm | hm
          · omega
          · exact ⟨g1, g2, by omega, hm.2.1, by omega, hm.2.2.2, h3'⟩
theorem mvE_st (b : Bk) (f t c : ByteArray) (a : Int) : mvE b f t c a = if stE b f t c a ≠ 0 then stE b f t c a else if fitB ((b.row c).getD (sidx b.ps f) 0 - a) = true ∧ fitB ((b.row c).getD (sidx b.ps t) 0 + a) = true then 0 else 4 := by
  unfold mvE stE
  split
  · rfl
  · split
    · rfl
    · split
      · rfl
      · split
        · rfl
        · rfl
/-- A move that is not refused keeps the invariant. -/
theorem mv1_I {b : Bk} {B B' : Int} (h : BkI b B) {f t c : ByteArray} {a : Int} (hs : stE b f t c a = 0) (hB : B ≤ B') (h1 : -B' ≤ (b.row c).getD (sidx b.ps f) 0 - a ∧ (b.row c).getD (sidx b.ps f) 0 - a ≤ B') (h2 : -B' ≤ (b.row c).getD (sidx b.ps t) 0 + a ∧ (b.row c).getD (sidx b.ps t) 0 + a ≤ B') : BkI (b.mv1 c (mvRow (b.row c) (sidx b.ps f) (sidx b.ps t) a)) B' := by
  obtain ⟨hF, hT, hne, hc, ha, _⟩ := stE_ok hs
  have hn := h.n16
  have hps : (b.mv1 c (mvRow (b.row c) (sidx b.ps f) (sidx b.ps t) a)).ps = b.ps := by unfold Bk.mv1; split <;> rfl
  have hnn : (b.mv1 c (mvRow (b.row c) (sidx b.ps f) (sidx b.ps t) a)).n = b.n := by unfold Bk.mv1; split <;> rfl
  have hg := mvRow_get (a := a) (h.rl c) (show sidx b.ps f < 16 by omega) (show sidx b.ps t < 16 by omega) hne
  refine ⟨mv1_C h.C _ _, by rw [hnn]; exact hn, by rw [hps, hnn]; exact h.psl, fun s q => ?_, fun s q => ?_, fun s => ?_, fun s j => ?_, fun s => ?_, fun s j q => ?_⟩
  · rw [mv1_mem h.C] at q
    rw [mv1_row h.C]
    rcases q with q | q
    · rw [if_neg q.2]; exact h.nz s q.1
    · rw [if_pos q.1]; exact q.2
  · rw [mv1_mem h.C] at q
    rcases q with q | q
    · exact h.c3 s q.1
    · rw [q.1]; exact hc
  · rw [mv1_row h.C]
    split
    · rw [List.length_set, List.length_set]; exact h.rl c
    · exact h.rl s
  · rw [mv1_row h.C]
    split
    · rw [hg j]
      have := h.rb c j
      by_cases e1 : j = sidx b.ps f
      · rw [if_pos e1, if_neg (by omega), e1]; omega
      · by_cases e2 : j = sidx b.ps t
        · rw [if_neg e1, if_pos e2, e2]; omega
        · rw [if_neg e1, if_neg e2]; omega
    · have := h.rb s j; omega
  · rw [mv1_row h.C]
    split
    · rw [mvRow_sum (h.rl c) (by omega) (by omega) hne]; exact h.rs c
    · exact h.rs s
  · rw [hnn] at q
    rw [mv1_row h.C]
    split
    · rw [hg j, if_neg (by omega), if_neg (by omega), h.rt c j q]; rfl
    · exact h.rt s j q
theorem mv_ps (b : Bk) (f t c : ByteArray) (a : Int) : (b.mv f t c a).ps = b.ps ∧ (b.mv f t c a).n = b.n := by
  unfold Bk.mv Bk.mv1
  split
  · split <;> exact ⟨rfl, rfl⟩
  · exact ⟨rfl, rfl⟩
theorem mv_m (b : Bk) (f t c : ByteArray) (a : Int) : (b.mv f t c a).m ≤ b.m + 1 := by
  have hp : ∀ r, (b.put c r).m ≤ b.m + 1 := fun r => by
    unfold Bk.put; dsimp only
    split <;> omega
  have hd : ∀ b' : Bk, (b'.del c).m ≤ b'.m := fun b' => by
    unfold Bk.del; dsimp only
    split <;> omega
  unfold Bk.mv Bk.mv1
  split
  · split
    · exact Nat.le_trans (hd _) (hp _)
    · exact hp _
  · omega
/-- Any move keeps the invariant at the greatest bound. -/
theorem mv_I {b : Bk} (h : BkI b 4503599627370496) (f t c : ByteArray) (a : Int) : BkI (b.mv f t c a) 4503599627370496 := by
  by_cases e : mvE b f t c a = 0
  · have e2 := e
    rw [mvE_st] at e2
    by_cases s : stE b f t c a = 0
    · rw [if_neg (by simpa using s)] at e2
      split at e2
      · rename_i g
        rw [fitB_t, fitB_t] at g
        unfold Bk.mv
        rw [if_pos e]
        exact mv1_I h s (Int.le_refl _) g.1 g.2
      · cases e2
    · rw [if_pos s] at e2; exact absurd e2 s
  · rw [mv_err e]; exact h
/-- A move of a small amount in a book of small positions: no position refuses it. -/
theorem mv_small {b : Bk} {B : Int} (h : BkI b B) (hB : B + 1000000000000 ≤ 4503599627370496) (f t c : ByteArray) (a : Int) (ha : a ≤ 1000000000000) : mvE b f t c a = stE b f t c a ∧ BkI (b.mv f t c a) (B + 1000000000000) := by
  by_cases s : stE b f t c a = 0
  · have hk := stE_ok s
    have r1 := h.rb c (sidx b.ps f)
    have r2 := h.rb c (sidx b.ps t)
    have e : mvE b f t c a = 0 := by
      rw [mvE_st, if_neg (by simpa using s), if_pos ⟨fitB_t.2 (by omega), fitB_t.2 (by omega)⟩]
    refine ⟨by rw [e, s], ?_⟩
    unfold Bk.mv
    rw [if_pos e]
    exact mv1_I h s (by omega) (by omega) (by omega)
  · have e : mvE b f t c a = stE b f t c a := by rw [mvE_st, if_pos s]
    refine ⟨e, ?_⟩
    rw [mv_err (by rw [e]; exact s)]
    have g := h.rb
    exact ⟨h.C, h.n16, h.psl, h.nz, h.c3, h.rl, fun c j => by have := g c j; omega, h.rs, h.rt⟩
/-- What a move adds to a position. -/
def dM (b : Bk) (f t c : ByteArray) (a : Int) (c' : ByteArray) (j : Nat) : Int := if stE b f t c a = 0 ∧ c' = c then (if j = sidx b.ps f then -a else 0) + (if j = sidx b.ps t then a else 0) else 0
theorem mv_row {b : Bk} {B : Int} (h : BkI b B) {f t c : ByteArray} {a : Int} (he : mvE b f t c a = stE b f t c a) (c' : ByteArray) (j : Nat) : ((b.mv f t c a).row c').getD j 0 = (b.row c').getD j 0 + dM b f t c a c' j := by
  unfold dM
  by_cases s : stE b f t c a = 0
  · obtain ⟨hF, hT, hne, hc, ha, _⟩ := stE_ok s
    have hn := h.n16
    unfold Bk.mv
    rw [if_pos (by rw [he]; exact s), mv1_row h.C]
    by_cases q : c' = c
    · rw [if_pos q, if_pos ⟨s, q⟩, mvRow_get (h.rl c) (by omega) (by omega) hne, q]
    · rw [if_neg q, if_neg (fun w => q w.2)]; omega
  · rw [mv_err (by rw [he]; exact s), if_neg (fun w => s w.1)]; omega
structure Mv where
  f : ByteArray
  t : ByteArray
  a : Int
  c : ByteArray
def mv0 : Mv := ⟨⟨#[]⟩, ⟨#[]⟩, 0, ⟨#[]⟩⟩
abbrev Bk.go (b : Bk) (m : Mv) : Bk := b.mv m.f m.t m.c m.a
def Bk.all (b : Bk) (M : List Mv) : Bk := M.foldl Bk.go b
theorem all_snoc (b : Bk) (M : List Mv) (m : Mv) : b.all (M ++ [m]) = (b.all M).go m := by unfold Bk.all; rw [List.foldl_append]; rfl
theorem all_ps (b : Bk) : ∀ M : List Mv, (b.all M).ps = b.ps ∧ (b.all M).n = b.n := fun M => by
  unfold Bk.all
  induction M generalizing b with
  | nil => exact ⟨rfl, rfl⟩
  | cons m M ih =>
    have := ih (b.go m)
    have h2 := mv_ps b m.f m.t m.c m.a
    exact ⟨this.1.trans h2.1, this.2.trans h2.2⟩
theorem all_m (b : Bk) : ∀ M : List Mv, (b.all M).m ≤ b.m + M.length := fun M => by
  unfold Bk.all
  induction M generalizing b with
  | nil => exact Nat.le_refl _
  | cons m M ih =>
    have := ih (b.go m)
    have h2 : (b.go m).m ≤ b.m + 1 := mv_m b m.f m.t m.c m.a
    simp only [List.foldl_cons, List.length_cons]
    omega
theorem all_I {b : Bk} (h : BkI b 4503599627370496) : ∀ M : List Mv, BkI (b.all M) 4503599627370496 := fun M => by
  unfold Bk.all
  induction M generalizing b with
  | nil => exact h
  | cons m M ih => exact ih (mv_I h m.f m.t m.c m.a)
theorem stE_ps {b b' : Bk} (h1 : b'.ps = b.ps) (h2 : b'.n = b.n) (f t c : ByteArray) (a : Int) : stE b' f t c a = stE b f t c a := by unfold stE; rw [h1, h2]
theorem dM_ps {b b' : Bk} (h1 : b'.ps = b.ps) (h2 : b'.n = b.n) (f t c : ByteArray) (a : Int) (c' : ByteArray) (j : Nat) : dM b' f t c a c' j = dM b f t c a c' j := by unfold dM; rw [stE_ps h1 h2, h1]
/-- Small moves: each position is the sum of what the moves add. -/
theorem all_row {b : Bk} {B : Int} (h : BkI b B) : ∀ (M : List Mv), (∀ m ∈ M, m.a ≤ 1000000000000) → B + 1000000000000 * (M.length : Int) ≤ 4503599627370496 → BkI (b.all M) (B + 1000000000000 * (M.length : Int)) ∧ ∀ c j, ((b.all M).row c).getD j 0 = (b.row c).getD j 0 + (M.map (fun m => dM b m.f m.t m.c m.a c j)).sum := fun M => by
  unfold Bk.all
  induction M generalizing b B with
  | nil =>
    intro _ _
    refine ⟨?_, fun c j => by simp⟩
    have e : B + 1000000000000 * ((([] : List Mv).length : Nat) : Int) = B := by simp
    rw [e]; exact h
  | cons m M ih =>
    intro ha hB
    simp only [List.length_cons] at hB ⊢
    obtain ⟨g1, g2⟩ := mv_small h (by omega) m.f m.t m.c m.a (ha m (List.mem_cons_self))
    obtain ⟨i1, i2⟩ := ih g2 (fun x hx => ha x (List.mem_cons_of_mem _ hx)) (by omega)
    have hp := mv_ps b m.f m.t m.c m.a
    refine ⟨?_, fun c j => ?_⟩
    · have e : B + 1000000000000 * ((M.length + 1 : Nat) : Int) = B + 1000000000000 + 1000000000000 * (M.length : Int) := by omega
      rw [e]; exact i1
    · rw [List.foldl_cons, i2 c j, mv_row h g1 c j, List.map_cons, List.sum_cons]
      have : M.map (fun m' => dM (b.go m) m'.f m'.t m'.c m'.a c j) = M.map (fun m' => dM b m'.f m'.t m'.c m'.a c j) := List.map_congr_left fun x _ => dM_ps hp.1 hp.2 _ _ _ _ _ _
      rw [this]; omega
theorem psum {l m : List Int} (h : l.Perm m) : l.sum = m.sum := by
  induction h with
  | nil => rfl
  | cons x _ ih => simp only [List.sum_cons]; omega
  | swap x y l => simp only [List.sum_cons]; omega
  | trans _ _ i1 i2 => omega
/-- The order of small moves does not matter. -/
theorem all_perm {b : Bk} (h : BkI b 0) {M N : List Mv} (hp : M.Perm N) (ha : ∀ m ∈ M, m.a ≤ 1000000000000) (hl : M.length ≤ 60) : (b.all M).list = (b.all N).list ∧ BkI (b.all M) 4503599627370496 := by
  have hl2 := hp.length_eq
  obtain ⟨g1, g2⟩ := all_row h M ha (by omega)
  obtain ⟨g3, g4⟩ := all_row h N (fun m hm => ha m (hp.mem_iff.2 hm)) (by omega)
  have p1 := all_ps b M
  have p2 := all_ps b N
  refine ⟨(list_congr g1 g3 (by rw [p1.2, p2.2]) (by rw [p1.1, p2.1]) fun c j => ?_).1, ?_⟩
  · rw [g2, g4, psum (hp.map _)]
  · have g := g1.rb
    exact ⟨g1.C, g1.n16, g1.psl, g1.nz, g1.c3, g1.rl, fun c j => by have := g c j; omega, g1.rs, g1.rt⟩
theorem stE_swap {b : Bk} {f t c : ByteArray} {a : Int} (h : stE b f t c a = 0) : stE b t f c a = 0 := by
  obtain ⟨h1, h2, h3, h4, h5, h6, h7⟩ := stE_ok h
  unfold stE
  rw [idI_lt h1, idI_lt h2, if_neg (by omega), if_neg (by omega), if_neg (by simpa using h7), if_neg (by omega)]
/-- A move and the opposite one change no position. -/
theorem mv_back {b : Bk} (h : BkI b 4503599627370496) {f t c : ByteArray} {a : Int} (he : mvE b f t c a = 0) : mvE (b.mv f t c a) t f c a = 0 ∧ ∀ c' j, (((b.mv f t c a).mv t f c a).row c').getD j 0 = (b.row c').getD j 0 := by
  have s : stE b f t c a = 0 := by
    rw [mvE_st] at he
    by_cases q : stE b f t c a = 0
    · exact q
    · rw [if_pos q] at he; exact he
  obtain ⟨hF, hT, hne, hc, ha, _⟩ := stE_ok s
  have hn := h.n16
  have hI := mv_I h f t c a
  have hp := mv_ps b f t c a
  have r1 := mv_row h (by rw [he, s])
  have s2 : stE (b.mv f t c a) t f c a = 0 := by rw [stE_ps hp.1 hp.2]; exact stE_swap s
  have d1 : dM b f t c a c (sidx b.ps t) = a := by unfold dM; rw [if_pos ⟨s, rfl⟩, if_neg (fun q => hne q.symm), if_pos rfl]; omega
  have d2 : dM b f t c a c (sidx b.ps f) = -a := by unfold dM; rw [if_pos ⟨s, rfl⟩, if_pos rfl, if_neg hne]; omega
  have e2 : mvE (b.mv f t c a) t f c a = 0 := by
    have b1 := h.rb c (sidx b.ps f)
    have b2 := h.rb c (sidx b.ps t)
    rw [mvE_st, if_neg (by simpa using s2), hp.1, r1, r1, d1, d2, if_pos ⟨fitB_t.2 (by omega), fitB_t.2 (by omega)⟩]
  refine ⟨e2, fun c' j => ?_⟩
  rw [mv_row hI (by rw [e2, s2]) c' j, r1 c' j, dM_ps hp.1 hp.2]
  have : dM b f t c a c' j + dM b t f c a c' j = 0 := by
    unfold dM
    by_cases q : c' = c
    · rw [if_pos (show stE b f t c a = 0 ∧ c' = c from ⟨s, q⟩), if_pos (show stE b t f c a = 0 ∧ c' = c from ⟨stE_swap s, q⟩)]
      by_cases w1 : j = sidx b.ps f
      · have w2 : ¬ j = sidx b.ps t := by omega
        rw [if_pos w1, if_neg w2, if_neg w2, if_pos w1]; omega
      · rw [if_neg w1]
        by_cases w2 : j = sidx b.ps t
        · rw [if_pos w2, if_pos w2, if_neg w1]; omega
        · rw [if_neg w2, if_neg w2, if_neg w1]; omega
    · rw [if_neg (fun w => q w.2), if_neg (fun w => q w.2)]; rfl
  omega
end Go.Proofs.YtkbidlijinclcaaGreatDoor

/- The law PositionSums. -/
namespace Go.Proofs.YtkbidlijinclcaaGreatDoor
open Go.RowKit Go.Sy
attribute [local irreducible] vcall vloop vcallD retP
set_option maxRecDepth 100000
set_option linter.unusedVariables false
set_option linter.unusedSimpArgs false

theorem inI_of {l : List Int} (h : ∀ x ∈ l, (Lit.int .i64 x).wf = true) (j : Nat) : inI (l.getD j 0) := by
  by_cases e : j < l.length
  · rw [List.getD, List.getElem?_eq_getElem e]; exact wf_i64 (h _ (List.getElem_mem e))
  · rw [List.getD, List.getElem?_eq_none (by omega)]; unfold inI; decide
end Go.Proofs.YtkbidlijinclcaaGreatDoor

/- Contracts of the law's helpers; contracts of a book as the laws see it. -/
namespace Go.Proofs.YtkbidlijinclcaaGreatDoor
open Go.RowKit Go.Sy
attribute [local irreducible] vcall vloop vcallD retP
set_option maxRecDepth 100000
set_option linter.unusedVariables false
set_option linter.unusedSimpArgs false

theorem i64_succ' {k : Nat} (h : k < 9223372036854775807) : IntKind.i64.wrap ((k : Int) + 1) = ((k + 1 : Nat) : Int) := by rw [w64_in (by omega) (by omega)]; rfl
abbrev mvB (n : Nat) (mf mt : List ByteArray) (ma : List Int) (mc : List ByteArray) : Blk := .cols n [.sc (.strs mf), .sc (.strs mt), .sc (.ints .i64 ma), .sc (.strs mc)]
abbrev rlB (q : RL) : Blk := .cols q.l [.sc (.strs q.f), .sc (.strs q.t), .sc (.ints .i64 q.n), .sc (.ints .i64 q.d)]
def szK (mf mt mc : List ByteArray) : Nat → Bool
  | 0 => true
  | k + 1 => szK mf mt mc k && !decide (100 < IntKind.i64.wrap (IntKind.i64.wrap (((mf.getD k ⟨#[]⟩).size : Int) + ((mt.getD k ⟨#[]⟩).size : Int)) + ((mc.getD k ⟨#[]⟩).size : Int)))
theorem szK_stop {mf mt mc : List ByteArray} {k : Nat} (h : 100 < IntKind.i64.wrap (IntKind.i64.wrap (((mf.getD k ⟨#[]⟩).size : Int) + ((mt.getD k ⟨#[]⟩).size : Int)) + ((mc.getD k ⟨#[]⟩).size : Int))) : ∀ n, k < n → szK mf mt mc n = false
  | 0, q => by omega
  | n + 1, q => by
    simp only [szK]
    by_cases e : k = n
    · subst e; rw [decide_eq_true h]; simp
    · rw [szK_stop h n (by omega), Bool.false_and]
def rzK (rf rt : List ByteArray) : Nat → Bool
  | 0 => true
  | k + 1 => rzK rf rt k && !decide (50 < IntKind.i64.wrap (((rf.getD k ⟨#[]⟩).size : Int) + ((rt.getD k ⟨#[]⟩).size : Int)))
theorem rzK_stop {rf rt : List ByteArray} {k : Nat} (h : 50 < IntKind.i64.wrap (((rf.getD k ⟨#[]⟩).size : Int) + ((rt.getD k ⟨#[]⟩).size : Int))) : ∀ n, k < n → rzK rf rt n = false
  | 0, q => by omega
  | n + 1, q => by
    simp only [rzK]
    by_cases e : k = n
    · subst e; rw [decide_eq_true h]; simp
    · rw [rzK_stop h n (by omega), Bool.false_and]
def smB (mf mt mc : List ByteArray) (n : Nat) (q : RL) : Bool := szK mf mt mc n && (rzK q.f q.t q.l && (decide (n ≤ 60) && decide (q.l ≤ 20)))
theorem smB_ok {mf mt mc : List ByteArray} {n : Nat} {q : RL} (h : smB mf mt mc n q = true) : n ≤ 60 ∧ q.l ≤ 20 := by
  unfold smB at h
  simp only [Bool.and_eq_true, decide_eq_true_eq] at h
  exact h.2.2
theorem law_small (n : Nat) (mf mt : List ByteArray) (ma : List Int) (mc : List ByteArray) (q : RL) (hn : n ≤ maxLen) (hq : q.l ≤ maxLen) : FC Tryz.prog 3 6 [.sl 1 0 0 n, .sl 2 0 0 q.l] [(1, some (.one true (mvB n mf mt ma mc))), (2, some (.one true (rlB q)))] (isOut (.bool (smB mf mt mc n q)) [] 3) := by
  have eM : maxLen = 9223372036854775807 := rfl
  refine fc_of mixed T_ok Tryz.func6 rfl (by kernel_rfl) (by kernel_rfl) (by kernel_rfl) ?_
  repeat' ((conv => whnf); first | (refine br_dec (fun h => ?_) (fun h => ?_) <;> try (exfalso; (try dsimp only at h); omega)) | (refine br_ndec (fun h => ?_) (fun h => ?_) <;> try (exfalso; (try dsimp only at h); omega)) | refine br_seq (fun h => ?_) (fun h => ?_) | refine br_nseq (fun h => ?_) (fun h => ?_) | refine br_not (fun h => ?_) (fun h => ?_) | refine br_intro (fun h => ?_) (fun h => ?_) | refine cond_intro rfl ?_ | (refine cond_intro ⟨rfl, ?_⟩ ?_; (first | omega | (dsimp only; omega) | decide)) | (refine cond_intro ?_ ?_; (first | omega | (dsimp only; omega) | decide | (simp only [Nat.add_zero, Int.toNat_natCast, *]; omega))))
  all_goals (conv => whnf)
  refine vloop_lp (fun k : Nat => ⟨[(0, .sl 1 0 0 n), (1, .sl 2 0 0 q.l), (5, .int .i64 k)], [(1, some (.one true (mvB n mf mt ma mc))), (2, some (.one true (rlB q)))], 3⟩) (fun k => k ≤ n ∧ szK mf mt mc k = true) (fun k => n - k) 0 [0, 1, 2] [] ⟨rfl, ⟨rfl, rfl, rfl, trivial⟩, ⟨rfl, rfl, trivial⟩⟩ ⟨Nat.zero_le _, rfl⟩ ?_
  rintro k ⟨hk, hs⟩
  by_cases hk2 : k < n
  · by_cases g : 100 < IntKind.i64.wrap (IntKind.i64.wrap (((mf.getD k ⟨#[]⟩).size : Int) + ((mt.getD k ⟨#[]⟩).size : Int)) + ((mc.getD k ⟨#[]⟩).size : Int))
    · have e : smB mf mt mc n q = false := by unfold smB; rw [szK_stop g n hk2, Bool.false_and]
      rw [e]
      repeat' ((conv => whnf); first | (refine br_dec (fun h => ?_) (fun h => ?_) <;> try (exfalso; (try dsimp only at h); omega)) | (refine br_ndec (fun h => ?_) (fun h => ?_) <;> try (exfalso; (try dsimp only at h); omega)) | refine br_seq (fun h => ?_) (fun h => ?_) | refine br_nseq (fun h => ?_) (fun h => ?_) | refine br_not (fun h => ?_) (fun h => ?_) | refine br_intro (fun h => ?_) (fun h => ?_) | refine cond_intro rfl ?_ | (refine cond_intro ⟨rfl, ?_⟩ ?_; (first | omega | (dsimp only; omega) | decide)) | (refine cond_intro ?_ ?_; (first | omega | (dsimp only; omega) | decide | (simp only [Nat.add_zero, Int.toNat_natCast, *]; omega))))
      all_goals (conv => whnf)
      all_goals first
        | exact ret_out (l := [0, 1, 2]) rfl rfl trivial allRw_nil
        | (exfalso; first | omega | contradiction)
        | trace_state
    · have e : szK mf mt mc (k + 1) = true := by simp only [szK]; rw [hs, decide_eq_false g]; rfl
      repeat' ((conv => whnf); first | (refine br_dec (fun h => ?_) (fun h => ?_) <;> try (exfalso; (try dsimp only at h); omega)) | (refine br_ndec (fun h => ?_) (fun h => ?_) <;> try (exfalso; (try dsimp only at h); omega)) | refine br_seq (fun h => ?_) (fun h => ?_) | refine br_nseq (fun h => ?_) (fun h => ?_) | refine br_not (fun h => ?_) (fun h => ?_) | refine br_intro (fun h => ?_) (fun h => ?_) | refine cond_intro rfl ?_ | (refine cond_intro ⟨rfl, ?_⟩ ?_; (first | omega | (dsimp only; omega) | decide)) | (refine cond_intro ?_ ?_; (first | omega | (dsimp only; omega) | decide | (simp only [Nat.add_zero, Int.toNat_natCast, *]; omega))))
      all_goals (conv => whnf)
      all_goals first
        | exact ⟨k + 1, [0, 1, 2], [], ⟨hk2, e⟩, (show n - (k + 1) < n - k by omega), ⟨rfl, ⟨rfl, rfl, congrArg (fun z => some (SV.int .i64 z)) (i64_succ' (by omega)), trivial⟩, ⟨rfl, rfl, trivial⟩⟩⟩
        | (exfalso; first | omega | contradiction)
        | trace_state
  have ek : k = n := by omega
  subst ek
  repeat' ((conv => whnf); first | (refine br_dec (fun h => ?_) (fun h => ?_) <;> try (exfalso; (try dsimp only at h); omega)) | (refine br_ndec (fun h => ?_) (fun h => ?_) <;> try (exfalso; (try dsimp only at h); omega)) | refine br_seq (fun h => ?_) (fun h => ?_) | refine br_nseq (fun h => ?_) (fun h => ?_) | refine br_not (fun h => ?_) (fun h => ?_) | refine br_intro (fun h => ?_) (fun h => ?_) | refine cond_intro rfl ?_ | (refine cond_intro ⟨rfl, ?_⟩ ?_; (first | omega | (dsimp only; omega) | decide)) | (refine cond_intro ?_ ?_; (first | omega | (dsimp only; omega) | decide | (simp only [Nat.add_zero, Int.toNat_natCast, *]; omega))))
  all_goals (conv => whnf)
  all_goals first
    | (exfalso; omega)
    | skip
  refine vloop_lp (fun j : Nat => ⟨[(0, .sl 1 0 0 k), (1, .sl 2 0 0 q.l), (6, .int .i64 j)], [(1, some (.one true (mvB k mf mt ma mc))), (2, some (.one true (rlB q)))], 3⟩) (fun j => j ≤ q.l ∧ rzK q.f q.t j = true) (fun j => q.l - j) 0 [0, 1, 2] [] ⟨rfl, ⟨rfl, rfl, rfl, trivial⟩, ⟨rfl, rfl, trivial⟩⟩ ⟨Nat.zero_le _, rfl⟩ ?_
  rintro j ⟨hj, hz⟩
  by_cases hj2 : j < q.l
  · by_cases g : 50 < IntKind.i64.wrap (((q.f.getD j ⟨#[]⟩).size : Int) + ((q.t.getD j ⟨#[]⟩).size : Int))
    · have e : smB mf mt mc k q = false := by unfold smB; rw [rzK_stop g q.l hj2, Bool.false_and, Bool.and_false]
      rw [e]
      repeat' ((conv => whnf); first | (refine br_dec (fun h => ?_) (fun h => ?_) <;> try (exfalso; (try dsimp only at h); omega)) | (refine br_ndec (fun h => ?_) (fun h => ?_) <;> try (exfalso; (try dsimp only at h); omega)) | refine br_seq (fun h => ?_) (fun h => ?_) | refine br_nseq (fun h => ?_) (fun h => ?_) | refine br_not (fun h => ?_) (fun h => ?_) | refine br_intro (fun h => ?_) (fun h => ?_) | refine cond_intro rfl ?_ | (refine cond_intro ⟨rfl, ?_⟩ ?_; (first | omega | (dsimp only; omega) | decide)) | (refine cond_intro ?_ ?_; (first | omega | (dsimp only; omega) | decide | (simp only [Nat.add_zero, Int.toNat_natCast, *]; omega))))
      all_goals (conv => whnf)
      all_goals first
        | exact ret_out (l := [0, 1, 2]) rfl rfl trivial allRw_nil
        | (exfalso; first | omega | contradiction)
        | trace_state
    · have e : rzK q.f q.t (j + 1) = true := by simp only [rzK]; rw [hz, decide_eq_false g]; rfl
      repeat' ((conv => whnf); first | (refine br_dec (fun h => ?_) (fun h => ?_) <;> try (exfalso; (try dsimp only at h); omega)) | (refine br_ndec (fun h => ?_) (fun h => ?_) <;> try (exfalso; (try dsimp only at h); omega)) | refine br_seq (fun h => ?_) (fun h => ?_) | refine br_nseq (fun h => ?_) (fun h => ?_) | refine br_not (fun h => ?_) (fun h => ?_) | refine br_intro (fun h => ?_) (fun h => ?_) | refine cond_intro rfl ?_ | (refine cond_intro ⟨rfl, ?_⟩ ?_; (first | omega | (dsimp only; omega) | decide)) | (refine cond_intro ?_ ?_; (first | omega | (dsimp only; omega) | decide | (simp only [Nat.add_zero, Int.toNat_natCast, *]; omega))))
      all_goals (conv => whnf)
      all_goals first
        | exact ⟨j + 1, [0, 1, 2], [], ⟨hj2, e⟩, (show q.l - (j + 1) < q.l - j by omega), ⟨rfl, ⟨rfl, rfl, congrArg (fun z => some (SV.int .i64 z)) (i64_succ' (by omega)), trivial⟩, ⟨rfl, rfl, trivial⟩⟩⟩
        | (exfalso; first | omega | contradiction)
        | trace_state
  have ej : j = q.l := by omega
  have e : smB mf mt mc k q = (decide (k ≤ 60) && decide (q.l ≤ 20)) := by unfold smB; rw [hs, ← ej, hz]; rfl
  rw [e]
  by_cases w1 : k ≤ 60 <;> by_cases w2 : q.l ≤ 20
  all_goals simp only [w1, w2, decide_true, decide_false, Bool.and_true, Bool.and_false, Bool.true_and, Bool.false_and]
  all_goals repeat' ((conv => whnf); first | (refine br_dec (fun h => ?_) (fun h => ?_) <;> try (exfalso; (try dsimp only at h); omega)) | (refine br_ndec (fun h => ?_) (fun h => ?_) <;> try (exfalso; (try dsimp only at h); omega)) | refine br_seq (fun h => ?_) (fun h => ?_) | refine br_nseq (fun h => ?_) (fun h => ?_) | refine br_not (fun h => ?_) (fun h => ?_) | refine br_intro (fun h => ?_) (fun h => ?_) | refine cond_intro rfl ?_ | (refine cond_intro ⟨rfl, ?_⟩ ?_; (first | omega | (dsimp only; omega) | decide)) | (refine cond_intro ?_ ?_; (first | omega | (dsimp only; omega) | decide | (simp only [Nat.add_zero, Int.toNat_natCast, *]; omega))))
  all_goals (conv => whnf)
  all_goals first
    | exact ret_out (l := [0, 1, 2]) rfl rfl trivial allRw_nil
    | exact ret_out (l := [0, 1, 2]) rfl (congrArg SV.bool (decide_eq_true (by omega))) trivial allRw_nil
    | exact ret_out (l := [0, 1, 2]) rfl (congrArg SV.bool (decide_eq_false (by omega))) trivial allRw_nil
    | (exfalso; omega)
    | trace_state
def rl0 : RL := ⟨[], [], [], [], 0⟩
theorem hget_swap {a b : Nat} {x y : Option HB} (h : a ≠ b) (k : Nat) : hget [(b, y), (a, x)] k = hget [(a, x), (b, y)] k := by
  simp only [hget]
  cases ha : Nat.beq a k <;> cases hb : Nat.beq b k <;> try rfl
  exact absurd ((Nat.eq_of_beq_eq_true ha).trans (Nat.eq_of_beq_eq_true hb).symm) h
theorem law_smallN (n : Nat) (mf mt : List ByteArray) (ma : List Int) (mc : List ByteArray) (hn : n ≤ maxLen) : FC Tryz.prog 2 6 [.sl 1 0 0 n, .nsl] [(1, some (.one true (mvB n mf mt ma mc)))] (isOut (.bool (smB mf mt mc n rl0)) [] 3) := by
  have h := fc_ext (H' := [(2, some (.one true (rlB rl0))), (1, some (.one true (mvB n mf mt ma mc)))]) (hget_swap (by decide)) (law_small n mf mt ma mc rl0 hn (Nat.zero_le _))
  exact fc_argnil (n := 2) (args := [.sl 1 0 0 n, .nsl]) (args1 := [.sl 1 0 0 n, .sl 2 0 0 0]) (cs := [.sc (.strs []), .sc (.strs []), .sc (.ints .i64 []), .sc (.ints .i64 [])]) rfl (by exact ⟨.inl rfl, .inr ⟨rfl, rfl⟩, trivial⟩) h
theorem law_same (pc : PxC) (n : Nat) (hl : n ≤ 100000) : FC Tryz.prog 3 14 [.sl 1 0 0 n, .sl 2 0 0 n] [(1, some (.one true (pxB n pc))), (2, some (.one true (pxB n pc)))] (isOut (.bool true) [] 3) := by
  refine fc_of mixed T_ok Tryz.func14 rfl (by kernel_rfl) (by kernel_rfl) (by kernel_rfl) ?_
  repeat' ((conv => whnf); first | (refine br_dec (fun h => ?_) (fun h => ?_) <;> try (exfalso; (try dsimp only at h); omega)) | (refine br_ndec (fun h => ?_) (fun h => ?_) <;> try (exfalso; (try dsimp only at h); omega)) | refine br_seq (fun h => ?_) (fun h => ?_) | refine br_nseq (fun h => ?_) (fun h => ?_) | refine br_not (fun h => ?_) (fun h => ?_) | refine br_intro (fun h => ?_) (fun h => ?_) | refine cond_intro rfl ?_ | (refine cond_intro ⟨rfl, ?_⟩ ?_; (first | omega | (dsimp only; omega) | decide)) | (refine cond_intro ?_ ?_; (first | omega | (dsimp only; omega) | decide | (simp only [Nat.add_zero, Int.toNat_natCast, *]; omega))))
  all_goals (conv => whnf)
  all_goals first
    | (exfalso; first | omega | contradiction)
    | skip
  refine vloop_lp (fun k : Nat => ⟨[(0, .sl 1 0 0 n), (1, .sl 2 0 0 n), (5, .int .i64 k)], [(1, some (.one true (pxB n pc))), (2, some (.one true (pxB n pc)))], 3⟩) (fun k => k ≤ n) (fun k => n - k) 0 [0, 1, 2] [] ⟨rfl, ⟨rfl, rfl, rfl, trivial⟩, ⟨rfl, rfl, trivial⟩⟩ (Nat.zero_le _) ?_
  intro k hk
  by_cases hk2 : k < n
  · repeat' ((conv => whnf); first | (refine br_dec (fun h => ?_) (fun h => ?_) <;> try (exfalso; (try dsimp only at h); omega)) | (refine br_ndec (fun h => ?_) (fun h => ?_) <;> try (exfalso; (try dsimp only at h); omega)) | refine br_seq (fun h => ?_) (fun h => ?_) | refine br_nseq (fun h => ?_) (fun h => ?_) | refine br_not (fun h => ?_) (fun h => ?_) | refine br_intro (fun h => ?_) (fun h => ?_) | refine cond_intro rfl ?_ | (refine cond_intro ⟨rfl, ?_⟩ ?_; (first | omega | (dsimp only; omega) | decide)) | (refine cond_intro ?_ ?_; (first | omega | (dsimp only; omega) | decide | (simp only [Nat.add_zero, Int.toNat_natCast, *]; omega))))
    all_goals (conv => whnf)
    all_goals first
      | (exfalso; first | omega | contradiction | (simp [seq] at h; done))
      | exact ⟨k + 1, [0, 1, 2], [], hk2, (show n - (k + 1) < n - k by omega), ⟨rfl, ⟨rfl, rfl, congrArg (fun z => some (SV.int .i64 z)) (i64_succ (by omega)), trivial⟩, ⟨rfl, rfl, trivial⟩⟩⟩
      | trace_state
  · repeat' ((conv => whnf); first | (refine br_dec (fun h => ?_) (fun h => ?_) <;> try (exfalso; (try dsimp only at h); omega)) | (refine br_ndec (fun h => ?_) (fun h => ?_) <;> try (exfalso; (try dsimp only at h); omega)) | refine br_seq (fun h => ?_) (fun h => ?_) | refine br_nseq (fun h => ?_) (fun h => ?_) | refine br_not (fun h => ?_) (fun h => ?_) | refine br_intro (fun h => ?_) (fun h => ?_) | refine cond_intro rfl ?_ | (refine cond_intro ⟨rfl, ?_⟩ ?_; (first | omega | (dsimp only; omega) | decide)) | (refine cond_intro ?_ ?_; (first | omega | (dsimp only; omega) | decide | (simp only [Nat.add_zero, Int.toNat_natCast, *]; omega))))
    all_goals (conv => whnf)
    all_goals first
      | exact ret_out (l := [0, 1, 2]) rfl rfl trivial allRw_nil
      | (exfalso; first | omega | contradiction)
      | trace_state
/-- New for any number of names. -/
theorem pos_NewA (ps : List ByteArray) (n : Nat) (hl : ps.length = n) : FC Tryz.prog 2 8 [.sl 1 0 0 n] [(1, some (.one true (.cols n [.sc (.strs ps)])))] (nwOut ps) := by
  by_cases h16 : 16 < n
  · unfold nwOut nwErr
    rw [hl, if_pos h16, if_pos (by decide)]
    refine fc_of mixed T_ok Tryz.func8 rfl (by kernel_rfl) (by kernel_rfl) (by kernel_rfl) ?_
    repeat' ((conv => whnf); first | (refine br_dec (fun h => ?_) (fun h => ?_) <;> try (exfalso; (try dsimp only at h); omega)) | (refine br_ndec (fun h => ?_) (fun h => ?_) <;> try (exfalso; (try dsimp only at h); omega)) | refine br_seq (fun h => ?_) (fun h => ?_) | refine br_nseq (fun h => ?_) (fun h => ?_) | refine br_not (fun h => ?_) (fun h => ?_) | refine br_intro (fun h => ?_) (fun h => ?_) | refine cond_intro rfl ?_ | (refine cond_intro ⟨rfl, ?_⟩ ?_; (first | omega | (dsimp only; omega) | decide)) | (refine cond_intro ?_ ?_; (first | omega | (dsimp only; omega) | decide | (simp only [Nat.add_zero, Int.toNat_natCast, *]; omega))))
    all_goals (conv => whnf)
    all_goals first
      | exact ret_out (l := [0, 1]) rfl rfl trivial allRw_nil
      | (exfalso; omega)
      | trace_state
  · exact pos_New ps n hl (by omega)
theorem nwK_mono {ps : List ByteArray} : ∀ {n k : Nat}, nwK ps n = 0 → k ≤ n → nwK ps k = 0
  | 0, k, h, hk => by rw [show k = 0 by omega]; rfl
  | n + 1, k, h, hk => by
    have h0 : nwK ps n = 0 := by
      simp only [nwK] at h
      by_cases q : nwK ps n = 0
      · exact q
      · rw [if_pos q] at h; exact h
    by_cases e : k = n + 1
    · rw [e]; exact h
    · exact nwK_mono h0 (by omega)
theorem nw_ok {ps : List ByteArray} (h : nwErr ps = 0) : ps.length ≤ 16 ∧ ps.Nodup ∧ ∀ s ∈ ps, nmB s = true := by
  unfold nwErr at h
  split at h
  · cases h
  · have hE : ∀ k, k < ps.length → nwE ps k = 0 := fun k hk => by
      have h1 := nwK_mono h (show k + 1 ≤ ps.length from hk)
      have h0 := nwK_mono h (show k ≤ ps.length by omega)
      simp only [nwK] at h1
      rwa [if_neg (by simpa using h0)] at h1
    refine ⟨by omega, ?_, fun s hs => ?_⟩
    · refine List.pairwise_iff_getElem.2 fun i j hi hj hij e => ?_
      have := hE j hj
      unfold nwE at this
      split at this
      · cases this
      · split at this
        · cases this
        · rename_i g
          have gj : ps.getD j ⟨#[]⟩ = ps[j] := by rw [List.getD, List.getElem?_eq_getElem hj]; rfl
          have hm : ps[j] ∈ ps.take j := by
            rw [← e]
            exact List.mem_iff_getElem.2 ⟨i, by rw [List.length_take]; omega, by rw [List.getElem_take]⟩
          have hlt := Go.Sy.sidx_lt.2 hm
          rw [List.length_take, Nat.min_eq_left (by omega)] at hlt
          rw [gj] at g
          unfold idI at g
          rw [if_pos hlt] at g
          omega
    · obtain ⟨k, hk, rfl⟩ := List.getElem_of_mem hs
      have := hE k hk
      unfold nwE at this
      have gj : ps.getD k ⟨#[]⟩ = ps[k] := by rw [List.getD, List.getElem?_eq_getElem hk]; rfl
      rw [gj] at this
      cases q : nmB ps[k] with
      | true => rfl
      | false => rw [q, if_pos rfl] at this; cases this
theorem nwB_I {ps : List ByteArray} (h : nwErr ps = 0) : BkI (nwB ps) 0 := by
  have hr : ∀ c, (nwB ps).row c = z16 := fun c => rfl
  refine ⟨⟨rfl, rfl, List.nodup_nil⟩, (nw_ok h).1, sortS_length ps, fun c q => absurd q (List.not_mem_nil), fun c q => absurd q (List.not_mem_nil), fun c => rfl, fun c j => ?_, fun c => rfl, fun c j _ => ?_⟩
  · rw [hr, z16_get]; decide
  · rw [hr, z16_get]
abbrev bkX (ro : Bool) (np : Nat) (ps : List ByteArray) (b : Bk) : Heap := [(1, bkC true 2 3 np), (2, some (.one true (.cols np [.sc (.strs ps)]))), (3, bkM ro b)]
theorem pos_MoveX {b : Bk} (h : BkI b 4503599627370496) {np : Nat} {ps : List ByteArray} (hn : b.n = np) (hp : b.ps = ps) (f t c : ByteArray) (a : Int) : FC Tryz.prog 4 10 [.ptr 1 0 0 0, .str f, .str t, .agg [.int .i64 a, .str c]] (bkX false np ps b) (isOut (.int .i64 (mvE b f t c a)) [(3, bkM false (b.mv f t c a))] 4) := by
  subst hn hp; exact pos_Move b (h.ok (Int.le_refl _)) f t c a
theorem pos_ListX {b : Bk} (h : BkI b 4503599627370496) {np : Nat} {ps : List ByteArray} (hn : b.n = np) (hp : b.ps = ps) (hm : b.m ≤ 100000) : FC Tryz.prog 4 15 [.ptr 1 0 0 0] (bkX true np ps b) (isOut (.sl 4 0 0 b.list.length) [(4, some (.one false (pxB b.list.length (pxOf b.list))))] 5) := by
  subst hn hp; exact pos_List b (h.ok (Int.le_refl _)) (h.cok hm)
theorem pos_NetX {b : Bk} (h : BkI b 4503599627370496) {np : Nat} {ps : List ByteArray} (hn : b.n = np) (hp : b.ps = ps) (p c : ByteArray) : FC Tryz.prog 4 12 [.ptr 1 0 0 0, .str p, .str c] (bkX true np ps b) (isOut (.int .i64 (netI b p c)) [] 4) := by
  subst hn hp; exact pos_Net b (h.ok (Int.le_refl _)) p c
theorem BkI.up {b : Bk} {B B' : Int} (h : BkI b B) (hB : B ≤ B') : BkI b B' := by
  have g := h.rb
  exact ⟨h.C, h.n16, h.psl, h.nz, h.c3, h.rl, fun c j => by have := g c j; omega, h.rs, h.rt⟩
theorem list_le (b : Bk) (hn : b.n ≤ 16) (hm : b.m ≤ 1000) : b.list.length ≤ 100000 := by
  have h := liA_len b (sortS b.cs) b.m
  have h2 : b.m * b.n ≤ 1000 * 16 := Nat.mul_le_mul hm hn
  unfold Bk.list; omega
end Go.Proofs.YtkbidlijinclcaaGreatDoor

/- The law PositionOrder. -/
namespace Go.Proofs.YtkbidlijinclcaaGreatDoor
open Go.RowKit Go.Sy
attribute [local irreducible] vcall vloop vcallD retP
set_option maxRecDepth 100000
set_option linter.unusedVariables false
set_option linter.unusedSimpArgs false

def mvAt (mf mt : List ByteArray) (ma : List Int) (mc : List ByteArray) (k : Nat) : Mv := ⟨mf.getD k ⟨#[]⟩, mt.getD k ⟨#[]⟩, ma.getD k 0, mc.getD k ⟨#[]⟩⟩
def mvTo (mf mt : List ByteArray) (ma : List Int) (mc : List ByteArray) (g : Nat → Nat) (k : Nat) : List Mv := (List.range k).map (fun i => mvAt mf mt ma mc (g i))
theorem mvTo_succ (mf mt : List ByteArray) (ma : List Int) (mc : List ByteArray) (g : Nat → Nat) (k : Nat) : mvTo mf mt ma mc g (k + 1) = mvTo mf mt ma mc g k ++ [mvAt mf mt ma mc (g k)] := by unfold mvTo; rw [List.range_succ, List.map_append]; rfl
theorem mvTo_len (mf mt : List ByteArray) (ma : List Int) (mc : List ByteArray) (g : Nat → Nat) (k : Nat) : (mvTo mf mt ma mc g k).length = k := by unfold mvTo; rw [List.length_map, List.length_range]
theorem mvTo_rev (mf mt : List ByteArray) (ma : List Int) (mc : List ByteArray) (n : Nat) : (mvTo mf mt ma mc id n).Perm (mvTo mf mt ma mc (fun i => n - 1 - i) n) := by
  have e : mvTo mf mt ma mc (fun i => n - 1 - i) n = (mvTo mf mt ma mc id n).reverse := by
    refine List.ext_getElem (by simp [mvTo]) fun i h1 h2 => ?_
    simp [mvTo, List.getElem_reverse]
  rw [e]; exact (List.reverse_perm _).symm
theorem go_of {b : Bk} {M : List Mv} {mf mt : List ByteArray} {ma : List Int} {mc : List ByteArray} {j : Nat} : (b.all M).mv (mf.getD j ⟨#[]⟩) (mt.getD j ⟨#[]⟩) (mc.getD j ⟨#[]⟩) (ma.getD j 0) = b.all (M ++ [mvAt mf mt ma mc j]) := (all_snoc b M (mvAt mf mt ma mc j)).symm
abbrev orH (l0 : Nat) (ps : List ByteArray) (n : Nat) (mf mt : List ByteArray) (ma : List Int) (mc : List ByteArray) : Heap := [(0, some (GB glT)), (1, some (.one true (.cols l0 [.sc (.strs ps)]))), (2, some (.one true (mvB n mf mt ma mc)))]
abbrev orA (np : Nat) (sp : List ByteArray) (A : Bk) : Heap := [(3, bkC false 4 5 np), (4, some (.one false (.cols np [.sc (.strs sp)]))), (5, bkM false A)]
abbrev orB (np : Nat) (sp : List ByteArray) (A : Bk) : Heap := [(6, bkC false 7 8 np), (7, some (.one false (.cols np [.sc (.strs sp)]))), (8, bkM false A)]
abbrev orW (n : Nat) (pc : PxC) : Heap := [(6, some (.one false (pxB n pc)))]
end Go.Proofs.YtkbidlijinclcaaGreatDoor

/- Plain facts on positions: their order, sorting. No program in sight. -/
namespace Go.Proofs.YtkbidlijinclcaaGreatDoor
open Go.RowKit Go.Sy
set_option linter.unusedVariables false
set_option linter.unusedSimpArgs false

/-- A position is before another one. -/
def plt (x y : Px) : Bool := strLt x.c y.c || (seq x.c y.c && strLt x.p y.p)
theorem seq_true {a b : ByteArray} : seq a b = true ↔ a = b := by unfold seq; exact decide_eq_true_iff
theorem plt_iff {x y : Px} : plt x y = true ↔ strLt x.c y.c = true ∨ (x.c = y.c ∧ strLt x.p y.p = true) := by
  unfold plt
  rw [Bool.or_eq_true, Bool.and_eq_true, seq_true]
theorem plt_irrefl (x : Px) : plt x x = false := by
  cases h : plt x x with
  | false => rfl
  | true =>
    rcases plt_iff.1 h with h | ⟨_, h⟩
    · rw [strLt_irrefl] at h; cases h
    · rw [strLt_irrefl] at h; cases h
theorem plt_trans {x y z : Px} (h : plt x y = true) (k : plt y z = true) : plt x z = true := by
  rw [plt_iff] at *
  rcases h with h | ⟨h1, h2⟩
  · rcases k with k | ⟨k1, k2⟩
    · exact .inl (strLt_trans h k)
    · exact .inl (k1 ▸ h)
  · rcases k with k | ⟨k1, k2⟩
    · exact .inl (h1 ▸ k)
    · exact .inr ⟨h1.trans k1, strLt_trans h2 k2⟩
theorem plt_asymm {x y : Px} (h : plt x y = true) : plt y x = false := by
  cases k : plt y x with
  | false => rfl
  | true =>
    have := plt_trans h k
    rw [plt_irrefl] at this; cases this
/-- Two positions of one place. -/
def same2 (x y : Px) : Prop := x.p = y.p ∧ x.c = y.c
theorem plt_total {x y : Px} (h : plt x y = false) (hne : ¬ same2 x y) : plt y x = true := by
  rw [plt_iff]
  by_cases hc : x.c = y.c
  · by_cases hp : x.p = y.p
    · exact absurd ⟨hp, hc⟩ hne
    · right
      refine ⟨hc.symm, ?_⟩
      cases k : strLt x.p y.p with
      | true => rw [plt_iff.2 (.inr ⟨hc, k⟩)] at h; cases h
      | false => exact strLt_total k hp
  · left
    cases k : strLt x.c y.c with
    | true => rw [plt_iff.2 (.inl k)] at h; cases h
    | false => exact strLt_total k hc
/-- Positions in strictly ascending order are told by their elements. -/
theorem asc_unique {l m : List Px} (hp : l.Perm m) (hl : l.Pairwise (fun a b => plt a b = true)) (hm : m.Pairwise (fun a b => plt a b = true)) : l = m :=
  List.Perm.eq_of_pairwise (le := fun a b => plt a b = true) (fun a b _ _ h1 h2 => by rw [plt_asymm h1] at h2; cases h2) hl hm hp
/-- All places are different. -/
def Dist (l : List Px) : Prop := l.Pairwise (fun a b => ¬ same2 a b)
theorem same2_symm {a b : Px} (h : same2 a b) : same2 b a := ⟨h.1.symm, h.2.symm⟩
theorem dist_perm {l m : List Px} (h : l.Perm m) (hl : Dist l) : Dist m := List.Perm.pairwise h hl (fun {a b} h k => h (same2_symm k))
theorem dist_asc {l : List Px} (h : l.Pairwise (fun a b => plt a b = true)) : Dist l := by
  refine h.imp fun {a b} hab e => ?_
  rcases plt_iff.1 hab with k | ⟨_, k⟩
  · rw [e.2, strLt_irrefl] at k; cases k
  · rw [e.1, strLt_irrefl] at k; cases k
/-- The positions in their order. -/
def srt (l : List Px) : List Px := l.mergeSort (fun x y => !plt y x)
theorem srt_perm (l : List Px) : (srt l).Perm l := List.mergeSort_perm l _
theorem nplt_trans {x y z : Px} (h : plt y x = false) (k : plt z y = false) : plt z x = false := by
  cases e : plt z x with
  | false => rfl
  | true =>
    by_cases hs : same2 x y
    · have : plt z y = true := by
        rw [plt_iff] at e ⊢
        rw [← hs.1, ← hs.2]; exact e
      rw [this] at k; cases k
    · have := plt_trans e (plt_total h (fun q => hs (same2_symm q)))
      rw [this] at k; cases k
theorem srt_asc {l : List Px} (hd : Dist l) : (srt l).Pairwise (fun a b => plt a b = true) := by
  have h1 := List.pairwise_mergeSort (le := fun x y : Px => !plt y x) (fun a b c h k => by
    simp only [Bool.not_eq_true'] at *
    exact nplt_trans h k) (fun a b => by
    cases h : plt b a with
    | false => rfl
    | true => simp [plt_asymm h]) l
  have h2 : Dist (srt l) := dist_perm (srt_perm l).symm hd
  refine (h1.and h2).imp ?_
  rintro a b ⟨k1, k2⟩
  simp only [Bool.not_eq_true'] at k1
  exact plt_total k1 (fun q => k2 (same2_symm q))
theorem srt_of {l m : List Px} (hp : m.Perm l) (hm : m.Pairwise (fun a b => plt a b = true)) : srt l = m :=
  asc_unique ((srt_perm l).trans hp.symm) (srt_asc (dist_perm hp (dist_asc hm))) hm
theorem srt_congr {l m : List Px} (hp : l.Perm m) (hd : Dist l) : srt l = srt m := (srt_of ((srt_perm m).trans hp.symm) (srt_asc (dist_perm hp hd)))
theorem atP (L : List Px) (j : Nat) : (pxOf L).p.getD j ⟨#[]⟩ = (L.getD j px0).p ∧ (pxOf L).a.getD j 0 = (L.getD j px0).a ∧ (pxOf L).c.getD j ⟨#[]⟩ = (L.getD j px0).c := by
  unfold pxOf
  simp only [List.getD, List.getElem?_map]
  cases L[j]? <;> exact ⟨rfl, rfl, rfl⟩
theorem take_getD {L : List Px} {k : Nat} (hk : k < L.length) : L.take (k + 1) = L.take k ++ [L.getD k px0] := by
  rw [List.take_succ_eq_append_getElem hk, List.getD, List.getElem?_eq_getElem hk]; rfl
/-- The positions that are not zero. -/
def nz (R : List Px) : List Px := R.filter (fun x => decide (x.a ≠ 0))
abbrev Asc (l : List Px) : Prop := l.Pairwise (fun a b => plt a b = true)
theorem nz_append (A B : List Px) : nz (A ++ B) = nz A ++ nz B := List.filter_append _ _
theorem asc_ins {O : List Px} {x : Px} {k : Nat} (hk : k ≤ O.length) (ha : Asc O) (hlt : ∀ j, j < k → plt (O.getD j px0) x = true) (hge : k < O.length → plt (O.getD k px0) x = false) (hx : ∀ y ∈ O, ¬ same2 y x) : Asc (O.take k ++ x :: O.drop k) := by
  have h1 : ∀ y ∈ O.take k, plt y x = true := by
    intro y hy
    obtain ⟨j, hj, rfl⟩ := List.getElem_of_mem hy
    have hj' : j < k := by rw [List.length_take] at hj; omega
    have := hlt j hj'
    rw [List.getD, List.getElem?_eq_getElem (by omega)] at this
    rw [List.getElem_take]; exact this
  have hd : Asc (O.drop k) := ha.sublist (List.drop_sublist k O)
  have h2 : ∀ y ∈ O.drop k, plt x y = true := by
    intro y hy
    have hkl : k < O.length := by
      refine Nat.lt_of_not_le fun h => ?_
      rw [List.drop_of_length_le h] at hy; cases hy
    have hh := hge hkl
    have hxk : plt x (O.getD k px0) = true := by
      refine plt_total hh fun e => hx (O.getD k px0) ?_ e
      rw [List.getD, List.getElem?_eq_getElem hkl]; exact List.getElem_mem hkl
    rw [List.drop_eq_getElem_cons hkl] at hy hd
    rcases List.mem_cons.1 hy with rfl | hy
    · rw [List.getD, List.getElem?_eq_getElem hkl] at hxk; exact hxk
    · rw [List.getD, List.getElem?_eq_getElem hkl] at hxk
      exact plt_trans hxk ((List.pairwise_cons.1 hd).1 y hy)
  refine List.pairwise_append.2 ⟨ha.sublist (List.take_sublist k O), List.pairwise_cons.2 ⟨h2, hd⟩, ?_⟩
  intro a ha1 b hb
  rcases List.mem_cons.1 hb with rfl | hb
  · exact h1 a ha1
  · exact plt_trans (h1 a ha1) (h2 b hb)
theorem perm_ins {α : Type} (O : List α) (x : α) (k : Nat) : (O.take k ++ x :: O.drop k).Perm (O ++ [x]) := by
  have h1 : (O.take k ++ x :: O.drop k).Perm (x :: (O.take k ++ O.drop k)) := List.perm_middle
  rw [List.take_append_drop] at h1
  exact h1.trans (List.perm_append_comm (l₁ := [x]))
theorem dist_not {R : List Px} (hd : Dist R) {i : Nat} (hi : i < R.length) : ∀ y ∈ R.take i, ¬ same2 y (R.getD i px0) := by
  intro y hy
  obtain ⟨j, hj, rfl⟩ := List.getElem_of_mem hy
  rw [List.length_take] at hj
  rw [List.getElem_take, List.getD, List.getElem?_eq_getElem hi]
  exact List.pairwise_iff_getElem.1 hd j i (by omega) hi (by omega)
theorem colP_eq (L : List Px) (k : Nat) : (⟨(pxOf L).p.getD k ⟨#[]⟩, (pxOf L).a.getD k 0, (pxOf L).c.getD k ⟨#[]⟩⟩ : Px) = L.getD k px0 := by
  obtain ⟨a1, a2, a3⟩ := atP L k
  rw [a1, a2, a3]
/-- What the outer loop of the sorting holds. -/
structure SoI (R : List Px) (i m : Nat) (O : List Px) : Prop where
  le : i ≤ R.length
  m : O.length = m
  asc : Asc O
  perm : O.Perm (nz (R.take i))
theorem soI_skip {R : List Px} {i m : Nat} {O : List Px} (h : SoI R i m O) (hi : i < R.length) (hz : (R.getD i px0).a = 0) : SoI R (i + 1) m O := by
  refine ⟨hi, h.m, h.asc, ?_⟩
  rw [take_getD hi, nz_append, show nz [R.getD i px0] = [] from by unfold nz; rw [List.filter_cons, if_neg (by simpa using hz)]; rfl, List.append_nil]
  exact h.perm
theorem soI_put {R : List Px} {i m k : Nat} {O : List Px} (h : SoI R i m O) (hd : Dist R) (hi : i < R.length) (hz : (R.getD i px0).a ≠ 0) (hk : k ≤ m) (hlt : ∀ j, j < k → plt (O.getD j px0) (R.getD i px0) = true) (hge : k < m → plt (O.getD k px0) (R.getD i px0) = false) : SoI R (i + 1) (m + 1) (O.take k ++ R.getD i px0 :: O.drop k) := by
  have hm := h.m
  refine ⟨hi, by simp; omega, asc_ins (by omega) h.asc hlt (fun q => hge (by omega)) ?_, ?_⟩
  · intro y hy
    exact dist_not hd hi y (List.mem_filter.1 (h.perm.subset hy)).1
  · rw [take_getD hi, nz_append, show nz [R.getD i px0] = [R.getD i px0] from by unfold nz; rw [List.filter_cons, if_pos (decide_eq_true hz)]; rfl]
    exact (perm_ins O _ k).trans (h.perm.append_right _)
theorem seg_take {α : Type} (l : List α) (k : Nat) : seg 0 k l = l.take k := rfl
theorem seg_drop {α : Type} {l : List α} {k m : Nat} (h : l.length = m) : seg (k + 0) (m - k) l = l.drop k := by
  unfold seg
  rw [Nat.add_zero, List.take_of_length_le (by rw [List.length_drop]; omega)]
theorem rowIns {O : List Px} {m k : Nat} (hm : O.length = m) (hk : k ≤ m) {p c : ByteArray} {a : Int} {x : Px} (hx : (⟨p, a, c⟩ : Px) = x) :
    (some (HB.one false (.cols (0 + k + 1 + (m - k)) [.sc (.strs (seg 0 k (pxOf O).p ++ [p] ++ seg (k + 0) (m - k) (pxOf O).p)), .sc (.ints .i64 (seg 0 k (pxOf O).a ++ [a] ++ seg (k + 0) (m - k) (pxOf O).a)), .sc (.strs (seg 0 k (pxOf O).c ++ [c] ++ seg (k + 0) (m - k) (pxOf O).c))])) : Option HB) = some (.one false (pxB (0 + k + 1 + (m - k)) (pxOf (O.take k ++ x :: O.drop k)))) := by
  subst hx
  rw [seg_drop (l := (pxOf O).p) (by simp [pxOf, hm]), seg_drop (l := (pxOf O).a) (by simp [pxOf, hm]), seg_drop (l := (pxOf O).c) (by simp [pxOf, hm])]
  unfold pxOf
  simp [seg_take, List.map_take, List.map_drop]
end Go.Proofs.YtkbidlijinclcaaGreatDoor

