/- Plain facts on links with faults: what arrives was sent. No program in sight. -/
import Derived.Test.YtpconbdoackcfaaLkP
namespace Go.Proofs.Ytpconbdoackcfaa
open Go.RowKit Go.Sy
set_option linter.unusedVariables false
set_option linter.unusedSimpArgs false

abbrev av0 : Av := ⟨0, 0, 0, 0, ⟨#[]⟩⟩
theorem rep_puts {W : Wy} {Q : List Av} (h : Rep W Q) (x y k : Int) (s : ByteArray) (al : List Int) : ∀ i, i ≤ al.length → Rep (W.puts al x y k s i) (Q ++ (al.take i).map (fun t => (⟨t, x, y, k, s⟩ : Av)))
  | 0, _ => by rw [List.take_zero]; simpa [Wy.puts] using h
  | i + 1, hi => by
    have ih := rep_puts h x y k s al i (by omega)
    have eg : al.getD i 0 = al[i] := by simp [List.getD, (show i < al.length by omega)]
    have := rep_put ih ⟨al[i], x, y, k, s⟩
    rw [List.take_succ_eq_append_getElem (by omega), List.map_append, ← List.append_assoc]
    simp only [Wy.puts, eg]
    exact this
/-- Faults that were accepted. -/
theorem err_e {F : Fa} {p : Int} {i : Nat} (h : F.err p i = 0) : 0 ≤ F.e.getD i 0 ∧ F.e.getD i 0 ≤ 100000 := by
  unfold Fa.err ckE at h
  repeat' split at h
  all_goals first
    | (exfalso; revert h; decide)
    | omega
theorem arr_in {F : Fa} (he : ∀ i, i < F.n → 0 ≤ F.e.getD i 0 ∧ F.e.getD i 0 ≤ 100000) (t x y a : Int) (ha : 0 ≤ a ∧ a ≤ 1099511627776) : ∀ k, k ≤ F.n → k ≤ 1000 → a ≤ F.arr t x y a k ∧ F.arr t x y a k ≤ a + 100000 * k
  | 0, _, _ => by simp [Fa.arr]
  | k + 1, hk, hk2 => by
    have ih := arr_in he t x y a ha k (by omega) (by omega)
    have := he k (by omega)
    simp only [Fa.arr]
    split
    · rw [w64_in (by omega) (by omega)]; omega
    · omega
theorem cp_in {F : Fa} (he : ∀ i, i < F.n → 0 ≤ F.e.getD i 0 ∧ F.e.getD i 0 ≤ 100000) (t x y : Int) : ∀ k, k ≤ F.n → ∀ e, e ∈ F.cp t x y k → 0 ≤ e ∧ e ≤ 100000
  | 0, _, e, h => by simp [Fa.cp] at h
  | k + 1, hk, e, h => by
    simp only [Fa.cp] at h
    split at h
    · rw [List.mem_append, List.mem_singleton] at h
      rcases h with h | rfl
      · exact cp_in he t x y k (by omega) e h
      · exact he k (by omega)
    · exact cp_in he t x y k (by omega) e h
theorem al_in {a : Int} {cp : List Int} (ha : 0 ≤ a ∧ a ≤ 2199023255552) (hc : ∀ e, e ∈ cp → 0 ≤ e ∧ e ≤ 100000) (k : Nat) : ∀ v, v ∈ Fa.al a cp k → a ≤ v ∧ v ≤ a + 100000 := by
  intro v hv
  unfold Fa.al at hv
  rcases List.mem_cons.1 hv with rfl | hv
  · omega
  · obtain ⟨e, h1, rfl⟩ := List.mem_map.1 hv
    have := hc e (List.mem_of_mem_take h1)
    rw [w64_in (by omega) (by omega)]; omega
/-- The number of faults that repeat. -/
def Fa.reps (F : Fa) : Nat → Nat
  | 0 => 0
  | k + 1 => if F.k.getD k 0 = 3 then F.reps k + 1 else F.reps k
theorem cn_reps (F : Fa) (t x y : Int) : ∀ k, F.cn t x y k ≤ F.reps k
  | 0 => Nat.le_refl _
  | k + 1 => by
    have := cn_reps F t x y k
    simp only [Fa.cn, Fa.reps]
    by_cases h : F.k.getD k 0 = 3
    · rw [if_pos h]; split <;> omega
    · rw [if_neg h, if_neg (by rw [decide_eq_false h]; simp)]; exact this
theorem reps_le (F : Fa) : ∀ k, F.reps k ≤ k
  | 0 => Nat.le_refl _
  | k + 1 => by
    have := reps_le F k
    simp only [Fa.reps]; split <;> omega
/-- The arrivals that bear a number. -/
def cntK (Q : List Av) (m : Int) : Nat := Q.countP (fun a => decide (a.k = m))
/-- What was sent, and what is under way. -/
structure Inv (n0 : Int) (r : Nat) (now : Int) (B Q : List Av) : Prop where
  b : ∀ j, j < B.length → (B.getD j av0).k = (j : Int) + 1 ∧ 0 ≤ (B.getD j av0).t ∧ (B.getD j av0).t ≤ now
  q : ∀ a, a ∈ Q → ∃ j, j < B.length ∧ a.k = (j : Int) + 1 ∧ a.f = (B.getD j av0).f ∧ a.o = (B.getD j av0).o ∧ a.x = (B.getD j av0).x ∧ (B.getD j av0).t + n0 + 1 ≤ a.t ∧ a.t ≤ (B.getD j av0).t + n0 + 3300001
  c : ∀ m, cntK Q m ≤ r + 1
theorem getD_app {l : List Av} {b : Av} {j : Nat} : (l ++ [b]).getD j av0 = if j < l.length then l.getD j av0 else if j = l.length then b else av0 := by
  simp only [List.getD]
  split
  · rename_i h; rw [List.getElem?_append_left h]
  · rename_i h
    rw [List.getElem?_append_right (by omega)]
    split
    · rename_i e; rw [e, Nat.sub_self]; rfl
    · rename_i e
      rw [List.getElem?_eq_none (by simp; omega)]; rfl
theorem inv_mono {n0 : Int} {r : Nat} {now u : Int} {B Q : List Av} (h : Inv n0 r now B Q) (hu : now ≤ u) : Inv n0 r u B Q := ⟨fun j hj => by have := h.b j hj; omega, h.q, h.c⟩
theorem inv_lost {n0 : Int} {r : Nat} {now u : Int} {B Q : List Av} (h : Inv n0 r now B Q) (hu : now ≤ u) (h0 : 0 ≤ u) (x y : Int) (s : ByteArray) : Inv n0 r u (B ++ [⟨u, x, y, (B.length : Int) + 1, s⟩]) Q := by
  refine ⟨fun j hj => ?_, fun a ha => ?_, h.c⟩
  · rw [getD_app]
    rw [List.length_append, List.length_singleton] at hj
    split
    · have := h.b j (by assumption); omega
    · rw [if_pos (by omega)]
      dsimp only
      omega
  · obtain ⟨j, hj, hh⟩ := h.q a ha
    refine ⟨j, by rw [List.length_append]; omega, ?_⟩
    rw [getD_app, if_pos hj]
    exact hh
theorem inv_sent {n0 : Int} {r : Nat} {now u : Int} {B Q : List Av} (h : Inv n0 r now B Q) (hu : now ≤ u) (h0 : 0 ≤ u) (x y : Int) (s : ByteArray) (al : List Int) (hal : ∀ v, v ∈ al → u + n0 + 1 ≤ v ∧ v ≤ u + n0 + 3300001) (hl : al.length ≤ r + 1) :
    Inv n0 r u (B ++ [⟨u, x, y, (B.length : Int) + 1, s⟩]) (Q ++ al.map (fun t => (⟨t, x, y, (B.length : Int) + 1, s⟩ : Av))) := by
  have h1 := inv_lost h hu h0 x y s
  refine ⟨h1.b, fun a ha => ?_, fun m => ?_⟩
  · rcases List.mem_append.1 ha with ha | ha
    · exact h1.q a ha
    · obtain ⟨v, hv, rfl⟩ := List.mem_map.1 ha
      refine ⟨B.length, by rw [List.length_append, List.length_singleton]; omega, rfl, ?_⟩
      rw [getD_app, if_neg (by omega), if_pos rfl]
      have := hal v hv
      exact ⟨rfl, rfl, rfl, this.1, this.2⟩
  · unfold cntK
    rw [List.countP_append]
    by_cases e : m = (B.length : Int) + 1
    · have z : Q.countP (fun a => decide (a.k = m)) = 0 := List.countP_eq_zero.2 fun a ha => by
        obtain ⟨j, hj, e2, _⟩ := h.q a ha
        rw [decide_eq_true_eq]; omega
      rw [z]
      have := List.countP_le_length (p := fun a => decide (Av.k a = m)) (l := al.map (fun t => (⟨t, x, y, (B.length : Int) + 1, s⟩ : Av)))
      rw [List.length_map] at this
      omega
    · have z : (al.map (fun t => (⟨t, x, y, (B.length : Int) + 1, s⟩ : Av))).countP (fun a => decide (a.k = m)) = 0 := List.countP_eq_zero.2 fun a ha => by
        obtain ⟨v, hv, rfl⟩ := List.mem_map.1 ha
        rw [decide_eq_true_eq]; dsimp only; omega
      rw [z]
      exact h.c m
theorem count_or {p q : Av → Bool} (hpq : ∀ a, p a = true → q a = true → False) : ∀ Q : List Av, Q.countP p + Q.countP q = Q.countP (fun a => p a || q a)
  | [] => rfl
  | a :: Q => by
    have ih := count_or hpq Q
    simp only [List.countP_cons]
    cases hp : p a with
    | false => cases hq : q a <;> simp only [Bool.or_true, Bool.or_false, Bool.false_eq_true, if_true, if_false] <;> omega
    | true =>
      cases hq : q a with
      | false => simp only [Bool.or_true, Bool.or_false, Bool.false_eq_true, if_true, if_false]; omega
      | true => exact (hpq a hp hq).elim
theorem catT_count (Q : List Av) (p : Av → Bool) : ∀ S : List Int, S.Nodup → (catT Q S).countP p = Q.countP (fun a => p a && decide (a.t ∈ S))
  | [], _ => by simp [catT]
  | s :: S, h => by
    obtain ⟨h1, h2⟩ := List.nodup_cons.1 h
    have ih := catT_count Q p S h2
    have e : catT Q (s :: S) = atT Q s ++ catT Q S := rfl
    rw [e, List.countP_append, ih]
    unfold atT
    rw [List.countP_filter, count_or (fun a e1 e2 => by simp at e1 e2; exact h1 (e1.2 ▸ e2.2))]
    refine List.countP_congr fun a _ => ?_
    simp
    constructor
    · rintro (⟨a1, a2⟩ | ⟨a1, a2⟩)
      · exact ⟨a1, .inl a2⟩
      · exact ⟨a1, .inr a2⟩
    · rintro ⟨a1, a2 | a2⟩
      · exact .inl ⟨a1, a2⟩
      · exact .inr ⟨a1, a2⟩
theorem catT_mem {Q : List Av} {S : List Int} {a : Av} : a ∈ catT Q S ↔ a ∈ Q ∧ a.t ∈ S := by
  unfold catT
  rw [List.mem_flatten]
  constructor
  · rintro ⟨l, hl, ha⟩
    obtain ⟨s, hs, rfl⟩ := List.mem_map.1 hl
    obtain ⟨h1, h2⟩ := atT_mem.1 ha
    exact ⟨h1, h2 ▸ hs⟩
  · rintro ⟨h1, h2⟩
    exact ⟨atT Q a.t, List.mem_map.2 ⟨a.t, h2, rfl⟩, atT_mem.2 ⟨h1, rfl⟩⟩
theorem catT_asc (Q : List Av) : ∀ S : List Int, S.Pairwise (fun a b => a < b) → (catT Q S).Pairwise (fun a b => a.t ≤ b.t)
  | [], _ => List.Pairwise.nil
  | s :: S, h => by
    obtain ⟨h1, h2⟩ := List.pairwise_cons.1 h
    have e : catT Q (s :: S) = atT Q s ++ catT Q S := rfl
    rw [e, List.pairwise_append]
    refine ⟨?_, catT_asc Q S h2, fun a ha b hb => ?_⟩
    · refine List.pairwise_of_forall_mem_list fun a ha b hb => ?_
      rw [(atT_mem.1 ha).2, (atT_mem.1 hb).2]; exact Int.le_refl _
    · have := h1 _ (catT_mem.1 hb).2
      rw [(atT_mem.1 ha).2]; omega
end Go.Proofs.Ytpconbdoackcfaa
