/- Written fields are read back: plain facts. No program in sight. -/
import Derived.Test.YtkbajejkllkahaaDoorWireW
namespace Go.Proofs.YtkbajejkllkahaaDoor
open Go.RowKit Go.Sy
set_option linter.unusedVariables false
set_option linter.unusedSimpArgs false

theorem byteAt_app {A B : ByteArray} {i : Nat} (h : i < A.size) : byteAt (A ++ B) (i : Int) = byteAt A (i : Int) := by
  have := byteAt_ext (s := A ++ B) (w := A.size) (i := i) h (by rw [ByteArray.size_append]; omega)
  rw [extract_left rfl] at this
  exact this.symm
theorem byteAt_bytesOf {l : List Int} {i : Nat} (hi : i < l.length) (hb : ∀ x ∈ l, 0 ≤ x ∧ x ≤ 255) : byteAt (bytesOf l) (i : Int) = l[i] := by
  unfold byteAt bytesOf
  rw [Int.toNat_natCast, List.getD]
  simp only [List.getElem?_map, List.getElem?_eq_getElem hi, Option.map_some, Option.getD_some]
  have := hb l[i] (List.getElem_mem hi)
  rw [UInt8.toNat_ofNat']
  omega
theorem byteAt_right {A B : ByteArray} {i : Nat} (h : i < B.size) : byteAt (A ++ B) ((A.size + i : Nat) : Int) = byteAt B (i : Int) := by
  unfold byteAt
  rw [Int.toNat_natCast, Int.toNat_natCast, ByteArray.data_append]
  congr 1
  rw [Array.toList_append, List.getD, List.getD, List.getElem?_append_right (by rw [Array.length_toList]; exact Nat.le_add_right A.data.size i), Array.length_toList]
  rw [show A.size + i - A.data.size = i from by have : A.data.size = A.size := rfl; omega]

theorem rep_at {m j : Nat} (h : j < m) : byteAt (bytesOf (List.replicate m 32)) (j : Int) = 32 := by
  rw [byteAt_bytesOf (by rw [List.length_replicate]; exact h) (fun x hx => by rw [List.eq_of_mem_replicate hx]; omega), List.getElem_replicate]
theorem rep_size (m : Nat) : (bytesOf (List.replicate m 32)).size = m := by rw [bytesOf_size, List.length_replicate]
/-- A printable text without blanks at its end, filled up: what is read back. -/
theorem trimN_spaces {t : ByteArray} {m : Nat} : ∀ j, j ≤ m → trimN (t ++ bytesOf (List.replicate m 32)) (t.size + j) = trimN (t ++ bytesOf (List.replicate m 32)) t.size
  | 0, _ => rfl
  | j + 1, h => by
    have e : byteAt (t ++ bytesOf (List.replicate m 32)) ((t.size + j : Nat) : Int) = 32 := by
      rw [byteAt_right (by rw [rep_size]; omega)]; exact rep_at (by omega)
    show (if byteAt (t ++ bytesOf (List.replicate m 32)) ((t.size + j : Nat) : Int) = 32 then trimN _ (t.size + j) else _) = _
    rw [if_pos e]
    exact trimN_spaces j (by omega)
theorem trim_back {t : ByteArray} {m : Nat} (h : sufB t ⟨#[32]⟩ = false) : trimS (t ++ bytesOf (List.replicate m 32)) = t := by
  have h0 : trimN (t ++ bytesOf (List.replicate m 32)) t.size = t.size := by
    rcases Nat.eq_zero_or_pos t.size with e | e
    · rw [e]; rfl
    · obtain ⟨k, hk⟩ : ∃ k, t.size = k + 1 := ⟨t.size - 1, by omega⟩
      have hs := suf_at (s := t) e
      rw [h] at hs
      have hne := of_decide_eq_false hs.symm
      rw [show t.size - 1 = k by omega] at hne
      have hb : byteAt (t ++ bytesOf (List.replicate m 32)) (k : Int) = byteAt t (k : Int) := byteAt_app (by omega)
      rw [hk]
      show (if byteAt (t ++ bytesOf (List.replicate m 32)) (k : Int) = 32 then trimN _ k else k + 1) = k + 1
      rw [hb, if_neg hne]
  unfold trimS
  rw [ByteArray.size_append, rep_size, trimN_spaces m (Nat.le_refl _), h0]
  exact extract_left rfl
theorem prTo_app {A B : ByteArray} : ∀ k, k ≤ A.size → prTo (A ++ B) k = prTo A k
  | 0, _ => rfl
  | k + 1, h => by
    have e : prAt (A ++ B) k ↔ prAt A k := by unfold prAt; rw [byteAt_app (by omega)]
    show (prTo (A ++ B) k && decide (prAt (A ++ B) k)) = (prTo A k && decide (prAt A k))
    rw [prTo_app k (by omega), decide_eq_decide.2 e]
theorem pr_spaces {t : ByteArray} {m : Nat} (h : prB t = true) : ∀ j, j ≤ m → prTo (t ++ bytesOf (List.replicate m 32)) (t.size + j) = true
  | 0, _ => by rw [Nat.add_zero, prTo_app _ (Nat.le_refl _)]; exact h
  | j + 1, hj => by
    have e : byteAt (t ++ bytesOf (List.replicate m 32)) ((t.size + j : Nat) : Int) = 32 := by
      rw [byteAt_right (by rw [rep_size]; omega)]; exact rep_at (by omega)
    exact prTo_step (k := t.size + j) (pr_spaces h j (by omega)) (by rw [e]; omega) (by rw [e]; omega)
theorem alE_ok {t : ByteArray} {w : Int} (h : alE t w = 0) : 1 ≤ w ∧ w ≤ 255 ∧ (t.size : Int) ≤ w ∧ prB t = true ∧ sufB t ⟨#[32]⟩ = false := by
  unfold alE alOk at h
  split at h
  · omega
  · split at h
    · omega
    · split at h
      · rename_i h1 h2 h3
        simp only [Bool.and_eq_true, Bool.not_eq_true'] at h3
        exact ⟨by omega, by omega, by omega, h3.1, h3.2⟩
      · omega
theorem al_size {t : ByteArray} {w : Int} (h : alE t w = 0) : (alS t w).size = w.toNat := by
  obtain ⟨h1, h2, h3, _, _⟩ := alE_ok h
  unfold alS; rw [if_pos h, ByteArray.size_append, rep_size]; omega
theorem ap_read {t R : ByteArray} {w : Int} (h : alE t w = 0) : apE (alS t w ++ R) w = 0 ∧ apS (alS t w ++ R) w = t ∧ (alS t w ++ R).extract w.toNat (alS t w ++ R).size = R := by
  obtain ⟨h1, h2, h3, h4, h5⟩ := alE_ok h
  have hz := al_size h
  have e0 : alS t w = t ++ bytesOf (List.replicate (w.toNat - t.size) 32) := by unfold alS; rw [if_pos h]
  have hp : prTo (alS t w ++ R) w.toNat = true := by
    rw [prTo_app _ (by omega), e0]
    have := pr_spaces (m := w.toNat - t.size) h4 (w.toNat - t.size) (Nat.le_refl _)
    rwa [show t.size + (w.toNat - t.size) = w.toNat by omega] at this
  have hs : (alS t w ++ R).size = w.toNat + R.size := by rw [ByteArray.size_append, hz]
  have e1 : apE (alS t w ++ R) w = 0 := by
    unfold apE
    rw [if_neg (by omega), if_neg (by omega), if_pos hp]
  refine ⟨e1, ?_, extract_right hz hs⟩
  rw [apS_ok e1, extract_left hz, e0]
  exact trim_back h5

theorem varE_ok {t : ByteArray} {d : Int} (h : varE t d = 0) : (d = 2 ∨ d = 3) ∧ t.size < 10 ^ d.toNat ∧ t.size ≤ 255 := by
  unfold varE at h
  split at h
  · omega
  · split at h
    · omega
    · rename_i h1 h2
      have hd : d = 2 ∨ d = 3 := by omega
      refine ⟨hd, ?_, by omega⟩
      rcases hd with rfl | rfl
      · show t.size < 10 ^ 2; omega
      · show t.size < 10 ^ 3; omega
theorem va_read {t R : ByteArray} {d : Int} (h : varE t d = 0) : vaE (varS t d ++ R) d 255 = 0 ∧ vaS (varS t d ++ R) d 255 = t ∧ (varS t d ++ R).extract (vaC (varS t d ++ R) d 255).toNat (varS t d ++ R).size = R := by
  obtain ⟨hd, hl, h255⟩ := varE_ok h
  have e0 : varS t d = bytesOf (digs d.toNat t.size) ++ t := by unfold varS; rw [if_pos h]
  obtain ⟨D, hD⟩ : ∃ D, D = bytesOf (digs d.toNat t.size) := ⟨_, rfl⟩
  have hz : D.size = d.toNat := by rw [hD, bytesOf_size, digs_length]
  rw [← hD] at e0
  rw [e0]
  have hs : (D ++ t ++ R).size = d.toNat + t.size + R.size := by rw [ByteArray.size_append, ByteArray.size_append, hz]
  have hx : (D ++ t ++ R).extract 0 d.toNat = D := by rw [ByteArray.append_assoc]; exact extract_left hz
  obtain ⟨d1, d2⟩ := dg_digs hD d.toNat (Nat.le_refl _)
  have e1 := dgTo_ext (s := D ++ t ++ R) (w := d.toNat) (by omega) d.toNat (Nat.le_refl _)
  rw [hx] at e1
  have hg : dgTo (D ++ t ++ R) d.toNat = true := by rw [← e1.1]; exact d1
  have hn : numTo (D ++ t ++ R) d.toNat = (t.size : Int) := by
    rw [← e1.2, d2, Nat.sub_self, Nat.pow_zero, Nat.div_one, Nat.mod_eq_of_lt hl]
  have ve : vaE (D ++ t ++ R) d 255 = 0 := by
    unfold vaE
    rw [if_neg (by omega), if_neg (by omega), hg, if_neg (by decide), hn, if_neg (by omega), if_neg (by omega)]
  obtain ⟨v1, v2⟩ := va_ok ve
  refine ⟨ve, ?_, ?_⟩
  · rw [v1, hn, show (d + (t.size : Int)).toNat = d.toNat + t.size by omega]
    have : (D ++ t ++ R).extract 0 (d.toNat + t.size) = D ++ t := extract_left (by rw [ByteArray.size_append, hz])
    have h2 := ext_ext2 (s := D ++ t ++ R) (k := d.toNat + t.size) (j := d.toNat) (by omega)
    rw [this] at h2
    rw [← h2]
    exact extract_right hz (by rw [ByteArray.size_append, hz])
  · rw [v2, hn, show (d + (t.size : Int)).toNat = d.toNat + t.size by omega]
    exact extract_right (by rw [ByteArray.size_append, hz]) hs

theorem nu_read {R : ByteArray} {n w : Int} (h : numE n w = 0) : nuE (numS n w ++ R) w = 0 ∧ nuV (numS n w ++ R) w = n ∧ (numS n w ++ R).extract (nuC (numS n w ++ R) w).toNat (numS n w ++ R).size = R := by
  have ho : numOk n w := by
    by_cases x : numOk n w
    · exact x
    · rw [numE_no x] at h; omega
  rw [numS_ok ho]
  obtain ⟨N, rfl⟩ := Int.eq_ofNat_of_zero_le ho.2.2.1
  obtain ⟨m, rfl⟩ := Int.eq_ofNat_of_zero_le (show 0 ≤ w by have := ho.1; omega)
  have h1 := ho.1
  have h2 := ho.2.1
  rw [Int.toNat_natCast, Int.toNat_natCast]
  exact nu_digs (by omega) (by omega) (Nat.lt_of_lt_of_le (ndig_lt N) (Nat.pow_le_pow_right (by omega) (by have := ho.2.2.2; simpa using this))) rfl

/-- Hexadecimal digits are read back. -/
theorem hxI_hexd {x : Int} (h0 : 0 ≤ x) (h : x < 16) : hxI (hexd x) = x := by
  unfold hexd hxI
  split
  · rw [if_pos (by omega)]; omega
  · rw [if_neg (by omega), if_pos (by omega)]; omega
theorem hexd_bd {x : Int} (h0 : 0 ≤ x) (h : x < 16) : 0 ≤ hexd x ∧ hexd x ≤ 255 := by unfold hexd; split <;> omega
theorem hexL_mem {s : ByteArray} : ∀ {n : Nat} {x : Int}, x ∈ hexL s n → 0 ≤ x ∧ x ≤ 255
  | 0, x, h => by cases h
  | n + 1, x, h => by
    have bd := byteAt_bd s (n : Int)
    rcases List.mem_append.1 h with h | h
    · exact hexL_mem h
    · rcases List.mem_cons.1 h with rfl | h
      · exact hexd_bd (by omega) (by omega)
      · simp only [List.mem_singleton] at h; subst h; exact hexd_bd (by omega) (by omega)
theorem hexL_get {s : ByteArray} : ∀ {n k : Nat}, k < n → (hexL s n)[2 * k]? = some (hexd (byteAt s (k : Int) / 16)) ∧ (hexL s n)[2 * k + 1]? = some (hexd (byteAt s (k : Int) % 16))
  | 0, k, h => by omega
  | n + 1, k, h => by
    have hl := hexL_length s n
    show (hexL s n ++ [_, _])[2 * k]? = _ ∧ (hexL s n ++ [_, _])[2 * k + 1]? = _
    by_cases e : k = n
    · subst e
      rw [List.getElem?_append_right (by omega), List.getElem?_append_right (by omega), hl, show 2 * k - 2 * k = 0 by omega, show 2 * k + 1 - 2 * k = 1 by omega]
      exact ⟨rfl, rfl⟩
    · rw [List.getElem?_append_left (by omega), List.getElem?_append_left (by omega)]
      exact hexL_get (by omega)
theorem hi_back {s : ByteArray} {n k : Nat} (h : k < n) : hiN (bytesOf (hexL s n)) k = byteAt s (k : Int) / 16 ∧ loN (bytesOf (hexL s n)) k = byteAt s (k : Int) % 16 := by
  have bd := byteAt_bd s (k : Int)
  have hl := hexL_length s n
  obtain ⟨g1, g2⟩ := hexL_get (s := s) h
  unfold hiN loN
  rw [byteAt_bytesOf (by omega) (fun x hx => hexL_mem hx), byteAt_bytesOf (by omega) (fun x hx => hexL_mem hx)]
  rw [List.getElem?_eq_getElem (by omega)] at g1 g2
  injection g1 with g1
  injection g2 with g2
  rw [g1, g2, hxI_hexd (by omega) (by omega), hxI_hexd (by omega) (by omega)]
  exact ⟨rfl, rfl⟩
theorem uh_back {s : ByteArray} {n : Nat} : ∀ k, k ≤ n → uhTo (bytesOf (hexL s n)) k = true ∧ uhL (bytesOf (hexL s n)) k = (List.range k).map (fun i : Nat => byteAt s (i : Int))
  | 0, _ => ⟨rfl, rfl⟩
  | k + 1, h => by
    obtain ⟨i1, i2⟩ := uh_back (s := s) (n := n) k (by omega)
    obtain ⟨a, b⟩ := hi_back (s := s) (n := n) (k := k) (by omega)
    have bd := byteAt_bd s (k : Int)
    constructor
    · show (uhTo _ k && decide _) = true
      rw [i1, a, b, decide_eq_true (by omega)]; rfl
    · show uhL _ k ++ [_] = _
      rw [i2, a, b, List.range_succ, List.map_append]
      congr 1
      show [byteAt s (k : Int) / 16 * 16 + byteAt s (k : Int) % 16] = [byteAt s (k : Int)]
      rw [show byteAt s (k : Int) / 16 * 16 + byteAt s (k : Int) % 16 = byteAt s (k : Int) by omega]
theorem bytes_back (s : ByteArray) : bytesOf ((List.range s.size).map (fun i : Nat => byteAt s (i : Int))) = s := by
  have := extract_bytes (s := s) (a := 0) (n := s.size) (by omega) ((List.range s.size).map (fun i : Nat => byteAt s (i : Int))) (by simp) (fun i hi => by simp [List.getD, hi])
  rw [Nat.zero_add, ext_all] at this
  exact this.symm
theorem unhex_back (s : ByteArray) : uhE (bytesOf (hexL s s.size)) = 0 ∧ uhS (bytesOf (hexL s s.size)) = s := by
  have hz : (bytesOf (hexL s s.size)).size = 2 * s.size := by rw [bytesOf_size, hexL_length]
  obtain ⟨h1, h2⟩ := uh_back (s := s) (n := s.size) s.size (Nat.le_refl _)
  have hd : (bytesOf (hexL s s.size)).size / 2 = s.size := by omega
  obtain ⟨e1, e2⟩ := uhE_ok (s := bytesOf (hexL s s.size)) (by omega) (by rw [hd]; exact h1)
  refine ⟨e1, ?_⟩
  rw [e2, hd, h2]
  exact bytes_back s

/-- Digits that were read are those that are written. -/
theorem digs_back {s : ByteArray} : ∀ k, k ≤ s.size → dgTo s k = true → 0 ≤ numTo s k ∧ bytesOf (digs k (numTo s k).toNat) = s.extract 0 k
  | 0, _, _ => ⟨by simp [numTo], by
      apply ByteArray.ext
      simp [digs, bytesOf]⟩
  | k + 1, hk, hd => by
    have hd' : dgTo s k = true ∧ dgAt s k := by
      have : (dgTo s k && decide (dgAt s k)) = true := hd
      simpa using this
    obtain ⟨i1, i2⟩ := digs_back k (by omega) hd'.1
    have hb : 48 ≤ byteAt s (k : Int) ∧ byteAt s (k : Int) ≤ 57 := hd'.2
    have en : numTo s (k + 1) = 10 * numTo s k + (byteAt s (k : Int) - 48) := rfl
    refine ⟨by omega, ?_⟩
    have e1 : (numTo s (k + 1)).toNat / 10 = (numTo s k).toNat := by omega
    have e2 : ((48 + (numTo s (k + 1)).toNat % 10 : Nat) : Int) = byteAt s (k : Int) := by omega
    show bytesOf (digs k ((numTo s (k + 1)).toNat / 10) ++ [((48 + (numTo s (k + 1)).toNat % 10 : Nat) : Int)]) = _
    rw [e1, e2, ← append_bytesOf, i2]
    have x1 := extract_bytes (s := s) (a := k) (n := 1) (by omega) [byteAt s (k : Int)] rfl (fun i hi => by cases Nat.lt_one_iff.1 hi; rfl)
    rw [← x1]
    apply ByteArray.ext
    simp [ByteArray.data_append, ByteArray.data_extract]
end Go.Proofs.YtkbajejkllkahaaDoor
