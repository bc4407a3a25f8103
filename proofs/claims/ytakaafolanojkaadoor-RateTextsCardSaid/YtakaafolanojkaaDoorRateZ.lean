/- Plain facts: numbers and rates, and their texts. No program in sight. -/
import Derived.Test.YtakaafolanojkaaDoorRateY
namespace Go.Proofs.YtakaafolanojkaaDoor
open Go.RowKit Go.Sy
set_option linter.unusedVariables false
set_option linter.unusedSimpArgs false

abbrev u8L (l : List Int) : List UInt8 := l.map (fun x => UInt8.ofNat x.toNat)
theorem bytesOf_list (l : List Int) : (bytesOf l).data.toList = u8L l := by simp [bytesOf]
theorem ba_ext {A B : ByteArray} (h : A.data.toList = B.data.toList) : A = B := by
  cases A; cases B; rename_i a b
  congr 1
  exact Array.toList_inj.1 h
theorem dig_u8 (k : Nat) (h : k < 10) : (UInt8.ofNat (((48 + k : Nat) : Int)).toNat).toNat = 48 + k := by
  rw [show (((48 + k : Nat) : Int)).toNat = 48 + k from rfl, UInt8.toNat_ofNat']
  omega
theorem pu_digs : ∀ (n u : Nat), u < 10 ^ n → ∀ (acc : Nat) (rest : List UInt8), acc * 10 ^ n + u < 1000000000000000000 → Lib.parseUint10 acc (u8L (digs n u) ++ rest) = Lib.parseUint10 (acc * 10 ^ n + u) rest
  | 0, u, h, acc, rest, _ => by
    have : u = 0 := by simpa using h
    subst this
    simp [digs]
  | n + 1, u, h, acc, rest, hb => by
    rw [Nat.pow_succ] at h hb
    have e : acc * (10 ^ n * 10) = acc * 10 ^ n * 10 := by rw [Nat.mul_assoc]
    rw [e] at hb
    generalize hA : acc * 10 ^ n = A at *
    have ih := pu_digs n (u / 10) (by omega) acc (UInt8.ofNat (((48 + u % 10 : Nat) : Int)).toNat :: rest) (by rw [hA]; omega)
    rw [hA] at ih
    simp only [u8L, digs, List.map_append, List.map_cons, List.map_nil, List.append_assoc, List.singleton_append] at ih ⊢
    rw [ih]
    have hd := dig_u8 (u % 10) (by omega)
    simp only [Lib.parseUint10]
    rw [hd, if_pos (by omega), if_neg (by omega), if_neg (by omega), Nat.pow_succ, e]
    congr 1
    omega
theorem digs_dig : ∀ (n u : Nat) (x : UInt8), x ∈ u8L (digs n u) → 48 ≤ x.toNat ∧ x.toNat ≤ 57
  | 0, _, x, h => by simp [digs] at h
  | n + 1, u, x, h => by
    simp only [u8L, digs, List.map_append, List.map_cons, List.map_nil, List.mem_append, List.mem_singleton] at h
    rcases h with h | rfl
    · exact digs_dig n _ x h
    · rw [dig_u8 (u % 10) (by omega)]; omega
theorem pi_dec (n : Nat) (h : n < 1000000000000000000) : Lib.parseIntB 64 (dec n).data.toList = .ok (n : Int) := by
  rw [Lib.parseIntB_64]
  unfold dec
  rw [bytesOf_list]
  have hp := pu_digs (ndig n) n (ndig_lt n) 0 [] (by omega)
  rw [List.append_nil, Nat.zero_mul, Nat.zero_add] at hp
  have hd := digs_dig (ndig n) n
  have hl : (u8L (digs (ndig n) n)).length = ndig n := by rw [List.length_map, digs_length]
  have h0 := ndig_pos n
  generalize u8L (digs (ndig n) n) = l at *
  cases l with
  | nil => simp at hl; omega
  | cons c r =>
    have hc := hd c (by simp)
    simp only [Lib.atoiAll, Lib.parseMag]
    have hn : ¬ (c.toNat = 43 ∨ c.toNat = 45) := by omega
    rw [if_neg hn, if_neg (List.cons_ne_nil _ _), hp]
    simp only [Lib.parseUint10]
    rw [if_neg (by omega), if_neg (by omega), if_neg (by omega)]
theorem numO_dec {n : Int} (h1 : 0 ≤ n) (h2 : n < 1000000000000000000) : numO (decI n) = some n := by
  obtain ⟨k, rfl⟩ := Int.eq_ofNat_of_zero_le h1
  have e : decI (k : Int) = dec k := by unfold decI; rw [if_neg (by omega)]; rfl
  have hp := pi_dec k (by omega)
  unfold numO
  rw [e, hp]
  dsimp only
  rw [if_pos e]
theorem numO_some {s : ByteArray} {n : Int} (h : numO s = some n) : decI n = s := by
  unfold numO at h
  split at h
  · split at h
    · rename_i q; cases h; exact q
    · cases h
  · cases h
theorem numO_nil : numO ⟨#[]⟩ = none := rfl
theorem idx_app : ∀ (l : List UInt8) (c : UInt8) (r : List UInt8), (∀ x ∈ l, x ≠ c) → Lib.indexByte (l ++ c :: r) c = (l.length : Int)
  | [], c, r, _ => by simp [Lib.indexByte]
  | x :: l, c, r, h => by
    have ih := idx_app l c r (fun y hy => h y (by simp [hy]))
    have hx := h x (by simp)
    simp only [List.cons_append, Lib.indexByte, List.length_cons]
    rw [ih, if_neg (by simpa using hx), if_neg (by simp)]
    omega
theorem idx_cut : ∀ (l : List UInt8) (c : UInt8) (k : Nat), Lib.indexByte l c = (k : Int) → l = l.take k ++ c :: l.drop (k + 1)
  | [], c, k, h => by simp [Lib.indexByte] at h
  | x :: l, c, k, h => by
    simp only [Lib.indexByte] at h
    split at h
    · rename_i q
      have : k = 0 := by omega
      subst this
      have e : x = c := by simpa using q
      subst e; simp
    · rename_i q
      split at h
      · omega
      · cases k with
        | zero => have := Lib.indexByte_ge l c; simp at *; omega
        | succ k =>
          have ih := idx_cut l c k (by omega)
          rw [List.take_succ_cons, List.drop_succ_cons, List.cons_append, ← ih]
theorem ext_list (s : ByteArray) (a b : Nat) : (s.extract a b).data.toList = (s.data.toList.take b).drop a := by
  rw [ByteArray.data_extract, Array.toList_extract, List.extract_eq_take_drop, List.drop_take]
theorem size_list (s : ByteArray) : s.size = s.data.toList.length := (Array.length_toList).symm
theorem list3 {s : ByteArray} (h : s.size = 3) : ∃ a b c, s.data.toList = [a, b, c] := by
  rw [size_list] at h
  match hl : s.data.toList, h with
  | [a, b, c], _ => exact ⟨a, b, c, rfl⟩
theorem app_list (A B : ByteArray) : (A ++ B).data.toList = A.data.toList ++ B.data.toList := by simp [ByteArray.data_append]
/-- What a text is, that has this list behind its head. -/
theorem pa_of {S N D : ByteArray} {a b c d e g : UInt8} (h : S.data.toList = a :: b :: c :: 47 :: d :: e :: g :: 32 :: (N.data.toList ++ 47 :: D.data.toList)) (hN : ∀ x ∈ N.data.toList, x ≠ 47) : 8 ≤ S.size ∧ byteAt S 3 = 47 ∧ byteAt S 7 = 32 ∧ (S.extract 0 3).data.toList = [a, b, c] ∧ (S.extract 4 7).data.toList = [d, e, g] ∧ cutA (paS S) = N ∧ cutB (paS S) = D := by
  have hp : (paS S).data.toList = N.data.toList ++ 47 :: D.data.toList := by
    unfold paS
    rw [ext_list, size_list, List.take_length, h]; rfl
  have hi : cutI (paS S) = (N.data.toList.length : Int) := by
    unfold cutI; rw [hp]; exact idx_app _ _ _ hN
  have hs : (paS S).size = N.data.toList.length + 1 + D.data.toList.length := by rw [size_list, hp]; simp; omega
  refine ⟨?_, ?_, ?_, ?_, ?_, ?_, ?_⟩
  · rw [size_list, h]; simp
  · unfold byteAt; rw [h]; rfl
  · unfold byteAt; rw [h]; rfl
  · rw [ext_list, h]; rfl
  · rw [ext_list, h]; rfl
  · unfold cutA
    rw [hi, if_pos (by omega)]
    refine ba_ext ?_
    rw [ext_list, hp, Int.toNat_natCast, List.take_left, List.drop_zero]
  · unfold cutB
    rw [hi, if_pos (by omega)]
    refine ba_ext ?_
    rw [ext_list, size_list, List.take_length, hp, Int.toNat_natCast]
    rw [← List.drop_drop, List.drop_left]; rfl
theorem decI_dig {n : Int} (h : 0 ≤ n) : ∀ x ∈ (decI n).data.toList, x ≠ 47 := by
  intro x hx e
  subst e
  unfold decI at hx
  rw [if_neg (by omega)] at hx
  unfold dec at hx
  rw [bytesOf_list] at hx
  have := digs_dig _ _ _ hx
  simp at this
/-- A text of a rate is read as the rate. -/
theorem pa_fmt {f t : ByteArray} {n d : Int} (h : rchk f t n d = 0) : paE (rtxt f t n d) = 0 ∧ (rtxt f t n d).extract 0 3 = f ∧ (rtxt f t n d).extract 4 7 = t ∧ paN (rtxt f t n d) = n ∧ paD (rtxt f t n d) = d ∧ (rtxt f t n d).size ≤ 1000 := by
  obtain ⟨k1, k2, _, b1, b2, b3, b4⟩ := rchk_ok h
  obtain ⟨a, b, c, e1⟩ := list3 (curB_3 k1)
  obtain ⟨x, y, z, e2⟩ := list3 (curB_3 k2)
  have he : rtxt f t n d = f ++ ⟨#[47]⟩ ++ t ++ ⟨#[32]⟩ ++ decI n ++ ⟨#[47]⟩ ++ decI d := by unfold rtxt; rw [if_pos h]
  have hl : (rtxt f t n d).data.toList = a :: b :: c :: 47 :: x :: y :: z :: 32 :: ((decI n).data.toList ++ 47 :: (decI d).data.toList) := by
    rw [he]
    simp only [app_list, e1, e2, List.append_assoc, List.cons_append, List.nil_append]
  obtain ⟨p1, p2, p3, p4, p5, p6, p7⟩ := pa_of hl (decI_dig (by omega))
  have q1 := numO_dec (n := n) (by omega) (by omega)
  have q2 := numO_dec (n := d) (by omega) (by omega)
  have r1 : (rtxt f t n d).extract 0 3 = f := ba_ext (p4.trans e1.symm)
  have r2 : (rtxt f t n d).extract 4 7 = t := ba_ext (p5.trans e2.symm)
  have r3 : paN (rtxt f t n d) = n := by unfold paN; rw [p6, q1]; rfl
  have r4 : paD (rtxt f t n d) = d := by unfold paD; rw [p7, q2]; rfl
  refine ⟨?_, r1, r2, r3, r4, ?_⟩
  · unfold paE
    rw [if_neg (by omega), if_neg (by rw [p2, p3]; simp; omega), if_neg (by rw [p6, p7, q1, q2]; simp), r1, r2, r3, r4, h]
  · have z1 := decI_size n (by omega) (by omega)
    have z2 := decI_size d (by omega) (by omega)
    rw [size_list] at z1 z2 ⊢
    rw [hl]
    simp only [List.length_cons, List.length_append]
    omega
/-- A rate that is read has this text. -/
theorem fmt_pa {s : ByteArray} (h : paE s = 0) : rtxt (s.extract 0 3) (s.extract 4 7) (paN s) (paD s) = s := by
  unfold paE at h
  by_cases h0 : s.size = 0
  · rw [if_pos h0] at h; omega
  rw [if_neg h0] at h
  by_cases h1 : s.size < 8 ∨ byteAt s 3 ≠ 47 ∨ byteAt s 7 ≠ 32
  · rw [if_pos h1] at h; omega
  rw [if_neg h1] at h
  by_cases h2 : (numO (cutA (paS s))).isNone ∨ (numO (cutB (paS s))).isNone
  · rw [if_pos h2] at h; omega
  rw [if_neg h2] at h
  simp only [not_or, Option.isNone_iff_eq_none] at h2
  obtain ⟨n, hn⟩ := Option.ne_none_iff_exists'.1 h2.1
  obtain ⟨d, hd⟩ := Option.ne_none_iff_exists'.1 h2.2
  have en : paN s = n := by unfold paN; rw [hn]; rfl
  have ed : paD s = d := by unfold paD; rw [hd]; rfl
  have tn := numO_some hn
  have td := numO_some hd
  simp only [not_or, Decidable.not_not] at h1
  obtain ⟨g1, g2, g3⟩ := h1
  have hc : 0 ≤ cutI (paS s) := by
    refine Classical.byContradiction fun q => ?_
    unfold cutB at hd
    rw [if_neg q, numO_nil] at hd
    cases hd
  obtain ⟨k, hk⟩ := Int.eq_ofNat_of_zero_le hc
  have hcut := idx_cut _ _ _ hk
  have hA : (cutA (paS s)).data.toList = (paS s).data.toList.take k := by
    unfold cutA
    rw [if_pos hc, hk, ext_list, List.drop_zero]; rfl
  have hB : (cutB (paS s)).data.toList = (paS s).data.toList.drop (k + 1) := by
    unfold cutB
    rw [if_pos hc, hk, ext_list, size_list, List.take_length]; rfl
  rw [← hA, ← hB, ← tn, ← td] at hcut
  have hp : (paS s).data.toList = s.data.toList.drop 8 := by
    unfold paS
    rw [ext_list, size_list, List.take_length]
  have he : rtxt (s.extract 0 3) (s.extract 4 7) (paN s) (paD s) = (s.extract 0 3) ++ ⟨#[47]⟩ ++ (s.extract 4 7) ++ ⟨#[32]⟩ ++ decI (paN s) ++ ⟨#[47]⟩ ++ decI (paD s) := by unfold rtxt; rw [if_pos h]
  rw [he, en, ed]
  refine ba_ext ?_
  simp only [app_list, ext_list, List.append_assoc]
  rw [hp] at hcut
  have hsz : 8 ≤ s.data.toList.length := by rw [← size_list]; omega
  unfold byteAt at g2 g3
  match hl : s.data.toList, hsz with
  | x0 :: x1 :: x2 :: x3 :: x4 :: x5 :: x6 :: x7 :: rest, _ =>
    rw [hl] at g2 g3 hcut
    have y3 : x3 = 47 := UInt8.toNat_inj.1 (by have : (x3.toNat : Int) = 47 := g2; simpa using (by omega : x3.toNat = 47))
    have y7 : x7 = 32 := UInt8.toNat_inj.1 (by have : (x7.toNat : Int) = 32 := g3; simpa using (by omega : x7.toNat = 32))
    subst y3
    subst y7
    have hr : rest = (decI n).data.toList ++ 47 :: (decI d).data.toList := hcut
    rw [hr]; rfl
theorem redN_nt {a b : Int} (ha : 1 ≤ a) (hb : 1 ≤ b) : redN a b = ((a.toNat / Nat.gcd a.toNat b.toNat : Nat) : Int) := by
  unfold redN gcdI
  rw [if_neg (by omega)]
  obtain ⟨x, rfl⟩ : ∃ x : Nat, a = x := ⟨a.toNat, by omega⟩
  rfl
theorem redD_nt {a b : Int} (ha : 1 ≤ a) (hb : 1 ≤ b) : redD a b = ((b.toNat / Nat.gcd a.toNat b.toNat : Nat) : Int) := by
  unfold redD gcdI
  rw [if_neg (by omega)]
  obtain ⟨x, rfl⟩ : ∃ x : Nat, b = x := ⟨b.toNat, by omega⟩
  rfl
/-- What is in lowest terms stays so. -/
theorem red_twice {n d : Int} (hn : 1 ≤ n) (hd : 1 ≤ d) : redN (redD d n) (redN d n) = redN n d ∧ redD (redD d n) (redN d n) = redD n d := by
  obtain ⟨b1, b2, b3, b4⟩ := red_bd hd hn
  have e1 := redN_nt hd hn
  have e2 := redD_nt hd hn
  rw [redN_nt b3 b1, redD_nt b3 b1, redN_nt hn hd, redD_nt hn hd, e1, e2, Int.toNat_natCast, Int.toNat_natCast]
  have hp : 0 < Nat.gcd d.toNat n.toNat := Nat.gcd_pos_of_pos_left _ (by omega)
  have hg : Nat.gcd (n.toNat / Nat.gcd d.toNat n.toNat) (d.toNat / Nat.gcd d.toNat n.toNat) = 1 := by
    rw [Nat.gcd_comm d.toNat n.toNat] at hp ⊢
    exact Nat.coprime_div_gcd_div_gcd hp
  rw [hg, Nat.div_one, Nat.div_one, Nat.gcd_comm d.toNat n.toNat]
  exact ⟨rfl, rfl⟩
end Go.Proofs.YtakaafolanojkaaDoor
