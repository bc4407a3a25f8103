/- The law on fields that are written and read back. -/
import Derived.Test.YtkbajejkllkahaaDoorWireT
namespace Go.Proofs.YtkbajejkllkahaaDoor
open Go.RowKit Go.Sy
attribute [local irreducible] vcall vloop vcallD retP
set_option maxRecDepth 100000
set_option linter.unusedVariables false
set_option linter.unusedSimpArgs false

def wS (d n : Int) (t : ByteArray) (w : Int) : ByteArray := if d.tmod 3 = 0 then numS n w else if d.tmod 3 = 1 then alS t w else varS t w
def wE (d n : Int) (t : ByteArray) (w : Int) : Int := if d.tmod 3 = 0 then numE n w else if d.tmod 3 = 1 then alE t w else varE t w
theorem law_write (d n : Int) (t : ByteArray) (w : Int) (hn : n ≤ 9223372036854775807) (ht : t.size ≤ 9223372036854775000) : Glob Tryd.prog glT 34 [.agg [.int .u8 d, .int .i64 n, .str t, .int .i64 w]] (.tup [.str (wS d n t w), .int .i64 (wE d n t w)]) := by
  have c0 := wire_Num n w hn
  have c1 := wire_AlphaN t w ht
  have c2 := wire_Var t w (by omega)
  refine fc_of mixed T_ok Tryd.func34 rfl (by kernel_rfl) (by kernel_rfl) (by kernel_rfl) ?_
  repeat' ((conv => whnf); first | (refine vcall_glob (c0) rfl rfl rfl rfl ?_) | (refine vcallD_glob (c0) rfl rfl rfl rfl ?_) | (refine vcall_pure (c1) rfl rfl rfl ?_) | (refine vcallD_pure (c1) rfl rfl rfl ?_) | (refine vcall_glob (c2) rfl rfl rfl rfl ?_) | (refine vcallD_glob (c2) rfl rfl rfl rfl ?_) | (refine br_dec (fun h => ?_) (fun h => ?_) <;> try (exfalso; omega)) | (refine br_ndec (fun h => ?_) (fun h => ?_) <;> try (exfalso; omega)) | refine br_seq (fun h => ?_) (fun h => ?_) | refine br_nseq (fun h => ?_) (fun h => ?_) | refine br_not (fun h => ?_) (fun h => ?_) | refine br_intro (fun h => ?_) (fun h => ?_) | refine cond_intro rfl ?_ | (refine cond_intro ⟨rfl, ?_⟩ ?_; (first | omega | (dsimp only; omega) | decide)) | (refine cond_intro ?_ ?_; (first | omega | (dsimp only; omega) | decide | (simp only [Nat.add_zero, Int.toNat_natCast, *]; omega))))
  all_goals (conv => whnf)
  all_goals unfold wS wE
  all_goals (repeat (first | rw [if_pos (by omega)] | rw [if_neg (by omega)] | rw [if_pos (by assumption)] | rw [if_neg (by assumption)] | rw [if_neg (bnf (by assumption))]))
  all_goals exact ret_pure rfl

def catTo (S : Nat → ByteArray) (E : Nat → Int) : Nat → ByteArray
  | 0 => ⟨#[]⟩
  | k + 1 => if E k = 0 then catTo S E k ++ S k else catTo S E k
def catFrom (S : Nat → ByteArray) (E : Nat → Int) : Nat → Nat → ByteArray
  | 0, _ => ⟨#[]⟩
  | m + 1, k => if E k = 0 then S k ++ catFrom S E m (k + 1) else catFrom S E m (k + 1)
theorem cat_both (S : Nat → ByteArray) (E : Nat → Int) : ∀ m k, catTo S E k ++ catFrom S E m k = catTo S E (k + m)
  | 0, k => by show catTo S E k ++ (⟨#[]⟩ : ByteArray) = _; exact ByteArray.append_empty
  | m + 1, k => by
    have ih := cat_both S E m (k + 1)
    rw [show k + (m + 1) = k + 1 + m by omega, ← ih]
    simp only [catFrom, catTo]
    split
    · rw [ByteArray.append_assoc]
    · rfl
theorem cat_all (S : Nat → ByteArray) (E : Nat → Int) (n : Nat) : catFrom S E n 0 = catTo S E n := by
  have := cat_both S E n 0
  rw [Nat.zero_add] at this
  rw [← this]
  show catFrom S E n 0 = (⟨#[]⟩ : ByteArray) ++ catFrom S E n 0
  exact ByteArray.empty_append.symm
theorem wS_size {d n : Int} {t : ByteArray} {w : Int} (h : wE d n t w = 0) : (wS d n t w).size ≤ 300 := by
  unfold wS
  unfold wE at h
  split
  · exact Nat.le_trans (numS_size n w) (by decide)
  · rename_i h0
    rw [if_neg h0] at h
    split
    · rename_i h1
      rw [if_pos h1] at h
      rw [al_size h]
      have := alE_ok h
      omega
    · rename_i h1
      rw [if_neg h1] at h
      obtain ⟨hd, hl, h2⟩ := varE_ok h
      have e0 : varS t w = bytesOf (digs w.toNat t.size) ++ t := by unfold varS; rw [if_pos h]
      rw [e0, ByteArray.size_append, bytesOf_size, digs_length]
      omega

theorem va_back {s : ByteArray} (h : vaE s 2 99 = 0) : varE (vaS s 2 99) 2 = 0 ∧ (varS (vaS s 2 99) 2).size ≤ s.size ∧ varS (vaS s 2 99) 2 = s.extract 0 (varS (vaS s 2 99) 2).size ∧ (s.extract (vaC s 2 99).toNat s.size).size = s.size - (varS (vaS s 2 99) 2).size := by
  obtain ⟨v1, v2⟩ := va_ok h
  rcases va_cases s 2 99 with ⟨x, _⟩ | ⟨_, ⟨x, _⟩ | ⟨h2, ⟨x, _⟩ | ⟨hd, ⟨x, _⟩ | ⟨hm, h255, hr⟩⟩⟩⟩
  · omega
  · omega
  · omega
  · omega
  · have hd' : dgTo s 2 = true := hd
    obtain ⟨n0, n1⟩ := digs_back (s := s) 2 (by omega) hd'
    have hm' : numTo s 2 ≤ 99 := hm
    have hl : (s.size : Int) - 2 ≥ numTo s 2 := by
      rcases hr with ⟨x, _⟩ | ⟨_, y⟩
      · omega
      · have : numTo s (2 : Int).toNat = numTo s 2 := rfl
        omega
    have e2 : (2 : Int).toNat = 2 := rfl
    have v1' : vaS s 2 99 = s.extract 2 (2 + numTo s 2).toNat := v1
    have v2' : vaC s 2 99 = 2 + numTo s 2 := v2
    obtain ⟨m, hm2⟩ := Int.eq_ofNat_of_zero_le n0
    rw [hm2] at v1' v2' n1 hl hm'
    have zt : (vaS s 2 99).size = m := by rw [v1', ByteArray.size_extract]; omega
    have ve : varE (vaS s 2 99) 2 = 0 := by unfold varE; rw [if_neg (by omega), if_neg (by omega)]
    have vs : varS (vaS s 2 99) 2 = bytesOf (digs 2 m) ++ vaS s 2 99 := by unfold varS; rw [if_pos ve, zt]; rfl
    have zs : (varS (vaS s 2 99) 2).size = 2 + m := by rw [vs, ByteArray.size_append, bytesOf_size, digs_length, zt]
    refine ⟨ve, by omega, ?_, ?_⟩
    · rw [zs, vs]
      rw [show ((m : Int)).toNat = m from rfl] at n1
      rw [n1, v1', show ((2 : Int) + (m : Int)).toNat = 2 + m by omega]
      apply ByteArray.ext
      simp [ByteArray.data_append, ByteArray.data_extract]
    · rw [zs, v2', ByteArray.size_extract]; omega

theorem catFrom_0 (S : Nat → ByteArray) (E : Nat → Int) (k : Nat) : catFrom S E 0 k = ⟨#[]⟩ := rfl
theorem catFrom_go {S : Nat → ByteArray} {E : Nat → Int} {n k : Nat} (h : k < n) : catFrom S E (n - k) k = if E k = 0 then S k ++ catFrom S E (n - (k + 1)) (k + 1) else catFrom S E (n - (k + 1)) (k + 1) := by
  rw [show n - k = (n - (k + 1)) + 1 by omega]; rfl
theorem catTo_0 (S : Nat → ByteArray) (E : Nat → Int) : catTo S E 0 = ⟨#[]⟩ := rfl
theorem catTo_s (S : Nat → ByteArray) (E : Nat → Int) (k : Nat) : catTo S E (k + 1) = if E k = 0 then catTo S E k ++ S k else catTo S E k := rfl
theorem catFrom_size {S : Nat → ByteArray} {E : Nat → Int} (hS : ∀ k, E k = 0 → (S k).size ≤ 300) : ∀ m k, (catFrom S E m k).size ≤ 300 * m
  | 0, k => by rw [catFrom_0]; exact Nat.zero_le _
  | m + 1, k => by
    have ih := catFrom_size hS m (k + 1)
    have e := catFrom_go (S := S) (E := E) (n := k + (m + 1)) (k := k) (by omega)
    rw [show k + (m + 1) - k = m + 1 by omega, show k + (m + 1) - (k + 1) = m by omega] at e
    rw [e]
    split
    · rename_i h; have := hS k h; rw [ByteArray.size_append]; omega
    · omega
attribute [local irreducible] wS wE catFrom catTo
set_option maxHeartbeats 4000000 in
theorem wireRoundTrip_fc (l0 : Nat) (hl0 : l0 ≤ maxLen) (q0_0 : List Int) (eq0_0 : q0_0.length = l0) (wq0_0 : ∀ x ∈ q0_0, (Lit.int .u8 x).wf = true) (q0_1 : List Int) (eq0_1 : q0_1.length = l0) (wq0_1 : ∀ x ∈ q0_1, (Lit.int .i64 x).wf = true) (q0_2 : List ByteArray) (eq0_2 : q0_2.length = l0) (wq0_2 : ∀ x ∈ q0_2, x.size ≤ maxLen) (q0_3 : List Int) (eq0_3 : q0_3.length = l0) (wq0_3 : ∀ x ∈ q0_3, (Lit.int .i64 x).wf = true) (s1 : ByteArray) (hs1 : s1.size ≤ maxLen) :
    FC Tryd.prog 2 6 [.sl 1 0 0 l0, .str s1] [(0, some (GB glT)), (1, some (.one true (.cols l0 [.sc (.ints .u8 q0_0), .sc (.ints .i64 q0_1), .sc (.strs q0_2), .sc (.ints .i64 q0_3)])))] (isOut (.bool true) [] 2) := by
  have aw := w_awake
  have n64 : ∀ k, q0_1.getD k 0 ≤ 9223372036854775807 := by
    intro k
    rw [List.getD]
    cases h : q0_1[k]? with
    | none => simp
    | some x => exact (wf_i64 (wq0_1 x (List.mem_iff_getElem?.2 ⟨k, h⟩))).2
  obtain ⟨S, hS⟩ : ∃ S : Nat → ByteArray, ∀ k, S k = wS (q0_0.getD k 0) (q0_1.getD k 0) (q0_2.getD k ⟨#[]⟩) (q0_3.getD k 0) := ⟨_, fun _ => rfl⟩
  obtain ⟨E, hE⟩ : ∃ E : Nat → Int, ∀ k, E k = wE (q0_0.getD k 0) (q0_1.getD k 0) (q0_2.getD k ⟨#[]⟩) (q0_3.getD k 0) := ⟨_, fun _ => rfl⟩
  have sz : ∀ k, E k = 0 → (S k).size ≤ 300 := fun k h => by rw [hS]; rw [hE] at h; exact wS_size h
  refine fc_of mixed T_ok Tryd.func6 rfl (by kernel_rfl) (by kernel_rfl) (by kernel_rfl) ?_
  repeat' ((conv => whnf); first | (refine vcall_glob (aw) rfl rfl rfl rfl ?_) | (refine vcallD_glob (aw) rfl rfl rfl rfl ?_) | (refine br_dec (fun h => ?_) (fun h => ?_) <;> try (exfalso; omega)) | (refine br_ndec (fun h => ?_) (fun h => ?_) <;> try (exfalso; omega)) | refine br_seq (fun h => ?_) (fun h => ?_) | refine br_nseq (fun h => ?_) (fun h => ?_) | refine br_not (fun h => ?_) (fun h => ?_) | refine br_intro (fun h => ?_) (fun h => ?_) | refine cond_intro rfl ?_ | (refine cond_intro ⟨rfl, ?_⟩ ?_; (first | omega | (dsimp only; omega) | decide)) | (refine cond_intro ?_ ?_; (first | omega | (dsimp only; omega) | decide | (simp only [Nat.add_zero, Int.toNat_natCast, *]; omega))))
  all_goals (conv => whnf)
  · exact ret_out (l := [0, 1]) rfl rfl trivial allRw_nil
  · exact ret_out (l := [0, 1]) rfl rfl trivial allRw_nil
  refine vloop_of (fun k : Nat => ⟨[(0, .sl 1 0 0 l0), (1, .str s1), (5, .str (catTo S E k)), (6, .int .i64 k)], (0, some (GB glT)) :: (1, some (.one true (.cols l0 [.sc (.ints .u8 q0_0), .sc (.ints .i64 q0_1), .sc (.strs q0_2), .sc (.ints .i64 q0_3)]))) :: [], 2⟩) (fun k => k ≤ l0 ∧ (catTo S E k).size ≤ 300 * k ∧ ∀ j, j < k → (q0_2.getD j ⟨#[]⟩).size ≤ 300) (fun k => l0 - k) 0 [0, 1] [] ?_ ⟨by omega, by rw [catTo_0]; exact Nat.le_refl 0, fun j hj => by omega⟩ ?_
  · exact ⟨rfl, ⟨rfl, rfl, congrArg (fun z => some (SV.str z)) (catTo_0 S E).symm, rfl, trivial⟩, ⟨gwk rfl, rfl, trivial⟩⟩
  rintro k ⟨hk, hsz, hall⟩
  by_cases hkl : k < l0
  · by_cases ht : 300 < (q0_2.getD k ⟨#[]⟩).size
    · repeat' ((conv => whnf); first | (refine vcall_glob (aw) rfl rfl rfl rfl ?_) | (refine vcallD_glob (aw) rfl rfl rfl rfl ?_) | (refine br_dec (fun h => ?_) (fun h => ?_) <;> try (exfalso; (try simp only [Int.toNat_natCast, Nat.add_zero] at h); omega)) | (refine br_dec (fun h => ?_) (fun h => ?_) <;> try (exfalso; omega)) | (refine br_ndec (fun h => ?_) (fun h => ?_) <;> try (exfalso; omega)) | refine br_seq (fun h => ?_) (fun h => ?_) | refine br_nseq (fun h => ?_) (fun h => ?_) | refine br_not (fun h => ?_) (fun h => ?_) | refine br_intro (fun h => ?_) (fun h => ?_) | refine cond_intro rfl ?_ | (refine cond_intro ⟨rfl, ?_⟩ ?_; (first | omega | (dsimp only; omega) | decide)) | (refine cond_intro ?_ ?_; (first | omega | (dsimp only; omega) | decide | (simp only [Nat.add_zero, Int.toNat_natCast, *]; omega))))
      all_goals (conv => whnf)
      all_goals exact ret_out (l := [0, 1]) rfl rfl trivial allRw_nil
    · have c := law_write (q0_0.getD k 0) (q0_1.getD k 0) (q0_2.getD k ⟨#[]⟩) (q0_3.getD k 0) (n64 k) (by omega)
      rw [← hS, ← hE] at c
      have hall' : ∀ j, j < k + 1 → (q0_2.getD j ⟨#[]⟩).size ≤ 300 := fun j hj => by
        by_cases e : j = k
        · subst e; omega
        · exact hall j (by omega)
      have es := catTo_s S E k
      have szk := sz k
      generalize E k = ek at *
      by_cases he : ek = 0
      · rw [if_pos he] at es
        have := szk he
        generalize S k = sk at *
        repeat' ((conv => whnf); first | (refine vcall_glob (c) rfl rfl rfl rfl ?_) | (refine vcallD_glob (c) rfl rfl rfl rfl ?_) | (refine br_dec (fun h => ?_) (fun h => ?_) <;> try (exfalso; (try simp only [Int.toNat_natCast, Nat.add_zero] at h); omega)) | (refine cond_intro ?_ ?_; (show (catTo S E k).size + sk.size ≤ _; omega)) | (refine br_dec (fun h => ?_) (fun h => ?_) <;> try (exfalso; omega)) | (refine br_ndec (fun h => ?_) (fun h => ?_) <;> try (exfalso; omega)) | refine br_seq (fun h => ?_) (fun h => ?_) | refine br_nseq (fun h => ?_) (fun h => ?_) | refine br_not (fun h => ?_) (fun h => ?_) | refine br_intro (fun h => ?_) (fun h => ?_) | refine cond_intro rfl ?_ | (refine cond_intro ⟨rfl, ?_⟩ ?_; (first | omega | (dsimp only; omega) | decide)) | (refine cond_intro ?_ ?_; (first | omega | (dsimp only; omega) | decide | (simp only [Nat.add_zero, Int.toNat_natCast, *]; omega))))
        all_goals (conv => whnf)
        all_goals exact ⟨k + 1, [0, 1], [], ⟨by omega, by rw [es, ByteArray.size_append]; omega, hall'⟩, by omega, ⟨rfl, ⟨rfl, rfl, congrArg (fun z => some (SV.str z)) es.symm, congrArg (fun z => some (SV.int .i64 z)) (i64_succ (by omega)), trivial⟩, ⟨gwk rfl, rfl, trivial⟩⟩⟩
      · rw [if_neg he] at es
        repeat' ((conv => whnf); first | (refine vcall_glob (c) rfl rfl rfl rfl ?_) | (refine vcallD_glob (c) rfl rfl rfl rfl ?_) | (refine br_dec (fun h => ?_) (fun h => ?_) <;> try (exfalso; (try simp only [Int.toNat_natCast, Nat.add_zero] at h); omega)) | (refine br_dec (fun h => ?_) (fun h => ?_) <;> try (exfalso; omega)) | (refine br_ndec (fun h => ?_) (fun h => ?_) <;> try (exfalso; omega)) | refine br_seq (fun h => ?_) (fun h => ?_) | refine br_nseq (fun h => ?_) (fun h => ?_) | refine br_not (fun h => ?_) (fun h => ?_) | refine br_intro (fun h => ?_) (fun h => ?_) | refine cond_intro rfl ?_ | (refine cond_intro ⟨rfl, ?_⟩ ?_; (first | omega | (dsimp only; omega) | decide)) | (refine cond_intro ?_ ?_; (first | omega | (dsimp only; omega) | decide | (simp only [Nat.add_zero, Int.toNat_natCast, *]; omega))))
        all_goals (conv => whnf)
        all_goals exact ⟨k + 1, [0, 1], [], ⟨by omega, by rw [es]; omega, hall'⟩, by omega, ⟨rfl, ⟨rfl, rfl, congrArg (fun z => some (SV.str z)) es.symm, congrArg (fun z => some (SV.int .i64 z)) (i64_succ (by omega)), trivial⟩, ⟨gwk rfl, rfl, trivial⟩⟩⟩
  obtain rfl : k = l0 := by omega
  clear hkl
  have cn := rd_New (catTo S E k)
  have ecat : catTo S E k = catFrom S E (k - 0) 0 := by rw [Nat.sub_zero, cat_all]
  repeat' ((conv => whnf); first | (refine vcall_out (l :=  [0]) (cn ) ⟨rfl, rfl, rfl, rfl, (by (repeat' (first | exact trivial | exact GB_wf | constructor)); first | done | fail), (by (repeat' (first | exact trivial | exact GB_fits rfl | constructor)); first | done | fail)⟩ ?_) | (refine br_dec (fun h => ?_) (fun h => ?_) <;> try (exfalso; omega)) | (refine br_ndec (fun h => ?_) (fun h => ?_) <;> try (exfalso; omega)) | refine br_seq (fun h => ?_) (fun h => ?_) | refine br_nseq (fun h => ?_) (fun h => ?_) | refine br_not (fun h => ?_) (fun h => ?_) | refine br_intro (fun h => ?_) (fun h => ?_) | refine cond_intro rfl ?_ | (refine cond_intro ⟨rfl, ?_⟩ ?_; (first | omega | (dsimp only; omega) | decide)) | (refine cond_intro ?_ ?_; (first | omega | (dsimp only; omega) | decide | (simp only [Nat.add_zero, Int.toNat_natCast, *]; omega))))
  all_goals (conv => whnf)
  refine vloop_of (fun j : Nat => ⟨[(0, .sl 1 0 0 k), (1, .str s1), (9, .ptr 2 0 0 0), (10, .int .i64 j)], (0, some (GB glT)) :: (1, some (.one true (.cols k [.sc (.ints .u8 q0_0), .sc (.ints .i64 q0_1), .sc (.strs q0_2), .sc (.ints .i64 q0_3)]))) :: (2, rdB (catFrom S E (k - j) j) 0) :: [], 3⟩) (fun j => j ≤ k) (fun j => k - j) 0 [0, 1, 2] [] ⟨rfl, ⟨rfl, rfl, rfl, rfl, trivial⟩, ⟨gwk rfl, rfl, congrArg (fun z => rdB z 0) ecat, trivial⟩⟩ (by omega) ?_
  intro j hj
  by_cases hjk : j < k
  · have c := law_write (q0_0.getD j 0) (q0_1.getD j 0) (q0_2.getD j ⟨#[]⟩) (q0_3.getD j 0) (n64 j) (by have := hall j hjk; omega)
    rw [← hS, ← hE] at c
    have eg := catFrom_go (S := S) (E := E) hjk
    have zR := catFrom_size sz (k - (j + 1)) (j + 1)
    have zj := sz j
    have hSj := hS j
    have hEj := hE j
    by_cases he : E j = 0
    · rw [if_pos he] at eg
      rw [he] at c
      have zS := zj he
      obtain ⟨R, hR⟩ : ∃ R, R = catFrom S E (k - (j + 1)) (j + 1) := ⟨_, rfl⟩
      rw [← hR] at eg zR
      rw [he] at hEj
      rw [eg]
      by_cases m0 : (q0_0.getD j 0).tmod 3 = 0
      · have x1 : numE (q0_1.getD j 0) (q0_3.getD j 0) = 0 := by have h := hEj; unfold wE at h; rw [if_pos m0] at h; exact h.symm
        have x2 : S j = numS (q0_1.getD j 0) (q0_3.getD j 0) := by rw [hSj]; unfold wS; rw [if_pos m0]
        obtain ⟨y1, y2, y3⟩ := nu_read (R := R) x1
        rw [← x2] at y1 y2 y3
        have r := rd_Num (S j ++ R) 0 (q0_3.getD j 0) (by rw [ByteArray.size_append]; omega)
        rw [show nV (S j ++ R) 0 (q0_3.getD j 0) = q0_1.getD j 0 from y2, show nE (S j ++ R) 0 (q0_3.getD j 0) = 0 from y1, show nS (S j ++ R) 0 (q0_3.getD j 0) = R from y3] at r
        generalize S j ++ R = X at *
        repeat' ((conv => whnf); first | (refine vcall_glob (c) rfl rfl rfl rfl ?_) | (refine vcallD_glob (c) rfl rfl rfl rfl ?_) | (refine vcall_out (l :=  [0, 2]) (r ) ⟨rfl, rfl, rfl, rfl, (by (repeat' (first | exact trivial | exact GB_wf | constructor)); first | done | fail), (by (repeat' (first | exact trivial | exact GB_fits rfl | constructor)); first | done | fail)⟩ ?_) | (refine br_dec (fun h => ?_) (fun h => ?_) <;> try (exfalso; first | exact h rfl | exact h m0 | ((try simp only [Int.toNat_natCast, Nat.add_zero] at h); omega))) | (refine br_dec (fun h => ?_) (fun h => ?_) <;> try (exfalso; omega)) | (refine br_ndec (fun h => ?_) (fun h => ?_) <;> try (exfalso; omega)) | refine br_seq (fun h => ?_) (fun h => ?_) | refine br_nseq (fun h => ?_) (fun h => ?_) | refine br_not (fun h => ?_) (fun h => ?_) | refine br_intro (fun h => ?_) (fun h => ?_) | refine cond_intro rfl ?_ | (refine cond_intro ⟨rfl, ?_⟩ ?_; (first | omega | (dsimp only; omega) | decide)) | (refine cond_intro ?_ ?_; (first | omega | (dsimp only; omega) | decide | (simp only [Nat.add_zero, Int.toNat_natCast, *]; omega))))
        all_goals (conv => whnf)
        all_goals first
          | exact ⟨j + 1, [0, 1, 2], [], by omega, by omega, ⟨rfl, ⟨rfl, rfl, rfl, congrArg (fun z => some (SV.int .i64 z)) (i64_succ (by omega)), trivial⟩, ⟨gwk rfl, rfl, congrArg (fun z => rdB z 0) hR, trivial⟩⟩⟩
          | (exfalso; exact h rfl)
      · by_cases m1 : (q0_0.getD j 0).tmod 3 = 1
        · have x1 : alE (q0_2.getD j ⟨#[]⟩) (q0_3.getD j 0) = 0 := by have h := hEj; unfold wE at h; rw [if_neg m0, if_pos m1] at h; exact h.symm
          have x2 : S j = alS (q0_2.getD j ⟨#[]⟩) (q0_3.getD j 0) := by rw [hSj]; unfold wS; rw [if_neg m0, if_pos m1]
          obtain ⟨y1, y2, y3⟩ := ap_read (R := R) x1
          rw [← x2] at y1 y2 y3
          have r := rd_Alpha (S j ++ R) 0 (q0_3.getD j 0) (by rw [ByteArray.size_append]; omega)
          rw [show tV 0 (apS (S j ++ R) (q0_3.getD j 0)) = q0_2.getD j ⟨#[]⟩ from y2, show tE 0 (apE (S j ++ R) (q0_3.getD j 0)) = 0 from y1, show tS (S j ++ R) 0 (apE (S j ++ R) (q0_3.getD j 0)) (q0_3.getD j 0) = R from by unfold tS cntE; rw [if_pos rfl, y1, if_pos rfl]; exact y3] at r
          generalize S j ++ R = X at *
          repeat' ((conv => whnf); first | (refine vcall_glob (c) rfl rfl rfl rfl ?_) | (refine vcallD_glob (c) rfl rfl rfl rfl ?_) | (refine vcall_out (l :=  [0, 2]) (r ) ⟨rfl, rfl, rfl, rfl, (by (repeat' (first | exact trivial | exact GB_wf | constructor)); first | done | fail), (by (repeat' (first | exact trivial | exact GB_fits rfl | constructor)); first | done | fail)⟩ ?_) | (refine br_dec (fun h => ?_) (fun h => ?_) <;> try (exfalso; first | exact h rfl | exact h m1 | exact m0 h | ((try simp only [Int.toNat_natCast, Nat.add_zero] at h); omega))) | (refine br_dec (fun h => ?_) (fun h => ?_) <;> try (exfalso; omega)) | (refine br_ndec (fun h => ?_) (fun h => ?_) <;> try (exfalso; omega)) | refine br_seq (fun h => ?_) (fun h => ?_) | refine br_nseq (fun h => ?_) (fun h => ?_) | refine br_not (fun h => ?_) (fun h => ?_) | refine br_intro (fun h => ?_) (fun h => ?_) | refine cond_intro rfl ?_ | (refine cond_intro ⟨rfl, ?_⟩ ?_; (first | omega | (dsimp only; omega) | decide)) | (refine cond_intro ?_ ?_; (first | omega | (dsimp only; omega) | decide | (simp only [Nat.add_zero, Int.toNat_natCast, *]; omega))))
          all_goals (conv => whnf)
          all_goals first
            | exact ⟨j + 1, [0, 1, 2], [], by omega, by omega, ⟨rfl, ⟨rfl, rfl, rfl, congrArg (fun z => some (SV.int .i64 z)) (i64_succ (by omega)), trivial⟩, ⟨gwk rfl, rfl, congrArg (fun z => rdB z 0) hR, trivial⟩⟩⟩
            | (exfalso; exact h rfl)
        · have x1 : varE (q0_2.getD j ⟨#[]⟩) (q0_3.getD j 0) = 0 := by have h := hEj; unfold wE at h; rw [if_neg m0, if_neg m1] at h; exact h.symm
          have x2 : S j = varS (q0_2.getD j ⟨#[]⟩) (q0_3.getD j 0) := by rw [hSj]; unfold wS; rw [if_neg m0, if_neg m1]
          obtain ⟨y1, y2, y3⟩ := va_read (R := R) x1
          rw [← x2] at y1 y2 y3
          have r := rd_Var (S j ++ R) 0 (q0_3.getD j 0) 255 (by rw [ByteArray.size_append]; omega)
          rw [show vV (S j ++ R) 0 (q0_3.getD j 0) 255 = q0_2.getD j ⟨#[]⟩ from y2, show vE (S j ++ R) 0 (q0_3.getD j 0) 255 = 0 from y1, show vS (S j ++ R) 0 (q0_3.getD j 0) 255 = R from y3] at r
          generalize S j ++ R = X at *
          repeat' ((conv => whnf); first | (refine vcall_glob (c) rfl rfl rfl rfl ?_) | (refine vcallD_glob (c) rfl rfl rfl rfl ?_) | (refine vcall_out (l :=  [0, 2]) (r ) ⟨rfl, rfl, rfl, rfl, (by (repeat' (first | exact trivial | exact GB_wf | constructor)); first | done | fail), (by (repeat' (first | exact trivial | exact GB_fits rfl | constructor)); first | done | fail)⟩ ?_) | (refine br_dec (fun h => ?_) (fun h => ?_) <;> try (exfalso; first | exact h rfl | exact m1 h | exact m0 h | ((try simp only [Int.toNat_natCast, Nat.add_zero] at h); omega))) | (refine br_dec (fun h => ?_) (fun h => ?_) <;> try (exfalso; omega)) | (refine br_ndec (fun h => ?_) (fun h => ?_) <;> try (exfalso; omega)) | refine br_seq (fun h => ?_) (fun h => ?_) | refine br_nseq (fun h => ?_) (fun h => ?_) | refine br_not (fun h => ?_) (fun h => ?_) | refine br_intro (fun h => ?_) (fun h => ?_) | refine cond_intro rfl ?_ | (refine cond_intro ⟨rfl, ?_⟩ ?_; (first | omega | (dsimp only; omega) | decide)) | (refine cond_intro ?_ ?_; (first | omega | (dsimp only; omega) | decide | (simp only [Nat.add_zero, Int.toNat_natCast, *]; omega))))
          all_goals (conv => whnf)
          all_goals first
            | exact ⟨j + 1, [0, 1, 2], [], by omega, by omega, ⟨rfl, ⟨rfl, rfl, rfl, congrArg (fun z => some (SV.int .i64 z)) (i64_succ (by omega)), trivial⟩, ⟨gwk rfl, rfl, congrArg (fun z => rdB z 0) hR, trivial⟩⟩⟩
            | (exfalso; exact h rfl)
    · rw [if_neg he] at eg
      rw [eg]
      generalize E j = ej at *
      repeat' ((conv => whnf); first | (refine vcall_glob (c) rfl rfl rfl rfl ?_) | (refine vcallD_glob (c) rfl rfl rfl rfl ?_) | (refine br_dec (fun h => ?_) (fun h => ?_) <;> try (exfalso; (try simp only [Int.toNat_natCast, Nat.add_zero] at h); omega)) | (refine br_dec (fun h => ?_) (fun h => ?_) <;> try (exfalso; omega)) | (refine br_ndec (fun h => ?_) (fun h => ?_) <;> try (exfalso; omega)) | refine br_seq (fun h => ?_) (fun h => ?_) | refine br_nseq (fun h => ?_) (fun h => ?_) | refine br_not (fun h => ?_) (fun h => ?_) | refine br_intro (fun h => ?_) (fun h => ?_) | refine cond_intro rfl ?_ | (refine cond_intro ⟨rfl, ?_⟩ ?_; (first | omega | (dsimp only; omega) | decide)) | (refine cond_intro ?_ ?_; (first | omega | (dsimp only; omega) | decide | (simp only [Nat.add_zero, Int.toNat_natCast, *]; omega))))
      all_goals (conv => whnf)
      all_goals exact ⟨j + 1, [0, 1, 2], [], by omega, by omega, ⟨rfl, ⟨rfl, rfl, rfl, congrArg (fun z => some (SV.int .i64 z)) (i64_succ (by omega)), trivial⟩, ⟨gwk rfl, rfl, rfl, trivial⟩⟩⟩
  obtain rfl : j = k := by omega
  rw [Nat.sub_self, catFrom_0]
  have r1 := rd_End ⟨#[]⟩ 0
  rw [show endE ⟨#[]⟩ 0 = 0 from rfl] at r1
  have r2 := rd_Left ⟨#[]⟩ 0
  have q1 := rd_New s1
  have q2 := rd_Var s1 0 2 99 (by omega)
  rw [show vV s1 0 2 99 = vaS s1 2 99 from rfl, show vE s1 0 2 99 = vaE s1 2 99 from rfl, show vS s1 0 2 99 = s1.extract (vaC s1 2 99).toNat s1.size from rfl] at q2
  have q3 := rd_Err (s1.extract (vaC s1 2 99).toNat s1.size) (vaE s1 2 99)
  have q4 := rd_Left (s1.extract (vaC s1 2 99).toNat s1.size) (vaE s1 2 99)
  have vz : (vaS s1 2 99).size ≤ 300 := by
    by_cases hv : vaE s1 2 99 = 0
    · rw [(va_ok hv).1, ByteArray.size_extract]; omega
    · rw [(va_no hv).1]; exact Nat.zero_le _
  have q5 := wire_Var (vaS s1 2 99) 2 (by omega)
  have h1 := wire_Hex s1 (by omega)
  have h2 := wire_Unhex (bytesOf (hexL s1 s1.size)) (by rw [bytesOf_size, hexL_length]; omega)
  rw [(unhex_back s1).1, (unhex_back s1).2] at h2
  by_cases hv : vaE s1 2 99 = 0
  · obtain ⟨b1, b2, b3, b4⟩ := va_back hv
    rw [hv] at q2 q3 q4
    rw [b1] at q5
    generalize s1.extract (vaC s1 2 99).toNat s1.size = Z at *
    generalize hW : varS (vaS s1 2 99) 2 = W at *
    generalize vaS s1 2 99 = Y at *
    have b5 : (Z.size : Int) = IntKind.i64.wrap ((s1.size : Int) - (W.size : Int)) := by rw [w64_in (by omega) (by omega)]; omega
    generalize bytesOf (hexL s1 s1.size) = X at *
    repeat' ((conv => whnf); first | (refine vcall_glob (aw) rfl rfl rfl rfl ?_) | (refine vcallD_glob (aw) rfl rfl rfl rfl ?_) | (refine vcall_out (l :=  [0, 2]) (r1 ) ⟨rfl, rfl, rfl, rfl, (by (repeat' (first | exact trivial | exact GB_wf | constructor)); first | done | fail), (by (repeat' (first | exact trivial | exact GB_fits rfl | constructor)); first | done | fail)⟩ ?_) | (refine vcall_out (l :=  [0, 2]) (r2 ) ⟨rfl, rfl, rfl, rfl, (by (repeat' (first | exact trivial | exact GB_wf | constructor)); first | done | fail), (by (repeat' (first | exact trivial | exact GB_fits rfl | constructor)); first | done | fail)⟩ ?_) | (refine vcall_out (l :=  [0]) (q1 ) ⟨rfl, rfl, rfl, rfl, (by (repeat' (first | exact trivial | exact GB_wf | constructor)); first | done | fail), (by (repeat' (first | exact trivial | exact GB_fits rfl | constructor)); first | done | fail)⟩ ?_) | (refine vcall_out (l :=  [0, 3]) (q2 ) ⟨rfl, rfl, rfl, rfl, (by (repeat' (first | exact trivial | exact GB_wf | constructor)); first | done | fail), (by (repeat' (first | exact trivial | exact GB_fits rfl | constructor)); first | done | fail)⟩ ?_) | (refine vcall_out (l :=  [0, 3]) (q3 ) ⟨rfl, rfl, rfl, rfl, (by (repeat' (first | exact trivial | exact GB_wf | constructor)); first | done | fail), (by (repeat' (first | exact trivial | exact GB_fits rfl | constructor)); first | done | fail)⟩ ?_) | (refine vcall_out (l :=  [0, 3]) (q4 ) ⟨rfl, rfl, rfl, rfl, (by (repeat' (first | exact trivial | exact GB_wf | constructor)); first | done | fail), (by (repeat' (first | exact trivial | exact GB_fits rfl | constructor)); first | done | fail)⟩ ?_) | (refine vcall_glob (q5) rfl rfl rfl rfl ?_) | (refine vcallD_glob (q5) rfl rfl rfl rfl ?_) | (refine vcall_pure (h1) rfl rfl rfl ?_) | (refine vcallD_pure (h1) rfl rfl rfl ?_) | (refine vcall_pure (h2) rfl rfl rfl ?_) | (refine vcallD_pure (h2) rfl rfl rfl ?_) | (refine br_nseq (fun h => ?_) (fun h => ?_) <;> try (exfalso; exact h b3)) | (refine br_ndec (fun h => ?_) (fun h => ?_) <;> try (exfalso; first | exact h b5 | omega)) | (refine br_dec (fun h => ?_) (fun h => ?_) <;> try (exfalso; omega)) | (refine br_ndec (fun h => ?_) (fun h => ?_) <;> try (exfalso; omega)) | refine br_seq (fun h => ?_) (fun h => ?_) | refine br_nseq (fun h => ?_) (fun h => ?_) | refine br_not (fun h => ?_) (fun h => ?_) | refine br_intro (fun h => ?_) (fun h => ?_) | refine cond_intro rfl ?_ | (refine cond_intro ⟨rfl, ?_⟩ ?_; (first | omega | (dsimp only; omega) | decide)) | (refine cond_intro ?_ ?_; (first | omega | (dsimp only; omega) | decide | (simp only [Nat.add_zero, Int.toNat_natCast, *]; omega))))
    all_goals (conv => whnf)
    all_goals first
      | exact ret_out (l := [0, 1]) rfl rfl trivial allRw_nil
      | (exfalso; exact h rfl)
      | (exfalso; omega)
  · generalize vaE s1 2 99 = ev at *
    generalize s1.extract (vaC s1 2 99).toNat s1.size = Z at *
    generalize varS (vaS s1 2 99) 2 = W at *
    generalize varE (vaS s1 2 99) 2 = EW at *
    generalize vaS s1 2 99 = Y at *
    generalize bytesOf (hexL s1 s1.size) = X at *
    repeat' ((conv => whnf); first | (refine vcall_glob (aw) rfl rfl rfl rfl ?_) | (refine vcallD_glob (aw) rfl rfl rfl rfl ?_) | (refine vcall_out (l :=  [0, 2]) (r1 ) ⟨rfl, rfl, rfl, rfl, (by (repeat' (first | exact trivial | exact GB_wf | constructor)); first | done | fail), (by (repeat' (first | exact trivial | exact GB_fits rfl | constructor)); first | done | fail)⟩ ?_) | (refine vcall_out (l :=  [0, 2]) (r2 ) ⟨rfl, rfl, rfl, rfl, (by (repeat' (first | exact trivial | exact GB_wf | constructor)); first | done | fail), (by (repeat' (first | exact trivial | exact GB_fits rfl | constructor)); first | done | fail)⟩ ?_) | (refine vcall_out (l :=  [0]) (q1 ) ⟨rfl, rfl, rfl, rfl, (by (repeat' (first | exact trivial | exact GB_wf | constructor)); first | done | fail), (by (repeat' (first | exact trivial | exact GB_fits rfl | constructor)); first | done | fail)⟩ ?_) | (refine vcall_out (l :=  [0, 3]) (q2 ) ⟨rfl, rfl, rfl, rfl, (by (repeat' (first | exact trivial | exact GB_wf | constructor)); first | done | fail), (by (repeat' (first | exact trivial | exact GB_fits rfl | constructor)); first | done | fail)⟩ ?_) | (refine vcall_out (l :=  [0, 3]) (q3 ) ⟨rfl, rfl, rfl, rfl, (by (repeat' (first | exact trivial | exact GB_wf | constructor)); first | done | fail), (by (repeat' (first | exact trivial | exact GB_fits rfl | constructor)); first | done | fail)⟩ ?_) | (refine vcall_out (l :=  [0, 3]) (q4 ) ⟨rfl, rfl, rfl, rfl, (by (repeat' (first | exact trivial | exact GB_wf | constructor)); first | done | fail), (by (repeat' (first | exact trivial | exact GB_fits rfl | constructor)); first | done | fail)⟩ ?_) | (refine vcall_glob (q5) rfl rfl rfl rfl ?_) | (refine vcallD_glob (q5) rfl rfl rfl rfl ?_) | (refine vcall_pure (h1) rfl rfl rfl ?_) | (refine vcallD_pure (h1) rfl rfl rfl ?_) | (refine vcall_pure (h2) rfl rfl rfl ?_) | (refine vcallD_pure (h2) rfl rfl rfl ?_) | (refine br_dec (fun h => ?_) (fun h => ?_) <;> try (exfalso; omega)) | (refine br_ndec (fun h => ?_) (fun h => ?_) <;> try (exfalso; omega)) | refine br_seq (fun h => ?_) (fun h => ?_) | refine br_nseq (fun h => ?_) (fun h => ?_) | refine br_not (fun h => ?_) (fun h => ?_) | refine br_intro (fun h => ?_) (fun h => ?_) | refine cond_intro rfl ?_ | (refine cond_intro ⟨rfl, ?_⟩ ?_; (first | omega | (dsimp only; omega) | decide)) | (refine cond_intro ?_ ?_; (first | omega | (dsimp only; omega) | decide | (simp only [Nat.add_zero, Int.toNat_natCast, *]; omega))))
    all_goals (conv => whnf)
    all_goals first
      | exact ret_out (l := [0, 1]) rfl rfl trivial allRw_nil
      | (exfalso; exact h rfl)
      | (exfalso; omega)
end Go.Proofs.YtkbajejkllkahaaDoor
